/-
  WALK: the program's Last: a range over slices.Backward.
-/
import Derived.RangeFuncBox
import Derived.RangeFuncLeaves
import Derived.Shelf.Abstract
import Derived.WalkKit
import Derived.OwnWalkIn
import Derived.TacticsInMore
import Derived.LoopNIn
import Derived.LoopIn
import Derived.Test.YtdhihmeknoofoaaPendLast
namespace Go.Proofs.Ytdhihmeknoofoaa.PnB
set_option linter.unusedVariables false
set_option linter.unusedSimpArgs false
open Go.RowKit Go.Shelf Cm Mm Ow Pnd PnW PnL
attribute [local go_sem] Oper.semAt_some

def upto {α : Type} (f : Nat → α) (k : Nat) : List α := (List.range k).map f
theorem upto_succ {α : Type} (f : Nat → α) (k : Nat) : upto f (k + 1) = upto f k ++ [f k] := by simp [upto, List.range_succ]
theorem upto_length {α : Type} (f : Nat → α) (k : Nat) : (upto f k).length = k := by simp [upto]
/-- what comes k-th from behind: its place, and it -/
def bk (l : List Wr) (n j : Nat) : Nat × Wr := (n - 1 - j, l.getD (n - 1 - j) zeroWr)

set_option maxRecDepth 100000 in
set_option maxHeartbeats 4000000 in
theorem back1_in (F : Fence) (n : Nat) (hF : F.fn 83) (hro : F.round = none) (hn : 1 ≤ n) (l Bs n₀ b off len cap : Nat) (zs : List Wr) (hlen : len ≤ 65536) (hb : b < n₀) (hBn : Bs < n₀) (J Jx : List (Nat × Wr) → World → Prop)
    (hY : ∀ pre x W, J pre W → pre.length < len → YieldAt F (n - 1) Try.prog l #[.int .i64 (x.1 : Int), .agg #[.int .i64 x.2.at', .int .u64 x.2.v, .bool x.2.rel]] W fun e W' =>
      (e = .returned (.bool true) ∧ J (pre ++ [x]) W' ∧ Below n₀ W W') ∨ (e = .returned (.bool false) ∧ Jx (pre ++ [x]) W'))
    (W : World) (hBs : W.cell? ⟨Bs, 0, none⟩ = some (.slice (some ⟨b, off, none⟩) len cap))
    (hc0 : ∀ j, j < len → W.cell? ⟨b, off + j * 3, none⟩ = some (.int .i64 (zs.getD j zeroWr).at'))
    (hc1 : ∀ j, j < len → W.cell? ⟨b, off + j * 3 + 1, none⟩ = some (.int .u64 (zs.getD j zeroWr).v))
    (hc2 : ∀ j, j < len → W.cell? ⟨b, off + j * 3 + 2, none⟩ = some (.bool (zs.getD j zeroWr).rel)) (h0 : J [] W) :
    CallsIn F n Try.prog 83 #[.func (.yield l) #[] #[], .pointer (some ⟨Bs, 0, none⟩)] W fun e W' => (∃ v, e = .returned v) ∧
      ((∃ ys, ys = upto (bk zs len) len ∧ J ys W') ∨ (∃ pre, (∃ k, k ≤ len ∧ pre = upto (bk zs len) k) ∧ Jx pre W')) := by
  refine callsIn_of_wp Try.func83 rfl hF ?_ hro
  simp only [Try.ntmps83, List.size_toArray, List.length_cons, List.length_nil, Nat.reduceAdd, Nat.reduceSub, Array.replicate_succ, Array.replicate_zero, List.push_toArray, List.append_toArray, List.nil_append, List.cons_append]
  gi_wp2
  gi_loopw [3] (fun i wr => ∃ k : Nat, k ≤ len ∧ i = .int .i64 ((len : Int) - 1 - k) ∧ J (upto (bk zs len) k) wr ∧ Below n₀ W wr)
    (fun i _ => (intOf i + 1).toNat)
  case atStart => exact ⟨0, Nat.zero_le _, by simp, h0, Below.refl _ _⟩
  case round =>
    obtain ⟨k, hk, rfl, hJs, hnx⟩ := hrel
    by_cases hlt : k < len
    · obtain ⟨m, hm⟩ : ∃ m, m = len - 1 - k := ⟨_, rfl⟩
      have e1 : (len : Int) - 1 - k = (m : Int) := by omega
      have eb : bk zs len k = (m, zs.getD m zeroWr) := by unfold bk; rw [hm]
      obtain ⟨fn, tmps, assign, body, hy, hR⟩ := hY _ (bk zs len k) wr hJs (by rw [upto_length]; exact hlt)
      have g0 := (hnx.cell (p := ⟨b, off + m * 3, none⟩) hb).trans (hc0 m (by omega))
      have g1 := (hnx.cell (p := ⟨b, off + m * 3 + 1, none⟩) hb).trans (hc1 m (by omega))
      have g2 := (hnx.cell (p := ⟨b, off + m * 3 + 2, none⟩) hb).trans (hc2 m (by omega))
      rw [eb] at hy hR
      have eb := Lib.hid eb
      dsimp only at hy hR
      rw [e1]
      have hBs' := (hnx.cell (p := ⟨Bs, 0, none⟩) hBn).trans hBs
      have f4 : m < len := by omega
      clear hm
      generalize hz : zs.getD m zeroWr = z at *
      clear hz
      have f1 : (0 : Int) ≤ (m : Int) := by omega
      have f2 : (m : Int) < (len : Int) := by omega
      have f3 : (m : Int) ≤ 65536 := by omega
      gi_wp2
      refine hR.mono ?_
      rintro e W3 (⟨rfl, hJ3, hk3⟩ | ⟨rfl, hJx3⟩)
      · gi_wp2
        go_roundw
        case rel => exact ⟨k + 1, by omega, by congr 1; omega, by rw [upto_succ, eb.out]; exact hJ3, hnx.trans hk3⟩
        case measure => first | (simp [intOf]; done) | (simp [intOf]; omega)
      · gi_wp2
        refine bodyPost_ret (results_none rfl _ _ _) rfl ?_
        exact ⟨⟨_, rfl⟩, .inr ⟨_, ⟨k + 1, by omega, by rw [upto_succ, eb.out]⟩, hJx3⟩⟩
    · obtain rfl : k = len := by omega
      have e1 : (k : Int) - 1 - k = -1 := by omega
      rw [e1]
      gi_wp2
      go_end0
      exact ⟨⟨_, rfl⟩, .inl ⟨_, rfl, hJs⟩⟩

set_option maxRecDepth 100000 in
set_option maxHeartbeats 4000000 in
theorem back1_nil_in (F : Fence) (n : Nat) (hF : F.fn 83) (hro : F.round = none) (l Bs cap : Nat) (A : Option Addr) (J : List (Nat × Wr) → World → Prop) (W : World) (hBs : W.cell? ⟨Bs, 0, none⟩ = some (.slice A 0 cap)) (h0 : J [] W) :
    CallsIn F n Try.prog 83 #[.func (.yield l) #[] #[], .pointer (some ⟨Bs, 0, none⟩)] W fun e W' => (∃ v, e = .returned v) ∧ J [] W' := by
  refine callsIn_of_wp Try.func83 rfl hF ?_ hro
  simp only [Try.ntmps83, List.size_toArray, List.length_cons, List.length_nil, Nat.reduceAdd, Nat.reduceSub, Array.replicate_succ, Array.replicate_zero, List.push_toArray, List.append_toArray, List.nil_append, List.cons_append]
  gi_wp2
  gi_loopw [3] (fun i wr => i = .int .i64 (-1) ∧ J [] wr) (fun _ _ => 0)
  case atStart => exact ⟨rfl, h0⟩
  case round =>
    obtain ⟨rfl, hJs⟩ := hrel
    gi_wp2
    go_end0
    exact ⟨⟨_, rfl⟩, hJs⟩

set_option maxHeartbeats 1000000 in
theorem back_in (F : Fence) (n : Nat) (hF : F.fn 68) (hro : F.round = none) (a : Option Addr) (len cap : Nat) (w : World) :
    CallsIn F n Try.prog 68 #[.slice a len cap] w fun e w' => e = .returned (.func (.func 83) #[] #[.pointer (some ⟨w.heap.size, 0, none⟩)]) ∧ w' = w.alloc (.cells #[.slice a len cap] 50) := by
  refine callsIn_of_wp Try.func68 rfl hF ?_ hro
  simp only [Try.ntmps68, List.size_toArray, List.length_cons, List.length_nil, Nat.reduceAdd, Nat.reduceSub, Array.replicate_succ, Array.replicate_zero, List.push_toArray, List.append_toArray, List.nil_append, List.cons_append]
  gi_wp2
  go_ret
  exact ⟨rfl, rfl⟩

theorem back_stops (F : Fence) (n : Nat) (hF : F.fn 83) (hro : F.round = none) (hn : 1 ≤ n) (Bs n₀ : Nat) (A : Option Addr) (len cap : Nat) (zs : List Wr) (hlen : len ≤ 65536) (w : World) (hBs : Bs < n₀) (hn₀ : n₀ ≤ w.heap.size)
    (hc : w.cell? ⟨Bs, 0, none⟩ = some (.slice A len cap)) (hI : IsW w A len cap zs) (hA : 0 < len → ∀ b o, A = some ⟨b, o, none⟩ → b < n₀) :
    SeqStopsK F n Try.prog 83 #[.pointer (some ⟨Bs, 0, none⟩)] (fun x : Nat × Wr => #[.int .i64 (x.1 : Int), .agg #[.int .i64 x.2.at', .int .u64 x.2.v, .bool x.2.rel]]) (Below n₀) (fun ys => ys = upto (bk zs len) len)
      (fun pre => ∃ k, k ≤ len ∧ pre = upto (bk zs len) k) len w := fun l J Jx W hW _ _ hY h0 => by
  have hc' := (hW.cell (p := ⟨Bs, 0, none⟩) (Nat.lt_of_lt_of_le hBs hn₀)).trans hc
  rcases Nat.eq_zero_or_pos len with rfl | hpos
  · exact (back1_nil_in F n hF hro l Bs cap A J W hc' h0).mono fun e W' ⟨he, hj⟩ => ⟨he, .inl ⟨_, rfl, hj⟩⟩
  · obtain ⟨b, off, rfl, hb, _⟩ := hI.cell (k := 0) hpos
    have hcs : ∀ j, j < len → W.cell? ⟨b, off + j * 3, none⟩ = some (.int .i64 (zs.getD j zeroWr).at') ∧ W.cell? ⟨b, off + j * 3 + 1, none⟩ = some (.int .u64 (zs.getD j zeroWr).v) ∧ W.cell? ⟨b, off + j * 3 + 2, none⟩ = some (.bool (zs.getD j zeroWr).rel) := fun j hj => by
      obtain ⟨b', o', e, hb', g0, g1, g2⟩ := hI.cell (k := j) hj
      obtain ⟨rfl, rfl⟩ : b = b' ∧ off = o' := by simpa using e
      exact ⟨(hW.cell (p := ⟨b, off + j * 3, none⟩) hb).trans g0, (hW.cell (p := ⟨b, off + j * 3 + 1, none⟩) hb).trans g1, (hW.cell (p := ⟨b, off + j * 3 + 2, none⟩) hb).trans g2⟩
    exact back1_in F n hF hro hn l Bs n₀ b off len cap zs hlen (hA hpos b off rfl) hBs J Jx hY W hc' (fun j hj => (hcs j hj).1) (fun j hj => (hcs j hj).2.1) (fun j hj => (hcs j hj).2.2) h0
end Go.Proofs.Ytdhihmeknoofoaa.PnB
