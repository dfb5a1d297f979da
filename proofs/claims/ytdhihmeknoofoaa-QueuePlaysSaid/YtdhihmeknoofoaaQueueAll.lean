/-
  WALKS: a queue of ints, told: slices.All, Queue.All, and the law's 'all', a range over them.
-/
import Derived.RangeFuncBox
import Derived.RangeFuncLeaves
import Derived.RangeFuncNested
import Derived.Shelf.Abstract
import Derived.WalkKit
import Derived.OwnWalkIn
import Derived.TacticsInMore
import Derived.LoopNIn
import Derived.LoopIn
import Derived.Maps.AppendAt
import Derived.Test.YtdhihmeknoofoaaPendOwn
namespace Go.Proofs.Ytdhihmeknoofoaa.QuA
set_option linter.unusedVariables false
set_option linter.unusedSimpArgs false
open Go.RowKit Go.Shelf Cm Mm Ow
attribute [local go_sem] Oper.semAt_some

def upto {α : Type} (f : Nat → α) (k : Nat) : List α := (List.range k).map f
theorem upto_succ {α : Type} (f : Nat → α) (k : Nat) : upto f (k + 1) = upto f k ++ [f k] := by simp [upto, List.range_succ]
theorem upto_length {α : Type} (f : Nat → α) (k : Nat) : (upto f k).length = k := by simp [upto]
def nx (l : List Int) (j : Nat) : Nat × Int := (j, l.getD j 0)

set_option maxRecDepth 100000 in
set_option maxHeartbeats 4000000 in
theorem all1_in (F : Fence) (n : Nat) (hF : F.fn 93) (hro : F.round = none) (hn : 1 ≤ n) (l Bs n₀ b off len cap : Nat) (zs : List Int) (hlen : len ≤ 65536) (hb : b < n₀) (J Jx : List (Nat × Int) → World → Prop)
    (hY : ∀ pre x W, J pre W → pre.length < len → YieldAt F (n - 1) Try.prog l #[.int .i64 (x.1 : Int), .int .i64 x.2] W fun e W' =>
      (e = .returned (.bool true) ∧ J (pre ++ [x]) W' ∧ Below n₀ W W') ∨ (e = .returned (.bool false) ∧ Jx (pre ++ [x]) W'))
    (W : World) (hBs : W.cell? ⟨Bs, 0, none⟩ = some (.slice (some ⟨b, off, none⟩) len cap))
    (hc0 : ∀ j, j < len → W.cell? ⟨b, off + j, none⟩ = some (.int .i64 (zs.getD j 0))) (h0 : J [] W) :
    CallsIn F n Try.prog 93 #[.func (.yield l) #[] #[], .pointer (some ⟨Bs, 0, none⟩)] W fun e W' => (∃ v, e = .returned v) ∧
      ((∃ ys, ys = upto (nx zs) len ∧ J ys W') ∨ (∃ pre, (∃ k, k ≤ len ∧ pre = upto (nx zs) k) ∧ Jx pre W')) := by
  refine callsIn_of_wp Try.func93 rfl hF ?_ hro
  simp only [Try.ntmps93, List.size_toArray, List.length_cons, List.length_nil, Nat.reduceAdd, Nat.reduceSub, Array.replicate_succ, Array.replicate_zero, List.push_toArray, List.append_toArray, List.nil_append, List.cons_append]
  gi_wp2
  gi_loopw [7] (fun i wr => ∃ k : Nat, k ≤ len ∧ i = .int .i64 k ∧ J (upto (nx zs) k) wr ∧ Below n₀ W wr)
    (fun i _ => len - (intOf i).toNat)
  case atStart => exact ⟨0, Nat.zero_le _, rfl, h0, Below.refl _ _⟩
  case round =>
    obtain ⟨k, hk, rfl, hJs, hnx⟩ := hrel
    by_cases hlt : k < len
    · obtain ⟨fn, tmps, assign, body, hy, hR⟩ := hY _ (nx zs k) wr hJs (by rw [upto_length]; exact hlt)
      have g0 := (hnx.cell (p := ⟨b, off + k, none⟩) hb).trans (hc0 k hlt)
      have eb : nx zs k = (k, zs.getD k 0) := rfl
      rw [eb] at hy hR
      have eb := Lib.hid eb
      dsimp only at hy hR
      generalize zs.getD k 0 = z at *
      have f2 : (k : Int) < (len : Int) := by omega
      have f3 : (k : Int) ≤ 65536 := by omega
      gi_wp2
      refine hR.mono ?_
      rintro e W3 (⟨rfl, hJ3, hk3⟩ | ⟨rfl, hJx3⟩)
      · gi_wp2
        go_roundw
        case rel => exact ⟨k + 1, by omega, by simp, by rw [upto_succ, eb.out]; exact hJ3, hnx.trans hk3⟩
        case measure => simp [intOf]; omega
      · gi_wp2
        refine bodyPost_ret (results_none rfl _ _ _) rfl ?_
        exact ⟨⟨_, rfl⟩, .inr ⟨_, ⟨k + 1, by omega, by rw [upto_succ, eb.out]⟩, hJx3⟩⟩
    · obtain rfl : k = len := by omega
      gi_wp2
      go_end0
      exact ⟨⟨_, rfl⟩, .inl ⟨_, rfl, hJs⟩⟩

set_option maxRecDepth 100000 in
set_option maxHeartbeats 4000000 in
theorem all1_nil_in (F : Fence) (n : Nat) (hF : F.fn 93) (hro : F.round = none) (l Bs cap : Nat) (A : Option Addr) (J : List (Nat × Int) → World → Prop) (W : World) (hBs : W.cell? ⟨Bs, 0, none⟩ = some (.slice A 0 cap)) (h0 : J [] W) :
    CallsIn F n Try.prog 93 #[.func (.yield l) #[] #[], .pointer (some ⟨Bs, 0, none⟩)] W fun e W' => (∃ v, e = .returned v) ∧ J [] W' := by
  refine callsIn_of_wp Try.func93 rfl hF ?_ hro
  simp only [Try.ntmps93, List.size_toArray, List.length_cons, List.length_nil, Nat.reduceAdd, Nat.reduceSub, Array.replicate_succ, Array.replicate_zero, List.push_toArray, List.append_toArray, List.nil_append, List.cons_append]
  gi_wp2
  gi_loopw [7] (fun i wr => i = .int .i64 0 ∧ J [] wr) (fun _ _ => 0)
  case atStart => exact ⟨rfl, h0⟩
  case round =>
    obtain ⟨rfl, hJs⟩ := hrel
    gi_wp2
    go_end0
    exact ⟨⟨_, rfl⟩, hJs⟩

set_option maxHeartbeats 1000000 in
theorem allf_in (F : Fence) (n : Nat) (hF : F.fn 82) (hro : F.round = none) (a : Option Addr) (len cap : Nat) (w : World) :
    CallsIn F n Try.prog 82 #[.slice a len cap] w fun e w' => e = .returned (.func (.func 93) #[] #[.pointer (some ⟨w.heap.size, 0, none⟩)]) ∧ w' = w.alloc (.cells #[.slice a len cap] 33) := by
  refine callsIn_of_wp Try.func82 rfl hF ?_ hro
  simp only [Try.ntmps82, List.size_toArray, List.length_cons, List.length_nil, Nat.reduceAdd, Nat.reduceSub, Array.replicate_succ, Array.replicate_zero, List.push_toArray, List.append_toArray, List.nil_append, List.cons_append]
  gi_wp2
  go_ret
  exact ⟨rfl, rfl⟩
set_option maxHeartbeats 1000000 in
theorem qall_in (F : Fence) (n : Nat) (hF : F.fn 67) (hF0 : F.fn 82) (hro : F.round = none) (hn : 1 ≤ n) (q : Nat) (a : Option Addr) (len cap : Nat) (w : World) (hq : w.cell? ⟨q, 0, none⟩ = some (.slice a len cap)) :
    CallsIn F n Try.prog 67 #[.pointer (some ⟨q, 0, none⟩)] w fun e w' => e = .returned (.func (.func 93) #[] #[.pointer (some ⟨w.heap.size, 0, none⟩)]) ∧ w' = w.alloc (.cells #[.slice a len cap] 33) := by
  refine callsIn_of_wp Try.func67 rfl hF ?_ hro
  simp only [Try.ntmps67, List.size_toArray, List.length_cons, List.length_nil, Nat.reduceAdd, Nat.reduceSub, Array.replicate_succ, Array.replicate_zero, List.push_toArray, List.append_toArray, List.nil_append, List.cons_append]
  gi_wp2_with (gi_at_call 82; refine (allf_in F (n - 1) hF0 hro _ _ _ _).mono ?_; rintro e w' ⟨rfl, rfl⟩)
  go_ret
  exact ⟨rfl, rfl⟩

theorem all_stops (F : Fence) (n : Nat) (hF : F.fn 93) (hro : F.round = none) (hn : 1 ≤ n) (Bs n₀ : Nat) (A : Option Addr) (len cap : Nat) (zs : List Int) (hlen : len ≤ 65536) (w : World) (hBs : Bs < w.heap.size) (hn₀ : n₀ ≤ w.heap.size)
    (hc : w.cell? ⟨Bs, 0, none⟩ = some (.slice A len cap)) (hI : Sl w A len cap 1 (fun i => [.int .i64 (zs.getD i 0)])) (hA : 0 < len → ∀ b o, A = some ⟨b, o, none⟩ → b < n₀) :
    SeqStopsK F n Try.prog 93 #[.pointer (some ⟨Bs, 0, none⟩)] (fun x : Nat × Int => #[.int .i64 (x.1 : Int), .int .i64 x.2]) (Below n₀) (fun ys => ys = upto (nx zs) len)
      (fun pre => ∃ k, k ≤ len ∧ pre = upto (nx zs) k) len w := fun l J Jx W hW _ _ hY h0 => by
  have hc' := (hW.cell (p := ⟨Bs, 0, none⟩) hBs).trans hc
  rcases Nat.eq_zero_or_pos len with rfl | hpos
  · exact (all1_nil_in F n hF hro l Bs cap A J W hc' h0).mono fun e W' ⟨he, hj⟩ => ⟨he, .inl ⟨_, rfl, hj⟩⟩
  · obtain ⟨b, off, rfl, hb, hcs⟩ := hI.at_ (by omega)
    have hcs : ∀ j, j < len → W.cell? ⟨b, off + j, none⟩ = some (.int .i64 (zs.getD j 0)) := fun j hj => by
      have := hcs j hj 0 (by omega)
      exact (hW.cell (p := ⟨b, off + j, none⟩) hb).trans (by simpa using this)
    exact all1_in F n hF hro hn l Bs n₀ b off len cap zs hlen (hA hpos b off rfl) J Jx hY W hc' hcs h0

/-! the law's 'all' -/
def wrong (pre : List (Nat × Int)) : Prop := ∃ ini x, pre = ini ++ [x] ∧ ¬ (x.1 : Int) = (ini.length : Nat)
theorem not_wrong {l : List Int} {k : Nat} (h : wrong (upto (nx l) k)) : False := by
  obtain ⟨ini, x, e1, e2⟩ := h
  cases k with
  | zero => simp [upto] at e1
  | succ k =>
    rw [upto_succ] at e1
    obtain ⟨rfl, e5⟩ := List.append_inj' e1 rfl
    obtain rfl : nx l k = x := by simpa using e5
    rw [upto_length] at e2
    exact e2 rfl
def sl (pre : List (Nat × Int)) (v : Value) : Prop := ∃ A c, v = .slice A pre.length c
def vs (pre : List (Nat × Int)) : List Value := pre.map fun p => .int .i64 p.2

set_option maxRecDepth 100000 in
set_option maxHeartbeats 4000000 in
theorem alls_in (F : Fence) (N : Nat) (h1 : F.fn 45) (h2 : F.fn 67) (h20 : F.fn 82) (h3 : F.fn 93) (hro : F.round = none) (hN : 3 ≤ N) (q : Nat) (A : Option Addr) (n cap : Nat) (l : List Int) (w : World)
    (hq : w.cell? ⟨q, 0, none⟩ = some (.slice A n cap)) (hqs : q < w.heap.size) (hI : Sl w A n cap 1 (fun i => [.int .i64 (l.getD i 0)])) (hn : n ≤ 65536) (HAb : 0 < n → ∀ b o, A = some ⟨b, o, none⟩ → b < w.heap.size) :
    CallsIn F N Try.prog 45 #[.pointer (some ⟨q, 0, none⟩)] w fun e W' => ∃ A' c', e = .returned (.slice A' n c') ∧ W'.ownsRow w.heap.size 3 1 (.slice A' n c') n (vs (upto (nx l) n)) ∧ Below w.heap.size w W' := by
  have hN1 : 1 ≤ N := by omega
  obtain ⟨i0, hi, hz0, hz1, hz2⟩ := info_parts (P := Try.prog) (e := 3) (z := .int .i64 0) (size := 1) (bytes := 8) (by kernel_rfl)
  refine callsIn_of_wp_marks Try.func45 rfl h1 ?_ hro
  simp only [Try.ntmps45, List.size_toArray, List.length_cons, List.length_nil, Nat.reduceAdd, Nat.reduceSub, Array.replicate_succ, Array.replicate_zero, List.push_toArray, List.append_toArray, List.nil_append, List.cons_append]
  gi_wp2_with (gi_at_call 67; refine (qall_in F (N - 1) h2 h20 hro (by omega) q A n cap _ ?_).mono ?_; · exact (Below.cell (((Below.refl _ w).alloc (Nat.le_refl _) _).alloc (by simp) _) (p := ⟨q, 0, none⟩) hqs).trans hq)
  rintro e w' ⟨rfl, rfl⟩
  have bR := ((Boxed.new w 33 (.slice none 0 0)).alloc (.cells #[.slice none 0 0] 33)).alloc (.cells #[.slice A n cap] 33)
  have bO := (Boxed.new (w.alloc (.cells #[.slice none 0 0] 33)) 33 (.slice none 0 0)).alloc (.cells #[.slice A n cap] 33)
  have bS := Boxed.new ((w.alloc (.cells #[.slice none 0 0] 33)).alloc (.cells #[.slice none 0 0] 33)) 33 (.slice A n cap)
  have hB0 : Below w.heap.size w (((w.alloc (.cells #[.slice none 0 0] 33)).alloc (.cells #[.slice none 0 0] 33)).alloc (.cells #[.slice A n cap] 33)) := (((Below.refl _ w).alloc (Nat.le_refl _) _).alloc (by simp) _).alloc (by simp; omega) _
  have hsz : (((w.alloc (.cells #[.slice none 0 0] 33)).alloc (.cells #[.slice none 0 0] 33)).alloc (.cells #[.slice A n cap] 33)).heap.size = w.heap.size + 3 := by simp
  simp only [World.size_alloc] at bR bO bS ⊢
  obtain ⟨W0, hW0⟩ : ∃ W0, ((w.alloc (.cells #[.slice none 0 0] 33)).alloc (.cells #[.slice none 0 0] 33)).alloc (.cells #[.slice A n cap] 33) = W0 := ⟨_, rfl⟩
  rw [hW0] at bR bO bS hB0 hsz ⊢
  clear hW0
  gi_wp2
  refine wpIn_rangeFunc_ownG hro hN1 (gf := 93) (lb := #[.pointer (some ⟨w.heap.size + 1 + 1, 0, none⟩)]) rfl h3 (enters_of Try.func93 (by kernel_rfl) rfl)
    (all_stops F (N - 1) h3 hro (by omega) (w.heap.size + 1 + 1) w.heap.size A n cap l hn W0 (by omega) (by omega) bS.cell (hI.keep hB0) HAb) belowK_t (belowK_b (by omega)) (Below.refl _ _) (fun _ => rfl)
    (fun pre W => ((∃ v, Boxed W (w.heap.size + 1) 33 v ∧ W.ownsRow w.heap.size 3 1 v pre.length (vs pre) ∧ sl pre v) ∧ Boxed W w.heap.size 33 (.slice none 0 0)) ∧ Below w.heap.size w W)
    (fun c pre W => (c = .ret ∧ wrong pre) ∧ Below w.heap.size w W)
    (OwnFrom.and (OwnFrom.and (Own.from (holdsRow_own w.heap.size (w.heap.size + 1) 33 3 1 (fun pre : List (Nat × Int) => pre.length) (fun pre => vs pre) sl) _) (Own.from (boxed_own _ _ _) _)) (ownFrom_below (Nat.le_refl _) (by omega)))
    (fun c => OwnFrom.and (ownFrom_pure _ _) (ownFrom_below (Nat.le_refl _) (by omega)))
    ⟨⟨⟨_, bO, World.ownsRow_nil _ _ _ _, none, 0, rfl⟩, bR⟩, hB0⟩
    (fun x => { tmps := #[.pointer (some ⟨q, 0, none⟩), undef, .pointer (some ⟨w.heap.size, 0, none⟩), .pointer (some ⟨w.heap.size + 1, 0, none⟩), .int .i64 (x.1 : Int), .int .i64 x.2, .pointer (some ⟨q, 0, none⟩), .func (.func 93) #[] #[.pointer (some ⟨w.heap.size + 1 + 1, 0, none⟩)], .int .i64 (x.1 : Int), .int .i64 x.2, undef, undef, undef, undef, undef, undef, undef, undef, undef], defers := [] }) ?assign ?body ?done ?stop
  case assign =>
    intro l x W K hK
    gi_wp2
    exact hK
  case body =>
    rintro lp pre ⟨xi, xv⟩ W ⟨⟨⟨v, hv, hrow, A', c', rfl⟩, b0⟩, hB⟩ hlt
    have hc := hv.cell
    have cR := b0.cell
    have fR := b0.frozen
    have h32 : (pre.length : Int) ≤ 65536 := by omega
    by_cases hx : (xi : Int) = (pre.length : Nat)
    · have hne : ((xi : Int) != ((pre.length : Nat) : Int)) = false := by simp [hx]
      gi_wp2_with (gi_at_builtin; refine wpListIn_append_own _ rfl _ _ 33 rfl w.heap.size 3 i0 (.int .i64 0) 1 8 Try.underlying33 hi hz0 hz1 hz2 rfl (by decide) _ _ _ rfl (hrow.alloc _) ⟨W.heap.size, 0, none⟩ 1 1 [.int .i64 xv] rfl rfl (cell_one_new _ _ _) (by simp [Value.oneCell']) (by unfold maxLen; omega) (by omega) (by have := hB.size; simp; omega) ?_; intro v' w1 hown' hgrow _; obtain ⟨g', cap', rfl⟩ := ownsRow_succ hown'; have b01 := (b0.alloc _).kept hgrow (Boxed.not_row b0 (by decide) hrow); obtain ⟨hv1, hv2, hr2, hk2, hb2⟩ := hv.appended (by decide) hrow hB.size (Nat.le_succ _) hown' hgrow; have hc1 := hv1.cell; have hf1 := hv1.frozen)
      exact ⟨hk2.from _, hb2, ⟨⟨_, hv2, by simpa [vs] using hr2, by unfold sl; rw [List.length_append]; exact ⟨_, _, rfl⟩⟩, b01.other (by omega) _⟩, hB.trans hb2⟩
    · have hne : ((xi : Int) != ((pre.length : Nat) : Int)) = true := by rw [bne_iff_ne]; exact hx
      gi_wp2
      exact ⟨(KeepsOthers.setCell _ _ _).from _, ⟨rfl, pre, _, rfl, hx⟩, hB.setCell (p := ⟨w.heap.size, 0, none⟩) (Nat.le_refl _) _⟩
  case done =>
    rintro D ys W hD rfl ⟨⟨⟨v, hv, hrow, A', c', rfl⟩, b0⟩, hB⟩ hK
    have hc := hv.cell
    have cR := b0.cell
    have fR := b0.frozen
    gi_wp2
    have hK' := (KeepsOthers.setCell W ⟨w.heap.size, 0, none⟩ (.slice A' (upto (nx l) n).length c')).same D _ hK rfl
    have B0 := b0.set (.slice A' (upto (nx l) n).length c')
    have hne : (Value.slice A' (upto (nx l) n).length c').ownBlock ≠ some w.heap.size := (Boxed.not_row b0 (by decide) hrow).symm
    have hrow2 := ownsRow_setCell_other (a := ⟨w.heap.size, 0, none⟩) hrow hne (.slice A' (upto (nx l) n).length c')
    refine ⟨by simp, .inl ⟨_, _, rfl, run_takeDeferred hK', ?_⟩⟩
    have hc5 := cell_kept B0.cell (grownBy_putObj' _ D (.deferred none)) (fun r e => by cases e; exact ⟨_, hK', rfl⟩)
    have hrow3 := ownsRow_putObj hrow2 (.deferred none) hK' rfl
    have hbe := (hB.setCell (p := ⟨w.heap.size, 0, none⟩) (Nat.le_refl _) (.slice A' (upto (nx l) n).length c')).trans (belowK_b (w := w) (Nat.le_refl _) _ D _ (.deferred none) (by omega) hK' rfl rfl)
    rw [upto_length] at hc5 hrow3 hbe ⊢
    refine ⟨.slice A' n c', ?_, A', c', rfl, hrow3, hbe⟩
    simp [results, Try.f45, go_sem, hc5]
  case stop =>
    rintro D c pre W hD ⟨k, hk, rfl⟩ ⟨⟨rfl, hw⟩, hB⟩ hK
    exact (not_wrong hw).elim

theorem vs_all {l : List Int} {n : Nat} (hl : l.length = n) : vs (upto (nx l) n) = l.map fun x => .int .i64 x := by
  unfold vs upto
  rw [List.map_map]
  refine List.ext_getElem (by simp [hl]) (fun i h1 h2 => ?_)
  simp only [List.length_map] at h2
  simp [nx, List.getD, h2]
/-- what 'all' hands back -/
theorem alls_any (q : Nat) (A : Option Addr) (n cap : Nat) (l : List Int) (w : World) (hl : l.length = n)
    (hq : w.cell? ⟨q, 0, none⟩ = some (.slice A n cap)) (hqs : q < w.heap.size) (hI : Sl w A n cap 1 (fun i => [.int .i64 (l.getD i 0)])) (hn : n ≤ 65536) :
    Calls Try.prog 45 #[.pointer (some ⟨q, 0, none⟩)] w fun e W' => ∃ A' c', e = .returned (.slice A' n c') ∧ W'.ownsRow w.heap.size 3 1 (.slice A' n c') n (l.map fun x => .int .i64 x) ∧ Below w.heap.size w W' := by
  rw [← vs_all hl]
  refine callsIn_wide.1 (alls_in Fence.wide 3 trivial trivial trivial trivial rfl (Nat.le_refl _) q A n cap l w hq hqs hI hn fun hpos b o e => ?_)
  obtain ⟨b', o', e', hb, _⟩ := hI.at_ (by omega)
  rw [e'] at e
  obtain ⟨rfl, rfl⟩ : b' = b ∧ o' = o := by simpa using e
  exact hb
end Go.Proofs.Ytdhihmeknoofoaa.QuA
