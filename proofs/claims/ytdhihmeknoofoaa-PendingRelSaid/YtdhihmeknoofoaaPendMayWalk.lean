/-
  WALKS: the laws PendingMay and PendingRel.
-/
import Derived.Test.YtdhihmeknoofoaaPendBackLast
import Derived.Test.YtdhihmeknoofoaaPendRefMay
import Derived.Test.YtdhihmeknoofoaaPendOwn
namespace Go.Proofs.Ytdhihmeknoofoaa.PnM
set_option linter.unusedVariables false
set_option linter.unusedSimpArgs false
open Go.RowKit Go.WideShapes Go.ChangeShapes Cm Mm Ow Ow2 Pnd PnW PnL PnO PnK PnY

set_option maxRecDepth 20000 in
set_option maxHeartbeats 6400000 in
theorem walk {H : Type} {enc : TypeId × Value → H} {d0 : DataW H} {P0 : List MemPlace} {rc : Reach} {b0 : Nat} {p1 p2 : Prop} (v0 : Value) (i a : Int) (w : World)
    (k0 : DataW.Trod enc Try.prog w 0 (fun _ => true) true 50 v0 d0 P0) (ok0 : Value.okWide Try.prog w rc b0 50 v0) (_ : p1) (_ : p2) :
    Calls Try.prog 12 #[v0, .int .i64 i, .int .i64 a] w fun e w' => e = .returned (.bool true) ∧ Below w.heap.size w w' := by
  obtain ⟨A, n, cap, l, rfl, hI⟩ := open_writes k0 ok0
  clear k0 ok0
  have HI := Lib.hid hI
  have hl := Lib.hid hI.1
  clear hI
  by_cases hn : n ≤ 60
  · have t1 : decide (60 < (n : Int)) = false := by simp; omega
    have t3 : (n : Int) ≤ 60 := by omega
    have hz1 : Hid ([] ++ (List.range n).map (fun i => wrL (l.getD i zeroWr)) = l.map wrL) := Lib.hid (by rw [← hl.out, List.nil_append, range_map])
    go_enter Try.func12, Try.ntmps12
    go_wp2_with fail
    refine (QuT.alive_any _).mono ?_
    rintro e w1 ⟨rfl, hb1⟩
    have B1 := Lib.hid hb1
    clear hb1
    go_wp2_with (at_builtin; refine wpList_app _ rfl _ _ rfl elW w1.heap.size none 0 0 [] rfl (Own.nil _ _ _ _) A n cap (fun i => wrL (l.getD i zeroWr)) rfl (HI.out.keep B1.out).2 (fun _ _ => rfl) (fun i _ => wr_one _) (by unfold maxLen; omega) (by omega) (Nat.le_refl _) ?_; intro A2 c2 w2 hown2 hg2 hat2; rw [hz1.out] at hown2; rw [Nat.zero_add] at hown2 ⊢; have HO2 := Lib.hid hown2; have BB2 : Hid (Below w1.heap.size w1 w2) := Lib.hid ((Below.refl _ _).grown hg2 (Nat.le_refl _) (fun k hk => by cases hk)); clear hown2 hg2 hat2)
    have B2 := Lib.hid (B1.out.trans (BB2.out.mono B1.out.size))
    refine (last_any A2 n c2 a l _ (isW_own HO2.out) (by omega)).mono ?_
    rintro e w3 ⟨rfl, hb3⟩
    have B3 := Lib.hid (B2.out.trans (hb3.mono B2.out.size))
    clear hb3
    go_wp2_with fail
    refine (rlast_any A n cap a l _ (HI.out.keep B3.out) (by omega)).mono ?_
    rintro e w4 ⟨rfl, rfl⟩
    go_wp2_with fail
    refine (may_any A n cap i l _ (HI.out.keep B3.out) (by omega)).mono ?_
    rintro e w5 ⟨rfl, hb5⟩
    have B5 := Lib.hid (B3.out.trans (hb5.mono B3.out.size))
    clear hb5
    go_wp2_with fail
    refine (rmay_any A n cap i l _ (HI.out.keep B5.out) (by omega)).mono ?_
    rintro e w6 ⟨rfl, hb6⟩
    have B6 := Lib.hid (B5.out.trans (hb6.mono B5.out.size))
    clear hb6
    generalize may l i = m at *
    generalize lastV l a = lv at *
    generalize lastOk l a = lo at *
    have q1 : (m == m) = true := by cases m <;> rfl
    have q2 : (lo == lo) = true := by cases lo <;> rfl
    go_wp2_with fail
    go_ret
    exact ⟨rfl, B6.out⟩
  · have t1 : decide (60 < (n : Int)) = true := by simp; omega
    go_enter Try.func12, Try.ntmps12
    go_wp2_with fail
    refine (QuT.alive_any _).mono ?_
    rintro e w1 ⟨rfl, hb1⟩
    go_wp2_with fail
    go_ret
    exact ⟨rfl, hb1⟩

def addW (l : List Wr) (a v : Int) : List Wr := l ++ [⟨a, v, true⟩]
theorem addW_last (l : List Wr) (a v : Int) : last (addW l a v) a = some ⟨a, v, true⟩ := by unfold last addW; simp
theorem addW_may (l : List Wr) (a v : Int) : may (addW l a v) (l.length : Nat) = decide (l.length = 0) := by
  unfold may addW
  rw [decide_eq_true (by simp; omega), Bool.true_and, Int.toNat_natCast]
  have e : (l ++ [(⟨a, v, true⟩ : Wr)]).getD l.length zeroWr = ⟨a, v, true⟩ := by simp [List.getD]
  rw [e]
  cases l with
  | nil => rfl
  | cons x l => simp
theorem addW_out (l : List Wr) (a v : Int) : may (addW l a v) ((l.length : Nat) + 1) = false := by
  unfold may addW
  rw [decide_eq_false (by simp)]
  rfl
theorem addW_neg (l : List Wr) (a v : Int) : may (addW l a v) (-1) = false := by
  unfold may
  rw [decide_eq_false (by omega)]
  rfl

set_option maxRecDepth 20000 in
set_option maxHeartbeats 6400000 in
theorem walkRel {H : Type} {enc : TypeId × Value → H} {d0 : DataW H} {P0 : List MemPlace} {rc : Reach} {b0 : Nat} {p1 p2 : Prop} (v0 : Value) (a v : Int) (w : World)
    (k0 : DataW.Trod enc Try.prog w 0 (fun _ => true) true 50 v0 d0 P0) (ok0 : Value.okWide Try.prog w rc b0 50 v0) (_ : p1) (_ : p2) :
    Calls Try.prog 13 #[v0, .int .i64 a, .int .u64 v] w fun e w' => e = .returned (.bool true) ∧ Below w.heap.size w w' := by
  obtain ⟨A, n, cap, l, rfl, hI⟩ := open_writes k0 ok0
  clear k0 ok0
  have HI := Lib.hid hI
  have hl := Lib.hid hI.1
  clear hI
  by_cases hn : n ≤ 40
  · have t1 : decide (40 < (n : Int)) = false := by simp; omega
    have t3 : (n : Int) ≤ 40 := by omega
    have hz1 : Hid ([] ++ (List.range n).map (fun i => wrL (l.getD i zeroWr)) = l.map wrL) := Lib.hid (by rw [← hl.out, List.nil_append, range_map])
    have hz2 : Hid (l.map wrL ++ [wrL ⟨a, v, true⟩] = (addW l a v).map wrL) := Lib.hid (by unfold addW; rw [List.map_append]; rfl)
    go_enter Try.func13, Try.ntmps13
    go_wp2_with fail
    refine (QuT.alive_any _).mono ?_
    rintro e w1 ⟨rfl, hb1⟩
    have B1 := Lib.hid hb1
    clear hb1
    go_wp2_with (at_builtin; first | (refine wpList_app _ rfl _ _ rfl elW w1.heap.size none 0 0 [] rfl (Own.nil _ _ _ _) A n cap (fun i => wrL (l.getD i zeroWr)) rfl (HI.out.keep B1.out).2 (fun _ _ => rfl) (fun i _ => wr_one _) (by unfold maxLen; omega) (by omega) (Nat.le_refl _) ?_; intro A2 c2 w2 hown2 hg2 hat2; rw [hz1.out] at hown2; rw [Nat.zero_add] at hown2 ⊢; have HO2 := Lib.hid hown2; have BB2 : Hid (Below w1.heap.size w1 w2) := Lib.hid ((Below.refl _ _).grown hg2 (Nat.le_refl _) (fun k hk => by cases hk)); have B2 := Lib.hid (B1.out.trans (BB2.out.mono B1.out.size)); clear hown2 hg2 hat2) | (refine Ow2.wpList_appN _ rfl _ _ rfl elW w1.heap.size _ n _ 1 _ _ [wrL ⟨a, v, true⟩] rfl rfl (HO2.out) rfl rfl (wr_each _) (wr_ones _) (by unfold maxLen; omega) (by omega) BB2.out.size _ rfl ?_; intro A4 c4 w4 hown4 hbel4 hkp4 hat4; rw [hz2.out] at hown4; have HO4 := Lib.hid hown4; have B4 := Lib.hid (B2.out.trans ((hbel4.mono B1.out.size))); clear hown4 hkp4 hat4 hbel4))
    have e1 : lastV (addW l a v) a = v := by unfold lastV; rw [addW_last]; rfl
    have e2 : lastOk (addW l a v) a = true := by unfold lastOk; rw [addW_last]; rfl
    have e3 : may (addW l a v) (n : Nat) = decide (n = 0) := by have := addW_may l a v; rwa [hl.out] at this
    have e4 : may (addW l a v) ((n + 1 : Nat) : Int) = false := by have := addW_out l a v; rw [hl.out] at this; rwa [show ((n + 1 : Nat) : Int) = (n : Nat) + 1 by omega]
    have e5 := addW_neg l a v
    have IW := Lib.hid (isW_own HO4.out)
    clear hz1 hz2
    generalize addW l a v = L at *
    have E1 := Lib.hid e1; have E2 := Lib.hid e2; have E3 := Lib.hid e3; have E4 := Lib.hid e4; have E5 := Lib.hid e5
    clear e1 e2 e3 e4 e5
    refine (last_any A4 (n + 1) c4 a L _ IW.out (by omega)).mono ?_
    rintro e w5 ⟨rfl, hb5⟩
    rw [E1.out, E2.out]
    have B5 := Lib.hid (B4.out.trans (hb5.mono B4.out.size))
    have IW5 := Lib.hid (IW.out.keep hb5)
    clear hb5
    go_wp2_with fail
    refine (may_any A4 (n + 1) c4 (n : Int) L _ IW5.out (by omega)).mono ?_
    rintro e w6 ⟨rfl, hb6⟩
    rw [E3.out]
    have B6 := Lib.hid (B5.out.trans (hb6.mono B5.out.size))
    have IW6 := Lib.hid (IW5.out.keep hb6)
    clear hb6
    have hq : (decide (n = 0) == ((n : Int) == 0)) = true := by
      cases n with
      | zero => rfl
      | succ m => simp; omega
    go_wp2_with fail
    refine (may_any A4 (n + 1) c4 ((n : Int) + 1) L _ IW6.out (by omega)).mono ?_
    rintro e w7 ⟨rfl, hb7⟩
    rw [show ((n : Int) + 1) = ((n + 1 : Nat) : Int) by omega, E4.out]
    have B7 := Lib.hid (B6.out.trans (hb7.mono B6.out.size))
    have IW7 := Lib.hid (IW6.out.keep hb7)
    clear hb7
    go_wp2_with fail
    refine (may_any A4 (n + 1) c4 (-1) L _ IW7.out (by omega)).mono ?_
    rintro e w8 ⟨rfl, hb8⟩
    rw [E5.out]
    have B8 := Lib.hid (B7.out.trans (hb8.mono B7.out.size))
    clear hb8
    go_wp2_with fail
    go_ret
    exact ⟨rfl, B8.out⟩
  · have t1 : decide (40 < (n : Int)) = true := by simp; omega
    go_enter Try.func13, Try.ntmps13
    go_wp2_with fail
    refine (QuT.alive_any _).mono ?_
    rintro e w1 ⟨rfl, hb1⟩
    go_wp2_with fail
    go_ret
    exact ⟨rfl, hb1⟩
end Go.Proofs.Ytdhihmeknoofoaa.PnM
