/-
  WALK: the example of chapter 17.
-/
import Derived.Test.YtdhihmeknoofoaaPrgTold
import Derived.Test.YtdhihmeknoofoaaElideLaw
namespace Go.Proofs.Ytdhihmeknoofoaa.Pz
set_option linter.unusedVariables false
set_option linter.unusedSimpArgs false
open Go.RowKit Cm Mm Ow Ow2 Me Stp StW Rm Sp Sd Sx Sr Pn Pa Pq Pr Pm Ph
open ElM (Cd zeroCd cdL okCd IsCd)

theorem RunM.far {w w' : World} {q : Nat} {C : Nat → Prop} {G : List Nat} {s : Cd} {cs : List Cd} {m : Mch Ln} {X : List Nat} (h : RunM w q C G s cs m) (ho : Only X w w') (hX : ∀ k ∈ X, w.heap.size ≤ k ∨ (¬ C k ∧ k ∉ G)) : RunM w' q C G s cs m := by
  obtain ⟨rc, sd, tl, t, hR, hf, ht⟩ := h
  exact ⟨rc, sd, tl, t, hR.far ho (fun k hk => by
    rcases hX k hk with e | e
    · exact hR.Bw k e
    · exact e.1) (fun k hk hm => by
    rcases hX k hm with e | e
    · have := hR.gLt k hk; omega
    · exact e.2 hk), hf, ht⟩
theorem RunM.keep {w w' : World} {q : Nat} {C : Nat → Prop} {G : List Nat} {s : Cd} {cs : List Cd} {m : Mch Ln} (h : RunM w q C G s cs m) (hb : Below w.heap.size w w') : RunM w' q C G s cs m :=
  RunM.far h (X := []) (Only.of_below hb) (fun k hk => by cases hk)
/-- a run that is the call's own: no block of it lies below W -/
def Mine (w : World) (W : Nat) (q : Nat) (beg : List Ln) (m : Mch Ln) : Prop := ∃ C G s cs, RunM w q C G s cs m ∧ cs.map lnOf = beg ∧ (∀ k ∈ G, W ≤ k) ∧ W ≤ w.heap.size
theorem Mine.keep {w w' : World} {W q : Nat} {beg : List Ln} {m : Mch Ln} (h : Mine w W q beg m) (hb : Below w.heap.size w w') : Mine w' W q beg m := by
  obtain ⟨C, G, s, cs, h1, h2, h3, h4⟩ := h
  exact ⟨C, G, s, cs, RunM.keep h1 hb, h2, h3, Nat.le_trans h4 hb.size⟩
theorem new_mine (x y : Int) (A : Option Addr) (n cap : Nat) (l : List St) (A1 : Option Addr) (n1 c1 : Nat) (ls : List Cd) (a : Int) (w : World) (hc : IsSt w A n cap l) (hn : n ≤ 65536) (hu : CodeU l) (hcs : IsCd w A1 n1 c1 ls) (hn1 : n1 ≤ 65536) (hcn : ∀ i, i < n1 → (ls.getD i zeroCd).n ≤ 65536) (hus : ∀ i, i < n1 → CodeU (ls.getD i zeroCd).l) :
    Calls Try.prog 49 #[.agg #[.int .i64 x, .int .i64 y, .slice A n cap], .slice A1 n1 c1, .int .i64 a] w fun e w' =>
      ∃ q, e = .returned (.pointer (some ⟨q, 0, none⟩)) ∧ Mine w' w.heap.size q (begunL ls) ⟨some ⟨l, freshV x, 0, false⟩, [], zeros (words a), []⟩ ∧ Below w.heap.size w w' := by
  refine (pnew_any x y A n cap l A1 n1 c1 ls a w hc hn hu hcs hn1 hcn hus).mono ?_
  rintro e w' ⟨q, C, G, s, cs, t, rfl, hR, h1, h2, h3, h4, h5, h6, h7⟩
  refine ⟨q, rfl, ⟨C, G, s, cs, ⟨lnOf s, false, begunL ls, t, hR, fun _ => ⟨?_, rfl, h3.symm⟩, fun h => (by cases h)⟩, h3, h5, h7.size⟩, h7⟩
  show some (⟨l, freshV x, 0, false⟩ : Ln) = some (lnOf s)
  unfold lnOf
  rw [h1, h2]
theorem step_mine {w : World} {W q : Nat} {beg : List Ln} {m : Mch Ln} (h : Mine w W q beg m) (core : Int) (hout : m.out.length ≤ 1000000) :
    Calls Try.prog 50 #[.pointer (some ⟨q, 0, none⟩), .int .i64 core] w fun e w' => e = .returned (.bool ((stepM goL beg m core).1 == 0)) ∧ ((stepM goL beg m core).1 ≠ 2 → Mine w' W q beg (stepM goL beg m core).2) ∧ Below W w w' := by
  obtain ⟨C, G, s, cs, h1, rfl, h3, h4⟩ := h
  refine (pstep_any h1 core hout).mono ?_
  rintro e w' ⟨rfl, k2, k3, k4⟩
  refine ⟨rfl, fun hr => ?_, k3.below h3 h4⟩
  obtain ⟨G', j1, j2⟩ := k4 hr
  refine ⟨C, G', s, cs, j1, rfl, fun k hk => ?_, Nat.le_trans h4 k3.size⟩
  rcases j2 k hk with e | e
  · exact h3 k e
  · omega
theorem out_mine {w : World} {W q : Nat} {beg : List Ln} {m : Mch Ln} (h : Mine w W q beg m) (ho : m.out.length ≤ 1000000) : Calls Try.prog 51 #[.pointer (some ⟨q, 0, none⟩)] w (GaveU w m.out) := by
  obtain ⟨C, G, s, cs, h1, -⟩ := h
  exact pout_any h1 ho
theorem done_mine {w : World} {W q : Nat} {beg : List Ln} {m : Mch Ln} (h : Mine w W q beg m) (hn : m.l.length ≤ 65536) : Calls Try.prog 52 #[.pointer (some ⟨q, 0, none⟩)] w fun e w' => e = .returned (.bool (doneM m)) ∧ w = w' := by
  obtain ⟨C, G, s, cs, h1, -⟩ := h
  exact pdone_any h1 hn

theorem nil_st (w : World) : IsSt w none 0 0 [] := ⟨rfl, Sl.nil _ _ _⟩
theorem nil_cd (w : World) : IsCd w none 0 0 [] := ⟨rfl, Sl.nil _ _ _, fun i hi => absurd hi (by omega)⟩
theorem nil_u : CodeU [] := fun s hs => by cases hs
/-- a code of its own, in a row of one -/
theorem cd_lit (w : World) (x y : Int) (A : Option Addr) (n cap : Nat) (l : List St) (hx : i64b x) (hy : i64b y) (h : IsSt w A n cap l) : IsCd (w.alloc (.cells #[.int .i64 x, .int .i64 y, .slice A n cap] 24)) (some ⟨w.heap.size, 0, none⟩) 1 1 [⟨x, y, A, n, cap, l⟩] := by
  have hs := sl_one w (cdL ⟨x, y, A, n, cap, l⟩) 24
  refine ⟨rfl, hs.ext (fun i hi => ?_), fun i hi => ?_⟩
  · obtain rfl : i = 0 := by omega
    rfl
  · obtain rfl : i = 0 := by omega
    exact ⟨hx, hy, h.keep ((Below.refl _ _).alloc (Nat.le_refl _) _)⟩
theorem one_n {x y : Int} {A : Option Addr} {n cap : Nat} {l : List St} {i : Nat} (hi : i < 1) (hn : n ≤ 65536 := by decide) : ([(⟨x, y, A, n, cap, l⟩ : Cd)].getD i zeroCd).n ≤ 65536 := by
  obtain rfl : i = 0 := by omega
  exact hn
def outSt : St := ⟨8, 0, 0, 0, 0, 0, 0, 0, 0⟩
set_option maxRecDepth 100000 in
theorem ex1 : stepM goL [] ⟨some ⟨[], freshV 0, 0, false⟩, [], zeros (words 0), []⟩ 0 = (1, ⟨none, [], [], []⟩) := by kernel_rfl
set_option maxRecDepth 100000 in
theorem ex2 : (stepM goL [⟨[outSt], freshV 0, 0, false⟩] ⟨some ⟨[], freshV 0, 0, false⟩, [], zeros (words 0), []⟩ 0).1 = 0 ∧ (stepM goL [⟨[outSt], freshV 0, 0, false⟩] ⟨some ⟨[], freshV 0, 0, false⟩, [], zeros (words 0), []⟩ 0).2.out = [0] := ⟨by kernel_rfl, by kernel_rfl⟩
set_option maxRecDepth 100000 in
set_option maxHeartbeats 3200000 in
theorem alive17_any (w : World) : Calls Try.prog 48 #[] w fun e w' => e = .returned (.bool true) ∧ Below w.heap.size w w' := by
  go_enter Try.func48, Try.ntmps48
  go_wp2_with fail
  refine (new_mine 0 0 none 0 0 [] none 0 0 [] 0 w (nil_st w) (by omega) nil_u (nil_cd w) (by omega) (fun i hi => absurd hi (by omega)) (fun i hi => absurd hi (by omega))).mono ?_
  rintro e w1 ⟨q, rfl, hM, hb1⟩
  have M1 := Lib.hid hM
  clear hM
  go_wp2_with fail
  refine (step_mine M1.out 0 (by simp)).mono ?_
  rintro e w2 ⟨rfl, hM2, hb2⟩
  have e0 : begunL [] = [] := rfl
  rw [e0, ex1] at hM2
  rw [e0, ex1]
  have M2 := Lib.hid (hM2 (by decide))
  have B2 := Lib.hid (hb1.trans hb2)
  clear hM2 hb1 hb2 e0
  have hz2 := B2.out.size
  go_wp2_with fail
  have b21 : Below w2.heap.size w2 (w2.alloc (.cells (([outSt].map stL).flatten.toArray) 31)) := (Below.refl _ _).alloc (Nat.le_refl _) _
  obtain ⟨w3, hw3⟩ : ∃ w3, w2.alloc (.cells (([outSt].map stL).flatten.toArray) 31) = w3 := ⟨_, rfl⟩
  have I3 := ElL.isSt_lit w2 [outSt] (by decide)
  rw [hw3] at I3 b21
  have hz3 : w3.heap.size = w2.heap.size + 1 := by rw [← hw3]; simp
  have hw3' : w2.alloc (.cells #[.int .i64 8, .int .i64 0, .int .i64 0, .int .i64 0, .int .i64 0, .int .i64 0, .int .i64 0, .int .u64 0, .int .u8 0] 31) = w3 := hw3
  rw [hw3', ← hz3]
  clear hw3 hw3'
  have b34 : Below w3.heap.size w3 (w3.alloc (.cells #[.int .i64 0, .int .i64 0, .slice (some ⟨w2.heap.size, 0, none⟩) 1 1] 24)) := (Below.refl _ _).alloc (Nat.le_refl _) _
  have C4 := cd_lit w3 0 0 (some ⟨w2.heap.size, 0, none⟩) 1 1 [outSt] ⟨by decide, by decide⟩ ⟨by decide, by decide⟩ I3
  obtain ⟨w4, hw4⟩ : ∃ w4, w3.alloc (.cells #[.int .i64 0, .int .i64 0, .slice (some ⟨w2.heap.size, 0, none⟩) 1 1] 24) = w4 := ⟨_, rfl⟩
  rw [hw4] at C4 b34 ⊢
  clear hw4
  have M4 := Lib.hid ((M2.out.keep b21).keep b34)
  have B4 := Lib.hid (B2.out.trans ((b21.trans (b34.mono b21.size)).mono hz2))
  have hz4 := B4.out.size
  refine (new_mine 0 0 none 0 0 [] (some ⟨w3.heap.size, 0, none⟩) 1 1 [⟨0, 0, some ⟨w2.heap.size, 0, none⟩, 1, 1, [outSt]⟩] 0 w4 (nil_st _) (by omega) nil_u C4 (by omega) (fun i hi => one_n hi) (fun i hi => by
    obtain rfl : i = 0 := by omega
    intro s hs
    have : s = outSt := by simpa using hs
    subst this
    exact ⟨by decide, by decide⟩)).mono ?_
  rintro e w5 ⟨q2, rfl, hM5, hb5⟩
  have hM5 : Mine w5 w4.heap.size q2 [⟨[outSt], freshV 0, 0, false⟩] ⟨some ⟨[], freshV 0, 0, false⟩, [], zeros (words 0), []⟩ := hM5
  have M5 := Lib.hid hM5
  have R5 := Lib.hid (M4.out.keep hb5)
  have B5 := Lib.hid (B4.out.trans (hb5.mono hz4))
  clear hM5 C4 I3 b21 b34
  have hz5 := hb5.size
  go_wp2_with fail
  refine (step_mine M5.out 0 (by simp)).mono ?_
  rintro e w6 ⟨rfl, hM6, hb6⟩
  obtain ⟨e1, e2⟩ := ex2
  obtain ⟨r, hr⟩ : ∃ r, stepM goL [⟨[outSt], freshV 0, 0, false⟩] ⟨some ⟨[], freshV 0, 0, false⟩, [], zeros (words 0), []⟩ 0 = r := ⟨_, rfl⟩
  rw [hr] at hM6 e1 e2 ⊢
  clear hr
  rw [e1] at hM6 ⊢
  have M6 := Lib.hid (hM6 (by decide))
  have R6 := Lib.hid (M4.out.keep ((hb5.trans hb6)))
  have B6 := Lib.hid (B5.out.trans (hb6.mono hz4))
  have E2 := Lib.hid e2
  clear hM6 hb5 hb6 e1 e2
  go_wp2_with fail
  refine (done_mine R6.out (by simp)).mono ?_
  rintro e w7 ⟨rfl, rfl⟩
  have ed : doneM ⟨none, [], [], []⟩ = true := rfl
  rw [ed]
  go_wp2_with fail
  refine (out_mine M6.out (by rw [E2.out]; decide)).mono ?_
  rintro e w8 ⟨A8, n8, c8, rfl, row8, hb8⟩
  have hn8 : n8 = 1 := by
    have := (isU_of_row row8).1
    rw [E2.out] at this
    exact this.symm
  subst hn8
  clear row8
  go_wp2_with fail
  go_ret
  exact ⟨rfl, B6.out.trans (hb8.mono B6.out.size)⟩
end Go.Proofs.Ytdhihmeknoofoaa.Pz
