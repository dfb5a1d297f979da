/-
  WALK: the example of chapter 17.
-/
import Derived.Test.YtapnnbbbgopobaaG31
import Derived.Test.YtapnnbbbgopobaaG32
set_option linter.unusedVariables false
set_option linter.unusedSimpArgs false
namespace Go.Proofs.Ytapnnbbbgopobaa.Pz
open Go.RowKit Cm Mm Ow Ow2 Me Stp StW Rm Sp Sd Sx Sr Pn Pa Pq Pr Pm Ph
open ElM (Cd zeroCd cdL okCd IsCd)
theorem RunM.far {w w' : World} {q : Nat} {C : Nat → Prop} {G : List Nat} {s : Cd} {cs : List Cd} {m : Mch Ln} {X : List Nat} (h : RunM w q C G s cs m) (ho : Only X w w') (hX : ∀ k ∈ X, w.heap.size ≤ k ∨ (¬ C k ∧ k ∉ G)) : RunM w' q C G s cs m := by
  obtain ⟨rc, sd, tl, t, hR, hf, ht⟩ := h
  exact ⟨rc, sd, tl, t, hR.far ho (fun k hk => by
    rcases hX k hk with e | e
    · exact hR.Bw k e
    · exact e.1) (fun k hk hm => by
    rcases hX k hm with e | e
    · have := hR.gLt k hk; omega
    · exact e.2 hk), hf, ht⟩
theorem RunM.keep {w w' : World} {q : Nat} {C : Nat → Prop} {G : List Nat} {s : Cd} {cs : List Cd} {m : Mch Ln} (h : RunM w q C G s cs m) (hb : Below w.heap.size w w') : RunM w' q C G s cs m :=
  RunM.far h (X := []) (Only.of_below hb) (fun k hk => by cases hk)
def Mine (w : World) (W : Nat) (q : Nat) (beg : List Ln) (m : Mch Ln) : Prop := ∃ C G s cs, RunM w q C G s cs m ∧ cs.map lnOf = beg ∧ (∀ k ∈ G, W ≤ k) ∧ W ≤ w.heap.size
theorem Mine.keep {w w' : World} {W q : Nat} {beg : List Ln} {m : Mch Ln} (h : Mine w W q beg m) (hb : Below w.heap.size w w') : Mine w' W q beg m := by
  obtain ⟨C, G, s, cs, h1, h2, h3, h4⟩ := h
  exact ⟨C, G, s, cs, RunM.keep h1 hb, h2, h3, Nat.le_trans h4 hb.size⟩
theorem new_mine (x y : Int) (A : Option Addr) (n cap : Nat) (l : List St) (A1 : Option Addr) (n1 c1 : Nat) (ls : List Cd) (a : Int) (w : World) (hc : IsSt w A n cap l) (hn : n ≤ 65536) (hu : CodeU l) (hcs : IsCd w A1 n1 c1 ls) (hn1 : n1 ≤ 65536) (hcn : ∀ i, i < n1 → (ls.getD i zeroCd).n ≤ 65536) (hus : ∀ i, i < n1 → CodeU (ls.getD i zeroCd).l) :
    Calls Try.prog 11 #[.agg #[.int .i64 x, .int .i64 y, .slice A n cap], .slice A1 n1 c1, .int .i64 a] w fun e w' =>
      ∃ q, e = .returned (.pointer (some ⟨q, 0, none⟩)) ∧ Mine w' w.heap.size q (begunL ls) ⟨some ⟨l, freshV x, 0, false⟩, [], zeros (words a), []⟩ ∧ Below w.heap.size w w' := by
  refine (pnew_any x y A n cap l A1 n1 c1 ls a w hc hn hu hcs hn1 hcn hus).mono ?_
  rintro e w' ⟨q, C, G, s, cs, t, rfl, hR, h1, h2, h3, h4, h5, h6, h7⟩
  refine ⟨q, rfl, ⟨C, G, s, cs, ⟨lnOf s, false, begunL ls, t, hR, fun _ => ⟨?_, rfl, h3.symm⟩, fun h => (by cases h)⟩, h3, h5, h7.size⟩, h7⟩
  show some (⟨l, freshV x, 0, false⟩ : Ln) = some (lnOf s)
  unfold lnOf
  rw [h1, h2]
theorem step_mine {w : World} {W q : Nat} {beg : List Ln} {m : Mch Ln} (h : Mine w W q beg m) (core : Int) (hout : m.out.length ≤ 1000000) :
    Calls Try.prog 16 #[.pointer (some ⟨q, 0, none⟩), .int .i64 core] w fun e w' => e = .returned (.bool ((stepM goL beg m core).1 == 0)) ∧ ((stepM goL beg m core).1 ≠ 2 → Mine w' W q beg (stepM goL beg m core).2) ∧ Below W w w' := by
  obtain ⟨C, G, s, cs, h1, rfl, h3, h4⟩ := h
  refine (pstep_any h1 core hout).mono ?_
  rintro e w' ⟨rfl, k2, k3, k4⟩
  refine ⟨rfl, fun hr => ?_, k3.below h3 h4⟩
  obtain ⟨G', j1, j2⟩ := k4 hr
  refine ⟨C, G', s, cs, j1, rfl, fun k hk => ?_, Nat.le_trans h4 k3.size⟩
  rcases j2 k hk with e | e
  · exact h3 k e
  · omega
theorem out_mine {w : World} {W q : Nat} {beg : List Ln} {m : Mch Ln} (h : Mine w W q beg m) (ho : m.out.length ≤ 1000000) : Calls Try.prog 23 #[.pointer (some ⟨q, 0, none⟩)] w (GaveU w m.out) := by
  obtain ⟨C, G, s, cs, h1, -⟩ := h
  exact pout_any h1 ho
theorem done_mine {w : World} {W q : Nat} {beg : List Ln} {m : Mch Ln} (h : Mine w W q beg m) (hn : m.l.length ≤ 65536) : Calls Try.prog 20 #[.pointer (some ⟨q, 0, none⟩)] w fun e w' => e = .returned (.bool (doneM m)) ∧ w = w' := by
  obtain ⟨C, G, s, cs, h1, -⟩ := h
  exact pdone_any h1 hn
theorem nil_st (w : World) : IsSt w none 0 0 [] := ⟨rfl, Sl.nil _ _ _⟩
theorem nil_cd (w : World) : IsCd w none 0 0 [] := ⟨rfl, Sl.nil _ _ _, fun i hi => absurd hi (by omega)⟩
theorem nil_u : CodeU [] := fun s hs => by cases hs
theorem cd_lit (w : World) (x y : Int) (A : Option Addr) (n cap : Nat) (l : List St) (hx : i64b x) (hy : i64b y) (h : IsSt w A n cap l) : IsCd (w.alloc (.cells #[.int .i64 x, .int .i64 y, .slice A n cap] 34)) (some ⟨w.heap.size, 0, none⟩) 1 1 [⟨x, y, A, n, cap, l⟩] := by
  have hs := sl_one w (cdL ⟨x, y, A, n, cap, l⟩) 34
  refine ⟨rfl, hs.ext (fun i hi => ?_), fun i hi => ?_⟩
  · obtain rfl : i = 0 := by omega
    rfl
  · obtain rfl : i = 0 := by omega
    exact ⟨hx, hy, h.keep ((Below.refl _ _).alloc (Nat.le_refl _) _)⟩
theorem one_n {x y : Int} {A : Option Addr} {n cap : Nat} {l : List St} {i : Nat} (hi : i < 1) (hn : n ≤ 65536 := by decide) : ([(⟨x, y, A, n, cap, l⟩ : Cd)].getD i zeroCd).n ≤ 65536 := by
  obtain rfl : i = 0 := by omega
  exact hn
def outSt : St := ⟨8, 0, 0, 0, 0, 0, 0, 0, 0⟩
set_option maxRecDepth 100000 in
theorem ex1 : stepM goL [] ⟨some ⟨[], freshV 0, 0, false⟩, [], zeros (words 0), []⟩ 0 = (1, ⟨none, [], [], []⟩) := by kernel_rfl
set_option maxRecDepth 100000 in
theorem ex2 : (stepM goL [⟨[outSt], freshV 0, 0, false⟩] ⟨some ⟨[], freshV 0, 0, false⟩, [], zeros (words 0), []⟩ 0).1 = 0 ∧ (stepM goL [⟨[outSt], freshV 0, 0, false⟩] ⟨some ⟨[], freshV 0, 0, false⟩, [], zeros (words 0), []⟩ 0).2.out = [0] := ⟨by kernel_rfl, by kernel_rfl⟩
set_option maxRecDepth 100000 in
set_option maxHeartbeats 3200000 in
theorem alive17_any (w : World) : Calls Try.prog 4 #[] w fun e w' => e = .returned (.bool true) ∧ Below w.heap.size w w' := by
  go_enter Try.func4, Try.ntmps4
  go_wp2_with fail
  refine (new_mine 0 0 none 0 0 [] none 0 0 [] 0 w (nil_st w) (by omega) nil_u (nil_cd w) (by omega) (fun i hi => absurd hi (by omega)) (fun i hi => absurd hi (by omega))).mono ?_
  rintro e w1 ⟨q, rfl, hM, hb1⟩
  have M1 := Lib.hid hM
  clear hM
  go_wp2_with fail
  refine (step_mine M1.out 0 (by simp)).mono ?_
  rintro e w2 ⟨rfl, hM2, hb2⟩
  have e0 : begunL [] = [] := rfl
  rw [e0, ex1] at hM2
  rw [e0, ex1]
  have M2 := Lib.hid (hM2 (by decide))
  have B2 := Lib.hid (hb1.trans hb2)
  clear hM2 hb1 hb2 e0
  have hz2 := B2.out.size
  go_wp2_with fail
  have b21 : Below w2.heap.size w2 (w2.alloc (.cells (([outSt].map stL).flatten.toArray) 55)) := (Below.refl _ _).alloc (Nat.le_refl _) _
  obtain ⟨w3, hw3⟩ : ∃ w3, w2.alloc (.cells (([outSt].map stL).flatten.toArray) 55) = w3 := ⟨_, rfl⟩
  have I3 := ElL.isSt_lit w2 [outSt] (by decide)
  rw [hw3] at I3 b21
  have hz3 : w3.heap.size = w2.heap.size + 1 := by rw [← hw3]; simp
  have hw3' : w2.alloc (.cells #[.int .i64 8, .int .i64 0, .int .i64 0, .int .i64 0, .int .i64 0, .int .i64 0, .int .i64 0, .int .u64 0, .int .u8 0] 55) = w3 := hw3
  rw [hw3', ← hz3]
  clear hw3 hw3'
  have b34 : Below w3.heap.size w3 (w3.alloc (.cells #[.int .i64 0, .int .i64 0, .slice (some ⟨w2.heap.size, 0, none⟩) 1 1] 34)) := (Below.refl _ _).alloc (Nat.le_refl _) _
  have C4 := cd_lit w3 0 0 (some ⟨w2.heap.size, 0, none⟩) 1 1 [outSt] ⟨by decide, by decide⟩ ⟨by decide, by decide⟩ I3
  obtain ⟨w4, hw4⟩ : ∃ w4, w3.alloc (.cells #[.int .i64 0, .int .i64 0, .slice (some ⟨w2.heap.size, 0, none⟩) 1 1] 34) = w4 := ⟨_, rfl⟩
  rw [hw4] at C4 b34 ⊢
  clear hw4
  have M4 := Lib.hid ((M2.out.keep b21).keep b34)
  have B4 := Lib.hid (B2.out.trans ((b21.trans (b34.mono b21.size)).mono hz2))
  have hz4 := B4.out.size
  refine (new_mine 0 0 none 0 0 [] (some ⟨w3.heap.size, 0, none⟩) 1 1 [⟨0, 0, some ⟨w2.heap.size, 0, none⟩, 1, 1, [outSt]⟩] 0 w4 (nil_st _) (by omega) nil_u C4 (by omega) (fun i hi => one_n hi) (fun i hi => by
    obtain rfl : i = 0 := by omega
    intro s hs
    have : s = outSt := by simpa using hs
    subst this
    exact ⟨by decide, by decide⟩)).mono ?_
  rintro e w5 ⟨q2, rfl, hM5, hb5⟩
  have hM5 : Mine w5 w4.heap.size q2 [⟨[outSt], freshV 0, 0, false⟩] ⟨some ⟨[], freshV 0, 0, false⟩, [], zeros (words 0), []⟩ := hM5
  have M5 := Lib.hid hM5
  have R5 := Lib.hid (M4.out.keep hb5)
  have B5 := Lib.hid (B4.out.trans (hb5.mono hz4))
  clear hM5 C4 I3 b21 b34
  have hz5 := hb5.size
  go_wp2_with fail
  refine (step_mine M5.out 0 (by simp)).mono ?_
  rintro e w6 ⟨rfl, hM6, hb6⟩
  obtain ⟨e1, e2⟩ := ex2
  obtain ⟨r, hr⟩ : ∃ r, stepM goL [⟨[outSt], freshV 0, 0, false⟩] ⟨some ⟨[], freshV 0, 0, false⟩, [], zeros (words 0), []⟩ 0 = r := ⟨_, rfl⟩
  rw [hr] at hM6 e1 e2 ⊢
  clear hr
  rw [e1] at hM6 ⊢
  have M6 := Lib.hid (hM6 (by decide))
  have R6 := Lib.hid (M4.out.keep ((hb5.trans hb6)))
  have B6 := Lib.hid (B5.out.trans (hb6.mono hz4))
  have E2 := Lib.hid e2
  clear hM6 hb5 hb6 e1 e2
  go_wp2_with fail
  refine (done_mine R6.out (by simp)).mono ?_
  rintro e w7 ⟨rfl, rfl⟩
  have ed : doneM ⟨none, [], [], []⟩ = true := rfl
  rw [ed]
  go_wp2_with fail
  refine (out_mine M6.out (by rw [E2.out]; decide)).mono ?_
  rintro e w8 ⟨A8, n8, c8, rfl, row8, hb8⟩
  have hn8 : n8 = 1 := by
    have := (isU_of_row row8).1
    rw [E2.out] at this
    exact this.symm
  subst hn8
  clear row8
  go_wp2_with fail
  go_ret
  exact ⟨rfl, B6.out.trans (hb8.mono B6.out.size)⟩
end Go.Proofs.Ytapnnbbbgopobaa.Pz
namespace Go.Proofs.Ytapnnbbbgopobaa.Rq
open Go.RowKit Go.WideShapes Go.ChangeShapes Cm Mm Ow Ow2 Me Ml Lg Stp Rr Lr Rm Sp Sx Sd Sr Pn Pa Pq Pr Pm Ph Rn
open ElM (Cd zeroCd cdL okCd IsCd)
theorem pcrash_any {w : World} {q : Nat} {C : Nat → Prop} {G : List Nat} {s : Cd} {cs : List Cd} {m : Mch Ln} (h : RunM w q C G s cs m) (hlen : cs.length ≤ 65536) :
    Calls Try.prog 14 #[.pointer (some ⟨q, 0, none⟩)] w fun e w' => e = .returned (.tuple #[]) ∧ ∃ G', RunM w' q C G' s cs (crashM (lnOf s) m) ∧ (∀ k ∈ G', k ∈ G ∨ w.heap.size ≤ k) ∧ Only G w w' := by
  obtain ⟨rc, sd, tl, t, hR, hf, ht⟩ := h
  have RB := Lib.hid (rbegin_any hR.bare hlen)
  clear hR hf ht
  go_enter Try.func14, Try.ntmps14
  go_wp2_with fail
  refine RB.out.mono ?_
  rintro e w2 ⟨rfl, G', t', h1, h2, h3⟩
  go_wp2_with fail
  go_end0
  exact ⟨rfl, G', ⟨_, _, _, _, h1, fun _ => ⟨rfl, rfl, rfl⟩, fun h => (by cases h)⟩, h2, h3⟩
theorem pstuck_any {w : World} {q : Nat} {b : Bool} (h : w.cell? ⟨q, 9, none⟩ = some (.bool b)) : Calls Try.prog 18 #[.pointer (some ⟨q, 0, none⟩)] w fun e w' => e = .returned (.bool b) ∧ w = w' := by
  go_enter Try.func18, Try.ntmps18
  go_wp2
  go_ret
  exact ⟨rfl, rfl⟩
theorem RunM.c9 {w : World} {q : Nat} {C : Nat → Prop} {G : List Nat} {s : Cd} {cs : List Cd} {m : Mch Ln} (h : RunM w q C G s cs m) : w.cell? ⟨q, 9, none⟩ = some (.bool false) := by
  obtain ⟨rc, sd, tl, t, hR, hf, ht⟩ := h
  have e := hR.foc.cs.2.2.2.2.2.2.2.2.2
  rw [hR.ill] at e
  exact e
theorem pcells_any {w : World} {q : Nat} {C : Nat → Prop} {G : List Nat} {s : Cd} {cs : List Cd} {m : Mch Ln} (h : RunM w q C G s cs m) : Calls Try.prog 25 #[.pointer (some ⟨q, 0, none⟩)] w (GaveU w m.now) := by
  obtain ⟨rc, sd, tl, t, hR, -, -⟩ := h
  have z4 := hR.foc.c4
  have U := Lib.hid (isU_of_row hR.foc.mrow)
  have hs := hR.foc.small
  clear hR
  go_enter Try.func25, Try.ntmps25
  go_wp2_with fail
  refine (uclone_any _ _ _ m.now w U.out (by omega)).mono ?_
  rintro e w2 ⟨A, n, c, rfl, hr, hb⟩
  go_wp2_with fail
  go_ret
  exact ⟨A, n, c, rfl, hr, hb⟩
theorem RunM.lt {w : World} {q : Nat} {C : Nat → Prop} {G : List Nat} {s : Cd} {cs : List Cd} {m : Mch Ln} (h : RunM w q C G s cs m) : (∀ k ∈ G, k < w.heap.size ∧ ¬ C k) ∧ (∀ k, w.heap.size ≤ k → ¬ C k) := by
  obtain ⟨rc, sd, tl, t, hR, -, -⟩ := h
  exact ⟨fun k hk => ⟨hR.gLt k hk, hR.gB k hk⟩, hR.Bw⟩
set_option maxRecDepth 100000 in
theorem open_bytes {H : Type} {enc : TypeId × Value → H} {w : World} {v : Value} {d : DataW H} {p : List MemPlace} {r : Reach} {b0 : Nat}
    (h : DataW.Trod enc Try.prog w 0 (fun _ => true) true 22 v d p) (hok : Value.okWide Try.prog w r b0 22 v) :
    ∃ A n cap, ∃ x : Nat → Int, v = .slice A n cap ∧ Lx.IsBy w A n cap x := by
  obtain ⟨a0, len, cap0, rfl⟩ := okWide_slice Try.underlying22 hok
  obtain ⟨fuel, hf⟩ := h
  obtain ⟨A, n, cap, l, hcs, hl, hsl, hk, _⟩ := open_sl (α := Int) 0 (fun z => [.int .u8 z]) (fun _ => True) 1 Try.underlying22 (by kernel_rfl) (by decide) (fun m cs y hy => by
    obtain ⟨z0, e0, _, h0⟩ := DataW.trod_int Try.underlying5 hy
    exact ⟨z0, e0, trivial⟩) hf
  have hcs' : [Value.slice a0 len cap0] = [Value.slice A n cap] := hcs
  injection hcs' with hcs'
  exact ⟨A, n, cap, fun i => l.getD i 0, hcs', hsl⟩
end Go.Proofs.Ytapnnbbbgopobaa.Rq
namespace Go.Proofs.Ytapnnbbbgopobaa.Rq
open Go.RowKit Go.WideShapes Go.ChangeShapes Cm Mm Ow Ow2 Me Ml Lg Stp StW Rr Lr Rm Sp Sx Sd Sr Pn Pa Pq Pr Pm Ph Pz Rn
open ElM (Cd zeroCd cdL okCd IsCd)
def Prs (w : World) (B0 q : Nat) (f : Rf) (ts : List (ByteArray × Bd)) (rb : Bd) (qt : Nat) (C : Nat → Prop) (sc : Cd) (cds : List Cd) (s : Ar) (m : Mch Ln) : Prop :=
  ∃ X G, Rn.Run w B0 q f ts rb X s ∧ RunM w qt C G sc cds m ∧ (∀ k ∈ X, ¬ C k ∧ k ∉ G) ∧ (∀ k ∈ G, B0 ≤ k) ∧ B0 ≤ w.heap.size
def Hlf (w : World) (B0 q qt : Nat) (C : Nat → Prop) (sc : Cd) (cds : List Cd) (m : Mch Ln) : Prop :=
  ∃ G, RunM w qt C G sc cds m ∧ (∀ k ∈ G, B0 ≤ k) ∧ B0 ≤ w.heap.size ∧ q ∉ G ∧ q < w.heap.size ∧ w.cell? ⟨q, 7, none⟩ = some (.bool true)
section
variable {w w' : World} {B0 q : Nat} {f : Rf} {ts : List (ByteArray × Bd)} {rb : Bd} {qt : Nat} {C : Nat → Prop} {sc : Cd} {cds : List Cd} {s : Ar} {m : Mch Ln}
theorem Prs.keep (h : Prs w B0 q f ts rb qt C sc cds s m) (hb : Below w.heap.size w w') : Prs w' B0 q f ts rb qt C sc cds s m := by
  obtain ⟨X, G, h1, h2, h3, h4, h5⟩ := h
  exact ⟨X, G, Rn.Run.keep h1 hb, RunM.keep h2 hb, h3, h4, Nat.le_trans h5 hb.size⟩
theorem Prs.y7 (h : Prs w B0 q f ts rb qt C sc cds s m) : w.cell? ⟨q, 7, none⟩ = some (.bool false) := by
  obtain ⟨X, G, h1, h2, h3, h4, h5⟩ := h
  exact Rn.Run.y7 h1
theorem Prs.c9 (h : Prs w B0 q f ts rb qt C sc cds s m) : w.cell? ⟨qt, 9, none⟩ = some (.bool false) := by
  obtain ⟨X, G, h1, h2, h3, h4, h5⟩ := h
  exact RunM.c9 h2
theorem Prs.B (h : Prs w B0 q f ts rb qt C sc cds s m) : B0 ≤ w.heap.size := by
  obtain ⟨X, G, h1, h2, h3, h4, h5⟩ := h
  exact h5
theorem run_xx {X : List Nat} (h : Rn.Run w B0 q f ts rb X s) : (∀ k ∈ X, B0 ≤ k ∧ k < w.heap.size) ∧ q ∈ X := by
  obtain ⟨G, LA, lc, rq, tq, lab, h⟩ := h
  exact ⟨h.xx, h.xg q h.rn.gq.1⟩
theorem prs_outR (h : Prs w B0 q f ts rb qt C sc cds s m) (ho : s.out.length ≤ 1000000) : Calls Try.prog 22 #[.pointer (some ⟨q, 0, none⟩)] w (GaveU w s.out) := by
  obtain ⟨X, G, h1, -⟩ := h
  exact rout13_any h1 ho
theorem prs_outT (h : Prs w B0 q f ts rb qt C sc cds s m) (ho : m.out.length ≤ 1000000) : Calls Try.prog 23 #[.pointer (some ⟨qt, 0, none⟩)] w (GaveU w m.out) := by
  obtain ⟨X, G, h1, h2, -⟩ := h
  exact pout_any h2 ho
theorem prs_cellsR (h : Prs w B0 q f ts rb qt C sc cds s m) (ho : s.now.length ≤ 1000000) : Calls Try.prog 24 #[.pointer (some ⟨q, 0, none⟩)] w (GaveU w s.now) := by
  obtain ⟨X, G, h1, -⟩ := h
  exact rcells13_any h1 ho
theorem prs_cellsT (h : Prs w B0 q f ts rb qt C sc cds s m) : Calls Try.prog 25 #[.pointer (some ⟨qt, 0, none⟩)] w (GaveU w m.now) := by
  obtain ⟨X, G, h1, h2, -⟩ := h
  exact pcells_any h2
theorem prs_doneR (h : Prs w B0 q f ts rb qt C sc cds s m) (ho : s.ts.length ≤ 65536) : Calls Try.prog 19 #[.pointer (some ⟨q, 0, none⟩)] w fun e w' => e = .returned (.bool (doneA s)) ∧ w = w' := by
  obtain ⟨X, G, h1, -⟩ := h
  exact rdone13_any h1 ho
theorem prs_doneT (h : Prs w B0 q f ts rb qt C sc cds s m) (ho : m.l.length ≤ 65536) : Calls Try.prog 20 #[.pointer (some ⟨qt, 0, none⟩)] w fun e w' => e = .returned (.bool (doneM m)) ∧ w = w' := by
  obtain ⟨X, G, h1, h2, -⟩ := h
  exact pdone_any h2 ho
theorem prs_stepR (h : Prs w B0 q f ts rb qt C sc cds s m) (ho : s.out.length < 900000) (c : Int) : Calls Try.prog 15 #[.pointer (some ⟨q, 0, none⟩), .int .i64 c] w fun e w' =>
    Below B0 w w' ∧ ((stepA f.cs ts s c = none ∧ (∃ b, e = .returned (.bool b)) ∧ Hlf w' B0 q qt C sc cds m) ∨ (∃ b s', stepA f.cs ts s c = some (b, s') ∧ e = .returned (.bool b) ∧ Prs w' B0 q f ts rb qt C sc cds s' m)) := by
  obtain ⟨X, G, h1, h2, h3, h4, h5⟩ := h
  refine (step13_any h1 ho c).mono ?_
  intro e w' hS
  obtain ⟨hX, hq⟩ := run_xx h1
  have hM := RunM.lt h2
  cases hr : stepA f.cs ts s c with
  | none =>
    rw [hr] at hS
    obtain ⟨k1, k2, k3⟩ := hS
    refine ⟨k3.below (fun x hx => (hX x hx).1) h5, .inl ⟨rfl, k1, G, RunM.far h2 k3 (fun k hk => .inr (h3 k hk)), h4, Nat.le_trans h5 k3.size, (h3 q hq).2, Nat.lt_of_lt_of_le (hX q hq).2 k3.size, k2⟩⟩
  | some r =>
    rw [hr] at hS
    obtain ⟨k1, ⟨X', k2, k3⟩, k4⟩ := hS
    refine ⟨k4.below (fun x hx => (hX x hx).1) h5, .inr ⟨r.1, r.2, rfl, k1, X', G, k2, RunM.far h2 k4 (fun k hk => .inr (h3 k hk)), fun k hk => ?_, h4, Nat.le_trans h5 k4.size⟩⟩
    rcases k3 k hk with e | e
    · exact h3 k e
    · exact ⟨hM.2 k e, fun hx => by have := (hM.1 k hx).1; omega⟩
theorem prs_stepT (h : Prs w B0 q f ts rb qt C sc cds s m) (ho : m.out.length ≤ 1000000) (c : Int) : Calls Try.prog 16 #[.pointer (some ⟨qt, 0, none⟩), .int .i64 c] w fun e w' =>
    Below B0 w w' ∧ e = .returned (.bool ((stepM goL (cds.map lnOf) m c).1 == 0)) ∧ w'.cell? ⟨q, 7, none⟩ = some (.bool false) ∧ w'.cell? ⟨qt, 9, none⟩ = some (.bool ((stepM goL (cds.map lnOf) m c).1 == 2)) ∧ ((stepM goL (cds.map lnOf) m c).1 ≠ 2 → Prs w' B0 q f ts rb qt C sc cds s (stepM goL (cds.map lnOf) m c).2) := by
  obtain ⟨X, G, h1, h2, h3, h4, h5⟩ := h
  refine (pstep_any h2 c ho).mono ?_
  rintro e w' ⟨k1, k2, k3, k4⟩
  obtain ⟨hX, hq⟩ := run_xx h1
  have hM := RunM.lt h2
  have hR : Rn.Run w' B0 q f ts rb X s := Rn.Run.only h1 k3 (fun g hg => ⟨h4 g hg, fun hx => (h3 g hx).2 hg⟩)
  refine ⟨k3.below h4 h5, k1, Rn.Run.y7 hR, k2, fun hr => ?_⟩
  obtain ⟨G', j1, j2⟩ := k4 hr
  refine ⟨X, G', hR, j1, fun k hk => ⟨(h3 k hk).1, fun hx => ?_⟩, fun k hk => ?_, Nat.le_trans h5 k3.size⟩
  · rcases j2 k hx with e | e
    · exact (h3 k hk).2 e
    · have := (hX k hk).2; omega
  · rcases j2 k hk with e | e
    · exact h4 k e
    · omega
theorem hlf_stepT (h : Hlf w B0 q qt C sc cds m) (ho : m.out.length ≤ 1000000) (c : Int) : Calls Try.prog 16 #[.pointer (some ⟨qt, 0, none⟩), .int .i64 c] w fun e w' =>
    Below B0 w w' ∧ (∃ b, e = .returned (.bool b)) ∧ w'.cell? ⟨q, 7, none⟩ = some (.bool true) := by
  obtain ⟨G, h1, h2, h3, h4, h5, h6⟩ := h
  refine (pstep_any h1 c ho).mono ?_
  rintro e w' ⟨k1, k2, k3, k4⟩
  exact ⟨k3.below h2 h3, ⟨_, k1⟩, (only_cell k3 h5 h4 _).trans h6⟩
theorem prs_crashR (h : Prs w B0 q f ts rb qt C sc cds s m) : Calls Try.prog 13 #[.pointer (some ⟨q, 0, none⟩)] w fun e w' =>
    e = .returned (.tuple #[]) ∧ Below B0 w w' ∧ Prs w' B0 q f ts rb qt C sc cds ⟨s.now, s.out, some (begA rb), []⟩ m := by
  obtain ⟨X, G, h1, h2, h3, h4, h5⟩ := h
  refine (rcrash13_any h1).mono ?_
  rintro e w' ⟨k1, ⟨X', k2, k3⟩, k4⟩
  obtain ⟨hX, hq⟩ := run_xx h1
  have hM := RunM.lt h2
  refine ⟨k1, k4.below (fun x hx => (hX x hx).1) h5, X', G, k2, RunM.far h2 k4 (fun k hk => .inr (h3 k hk)), fun k hk => ?_, h4, Nat.le_trans h5 k4.size⟩
  rcases k3 k hk with e | e
  · exact h3 k e
  · exact ⟨hM.2 k e, fun hx => by have := (hM.1 k hx).1; omega⟩
theorem prs_crashT (h : Prs w B0 q f ts rb qt C sc cds s m) (hl : cds.length ≤ 65536) : Calls Try.prog 14 #[.pointer (some ⟨qt, 0, none⟩)] w fun e w' =>
    e = .returned (.tuple #[]) ∧ Below B0 w w' ∧ Prs w' B0 q f ts rb qt C sc cds s (crashM (lnOf sc) m) := by
  obtain ⟨X, G, h1, h2, h3, h4, h5⟩ := h
  refine (pcrash_any h2 hl).mono ?_
  rintro e w' ⟨k1, G', k2, k3, k4⟩
  obtain ⟨hX, hq⟩ := run_xx h1
  refine ⟨k1, k4.below h4 h5, X, G', Rn.Run.only h1 k4 (fun g hg => ⟨h4 g hg, fun hx => (h3 g hx).2 hg⟩), k2, fun k hk => ⟨(h3 k hk).1, fun hx => ?_⟩, fun k hk => ?_, Nat.le_trans h5 k4.size⟩
  · rcases k3 k hx with e | e
    · exact (h3 k hk).2 e
    · have := (hX k hk).2; omega
  · rcases k3 k hk with e | e
    · exact h4 k e
    · omega
end
/-! ### in plain Lean -/
structure Alk (cs : List Lay.Cl) (N k : Nat) (s : Ar) (m : Mch Ln) : Prop where
  both : Sx.Both (AlR cs) N (mchOf s) m
  len : s.out.length ≤ 2 * k
  t4 : s.ts.length ≤ 4
theorem Alk.lenT {cs : List Lay.Cl} {N k : Nat} {s : Ar} {m : Mch Ln} (h : Alk cs N k s m) : m.out.length ≤ 2 * k := by
  have e : s.out = m.out := h.both.out
  rw [← e]; exact h.len
theorem Alk.t4T {cs : List Lay.Cl} {N k : Nat} {s : Ar} {m : Mch Ln} (h : Alk cs N k s m) : m.l.length ≤ 4 := by
  have e : s.ts.length = m.l.length := h.both.l.len
  rw [← e]; exact h.t4
theorem Alk.words {cs : List Lay.Cl} {N k : Nat} {s : Ar} {m : Mch Ln} (h : Alk cs N k s m) : s.now.length = N := h.both.words
theorem Alk.outE {cs : List Lay.Cl} {N k : Nat} {s : Ar} {m : Mch Ln} (h : Alk cs N k s m) : s.out = m.out := h.both.out
theorem Alk.nowE {cs : List Lay.Cl} {N k : Nat} {s : Ar} {m : Mch Ln} (h : Alk cs N k s m) : s.now = m.now := h.both.now
theorem Alk.crash {cs : List Lay.Cl} {N k : Nat} {s : Ar} {m : Mch Ln} (h : Alk cs N k s m) {rb : Bd} {a : Ln} (hR : AlR cs (begA rb) a) : Alk cs N (k + 1) ⟨s.now, s.out, some (begA rb), []⟩ (crashM a m) :=
  ⟨Sx.crash_alike hR h.both, by have := h.len; show s.out.length ≤ _; omega, by simp⟩
theorem step_t4 {cs : List Lay.Cl} {tb : List (ByteArray × Bd)} {s s' : Ar} {c : Int} {b : Bool} (h : stepA cs tb s c = some (b, s')) (h1 : s.ts.length ≤ 4) (h2 : tb.length ≤ 4) : s'.ts.length ≤ 4 := by
  have hc : ∀ (s s' : Ar) (b : Bool), coreA cs s c = some (b, s') → s.ts.length ≤ 4 → s'.ts.length ≤ 4 := fun s s' b h h1 => by
    unfold coreA at h
    split at h
    · injection h with h
      injection h with _ h
      rw [← h]; exact h1
    · split at h
      · cases h
      · injection h with h
        injection h with _ h
        rw [← h]
        simpa using h1
  unfold stepA at h
  split at h
  · exact hc _ _ _ h h1
  · split at h
    · cases h
    · split at h
      · injection h with h
        injection h with _ h
        rw [← h]
        exact h1
      · exact hc _ _ _ h (by simpa using h2)
theorem Alk.step {cs : List Lay.Cl} {N k : Nat} {s : Ar} {m : Mch Ln} (h : Alk cs N k s m) (hA : Sx.Alike (AlR cs) N (goR cs) goL) {ts : List (ByteArray × Bd)} {beg : List Ln} (ht : ts.length ≤ 4) (hB : Two (AlR cs) (ts.map fun t => begA t.2) beg) {c : Int} {b : Bool} {s' : Ar} (hs : stepA cs ts s c = some (b, s')) (h2 : (stepM goL beg m c).1 ≠ 2) :
    b = ((stepM goL beg m c).1 == 0) ∧ Alk cs N (k + 1) s' (stepM goL beg m c).2 := by
  have h4 := step_t4 hs h.t4 ht
  have h5 := out_len hs
  rw [stepA_eq] at hs
  split at hs
  · cases hs
  · rename_i h1
    obtain ⟨e1, e2⟩ := Sx.step_alike hA hB h.both c h1 h2
    injection hs with hs
    injection hs with hs1 hs2
    subst hs2
    refine ⟨?_, ⟨e2, by have := h.len; omega, h4⟩⟩
    rw [← hs1, e1]
theorem two_of {R : As → Ln → Prop} : ∀ {l : List (ByteArray × Bd)} {l' : List Cd}, l.length = l'.length → (∀ i, i < l.length → R (begA (l.getD i zeroTh).2) (lnOf (l'.getD i zeroCd))) → Two R (l.map fun t => begA t.2) (l'.map lnOf)
  | [], [], _, _ => .nil
  | [], _ :: _, h, _ => by simp at h
  | _ :: _, [], h, _ => by simp at h
  | a :: l, b :: l', h, hr => .cons (hr 0 (by simp)) (two_of (by simpa using h) (fun i hi => hr (i + 1) (by simpa using hi)))
theorem alk_new {cs : List Lay.Cl} {ts : List (ByteArray × Bd)} {rb : Bd} (hg : Fr.Good cs ts rb) {a : Ln} (hR : AlR cs (begA rb) a) {N : Nat} (hN : Lay.words cs = N) : Alk cs N 0 ⟨List.replicate (Lay.words cs).toNat 0, [], some (begA rb), []⟩ ⟨some a, [], zeros (Rm.words (Lay.words cs)), []⟩ := by
  have := (words_64 hg)
  refine ⟨⟨hR, .nil, ?_, rfl, ?_⟩, by simp, by simp⟩
  · show List.replicate (Lay.words cs).toNat 0 = zeros (Rm.words (Lay.words cs))
    unfold zeros Rm.words
    congr 1
    omega
  · show (List.replicate (Lay.words cs).toNat (0 : Int)).length = N
    rw [List.length_replicate]
    omega
theorem al_good {cs : List Lay.Cl} {ts : List (ByteArray × Bd)} {rb : Bd} (hg : Fr.Good cs ts rb) {N : Nat} (hN : Lay.words cs = N) : Sx.Alike (AlR cs) N (goR cs) goL := by
  have := words_64 hg
  exact al_alike (cells_ok hg) (by rw [← hN]; rfl) (by omega)
end Go.Proofs.Ytapnnbbbgopobaa.Rq
namespace Go.Proofs.Ytapnnbbbgopobaa.Rq
open Go.RowKit Go.WideShapes Go.ChangeShapes Cm Mm Ow Ow2 Me Ml Lg Stp StW Rr Lr Rm Sp Sx Sd Sr Pn Pa Pq Pr Pm Ph Pz Rn
open ElM (Cd zeroCd cdL okCd IsCd)
structure CdR (w : World) (B : Nat) (b : Bd) (l : List St) (d : Cd) : Prop where
  x : d.x = (varsOf b : Nat)
  y : d.y = ((nmsB b).length : Nat)
  l : d.l = l
  row : Own w B 55 9 d.A d.n d.cap (d.l.map stL)
theorem CdR.only {w w' : World} {B : Nat} {b : Bd} {l : List St} {d : Cd} (h : CdR w B b l d) {Y : List Nat} (ho : Only Y w w') (hY : ∀ g, d.A.map (·.block) = some g → g ∉ Y) : CdR w' B b l d := ⟨h.x, h.y, h.l, own_only h.row ho hY⟩
theorem CdR.keep {w w' : World} {B : Nat} {b : Bd} {l : List St} {d : Cd} (h : CdR w B b l d) (hb : Below w.heap.size w w') : CdR w' B b l d := h.only (Y := []) (Only.of_below hb) (fun g _ hx => by cases hx)
theorem row_put {w : World} {B g n c : Nat} {ds : List Cd} {k : Nat} (h : Own w B 34 3 (some ⟨g, 0, none⟩) n c (ds.map cdL)) (hk : k < n) (d : Cd) : Own (((w.setCell ⟨g, k * 3, none⟩ (.int .i64 d.x)).setCell ⟨g, k * 3 + 1, none⟩ (.int .i64 d.y)).setCell ⟨g, k * 3 + 2, none⟩ (.slice d.A d.n d.cap)) B 34 3 (some ⟨g, 0, none⟩) n c ((ds.set k d).map cdL) := by
  have hl : ds.length = n := by simpa using h.len
  have h1 := own_cell h (j := 0) hk (by omega) (.int .i64 d.x)
  have h2 := own_cell h1 (j := 1) hk (by omega) (.int .i64 d.y)
  have h3 := own_cell h2 (j := 2) hk (by omega) (.slice d.A d.n d.cap)
  rw [Nat.add_zero] at h3
  have e : ((((ds.map cdL).set k (((ds.map cdL).getD k []).set 0 (.int .i64 d.x))).set k ((((ds.map cdL).set k (((ds.map cdL).getD k []).set 0 (.int .i64 d.x))).getD k []).set 1 (.int .i64 d.y))).set k (((((ds.map cdL).set k (((ds.map cdL).getD k []).set 0 (.int .i64 d.x))).set k ((((ds.map cdL).set k (((ds.map cdL).getD k []).set 0 (.int .i64 d.x))).getD k []).set 1 (.int .i64 d.y))).getD k []).set 2 (.slice d.A d.n d.cap))) = (ds.set k d).map cdL := by
    rw [List.set_set, List.set_set, List.map_set]
    congr 1
    simp [List.getD, show k < ds.length by omega, cdL]
  rw [e] at h3
  exact h3
structure Lz (W w : World) (g : Nat) (fb : Bd) (fc : List St) (d0 : Cd) (ts : List (ByteArray × Bd)) (LA : Option Addr) (ln lc : Nat) (codes : Nat → List St) (ds : List Cd) : Prop where
  bl : Below W.heap.size W w
  c1 : w.heap[g]? = some (.cells #[.int .i64 d0.x, .int .i64 d0.y, .slice d0.A d0.n d0.cap] 34 (0, 0))
  gW : W.heap.size ≤ g
  r1 : CdR w W.heap.size fb fc d0
  row : Own w W.heap.size 34 3 LA ln lc (ds.map cdL)
  ds : ∀ i, i < ln → CdR w W.heap.size (ts.getD i zeroTh).2 (codes i) (ds.getD i zeroCd)
  ne : LA.map (·.block) ≠ some g
theorem Lz.keep {W w w' : World} {g : Nat} {fb : Bd} {fc : List St} {d0 : Cd} {ts : List (ByteArray × Bd)} {LA : Option Addr} {ln lc : Nat} {codes : Nat → List St} {ds : List Cd} (h : Lz W w g fb fc d0 ts LA ln lc codes ds) (hb : Below w.heap.size w w') : Lz W w' g fb fc d0 ts LA ln lc codes ds :=
  ⟨h.bl.trans (hb.mono h.bl.size), (hb.block g (Array.getElem?_eq_some_iff.1 h.c1).1).trans h.c1, h.gW, h.r1.keep hb, own_only h.row (Only.of_below (F := []) hb) (fun g _ hx => by cases hx), fun i hi => (h.ds i hi).keep hb, h.ne⟩
theorem Lz.put {W w : World} {g lb : Nat} {fb : Bd} {fc : List St} {d0 : Cd} {ts : List (ByteArray × Bd)} {ln lc : Nat} {codes : Nat → List St} {ds : List Cd} (h : Lz W w g fb fc d0 ts (some ⟨lb, 0, none⟩) ln lc codes ds) {k : Nat} (hk : k < ln) {c : List St} {d : Cd} (hd : CdR w W.heap.size (ts.getD k zeroTh).2 c d) :
    Lz W (((w.setCell ⟨lb, k * 3, none⟩ (.int .i64 d.x)).setCell ⟨lb, k * 3 + 1, none⟩ (.int .i64 d.y)).setCell ⟨lb, k * 3 + 2, none⟩ (.slice d.A d.n d.cap)) g fb fc d0 ts (some ⟨lb, 0, none⟩) ln lc (fun i => if i = k then c else codes i) (ds.set k d) := by
  have o : Only [lb] w (((w.setCell ⟨lb, k * 3, none⟩ (.int .i64 d.x)).setCell ⟨lb, k * 3 + 1, none⟩ (.int .i64 d.y)).setCell ⟨lb, k * 3 + 2, none⟩ (.slice d.A d.n d.cap)) := ((only_q w lb _ _).seq (only_q _ lb _ _)).seq (only_q _ lb _ _)
  have hl : ds.length = ln := by simpa using h.row.len
  have hB : W.heap.size ≤ lb := (h.row.lt lb rfl).1
  have hs : ∀ {A : Option Addr} {n c : Nat} {L : List (List Value)}, Own w W.heap.size 55 9 A n c L → ∀ g, A.map (·.block) = some g → g ∉ [lb] := fun hr g hg hx => by
    simp at hx
    subst hx
    exact own_ne hr h.row (by decide) g hg rfl
  have hgd : ∀ j, (ds.set k d).getD j zeroCd = if j = k then d else ds.getD j zeroCd := fun j => by
    by_cases hj : j = k
    · subst hj
      simp [List.getD, show j < ds.length by omega]
    · rw [if_neg hj]
      simp only [List.getD]
      rw [List.getElem?_set_ne (fun e => hj e.symm)]
  refine ⟨h.bl.trans (o.below (fun x hx => by simp at hx; omega) h.bl.size), (o.block g (Array.getElem?_eq_some_iff.1 h.c1).1 (fun hx => h.ne (by simp at hx; rw [hx]; rfl))).trans h.c1, h.gW, h.r1.only o (hs h.r1.row), row_put h.row hk d, fun i hi => ?_, h.ne⟩
  rw [hgd]
  by_cases e : i = k
  · subst e
    rw [if_pos rfl, if_pos rfl]
    exact hd.only o (hs hd.row)
  · rw [if_neg e, if_neg e]
    exact (h.ds i hi).only o (hs (h.ds i hi).row)
theorem Lz.isCd {W w : World} {g : Nat} {fb : Bd} {fc : List St} {d0 : Cd} {ts : List (ByteArray × Bd)} {LA : Option Addr} {ln lc : Nat} {codes : Nat → List St} {ds : List Cd} (h : Lz W w g fb fc d0 ts LA ln lc codes ds) (hv : ∀ i, i < ln → varsOf (ts.getD i zeroTh).2 ≤ 400) : IsCd w LA ln lc ds :=
  isCd_own h.row (fun i hi => by
    have h1 := (h.ds i hi).x
    have h2 := (h.ds i hi).y
    have h3 := hv i hi
    have h4 : (nmsB (ts.getD i zeroTh).2).length ≤ varsOf (ts.getD i zeroTh).2 := Mi.kB_le _ _
    refine ⟨?_, ?_, isSt_own (h.ds i hi).row⟩
    · unfold i64b; omega
    · unfold i64b; omega)
theorem Lz.n {W w : World} {g : Nat} {fb : Bd} {fc : List St} {d0 : Cd} {ts : List (ByteArray × Bd)} {LA : Option Addr} {ln lc : Nat} {codes : Nat → List St} {ds : List Cd} (h : Lz W w g fb fc d0 ts LA ln lc codes ds) (hc : ∀ i, i < ln → (codes i).length ≤ 65536) : ∀ i, i < ln → (ds.getD i zeroCd).n ≤ 65536 := fun i hi => by
  have e1 : (ds.getD i zeroCd).l.length = (ds.getD i zeroCd).n := by simpa using (h.ds i hi).row.len
  have e2 := hc i hi
  have e3 := (h.ds i hi).l
  rw [e3] at e1
  omega
theorem elide_le (sole : List Bool) : ∀ (n : Nat) (l : List St), l.length ≤ n → (elide sole l).length ≤ l.length
  | _, [], _ => by simp [elide]
  | 0, s :: t, h => by simp at h
  | n + 1, s :: t, h => by
    rw [elide]
    simp only [List.length_cons] at h ⊢
    split
    · have := elide_le sole n (t.drop 2) (by simp; omega)
      simp at this
      omega
    · have := elide_le sole n t (by omega)
      omega
def CodesOk (cs : List Lay.Cl) (ts : List (ByteArray × Bd)) (ln : Nat) (codes : Nat → List St) : Prop :=
  ∀ i, i < ln → Ins (codeOf cs (ts.getD i zeroTh).2) (codes i) ∧ (codes i).length ≤ 65536 ∧ (CodeU (codeOf cs (ts.getD i zeroTh).2) → CodeU (codes i))
theorem ok_flush {cs : List Lay.Cl} {ts : List (ByteArray × Bd)} {ln : Nat} (hz : ∀ i, i < ln → bsz (ts.getD i zeroTh).2 ≤ 6004) : CodesOk cs ts ln (fun i => flush (codeOf cs (ts.getD i zeroTh).2)) := fun i hi => by
  refine ⟨ins_flush _, ?_, u_flush⟩
  have := fl_code cs (ts.getD i zeroTh).2
  have := hz i hi
  show (flush (codeOf cs (ts.getD i zeroTh).2)).length ≤ 65536
  omega
theorem ok_elide {cs : List Lay.Cl} {ts : List (ByteArray × Bd)} {ln : Nat} (hz : ∀ i, i < ln → bsz (ts.getD i zeroTh).2 ≤ 6004) (sole : List Bool) : CodesOk cs ts ln (fun i => elide sole (flush (codeOf cs (ts.getD i zeroTh).2))) := fun i hi => by
  refine ⟨ins_code2 _ _ _, ?_, fun h => u_elide sole _ _ (Nat.le_refl _) (u_flush h)⟩
  have := fl_code cs (ts.getD i zeroTh).2
  have := elide_le sole _ (flush (codeOf cs (ts.getD i zeroTh).2)) (Nat.le_refl _)
  have := hz i hi
  show (elide sole (flush (codeOf cs (ts.getD i zeroTh).2))).length ≤ 65536
  omega
def s0R (cs : List Lay.Cl) (rb : Bd) : Ar := ⟨List.replicate (Lay.words cs).toNat 0, [], some (begA rb), []⟩
structure Bg (cs : List Lay.Cl) (ts : List (ByteArray × Bd)) (rb : Bd) (N : Nat) (sc : Cd) (cds : List Cd) : Prop where
  al : Sx.Alike (AlR cs) N (goR cs) goL
  rc : AlR cs (begA rb) (lnOf sc)
  two : Two (AlR cs) (ts.map fun t => begA t.2) (cds.map lnOf)
  c4 : cds.length ≤ 4
  t4 : ts.length ≤ 4
  n : N ≤ 64
theorem lz_new {W w : World} {g B0 q : Nat} {cs : List Lay.Cl} {rb : Bd} {d0 : Cd} {ts : List (ByteArray × Bd)} {LA : Option Addr} {ln lc : Nat} {codes : Nat → List St} {ds : List Cd} {cA : Option Addr} {cn cc : Nat} {tA : Option Addr} {tn tc : Nat} {rA : Option Addr} {rn rc : Nat} {X : List Nat}
    (h : Lz W w g rb (flush (codeOf cs rb)) d0 ts LA ln lc codes ds) (hp : IsPg w cA cn cc tA tn tc rA rn rc cs ts rb) (hr : Rn.Run w B0 q ⟨cA, cn, cc, cs, tA, tn, tc, rA, rn, rc⟩ ts rb X (s0R cs rb)) (hB : B0 ≤ w.heap.size)
    (hg : Fr.Good cs ts rb) (hln : ln = ts.length) (hvr : varsOf rb ≤ 400) (hv : ∀ i, i < ln → varsOf (ts.getD i zeroTh).2 ≤ 400) (hz : bsz rb ≤ 6004) (hC : CodesOk cs ts ln codes) :
    Calls Try.prog 11 #[.agg #[.int .i64 d0.x, .int .i64 d0.y, .slice d0.A d0.n d0.cap], .slice LA ln lc, .int .i64 (Lay.words cs)] w fun e w' =>
      ∃ qt C sc cds m N, e = .returned (.pointer (some ⟨qt, 0, none⟩)) ∧ Prs w' B0 q ⟨cA, cn, cc, cs, tA, tn, tc, rA, rn, rc⟩ ts rb qt C sc cds (s0R cs rb) m ∧ Alk cs N 0 (s0R cs rb) m ∧ Bg cs ts rb N sc cds ∧ Below w.heap.size w w' := by
  have hcs := cells_ok hg
  have h4 : ln ≤ 4 := by have := hg.t4; omega
  have hrl : d0.l = flush (codeOf cs rb) := h.r1.l
  have hn0 : d0.n ≤ 65536 := by
    have e1 : d0.l.length = d0.n := by simpa using h.r1.row.len
    have e2 := fl_code cs rb
    rw [hrl] at e1
    omega
  have hcel : CelB cs rb := celB_of _ [] hg.wrec
  have hct : ∀ i, i < ln → CelB cs (ts.getD i zeroTh).2 := fun i hi => celB_of _ [] (hg.walks i (by omega))
  have hu0 : CodeU d0.l := by
    rw [hrl]
    exact u_flush (u_codeOf hcs hg.c16 hcel (numB_of hp.rec_))
  have hus : ∀ i, i < ln → CodeU (ds.getD i zeroCd).l := fun i hi => by
    have e : (ds.getD i zeroCd).l = codes i := (h.ds i hi).l
    rw [e]
    have hl := hp.th.len
    obtain ⟨b, o, BA, bn, bc, -, -, -, -, hB, -, -⟩ := hp.th.cell i (by omega)
    exact (hC i hi).2.2 (u_codeOf hcs hg.c16 (hct i hi) (numB_of hB))
  have hdl : ds.length = ln := by simpa using h.row.len
  refine (pnew_any d0.x d0.y d0.A d0.n d0.cap d0.l LA ln lc ds (Lay.words cs) w (isSt_own h.r1.row) hn0 hu0 (h.isCd hv) (by omega) (h.n (fun i hi => (hC i hi).2.1)) hus).mono ?_
  rintro e w' ⟨qt, C, G, sc, cds, t, rfl, hR, h1, h2, h3, h5, h6, h7, h8⟩
  obtain ⟨hX, hq⟩ := run_xx hr
  have hw := words_64 hg
  have hal : AlR cs (begA rb) (lnOf sc) := by
    have e : lnOf sc = ⟨flush (codeOf cs rb), freshV (varsOf rb : Nat), 0, false⟩ := by
      unfold lnOf
      rw [h1, h2, hrl, h.r1.x]
    rw [e]
    exact begA_al hcel hvr (ins_flush _)
  have htwo : Two (AlR cs) (ts.map fun t => begA t.2) (cds.map lnOf) := by
    have e : begunL ds = ds.map lnOf := by unfold begunL; rw [List.take_of_length_le (by omega)]
    rw [h3, e]
    refine two_of (by omega) (fun i hi => ?_)
    have hi' : i < ln := by omega
    have e : lnOf (ds.getD i zeroCd) = ⟨codes i, freshV (varsOf (ts.getD i zeroTh).2 : Nat), 0, false⟩ := by
      unfold lnOf
      rw [(h.ds i hi').l, (h.ds i hi').x]
    rw [e]
    exact begA_al (hct i hi') (hv i hi') (hC i hi').1
  refine ⟨qt, C, sc, cds, ⟨some (lnOf sc), [], zeros (Rm.words (Lay.words cs)), []⟩, (Lay.words cs).toNat, rfl, ⟨X, G, Rn.Run.keep hr h8, ⟨lnOf sc, false, begunL ds, t, hR, fun _ => ⟨rfl, rfl, h3.symm⟩, fun h => (by cases h)⟩, fun k hk => ⟨fun hx => ?_, fun hx => ?_⟩, fun k hk => Nat.le_trans hB (h6 k hk), Nat.le_trans hB h8.size⟩, alk_new hg hal (by omega), ⟨al_good hg (by omega), hal, htwo, h5, hg.t4, by omega⟩, h8⟩
  · have := h7 k hx; have := (hX k hk).2; omega
  · have := h6 k hx; have := (hX k hk).2; omega
end Go.Proofs.Ytapnnbbbgopobaa.Rq
