/-
  WALKS: the program's run of steps: a step; what is told of it.
-/
import Derived.Test.YtdhihmeknoofoaaPrgNew
namespace Go.Proofs.Ytdhihmeknoofoaa.Ph
set_option linter.unusedVariables false
set_option linter.unusedSimpArgs false
open Go.RowKit Cm Mm Ow Ow2 Me Stp StW Rm Sp Sd Sx Sr Pn Pa Pq Pr Pm
open ElM (Cd zeroCd cdL okCd IsCd)

/-- a run in the heap, by what it is -/
def RunM (w : World) (q : Nat) (C : Nat → Prop) (G : List Nat) (s : Cd) (cs : List Cd) (m : Mch Ln) : Prop :=
  ∃ rc sd tl t, RunQ w q C G s cs rc sd tl m.now m.out t ∧ (sd = false → m.rc = some rc ∧ m.l = [] ∧ tl = cs.map lnOf) ∧ (sd = true → m.rc = none ∧ m.l = tl)
/-- behind a step -/
def StepQ (w : World) (q : Nat) (C : Nat → Prop) (G : List Nat) (s : Cd) (cs : List Cd) (r : Nat × Mch Ln) (e : Ending) (w' : World) : Prop :=
  e = .returned (.bool (r.1 == 0)) ∧ w'.cell? ⟨q, 9, none⟩ = some (.bool (r.1 == 2)) ∧ Only G w w' ∧ (r.1 ≠ 2 → ∃ G', RunM w' q C G' s cs r.2 ∧ (∀ k ∈ G', k ∈ G ∨ w.heap.size ≤ k))
theorem StepQ.behind {w w1 w' : World} {q : Nat} {C : Nat → Prop} {G G1 : List Nat} {s : Cd} {cs : List Cd} {r : Nat × Mch Ln} {e : Ending} (h : StepQ w1 q C G1 s cs r e w') (ho : Only G w w1) (hG : ∀ k ∈ G1, k ∈ G ∨ w.heap.size ≤ k) : StepQ w q C G s cs r e w' := by
  obtain ⟨h1, h2, h3, h4⟩ := h
  refine ⟨h1, h2, ho.trans h3 hG, fun hr => ?_⟩
  obtain ⟨G2, k1, k2⟩ := h4 hr
  refine ⟨G2, k1, fun k hk => ?_⟩
  rcases k2 k hk with e | e
  · exact hG k e
  · exact .inr (Nat.le_trans ho.size e)
section
variable {w w' : World} {q : Nat} {C : Nat → Prop} {G : List Nat} {s : Cd} {cs : List Cd} {rc : Ln} {sd : Bool} {tl : List Ln} {now out : List Int} {t : Prq} {m : Mch Ln}
theorem stepq_core (h : RunQ w q C G s cs rc true tl now out t) {i : Nat} (hi : i < tl.length) {e : Ending} (hW : WentQ w q C t (t.us.getD i zeroU).1 (t.us.getD i zeroU).2 (goL tl[i] now out) e w') : StepQ w q C G s cs (coreM goL ⟨none, tl, now, out⟩ i) (.returned (.bool ((goL tl[i] now out).r == 0))) w' := by
  have e1 : coreM goL ⟨none, tl, now, out⟩ (i : Int) = ((goL tl[i] now out).r, ⟨none, tl.set i (goL tl[i] now out).ln, (goL tl[i] now out).now, (goL tl[i] now out).out⟩) := by
    unfold coreM
    rw [dif_pos (by dsimp only; omega)]
    rfl
  rw [e1]
  obtain ⟨k1, k2, k3⟩ := h.wentIll (fun k hk => h.gu i hi k hk) hW
  refine ⟨rfl, k2, k3, fun hr => ?_⟩
  obtain ⟨G', t', j1, j2, j3⟩ := h.wentLane hi hr hW
  exact ⟨G', ⟨rc, true, _, t', j1, fun h => (by cases h), fun _ => ⟨rfl, rfl⟩⟩, j2⟩
theorem stepq_none (h : RunQ w q C G s cs rc true tl now out t) {core : Int} (hc : ¬ (0 ≤ core ∧ core < tl.length)) : StepQ w q C G s cs (coreM goL ⟨none, tl, now, out⟩ core) (.returned (.bool false)) w := by
  have e1 : coreM goL ⟨none, tl, now, out⟩ core = (1, ⟨none, tl, now, out⟩) := by
    unfold coreM
    rw [dif_neg hc]
  rw [e1]
  refine ⟨rfl, ?_, Only.refl _ _, fun _ => ⟨G, ⟨rc, true, tl, t, h, fun h => (by cases h), fun _ => ⟨rfl, rfl⟩⟩, fun k hk => .inl hk⟩⟩
  have := h.foc.cs.2.2.2.2.2.2.2.2.2
  rw [h.ill] at this
  exact this
theorem RunQ.c6 (h : RunQ w q C G s cs rc sd tl now out t) : w.cell? ⟨q, 6, none⟩ = some t.H.rc := h.foc.cs.2.2.2.2.2.2.1
theorem RunQ.c8 (h : RunQ w q C G s cs rc sd tl now out t) : w.cell? ⟨q, 8, none⟩ = some (.bool sd) := by have := h.foc.cs.2.2.2.2.2.2.2.2.1; rw [h.hsd] at this; exact this
/-- a pointer in the row of those that run -/
theorem RunQ.at_th (h : RunQ w q C G s cs rc sd tl now out t) {i : Nat} (hi : i < tl.length) : ∃ g, t.LA = some ⟨g, 0, none⟩ ∧ w.cell? ⟨g, i, none⟩ = some (t.us.getD i zeroU).1 := by
  have hf : (t.us.map fun u => [u.1]).flatten = t.us.map (·.1) := by
    induction t.us with
    | nil => rfl
    | cons a l ih => simpa using ih
  have hr := h.lr.row
  rw [hf] at hr
  obtain ⟨g, c, e1, _⟩ := hr.form (by omega)
  injection e1 with e1
  refine ⟨g, e1, ?_⟩
  rw [e1] at hr
  have hu := h.ul
  have := hr.cellAt i (by simp; omega)
  rw [this]
  simp [List.getD, show i < t.us.length by omega]
end
set_option maxRecDepth 200000 in
set_option maxHeartbeats 12800000 in
theorem pstep_any {w : World} {q : Nat} {C : Nat → Prop} {G : List Nat} {s : Cd} {cs : List Cd} {m : Mch Ln} (h : RunM w q C G s cs m) (core : Int) (hout : m.out.length ≤ 1000000) :
    Calls Try.prog 50 #[.pointer (some ⟨q, 0, none⟩), .int .i64 core] w (StepQ w q C G s cs (stepM goL (cs.map lnOf) m core)) := by
  obtain ⟨rc, sd, tl, t, hR, hf, ht⟩ := h
  obtain ⟨mr, ml, now, out⟩ := m
  dsimp only at hR hf ht hout
  have z6 := hR.c6
  have z8 := hR.c8
  have HH := Lib.hid hR
  clear hR
  cases sd with
  | true =>
    obtain ⟨rfl, rfl⟩ := ht rfl
    have HP : Hid (∀ e w', StepQ w q C G s cs (coreM goL ⟨none, ml, now, out⟩ core) e w' → StepQ w q C G s cs (stepM goL (cs.map lnOf) ⟨none, ml, now, out⟩ core) e w') := Lib.hid (fun _ _ h => h)
    generalize stepM goL (cs.map lnOf) ⟨none, ml, now, out⟩ core = r at *
    clear hf ht
    go_enter Try.func50, Try.ntmps50
    have z7 := HH.out.c7
    have zl := HH.out.lmax
    by_cases c0 : core < 0
    · have SN := Lib.hid (stepq_none HH.out (core := core) (by omega))
      have d0 : decide (0 ≤ core) = false := decide_eq_false (by omega)
      go_wp2_with fail
      go_ret
      exact HP.out _ _ SN.out
    · have d0 : decide (0 ≤ core) = true := decide_eq_true (by omega)
      by_cases c1 : (ml.length : Int) ≤ core
      · have SN := Lib.hid (stepq_none HH.out (core := core) (by omega))
        have d1 : decide (core < (ml.length : Int)) = false := decide_eq_false (by omega)
        go_wp2_with fail
        go_ret
        exact HP.out _ _ SN.out
      · obtain ⟨i, rfl⟩ := Int.eq_ofNat_of_zero_le (show 0 ≤ core by omega)
        have hi : i < ml.length := by omega
        have d1 : decide ((i : Int) < (ml.length : Int)) = true := decide_eq_true (by omega)
        have d2 : (i : Int) < (ml.length : Int) := by omega
        obtain ⟨g, hLA, zc⟩ := HH.out.at_th hi
        rw [hLA] at z7
        go_wp2_with fail
        refine (wentq_any HH.out (HH.out.ll i hi) (fun k hk => HH.out.gu i hi k hk) (fun hm => by have := HH.out.lu i hi _ hm; have := HH.out.lq; omega) (fun k hk hm => by have := HH.out.lu i hi _ hm; have := HH.out.lm k hk; omega) (fun k hk hm => by have := HH.out.lu i hi _ hm; have := HH.out.lo k hk; omega) hout).mono ?_
        intro e w2 hW
        have SC := Lib.hid (HP.out _ _ (stepq_core HH.out hi hW))
        obtain ⟨k1, -, -⟩ := HH.out.wentIll (fun k hk => HH.out.gu i hi k hk) hW
        subst k1
        clear hW
        rcases goL_r ml[i] now out with hx | hx | hx
        all_goals
          rw [hx] at SC ⊢
          clear hx
          go_wp2_with fail
          go_ret
          exact SC.out
  | false =>
    obtain ⟨rfl, rfl, rfl⟩ := hf rfl
    have hrc := HH.out.rc
    obtain ⟨p, hp, -, -⟩ := hrc.st w
    rw [hp] at z6
    have WA := Lib.hid (wentq_any HH.out hrc HH.out.gf (fun hm => by have := HH.out.lf _ hm; have := HH.out.lq; omega) (fun k hk hm => by have := HH.out.lf _ hm; have := HH.out.lm k hk; omega) (fun k hk hm => by have := HH.out.lf _ hm; have := HH.out.lo k hk; omega) hout)
    rw [hp] at WA
    obtain ⟨r, hr⟩ : ∃ r, stepM goL (cs.map lnOf) ⟨some rc, [], now, out⟩ core = r := ⟨_, rfl⟩
    have HQ := Lib.hid hr
    rw [hr]
    clear hr hf ht hrc
    go_enter Try.func50, Try.ntmps50
    go_wp2_with fail
    refine WA.out.mono ?_
    intro e w2 hW
    rw [← hp] at hW
    have hW0 := Lib.hid hW
    obtain ⟨k1, k2, k3⟩ := HH.out.wentIll HH.out.gf hW
    subst k1
    have K2 := Lib.hid k2
    have K3 := Lib.hid k3
    clear k2 k3 hW
    rcases goL_r rc now out with hx | hx | hx
    · have SN := Lib.hid (show StepQ w q C G s cs r (.returned (.bool true)) w2 from by
        rw [← HQ.out, Sr.step_some (by rw [hx]; decide)]
        refine ⟨by rw [hx]; rfl, K2.out, K3.out, fun _ => ?_⟩
        obtain ⟨G', t', j1, j2, j3⟩ := HH.out.wentRec (by rw [hx]; decide) hW0.out
        exact ⟨G', ⟨_, false, _, t', j1, fun _ => ⟨rfl, rfl, rfl⟩, fun h => (by cases h)⟩, j2⟩)
      rw [hx]
      have HX := Lib.hid hx
      clear hx
      go_wp2_with fail
      go_ret
      exact SN.out
    · obtain ⟨G1, t1, R1, hG1, ho1⟩ := HH.out.wentRec (by rw [hx]; decide) hW0.out
      obtain ⟨e3, e4⟩ := goL_same (a := rc) (now := now) (out := out) (by rw [hx]; decide)
      rw [e3, e4] at R1
      have K4 := R1.started
      have z82 := R1.c8
      have fq := R1.foc.free'
      obtain ⟨W8, hW8⟩ : ∃ W8, w2.setCell ⟨q, 8, none⟩ (.bool true) = W8 := ⟨_, rfl⟩
      rw [hW8] at K4
      have K5 : Hid (KeptQ w q C G s cs (goL rc now out).ln true (cs.map lnOf) now out W8) := Lib.hid (KeptQ.seq ⟨G1, t1, R1, hG1, ho1, K4⟩)
      have H8 := Lib.hid hW8
      rw [hx]
      have HX := Lib.hid hx
      clear K4 R1 hG1 ho1 e3 e4 hx hW0 WA K2 K3 hW8
      obtain ⟨G2, t2, R2, hG2, ho2⟩ := K5.out
      have HR := Lib.hid R2
      have HG := Lib.hid hG2
      have HO := Lib.hid ho2
      have HP : Hid (∀ e w', StepQ W8 q C G2 s cs (coreM goL ⟨none, cs.map lnOf, now, out⟩ core) e w' → StepQ w q C G s cs r e w') := Lib.hid (fun e w' h => by
        rw [← HQ.out, Sr.step_end HX.out]
        exact h.behind HO.out HG.out)
      clear R2 hG2 ho2 K5 HQ
      generalize cs.map lnOf = bl at *
      go_upto_region 8 with (fail)
      rw [H8.out]
      clear z82 fq H8 z6 z8
      have z7 := HR.out.c7
      have zl := HR.out.lmax
      by_cases c0 : core < 0
      · have SN := Lib.hid (stepq_none HR.out (core := core) (by omega))
        have d0 : decide (0 ≤ core) = false := decide_eq_false (by omega)
        go_wp2_with fail
        go_ret
        exact HP.out _ _ SN.out
      · have d0 : decide (0 ≤ core) = true := decide_eq_true (by omega)
        by_cases c1 : (bl.length : Int) ≤ core
        · have SN := Lib.hid (stepq_none HR.out (core := core) (by omega))
          have d1 : decide (core < (bl.length : Int)) = false := decide_eq_false (by omega)
          go_wp2_with fail
          go_ret
          exact HP.out _ _ SN.out
        · obtain ⟨i, rfl⟩ := Int.eq_ofNat_of_zero_le (show 0 ≤ core by omega)
          have hi : i < bl.length := by omega
          have d1 : decide ((i : Int) < (bl.length : Int)) = true := decide_eq_true (by omega)
          have d2 : (i : Int) < (bl.length : Int) := by omega
          obtain ⟨g, hLA, zc⟩ := HR.out.at_th hi
          rw [hLA] at z7
          go_wp2_with fail
          refine (wentq_any HR.out (HR.out.ll i hi) (fun k hk => HR.out.gu i hi k hk) (fun hm => by have := HR.out.lu i hi _ hm; have := HR.out.lq; omega) (fun k hk hm => by have := HR.out.lu i hi _ hm; have := HR.out.lm k hk; omega) (fun k hk hm => by have := HR.out.lu i hi _ hm; have := HR.out.lo k hk; omega) hout).mono ?_
          intro e w2 hW
          have SC := Lib.hid (HP.out _ _ (stepq_core HR.out hi hW))
          obtain ⟨k1, -, -⟩ := HR.out.wentIll (fun k hk => HR.out.gu i hi k hk) hW
          subst k1
          clear hW
          rcases goL_r bl[i] now out with hx | hx | hx
          all_goals
            rw [hx] at SC ⊢
            clear hx
            go_wp2_with fail
            go_ret
            exact SC.out
    · have SN := Lib.hid (show StepQ w q C G s cs r (.returned (.bool false)) w2 from by
        rw [← HQ.out, Sr.step_some (by rw [hx]; decide)]
        exact ⟨by rw [hx]; rfl, K2.out, K3.out, fun h => absurd hx h⟩)
      rw [hx]
      have HX := Lib.hid hx
      clear hx
      go_wp2_with fail
      go_ret
      exact SN.out
end Go.Proofs.Ytdhihmeknoofoaa.Ph
