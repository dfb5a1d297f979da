/-
  WALK: the run of steps: a step of a run.
-/
import Derived.Test.YtdhihmeknoofoaaStmKept
import Derived.Test.YtdhihmeknoofoaaHeld2
namespace Go.Proofs.Ytdhihmeknoofoaa.Sr
set_option linter.unusedVariables false
set_option linter.unusedSimpArgs false
open Go.RowKit Cm Mm Ow Ow2 Me Stp StW Rm Sp Sn Sa Sc Sg Sd Sx
open ElM (Cd zeroCd cdL okCd IsCd)

/-- behind a step of a run -/
def Stepped (w : World) (q : Nat) (B : Nat → Prop) (G : List Nat) (s : Cd) (cs : List Cd) (r : Nat × Mch Ln) (e : Ending) (w' : World) : Prop :=
  e = .returned (.bool (r.1 == 0)) ∧ w'.cell? ⟨q, 8, none⟩ = some (.bool (r.1 == 2)) ∧ Only G w w' ∧ (r.1 ≠ 2 → Kept w q B G s cs r.2 w')
theorem Stepped.behind {w w1 w' : World} {q : Nat} {B : Nat → Prop} {G G1 : List Nat} {s : Cd} {cs : List Cd} {r : Nat × Mch Ln} {e : Ending} (h : Stepped w1 q B G1 s cs r e w') (ho : Only G w w1) (hG : ∀ k ∈ G1, k ∈ G ∨ w.heap.size ≤ k) : Stepped w q B G s cs r e w' := by
  obtain ⟨h1, h2, h3, h4⟩ := h
  refine ⟨h1, h2, ho.trans h3 hG, fun hr => ?_⟩
  obtain ⟨G2, t2, k1, k2, k3⟩ := h4 hr
  refine ⟨G2, t2, k1, fun k hk => ?_, ho.trans h3 hG⟩
  rcases k2 k hk with e | e
  · exact hG k e
  · exact .inr (Nat.le_trans ho.size e)
section
variable {w w' : World} {q : Nat} {B : Nat → Prop} {G : List Nat} {s : Cd} {cs : List Cd} {m : Mch Ln} {t : Prt}
theorem stepped_core {l : List Ln} {now out : List Int} (h : RunP w q B G s cs ⟨none, l, now, out⟩ t) {i : Nat} (hi : i < l.length) {e : Ending} (hW : Went w q B t (t.us.getD i zeroU).1 (t.us.getD i zeroU).2 (goL l[i] now out) e w') : Stepped w q B G s cs (coreM goL ⟨none, l, now, out⟩ i) e w' := by
  have e1 : coreM goL ⟨none, l, now, out⟩ (i : Int) = ((goL l[i] now out).r, ⟨none, l.set i (goL l[i] now out).ln, (goL l[i] now out).now, (goL l[i] now out).out⟩) := by
    unfold coreM
    rw [dif_pos (by dsimp only; omega)]
    rfl
  rw [e1]
  obtain ⟨k1, k2, k3⟩ := h.wentIll (fun k hk => h.gu i hi k hk) hW
  exact ⟨k1, k2, k3, fun hr => by
    obtain ⟨G', t', j1, j2, j3⟩ := h.wentLane hi hr hW
    exact ⟨G', t', j1, j2, j3⟩⟩
theorem stepped_none {l : List Ln} {now out : List Int} (h : RunP w q B G s cs ⟨none, l, now, out⟩ t) {core : Int} (hc : ¬ (0 ≤ core ∧ core < l.length)) {w' : World} (hb : Below w.heap.size w w') : Stepped w q B G s cs (coreM goL ⟨none, l, now, out⟩ core) (.returned (.bool false)) w' := by
  have e1 : coreM goL ⟨none, l, now, out⟩ core = (1, ⟨none, l, now, out⟩) := by
    unfold coreM
    rw [dif_neg hc]
  rw [e1]
  have h' := h.keep hb
  refine ⟨rfl, ?_, Only.of_below hb, fun _ => ⟨G, t, h', fun k hk => .inl hk, Only.of_below hb⟩⟩
  have := h'.foc.c8
  rw [h.ill] at this
  exact this
theorem RunP.c3 (h : RunP w q B G s cs m t) : w.cell? ⟨q, 3, none⟩ = some (.slice t.CA cs.length t.cc) := by have := (foc_c0 h.foc).2.2.2; rw [h.h3] at this; exact this
theorem RunP.c7 (h : RunP w q B G s cs m t) : w.cell? ⟨q, 7, none⟩ = some (.slice t.LA m.l.length t.lc) := by have := h.foc.c7; rw [h.hl] at this; exact this
theorem RunP.c6 (h : RunP w q B G s cs m t) : w.cell? ⟨q, 6, none⟩ = some t.H.rc := h.foc.c6
/-- a lane's pointer in the row of lanes -/
theorem RunP.at_lane (h : RunP w q B G s cs m t) {i : Nat} (hi : i < m.l.length) : ∃ g, t.LA = some ⟨g, 0, none⟩ ∧ w.cell? ⟨g, i, none⟩ = some (t.us.getD i zeroU).1 := by
  have hf : (t.us.map fun u => [u.1]).flatten = t.us.map (·.1) := by
    induction t.us with
    | nil => rfl
    | cons a l ih => simpa using ih
  have hr := h.lr.row
  rw [hf] at hr
  obtain ⟨g, c, e1, _⟩ := hr.form (by omega)
  injection e1 with e1
  refine ⟨g, e1, ?_⟩
  rw [e1] at hr
  have hu := h.ul
  have := hr.cellAt i (by simp; omega)
  rw [this]
  simp [List.getD, show i < t.us.length by omega]
theorem RunP.lmax (h : RunP w q B G s cs m t) : m.l.length ≤ t.lc ∧ t.lc ≤ maxLen := ⟨h.lr.sl.le, h.lr.sl.cap_le⟩
end

theorem goV_r (c : List St) : ∀ (k : Nat) (p : Ps), (goV c k p).1 ≤ 2
  | 0, p => by unfold goV; split <;> simp
  | k + 1, p => by
    rw [goV]
    split
    · simp
    · split
      · simp
      · exact goV_r c k _
theorem goL_r (a : Ln) (now out : List Int) : (goL a now out).r = 0 ∨ (goL a now out).r = 1 ∨ (goL a now out).r = 2 := by
  have := goV_r a.c 20000 ⟨a.at_, a.v, now, out⟩
  have e : (goL a now out).r = (goV a.c 20000 ⟨a.at_, a.v, now, out⟩).1 := rfl
  omega
theorem step_some {beg l : List Ln} {a : Ln} {now out : List Int} {core : Int} (h : (goL a now out).r ≠ 1) : stepM goL beg ⟨some a, l, now, out⟩ core = ((goL a now out).r, ⟨some (goL a now out).ln, l, (goL a now out).now, (goL a now out).out⟩) := by
  unfold stepM; dsimp only; rw [if_neg h]
theorem step_end {beg l : List Ln} {a : Ln} {now out : List Int} {core : Int} (h : (goL a now out).r = 1) : stepM goL beg ⟨some a, l, now, out⟩ core = coreM goL ⟨none, beg, now, out⟩ core := by
  unfold stepM; dsimp only; rw [if_pos h]
  obtain ⟨e1, e2⟩ := goL_same (a := a) (now := now) (out := out) (by rw [h]; decide)
  rw [e1, e2]
theorem begun_take {cs : List Cd} {k : Nat} (h : k ≤ 4) (h2 : k ≤ cs.length) (h3 : ¬ k < cs.length ∨ ¬ k < 4) : (cs.take k).map lnOf = begunL cs := by
  unfold begunL
  by_cases e : k = 4
  · rw [e]
  · rw [List.take_of_length_le (by omega : cs.length ≤ k), List.take_of_length_le (by omega : cs.length ≤ 4)]
theorem begun_snoc {cs : List Cd} {k : Nat} (h : k < cs.length) : (cs.take (k + 1)).map lnOf = (cs.take k).map lnOf ++ [lnOf (cs.getD k zeroCd)] := by
  rw [List.take_add_one, List.map_append]; simp only [List.getD, List.getElem?_eq_getElem h, Option.toList_some, List.map_cons, List.map_nil, Option.getD_some]
set_option maxRecDepth 200000 in
set_option maxHeartbeats 12800000 in
theorem step_any {w : World} {q : Nat} {B : Nat → Prop} {G : List Nat} {s : Cd} {cs : List Cd} {m : Mch Ln} {t : Prt} (h : RunP w q B G s cs m t) (hnil : ∀ a, m.rc = some a → m.l = []) (core : Int) (hlen : cs.length ≤ 65536) (hout : m.out.length ≤ 1000000) :
    Calls Try.prog 24 #[.pointer (some ⟨q, 0, none⟩), .int .i64 core] w (Stepped w q B G s cs (stepM goL (begunL cs) m core)) := by
  obtain ⟨rc, l, now, out⟩ := m
  cases rc with
  | none =>
    have HP : Hid (∀ e w', Stepped w q B G s cs (coreM goL ⟨none, l, now, out⟩ core) e w' → Stepped w q B G s cs (stepM goL (begunL cs) ⟨none, l, now, out⟩ core) e w') := Lib.hid (fun _ _ h => h)
    have z6 := h.c6
    have hrc : t.H.rc = .pointer none := h.rc.1
    rw [hrc] at z6
    have HH := Lib.hid h
    clear h hnil
    generalize stepM goL (begunL cs) ⟨none, l, now, out⟩ core = r at *
    go_enter Try.func24, Try.ntmps24

    have z7 := HH.out.c7
    have zl := HH.out.lmax
    have zq := HH.out.foc.qlt
    dsimp only at z7 zl
    by_cases c0 : core < 0
    · have SN := Lib.hid (stepped_none HH.out (core := core) (by omega) (Below.refl _ _))
      have d0 : decide (core < 0) = true := decide_eq_true c0
      go_wp2_with fail
      go_ret
      exact HP.out _ _ SN.out
    · have d0 : decide (core < 0) = false := decide_eq_false c0
      by_cases c1 : (l.length : Int) ≤ core
      · have SN := Lib.hid (stepped_none HH.out (core := core) (by omega) (Below.refl _ _))
        have d1 : decide ((l.length : Int) ≤ core) = true := decide_eq_true c1
        go_wp2_with fail
        go_ret
        exact HP.out _ _ SN.out
      · obtain ⟨i, rfl⟩ := Int.eq_ofNat_of_zero_le (show 0 ≤ core by omega)
        have hi : i < l.length := by omega
        have d1 : decide ((l.length : Int) ≤ (i : Int)) = false := decide_eq_false c1
        obtain ⟨g, hLA, zc⟩ := HH.out.at_lane hi
        rw [hLA] at z7
        go_wp2_with fail
        refine (went_any HH.out (HH.out.ll i hi) (fun k hk => HH.out.gu i hi k hk) (fun hm => by have := HH.out.lu i hi _ hm; have := HH.out.lq; omega) (fun k hk hm => by have := HH.out.lu i hi _ hm; have := HH.out.lm k hk; omega) (fun k hk hm => by have := HH.out.lu i hi _ hm; have := HH.out.lo k hk; omega) hout).mono ?_
        intro e w2 hW
        have SC := Lib.hid (HP.out _ _ (stepped_core HH.out hi hW))
        obtain ⟨k1, -, -⟩ := HH.out.wentIll (fun k hk => HH.out.gu i hi k hk) hW
        subst k1
        clear hW
        go_wp2_with fail
        go_ret
        exact SC.out
  | some a =>
    obtain rfl : l = [] := hnil a rfl
    have hrc : LnW w B t.H.rc t.Fr a := h.rc
    obtain ⟨p, hp⟩ : ∃ p, t.H.rc = .pointer (some ⟨p, 0, none⟩) := by obtain ⟨p, _, _, _, _, _, _, _, _, e, _⟩ := hrc; exact ⟨p, e⟩
    have z6 := h.c6
    rw [hp] at z6
    have HH := Lib.hid h
    have WA := Lib.hid (went_any h hrc h.gf (fun hm => by have := h.lf _ hm; have := h.lq; omega) (fun k hk hm => by have := h.lf _ hm; have := h.lm k hk; omega) (fun k hk hm => by have := h.lf _ hm; have := h.lo k hk; omega) hout)
    rw [hp] at WA
    clear h hnil hrc
    obtain ⟨r, hr⟩ : ∃ r, stepM goL (begunL cs) ⟨some a, [], now, out⟩ core = r := ⟨_, rfl⟩
    have HQ := Lib.hid hr
    rw [hr]
    clear hr
    go_enter Try.func24, Try.ntmps24
    go_wp2_with fail
    refine WA.out.mono ?_
    intro e w2 hW
    rw [← hp] at hW
    have hW0 := Lib.hid hW
    obtain ⟨k1, k2, k3⟩ := HH.out.wentIll HH.out.gf hW
    subst k1
    obtain ⟨_, _, _, _, _, _, F1, ⟨p', e1, _, z5⟩, _⟩ := hW
    have z62 := F1.c6
    rw [show ({ t.H with ill := t.H.ill || ((goL a now out).r == 2) } : Hm).rc = t.H.rc from rfl, hp] at z62
    rw [hp] at e1
    injection e1 with e1
    injection e1 with e1
    injection e1 with e1
    subst e1
    have fq6 := F1.free 6
    have K2 := Lib.hid k2
    have K3 := Lib.hid k3
    clear F1 k2 k3
    rcases goL_r a now out with hx | hx | hx
    · have SN := Lib.hid (show Stepped w q B G s cs r (.returned (.bool true)) w2 from by
        rw [← HQ.out, step_some (by rw [hx]; decide)]
        exact ⟨by rw [hx]; rfl, K2.out, K3.out, fun _ => by
          obtain ⟨G', t', j1, j2, j3⟩ := HH.out.wentRec rfl (by rw [hx]; decide) hW0.out
          exact ⟨G', t', j1, j2, j3⟩⟩)
      rw [hx]
      have HX := Lib.hid hx
      clear hx
      rw [HX.out] at z5
      go_wp2_with fail
      go_ret
      exact SN.out
    · obtain ⟨G1, t1, R1, hG1, ho1⟩ := HH.out.wentRec rfl (by rw [hx]; decide) hW0.out
      obtain ⟨e3, e4⟩ := goL_same (a := a) (now := now) (out := out) (by rw [hx]; decide)
      rw [e3, e4] at R1
      have K4 := R1.gone
      have HP : Hid (∀ w3 G3 t3 e w', RunP w3 q B G3 s cs ⟨none, begunL cs, now, out⟩ t3 → (∀ k ∈ G3, k ∈ G ∨ w.heap.size ≤ k) → Only G w w3 → Stepped w3 q B G3 s cs (coreM goL ⟨none, begunL cs, now, out⟩ core) e w' → Stepped w q B G s cs r e w') := Lib.hid (fun w3 G3 t3 e w' h1 h2 h3 h4 => by
        rw [← HQ.out, step_end hx]
        exact h4.behind h3 h2)
      have K5 : Hid (Kept w q B G s cs ⟨none, [], now, out⟩ (w2.setCell ⟨q, 6, none⟩ (.pointer none))) := Lib.hid (Kept.seq ⟨G1, t1, R1, hG1, ho1, K4⟩)
      rw [hx] at z5
      rw [hx]
      clear K4 R1 hG1 ho1 e3 e4 hx HQ hW0 WA K2 K3
      go_wp2_with fail
      go_loopw [5] (fun i wr => ∃ (k : Nat), i = .int .i64 k ∧ k ≤ 4 ∧ k ≤ cs.length ∧ Kept w q B G s cs ⟨none, (cs.take k).map lnOf, now, out⟩ wr) (fun i _ => 4 - (intOf i).toNat)
      case atStart => exact ⟨0, rfl, by omega, by omega, K5.out⟩
      case round =>
        obtain ⟨k, rfl, hk4, hkn, G1, t1, R1, hG1, ho1⟩ := hrel
        have RR := Lib.hid R1
        have HG := Lib.hid hG1
        have HO := Lib.hid ho1
        have z3 := R1.c3
        have hcc := R1.codes.2.1.le
        have hcc2 := R1.codes.2.1.cap_le
        clear R1 hG1 ho1
        by_cases hc : k < cs.length
        · by_cases hc4 : k < 4
          · obtain ⟨b, o, hCA, hb, s0, s1, s2, hx, hy, hI⟩ := RR.out.codes.cell (k := k) hc
            have CO := Lib.hid (RR.out.cod k hc)
            have BS := Lib.hid (begun_snoc hc)
            rw [hCA] at z3
            generalize cs.getD k zeroCd = cd at *
            obtain ⟨x, y, A, n, cap, c⟩ := cd
            have z7 := RR.out.c7
            have zl := RR.out.lmax
            have e1 : ((cs.take k).map lnOf).length = k := by simp; omega
            dsimp only at z7 zl
            rw [e1] at z7 zl
            have d0 : decide ((k : Int) < (cs.length : Int)) = true := decide_eq_true (by omega)
            have d1 : decide ((k : Int) < 4) = true := decide_eq_true (by omega)
            have d2 : (k : Int) < (cs.length : Int) := by omega
            have FQ := Lib.hid RR.out.foc
            clear hx hy hI
            dsimp only at s0 s1 s2
            go_wp2_with fail
            refine Hd.start 15 (fun w' => w'.cell? ⟨q, 7, none⟩ = some (.slice t1.LA k t1.lc) ∧ w'.cell? ⟨q, 3, none⟩ = some (.slice (some ⟨b, o, none⟩) cs.length t1.cc) ∧ w'.cell? ⟨b, o + k * 3, none⟩ = some (.int .i64 x) ∧ w'.cell? ⟨b, o + k * 3 + 1, none⟩ = some (.int .i64 y) ∧ w'.cell? ⟨b, o + k * 3 + 2, none⟩ = some (.slice A n cap)) (by kernel_rfl) ?_
            have SA : wr.drew.cell? ⟨q, 7, none⟩ = some (.slice t1.LA k t1.lc) ∧ wr.drew.cell? ⟨q, 3, none⟩ = some (.slice (some ⟨b, o, none⟩) cs.length t1.cc) ∧ wr.drew.cell? ⟨b, o + k * 3, none⟩ = some (.int .i64 x) ∧ wr.drew.cell? ⟨b, o + k * 3 + 1, none⟩ = some (.int .i64 y) ∧ wr.drew.cell? ⟨b, o + k * 3 + 2, none⟩ = some (.slice A n cap) := ⟨z7, z3, s0, s1, s2⟩
            refine Hd.take (i := 0) (v := ?v1) rfl (by decide +kernel) (by decide +kernel) (fun _ _ _ h => h) rfl ?hy1 SA ?rest1
            case hy1 =>
              intro wq hSw
              obtain ⟨t7, t3, x0, x1, x2⟩ := hSw
              go_simp
              try with_reducible rfl
            try simp only [Act.put, List.setIfInBounds_toArray, List.set_cons_zero, List.set_cons_succ]
            refine Hd.take (i := 1) (v := ?v2) rfl (by decide +kernel) (by decide +kernel) (fun _ _ _ h => h) rfl ?hy2 SA ?rest2
            case hy2 =>
              intro wq hSw
              obtain ⟨t7, t3, x0, x1, x2⟩ := hSw
              go_simp
              try with_reducible rfl
            try simp only [Act.put, List.setIfInBounds_toArray, List.set_cons_zero, List.set_cons_succ]
            refine Hd.take (i := 2) (v := ?v3) rfl (by decide +kernel) (by decide +kernel) (fun _ _ _ h => h) rfl ?hy3 SA ?rest3
            case hy3 =>
              intro wq hSw
              obtain ⟨t7, t3, x0, x1, x2⟩ := hSw
              go_simp
              try with_reducible rfl
            try simp only [Act.put, List.setIfInBounds_toArray, List.set_cons_zero, List.set_cons_succ]
            refine Hd.take (i := 3) (v := ?v4) rfl (by decide +kernel) (by decide +kernel) (fun _ _ _ h => h) rfl ?hy4 SA ?rest4
            case hy4 =>
              intro wq hSw
              obtain ⟨t7, t3, x0, x1, x2⟩ := hSw
              go_simp
              try with_reducible rfl
            try simp only [Act.put, List.setIfInBounds_toArray, List.set_cons_zero, List.set_cons_succ]
            refine Hd.take (i := 4) (v := ?v5) rfl (by decide +kernel) (by decide +kernel) (fun _ _ _ h => h) rfl ?hy5 SA ?rest5
            case hy5 =>
              intro wq hSw
              obtain ⟨t7, t3, x0, x1, x2⟩ := hSw
              go_simp
              try with_reducible rfl
            try simp only [Act.put, List.setIfInBounds_toArray, List.set_cons_zero, List.set_cons_succ]
            refine Hd.take (i := 5) (v := ?v6) rfl (by decide +kernel) (by decide +kernel) (fun _ _ _ h => h) rfl ?hy6 SA ?rest6
            case hy6 =>
              intro wq hSw
              obtain ⟨t7, t3, x0, x1, x2⟩ := hSw
              go_simp
              try with_reducible rfl
            try simp only [Act.put, List.setIfInBounds_toArray, List.set_cons_zero, List.set_cons_succ]
            refine Hd.take (i := 6) (v := ?v7) rfl (by decide +kernel) (by decide +kernel) (fun _ _ _ h => h) rfl ?hy7 SA ?rest7
            case hy7 =>
              intro wq hSw
              obtain ⟨t7, t3, x0, x1, x2⟩ := hSw
              go_simp
              try with_reducible rfl
            try simp only [Act.put, List.setIfInBounds_toArray, List.set_cons_zero, List.set_cons_succ]
            refine Hd.take (i := 7) (v := ?v8) rfl (by decide +kernel) (by decide +kernel) (fun _ _ _ h => h) rfl ?hy8 SA ?rest8
            case hy8 =>
              intro wq hSw
              obtain ⟨t7, t3, x0, x1, x2⟩ := hSw
              go_simp
              try with_reducible rfl
            try simp only [Act.put, List.setIfInBounds_toArray, List.set_cons_zero, List.set_cons_succ]
            refine Hd.take (i := 8) (v := ?v9) rfl (by decide +kernel) (by decide +kernel) (fun _ _ _ h => h) rfl ?hy9 SA ?rest9
            case hy9 =>
              intro wq hSw
              obtain ⟨t7, t3, x0, x1, x2⟩ := hSw
              go_simp
              try with_reducible rfl
            try simp only [Act.put, List.setIfInBounds_toArray, List.set_cons_zero, List.set_cons_succ]
            refine Hd.take (i := 9) (v := ?v10) rfl (by decide +kernel) (by decide +kernel) (fun _ _ _ h => h) rfl ?hy10 SA ?rest10
            case hy10 =>
              intro wq hSw
              obtain ⟨t7, t3, x0, x1, x2⟩ := hSw
              go_simp
              try with_reducible rfl
            try simp only [Act.put, List.setIfInBounds_toArray, List.set_cons_zero, List.set_cons_succ]
            refine Hd.take (i := 10) (v := ?v11) rfl (by decide +kernel) (by decide +kernel) (fun _ _ _ h => h) rfl ?hy11 SA ?rest11
            case hy11 =>
              intro wq hSw
              obtain ⟨t7, t3, x0, x1, x2⟩ := hSw
              go_simp
              try with_reducible rfl
            try simp only [Act.put, List.setIfInBounds_toArray, List.set_cons_zero, List.set_cons_succ]
            refine Hd.take (i := 11) (v := ?v12) rfl (by decide +kernel) (by decide +kernel) (fun _ _ _ h => h) rfl ?hy12 SA ?rest12
            case hy12 =>
              intro wq hSw
              obtain ⟨t7, t3, x0, x1, x2⟩ := hSw
              go_simp
              try with_reducible rfl
            try simp only [Act.put, List.setIfInBounds_toArray, List.set_cons_zero, List.set_cons_succ]
            refine Hd.one (i := 12) rfl (by kernel_rfl) rfl (fun K hK => ?_)
            go_simp
            refine (laid_any x y A n cap wr.drew).mono ?_
            rintro e w6 ⟨p2, Fl, V, cv, rfl, hL6, hFl6, hb6⟩
            have SB : w6.cell? ⟨q, 7, none⟩ = some (.slice t1.LA k t1.lc) ∧ w6.cell? ⟨q, 3, none⟩ = some (.slice (some ⟨b, o, none⟩) cs.length t1.cc) ∧ w6.cell? ⟨b, o + k * 3, none⟩ = some (.int .i64 x) ∧ w6.cell? ⟨b, o + k * 3 + 1, none⟩ = some (.int .i64 y) ∧ w6.cell? ⟨b, o + k * 3 + 2, none⟩ = some (.slice A n cap) := ⟨(hb6.cell (p := ⟨q, 7, none⟩) FQ.out.qlt).trans SA.1, (hb6.cell (p := ⟨q, 3, none⟩) FQ.out.qlt).trans SA.2.1, (hb6.cell (p := ⟨b, o + k * 3, none⟩) hb).trans SA.2.2.1, (hb6.cell (p := ⟨b, o + k * 3 + 1, none⟩) hb).trans SA.2.2.2.1, (hb6.cell (p := ⟨b, o + k * 3 + 2, none⟩) hb).trans SA.2.2.2.2⟩
            have hsz6 := hb6.size
            have hq6 : q < w6.heap.size := Nat.lt_of_lt_of_le FQ.out.qlt hsz6
            have hb62 : b < w6.heap.size := Nat.lt_of_lt_of_le hb hsz6
            refine hK _ _ (fun _ => SB) ?_
            clear hK K
            try simp only [Act.put, List.setIfInBounds_toArray, List.set_cons_zero, List.set_cons_succ]
            refine Hd.one (i := 13) rfl (by kernel_rfl) rfl (fun K hK => ?_)
            go_simp
            have SC : (w6.alloc (.cells #[.pointer (some ⟨p2, 0, none⟩)] 82)).cell? ⟨q, 7, none⟩ = some (.slice t1.LA k t1.lc) ∧ (w6.alloc (.cells #[.pointer (some ⟨p2, 0, none⟩)] 82)).cell? ⟨q, 3, none⟩ = some (.slice (some ⟨b, o, none⟩) cs.length t1.cc) ∧ (w6.alloc (.cells #[.pointer (some ⟨p2, 0, none⟩)] 82)).cell? ⟨b, o + k * 3, none⟩ = some (.int .i64 x) ∧ (w6.alloc (.cells #[.pointer (some ⟨p2, 0, none⟩)] 82)).cell? ⟨b, o + k * 3 + 1, none⟩ = some (.int .i64 y) ∧ (w6.alloc (.cells #[.pointer (some ⟨p2, 0, none⟩)] 82)).cell? ⟨b, o + k * 3 + 2, none⟩ = some (.slice A n cap) := ⟨(World.cell?_alloc_lt _ _ _ hq6).trans SB.1, (World.cell?_alloc_lt _ _ _ hq6).trans SB.2.1, (World.cell?_alloc_lt _ _ _ hb62).trans SB.2.2.1, (World.cell?_alloc_lt _ _ _ hb62).trans SB.2.2.2.1, (World.cell?_alloc_lt _ _ _ hb62).trans SB.2.2.2.2⟩
            refine hK _ _ (fun _ => SC) ?_
            clear hK K
            try simp only [Act.put, List.setIfInBounds_toArray, List.set_cons_zero, List.set_cons_succ]
            refine Hd.one (i := 14) rfl (by kernel_rfl) rfl (fun K hK => ?_)
            have BW3 : Hid (Below wr.heap.size wr (w6.alloc (.cells #[.pointer (some ⟨p2, 0, none⟩)] 82))) := Lib.hid (((below_drawn wr 1).trans hb6).alloc hsz6 _)
            have hsl : Sl (w6.alloc (.cells #[.pointer (some ⟨p2, 0, none⟩)] 82)) (some ⟨w6.heap.size, 0, none⟩) 1 1 1 (fun _ => [.pointer (some ⟨p2, 0, none⟩)]) := sl_one w6 [.pointer (some ⟨p2, 0, none⟩)] 82
            have hlr := RR.out.lr
            dsimp only at hlr
            rw [e1] at hlr
            refine wp_app _ _ _ rfl elLn 0 t1.LA k t1.lc _ rfl (hlr.keep BW3.out) (some ⟨w6.heap.size, 0, none⟩) 1 1 (fun _ => [.pointer (some ⟨p2, 0, none⟩)]) rfl hsl (fun _ _ => rfl) (fun _ _ u hu => by simp at hu; subst hu; rfl) (by unfold maxLen; omega) (by omega) (Nat.zero_le _) ?_
            intro A5 c5 w5 hown5 hg5 hat5
            have hq5 : w5.heap[q]? = (w6.alloc (.cells #[.pointer (some ⟨p2, 0, none⟩)] 82)).heap[q]? := hg5.block q (Nat.lt_of_lt_of_le FQ.out.qlt BW3.out.size) (fun e => by have := RR.out.lL q e.symm; have := RR.out.lq; omega)
            have TT := Lib.hid (RR.out.more e1 BW3.out (hL6.keep ((Below.refl _ _).alloc (Nat.le_refl _) _)) hFl6 CO.out hown5 hg5 hat5)
            have fq5 : ∀ i, w5.frozen? ⟨q, i, none⟩ = false := fun i => ((blk_same hq5).2 i).trans ((FQ.out.keep BW3.out).free i)
            have y55 := ((blk_same hq5).1 7).trans SC.1
            have hb5 : ∀ i, w5.cell? ⟨b, i, none⟩ = (w6.alloc (.cells #[.pointer (some ⟨p2, 0, none⟩)] 82)).cell? ⟨b, i, none⟩ := (blk_same (hg5.block b (by simp; omega) (fun e => by exact RR.out.gB _ (RR.out.gL b e.symm) (RR.out.cf (by omega) b (by rw [hCA]; rfl))))).1
            refine hK _ _ (fun _ => ⟨y55, ((blk_same hq5).1 3).trans SC.2.1, (hb5 _).trans SC.2.2.1, (hb5 _).trans SC.2.2.2.1, (hb5 _).trans SC.2.2.2.2⟩) ?_
            clear hown5 hg5 hat5 hq5 hsl SB SA SC hb5
            clear hK K
            try simp only [Act.put, List.setIfInBounds_toArray, List.set_cons_zero, List.set_cons_succ]
            refine Hd.one (i := 15) rfl (by kernel_rfl) rfl (fun K hK => ?_)
            go_simp
            refine hK _ _ (fun h => absurd h (by omega)) ?_
            clear hK K
            try simp only [Act.put, List.setIfInBounds_toArray, List.set_cons_zero, List.set_cons_succ]
            refine Hd.one (i := 16) rfl (by kernel_rfl) rfl (fun K hK => ?_)
            go_simp
            refine hK _ _ (fun h => absurd h (by omega)) ?_
            clear hK K
            try simp only [Act.put, List.setIfInBounds_toArray, List.set_cons_zero, List.set_cons_succ]
            refine Hd.one (i := 17) rfl (by kernel_rfl) rfl (fun K hK => ?_)
            go_simp
            refine hK _ _ (fun h => absurd h (by omega)) ?_
            clear hK K
            try simp only [Act.put, List.setIfInBounds_toArray, List.set_cons_zero, List.set_cons_succ]
            refine Hd.done (by kernel_rfl) ?_ _
            go_wp2_with fail
            go_roundw
            case rel => exact ⟨k + 1, by go_num, by omega, by omega, by rw [BS.out]; exact Kept.seq ⟨G1, t1, RR.out, HG.out, HO.out, TT.out⟩⟩
            case measure => simp [intOf]; omega
          · have e0 := begun_take hk4 hkn (.inr hc4)
            rw [e0] at RR
            have d00 : decide ((k : Int) < (cs.length : Int)) = true := decide_eq_true (by omega); have d01 : decide ((k : Int) < 4) = false := decide_eq_false (by omega)
            have HR := RR
            clear RR
            have HP2 := HP
            have HP : Hid (∀ e w', Stepped wr q B G1 s cs (coreM goL ⟨none, begunL cs, now, out⟩ core) e w' → Stepped w q B G s cs r e w') := Lib.hid (fun e w' h => HP2.out wr G1 t1 e w' HR.out HG.out HO.out h)
            generalize begunL cs = bl at *

            have z7 := HR.out.c7
            have zl := HR.out.lmax
            have zq := HR.out.foc.qlt
            dsimp only at z7 zl
            by_cases c0 : core < 0
            · have SN := Lib.hid (stepped_none HR.out (core := core) (by omega) (Below.refl _ _))
              have d0 : decide (core < 0) = true := decide_eq_true c0
              go_wp2_with fail
              go_ret
              exact HP.out _ _ SN.out
            · have d0 : decide (core < 0) = false := decide_eq_false c0
              by_cases c1 : (bl.length : Int) ≤ core
              · have SN := Lib.hid (stepped_none HR.out (core := core) (by omega) (Below.refl _ _))
                have d1 : decide ((bl.length : Int) ≤ core) = true := decide_eq_true c1
                go_wp2_with fail
                go_ret
                exact HP.out _ _ SN.out
              · obtain ⟨i, rfl⟩ := Int.eq_ofNat_of_zero_le (show 0 ≤ core by omega)
                have hi : i < bl.length := by omega
                have d1 : decide ((bl.length : Int) ≤ (i : Int)) = false := decide_eq_false c1
                obtain ⟨g, hLA, zc⟩ := HR.out.at_lane hi
                rw [hLA] at z7
                go_wp2_with fail
                refine (went_any HR.out (HR.out.ll i hi) (fun k hk => HR.out.gu i hi k hk) (fun hm => by have := HR.out.lu i hi _ hm; have := HR.out.lq; omega) (fun k hk hm => by have := HR.out.lu i hi _ hm; have := HR.out.lm k hk; omega) (fun k hk hm => by have := HR.out.lu i hi _ hm; have := HR.out.lo k hk; omega) hout).mono ?_
                intro e w2 hW
                have SC := Lib.hid (HP.out _ _ (stepped_core HR.out hi hW))
                obtain ⟨k1, -, -⟩ := HR.out.wentIll (fun k hk => HR.out.gu i hi k hk) hW
                subst k1
                clear hW
                go_wp2_with fail
                go_ret
                exact SC.out
        · have e0 := begun_take hk4 hkn (.inl hc)
          rw [e0] at RR
          have d00 : decide ((k : Int) < (cs.length : Int)) = false := decide_eq_false (by omega)
          have HR := RR
          clear RR
          have HP2 := HP
          have HP : Hid (∀ e w', Stepped wr q B G1 s cs (coreM goL ⟨none, begunL cs, now, out⟩ core) e w' → Stepped w q B G s cs r e w') := Lib.hid (fun e w' h => HP2.out wr G1 t1 e w' HR.out HG.out HO.out h)
          generalize begunL cs = bl at *

          have z7 := HR.out.c7
          have zl := HR.out.lmax
          have zq := HR.out.foc.qlt
          dsimp only at z7 zl
          by_cases c0 : core < 0
          · have SN := Lib.hid (stepped_none HR.out (core := core) (by omega) (Below.refl _ _))
            have d0 : decide (core < 0) = true := decide_eq_true c0
            go_wp2_with fail
            go_ret
            exact HP.out _ _ SN.out
          · have d0 : decide (core < 0) = false := decide_eq_false c0
            by_cases c1 : (bl.length : Int) ≤ core
            · have SN := Lib.hid (stepped_none HR.out (core := core) (by omega) (Below.refl _ _))
              have d1 : decide ((bl.length : Int) ≤ core) = true := decide_eq_true c1
              go_wp2_with fail
              go_ret
              exact HP.out _ _ SN.out
            · obtain ⟨i, rfl⟩ := Int.eq_ofNat_of_zero_le (show 0 ≤ core by omega)
              have hi : i < bl.length := by omega
              have d1 : decide ((bl.length : Int) ≤ (i : Int)) = false := decide_eq_false c1
              obtain ⟨g, hLA, zc⟩ := HR.out.at_lane hi
              rw [hLA] at z7
              go_wp2_with fail
              refine (went_any HR.out (HR.out.ll i hi) (fun k hk => HR.out.gu i hi k hk) (fun hm => by have := HR.out.lu i hi _ hm; have := HR.out.lq; omega) (fun k hk hm => by have := HR.out.lu i hi _ hm; have := HR.out.lm k hk; omega) (fun k hk hm => by have := HR.out.lu i hi _ hm; have := HR.out.lo k hk; omega) hout).mono ?_
              intro e w2 hW
              have SC := Lib.hid (HP.out _ _ (stepped_core HR.out hi hW))
              obtain ⟨k1, -, -⟩ := HR.out.wentIll (fun k hk => HR.out.gu i hi k hk) hW
              subst k1
              clear hW
              go_wp2_with fail
              go_ret
              exact SC.out
    · have SN := Lib.hid (show Stepped w q B G s cs r (.returned (.bool false)) w2 from by
        rw [← HQ.out, step_some (by rw [hx]; decide)]
        exact ⟨by rw [hx]; rfl, K2.out, K3.out, fun h => absurd hx h⟩)
      rw [hx]
      have HX := Lib.hid hx
      clear hx
      rw [HX.out] at z5
      go_wp2_with fail
      go_ret
      exact SN.out
end Go.Proofs.Ytdhihmeknoofoaa.Sr
