/-
  THE LANGUAGE, in plain Lean: the steps that a body is made into do what the body does.
-/
import Derived.Test.YtapnnbbbgopobaaG05
import Derived.Test.YtapnnbbbgopobaaG23
set_option linter.unusedVariables false
set_option linter.unusedSimpArgs false
namespace Go.Proofs.Ytapnnbbbgopobaa.Mi
open Go.RowKit Stp Rm Sp Ml
/-! ### labels -/
def labs (c : List St) : List Int := c.filterMap fun s => if s.kind = 9 then some s.to else none
theorem labs_app (a b : List St) : labs (a ++ b) = labs a ++ labs b := by simp [labs]
theorem labs_one (s : St) (h : ¬ s.kind = 9) : labs [s] = [] := by simp [labs, h]
theorem labs_codeE (names : List ByteArray) : ∀ (x : Ex) (k : Nat), labs (codeE names x k) = []
  | .num _, _ => rfl
  | .name _, _ => rfl
  | .op o a b, k => by rw [codeE, labs_app, labs_app, labs_codeE names a, labs_codeE names b]; rfl
theorem labs_codeP (cells : List Cl) (names : List ByteArray) (h : Hd) (k : Nat) : labs (codeP cells names h k) = [] := by
  rw [codeP, labs_app, labs_codeE]; rfl
theorem labs_codeH (cells : List Cl) (names : List ByteArray) (h : Hd) (k : Nat) : labs (codeH cells names h k) = [] := by
  unfold codeH
  repeat' split
  all_goals first
    | rfl
    | (simp only [labs_app, labs_codeE, labs_codeP, List.nil_append]; rfl)
theorem lB_le : ∀ (b : Bd) (l : Nat), l ≤ lB b l
  | .nil, l => Nat.le_refl l
  | .cons h body els rest, l => by
    unfold lB
    refine Nat.le_trans ?_ (lB_le rest _)
    have h1 := lB_le body (l + 2)
    have h2 := lB_le els (lB body (l + 2))
    split
    · omega
    · split <;> omega
structure Labs (c : List St) (l l' : Nat) : Prop where
  nodup : (labs c).Nodup
  low : ∀ t ∈ labs c, (l : Int) ≤ t ∧ t < l'
theorem Labs.nil {c : List St} (h : labs c = []) (l l' : Nat) : Labs c l l' := ⟨by rw [h]; exact List.nodup_nil, by rw [h]; intro t ht; cases ht⟩
theorem Labs.app {a b : List St} {l m n : Nat} (ha : Labs a l m) (hb : Labs b m n) (h1 : l ≤ m) (h2 : m ≤ n) : Labs (a ++ b) l n := by
  refine ⟨?_, fun t ht => ?_⟩
  · rw [labs_app, List.nodup_append]
    exact ⟨ha.nodup, hb.nodup, fun x hx y hy e => by subst e; have := ha.low x hx; have := hb.low x hy; omega⟩
  · rw [labs_app, List.mem_append] at ht
    rcases ht with ht | ht
    · have := ha.low t ht; omega
    · have := hb.low t ht; omega
theorem Labs.perm {a b : List St} {l m : Nat} (ha : Labs a l m) (h : (labs a).Perm (labs b)) : Labs b l m :=
  ⟨h.nodup_iff.1 ha.nodup, fun t ht => ha.low t (h.mem_iff.2 ht)⟩
theorem Labs.lab (l : Nat) : Labs [sLab l] l (l + 1) := ⟨by simp [labs, sLab], fun t ht => by simp [labs, sLab] at ht; omega⟩
theorem labs_codeB (cells : List Cl) (names : List ByteArray) : ∀ (b : Bd) (k l : Nat), Labs (codeB cells names b k l) l (lB b l)
  | .nil, k, l => Labs.nil rfl _ _
  | .cons h body els rest, k, l => by
    have w2 := lB_le body (l + 2)
    have w3 := lB_le els (lB body (l + 2))
    by_cases h6 : h.kind = 6
    · have e : lB (.cons h body els rest) l = lB rest (lB els (lB body (l + 2))) := by rw [lB, if_pos h6]
      have w4 := lB_le rest (lB els (lB body (l + 2)))
      rw [e]
      have i1 := labs_codeB cells names body (kH h k) (l + 2)
      have i2 := labs_codeB cells names els (kB body (kH h k)) (lB body (l + 2))
      have i3 := labs_codeB cells names rest (kB els (kB body (kH h k))) (lB els (lB body (l + 2)))
      refine Labs.perm (((Labs.app (Labs.lab l) (Labs.lab (l + 1)) (by omega) (by omega)).app (i1.app i2 (by omega) (by omega)) (by omega) (by omega)).app i3 (by omega) (by omega)) ?_
      rw [codeB, if_pos h6]
      simp only [labs_app, labs_codeE, List.nil_append, labs_one _ (show ¬ (sZero (varE names h.x k) l).kind = 9 by simp [sZero])]
      rw [show labs [sJump (l + 1), sLab l] = [(l : Int)] by simp [labs, sJump, sLab]]
      rw [show labs [sLab (l + 1)] = [((l + 1 : Nat) : Int)] by simp [labs, sLab], show labs [sLab l] = [(l : Int)] by simp [labs, sLab]]
      refine List.Perm.append_right _ ?_
      generalize labs (codeB cells names body (kH h k) (l + 2)) = p
      generalize labs (codeB cells names els (kB body (kH h k)) (lB body (l + 2))) = q
      rw [List.append_assoc, List.append_assoc, List.append_assoc]
      refine (List.perm_append_comm_assoc [(l : Int)] _ _).trans ?_
      refine (List.Perm.append_left _ (List.perm_append_comm_assoc [(l : Int)] p q)).trans ?_
      refine (List.perm_append_comm (l₁ := [((l + 1 : Nat) : Int)])).trans ?_
      rw [List.append_assoc, List.append_assoc]
    · by_cases h7 : h.kind = 7
      · have e : lB (.cons h body els rest) l = lB rest (lB body (l + 2)) := by rw [lB, if_neg h6, if_pos h7]
        have w4 := lB_le rest (lB body (l + 2))
        rw [e]
        have i1 := labs_codeB cells names body (kH h k) (l + 2)
        have i3 := labs_codeB cells names rest (kB body (kH h k)) (lB body (l + 2))
        refine Labs.perm (((Labs.app (Labs.lab l) (Labs.lab (l + 1)) (by omega) (by omega)).app i1 (by omega) (by omega)).app i3 (by omega) (by omega)) ?_
        rw [codeB, if_neg h6, if_pos h7]
        simp only [labs_app, labs_codeE, List.append_nil, labs_one _ (show ¬ (sZero (varE names h.x k) (l + 1)).kind = 9 by simp [sZero])]
        rw [show labs [sJump l, sLab (l + 1)] = [((l + 1 : Nat) : Int)] by simp [labs, sJump, sLab]]
        rw [show labs [sLab (l + 1)] = [((l + 1 : Nat) : Int)] by simp [labs, sLab], show labs [sLab l] = [(l : Int)] by simp [labs, sLab]]
        refine List.Perm.append_right _ ?_
        rw [List.append_assoc, List.append_assoc]
        exact List.Perm.append_left _ List.perm_append_comm
      · have e : lB (.cons h body els rest) l = lB rest l := by rw [lB, if_neg h6, if_neg h7]
        have w4 := lB_le rest l
        rw [e, codeB, if_neg h6, if_neg h7]
        exact (Labs.nil (labs_codeH cells names h k) l l).app (labs_codeB cells names rest (kH h k) l) (by omega) w4
theorem jump_at {c : List St} {pc to9 : Nat} {t : List St} (hN : (labs c).Nodup) (h : Seg c pc (sLab to9 :: t)) : jumpV c to9 = pc := by
  obtain ⟨h1, h2⟩ := h.head
  unfold jumpV
  rw [List.findIdx_eq h1]
  have hg : c[pc] = sLab to9 := by rw [← h2]; simp [List.getD, h1]
  refine ⟨by rw [hg]; simp [isLab, sLab], fun j hj => ?_⟩
  rw [Bool.eq_false_iff]
  intro hb
  have e : labs c = labs (c.take pc) ++ labs (c.drop pc) := by rw [← labs_app, List.take_append_drop]
  rw [e, List.nodup_append] at hN
  have m1 : (to9 : Int) ∈ labs (c.take pc) := by
    unfold labs
    rw [List.mem_filterMap]
    refine ⟨c[j], List.mem_take_iff_getElem.2 ⟨j, by omega, rfl⟩, ?_⟩
    simp only [isLab, Bool.and_eq_true, beq_iff_eq] at hb
    rw [if_pos hb.1, hb.2]
  have m2 : (to9 : Int) ∈ labs (c.drop pc) := by
    obtain ⟨r, hr⟩ := h
    rw [hr]
    unfold labs
    simp [sLab]
  exact hN.2.2 _ m1 _ m2 rfl
theorem Rc.lab {c : List St} {pc to9 : Nat} {t : List St} (h : Seg c pc (sLab to9 :: t)) (v now out : List Int) : Rc c ⟨pc, v, now, out⟩ ⟨pc + 1, v, now, out⟩ := Rc.one h rfl v now out
theorem Rc.jump {c : List St} {pc to9 : Nat} {t : List St} (h : Seg c pc (sJump to9 :: t)) (v now out : List Int) : Rc c ⟨pc, v, now, out⟩ ⟨jumpV c to9, v, now, out⟩ := Rc.one h rfl v now out
theorem Rc.zero {c : List St} {pc a to9 : Nat} {t : List St} (h : Seg c pc (sZero a to9 :: t)) (v now out : List Int) (ha : a < v.length) : Rc c ⟨pc, v, now, out⟩ ⟨if v.getD a 0 = 0 then jumpV c to9 else pc + 1, v, now, out⟩ := by
  have e := Rc.one h rfl v now out
  have e2 : quietV c (sZero a to9) ⟨pc + 1, v, now, out⟩ = ⟨if v.getD a 0 = 0 then jumpV c to9 else pc + 1, v, now, out⟩ := by
    unfold quietV sZero
    simp only [show ¬ (11 : Int) = 0 by decide, show ¬ (11 : Int) = 1 by decide, show ¬ (11 : Int) = 2 by decide, show ¬ (11 : Int) = 10 by decide, if_true, if_false]
    rw [getV_nat ha]
    split <;> rfl
  rw [← e2]; exact e
/-! ### bodies -/
structure OkH (cells : List Cl) (names : List ByteArray) (h : Hd) : Prop where
  name : h.kind = 0 ∨ h.kind = 1 ∨ h.kind = 3 → idxN names h.name < names.length
  i : h.kind = 1 ∨ h.kind = 2 ∨ h.kind = 3 → namesE names h.i
  cell : h.kind = 1 ∨ h.kind = 2 ∨ h.kind = 3 → cix cells h.cell < cells.length
  x : h.kind = 0 ∨ h.kind = 2 ∨ h.kind = 3 ∨ h.kind = 5 ∨ h.kind = 6 ∨ h.kind = 7 → namesE names h.x
  y : h.kind = 3 → namesE names h.y
def OkB (cells : List Cl) (names : List ByteArray) : Bd → Prop
  | .nil => True
  | .cons h body els rest => OkH cells names h ∧ (h.kind = 6 ∨ h.kind = 7 → OkB cells names body) ∧ (h.kind = 6 → OkB cells names els) ∧ OkB cells names rest
theorem kH_le (h : Hd) (k : Nat) : k ≤ kH h k := by
  have h1 := kE_le h.x k
  have h2 := kE_le h.i k
  have h3 := kE_le h.x (kP h k)
  have h4 := kE_le h.y (kE h.x (kP h k))
  have h5 : kP h k = kE h.i k + 6 := rfl
  unfold kH
  repeat' split
  all_goals omega
theorem kB_le : ∀ (b : Bd) (k : Nat), k ≤ kB b k
  | .nil, k => Nat.le_refl k
  | .cons h body els rest, k => by
    unfold kB
    refine Nat.le_trans ?_ (kB_le rest _)
    have h1 := kH_le h k
    have h2 := kB_le body (kH h k)
    have h3 := kB_le els (kB body (kH h k))
    split
    · omega
    · split <;> omega
inductive Cont (cells : List Cl) (names : List ByteArray) (c : List St) (V : Nat) : List Bd → Nat → Prop where
  | done {pc : Nat} : (c.length ≤ pc ∨ Seg c pc [sEnd]) → Cont cells names c V [] pc
  | row {b : Bd} {st : List Bd} {pc k l pc2 : Nat} : Seg c pc (codeB cells names b k l) → names.length ≤ k → kB b k ≤ V → OkB cells names b →
      (∀ v now out, Rc c ⟨pc + (codeB cells names b k l).length, v, now, out⟩ ⟨pc2, v, now, out⟩) → Cont cells names c V st pc2 → Cont cells names c V (b :: st) pc
section
variable {cells : List Cl} {names : List ByteArray} {c : List St} {V N : Nat}
theorem Cont.drop {st : List Bd} {pc : Nat} (h : Cont cells names c V st pc) : ∃ pc', Cont cells names c V (dropNil st) pc' ∧ ∀ v now out, Rc c ⟨pc, v, now, out⟩ ⟨pc', v, now, out⟩ := by
  induction h with
  | @done pc h => exact ⟨pc, Cont.done h, fun _ _ _ => Rc.refl _ _⟩
  | @row b st pc k l pc2 hs hk hv ho hr hc ih =>
    cases b with
    | nil =>
      obtain ⟨pc', i1, i2⟩ := ih
      exact ⟨pc', by rw [dropNil]; exact i1, fun v now out => (hr v now out).trans (i2 v now out)⟩
    | cons h body els rest => exact ⟨pc, Cont.row hs hk hv ho hr hc, fun _ _ _ => Rc.refl _ _⟩
structure Rel (cells : List Cl) (names : List ByteArray) (c : List St) (V N : Nat) (s : Ss) (p : Ps) : Prop where
  cont : Cont cells names c V s.st p.at_
  agree : Agree names.length p.v s.v
  len : p.v.length = V
  now : p.now = s.now
  out : p.out = s.out
  words : s.now.length = N
theorem setE_agree {v sv : List Int} {s : ByteArray} {x : Int} (ha : Agree names.length v sv) (hi : idxN names s < names.length) : Agree names.length (v.set (locN names s) x) (setE names sv s x) := by
  unfold setE locN
  rw [if_pos hi, if_pos hi]
  refine ⟨by simp [ha.1], by simp [ha.2.1], fun i h => ?_⟩
  by_cases e : idxN names s = i
  · subst e
    rw [getD_set_self (by have := ha.2.1; omega), getD_set_self (by rw [ha.1]; omega)]
  · rw [Ml.getD_set_ne e, Ml.getD_set_ne e]; exact ha.2.2 i h
theorem locN_lt {v sv : List Int} {s : ByteArray} (ha : Agree names.length v sv) (hi : idxN names s < names.length) : locN names s < v.length := by
  unfold locN; rw [if_pos hi]; have := ha.2.1; omega
theorem codeB_plain {h : Hd} {body els rest : Bd} {k l : Nat} (h6 : ¬ h.kind = 6) (h7 : ¬ h.kind = 7) : codeB cells names (.cons h body els rest) k l = codeH cells names h k ++ codeB cells names rest (kH h k) l := by rw [codeB, if_neg h6, if_neg h7]
theorem kB_plain {h : Hd} {body els rest : Bd} {k : Nat} (h6 : ¬ h.kind = 6) (h7 : ¬ h.kind = 7) : kB (.cons h body els rest) k = kB rest (kH h k) := by rw [kB, if_neg h6, if_neg h7]
theorem cont_next {h : Hd} {body els rest : Bd} {st : List Bd} {pc k l pc2 : Nat} (h6 : ¬ h.kind = 6) (h7 : ¬ h.kind = 7) (hs : Seg c pc (codeB cells names (.cons h body els rest) k l)) (hk : names.length ≤ k) (hv : kB (.cons h body els rest) k ≤ V) (ho : OkB cells names (.cons h body els rest))
    (hr : ∀ v now out, Rc c ⟨pc + (codeB cells names (.cons h body els rest) k l).length, v, now, out⟩ ⟨pc2, v, now, out⟩) (hc : Cont cells names c V st pc2) :
    Cont cells names c V (rest :: st) (pc + (codeH cells names h k).length) := by
  rw [codeB_plain h6 h7] at hs hr
  rw [kB_plain h6 h7] at hv
  refine .row hs.right (Nat.le_trans hk (kH_le h k)) hv ho.2.2.2 (fun v now out => ?_) hc
  have := hr v now out
  rwa [List.length_append, ← Nat.add_assoc] at this
theorem head_le {h : Hd} {body els rest : Bd} {k : Nat} : kH h k ≤ kB (.cons h body els rest) k := by
  unfold kB
  refine Nat.le_trans ?_ (kB_le rest _)
  have h2 := kB_le body (kH h k)
  have h3 := kB_le els (kB body (kH h k))
  split
  · omega
  · split <;> omega
theorem quiet_step (hN : (labs c).Nodup) {h : Hd} {body els rest : Bd} {st : List Bd} {s : Ss} {p : Ps} (hact : isActS h.kind = false) (hst : s.st = .cons h body els rest :: st) (hR : Rel cells names c V N s p) :
    ∃ q, Rel cells names c V N (quietS names h body els rest st s) q ∧ Rc c p q := by
  obtain ⟨hc, ha, hl, hn, ho, hw⟩ := hR
  obtain ⟨pc, v, now, out⟩ := p
  obtain ⟨st0, sv, snow, sout⟩ := s
  dsimp only at hc ha hl hn ho hst hw
  subst hn ho hst
  have hcc := hc
  cases hc with
  | @row _ _ _ k l pc2 hs hk hv hok hr hc =>
  have hH := hok.1
  have hkh := Nat.le_trans (head_le (h := h) (body := body) (els := els) (rest := rest) (k := k)) hv
  by_cases h0 : h.kind = 0
  · have hcont := cont_next (by omega) (by omega) hs hk hv hok hr hc
    rw [codeB_plain (by omega) (by omega)] at hs
    have s1 := hs.left
    have ek : kH h k = kE h.x k := by unfold kH; rw [if_pos h0]
    have ec : codeH cells names h k = codeE names h.x k ++ [⟨1, locN names h.name, varE names h.x k, 0, 0, 0, 0, 0, 0⟩] := by unfold codeH; rw [if_pos h0]
    rw [ec] at s1 hcont
    obtain ⟨v1, l1, e1, r1⟩ := expr_run names c sv h.x k pc v now out s1.left hk (by rw [hl]; omega) (hH.x (.inl h0)) ha
    have va := varE_lt names h.x k (hH.x (.inl h0)) hk
    have a1 := l1.agree ha hk
    have hi := hH.name (.inl h0)
    have lt := locN_lt a1 hi
    have r2 := Rc.one s1.right rfl v1 now out
    have e2 : quietV c ⟨1, locN names h.name, varE names h.x k, 0, 0, 0, 0, 0, 0⟩ ⟨pc + (codeE names h.x k).length + 1, v1, now, out⟩ = ⟨pc + (codeE names h.x k).length + 1, v1.set (locN names h.name) (evalE names sv h.x), now, out⟩ := by
      unfold quietV
      simp only [show ¬ (1 : Int) = 0 by decide, if_true, if_false]
      rw [putV_nat lt, getV_nat (by rw [l1.1]; omega), e1]
    rw [e2] at r2
    refine ⟨_, ?_, r1.trans r2⟩
    unfold quietS
    rw [if_pos h0]
    refine ⟨?_, setE_agree a1 hi, by simp [l1.1, hl], rfl, rfl, hw⟩
    rw [List.length_append, ← Nat.add_assoc] at hcont
    exact hcont
  · by_cases h6 : h.kind = 6
    · have ek : kH h k = kE h.x k := by unfold kH; simp [h6]
      have hx := hH.x (.inr (.inr (.inr (.inr (.inl h6)))))
      have va := varE_lt names h.x k hx hk
      have hkk := kH_le h k
      have hkb := kB_le body (kH h k)
      have hke := kB_le els (kB body (kH h k))
      rw [kB, if_pos h6] at hv
      have hkr := kB_le rest (kB els (kB body (kH h k)))
      have hs' := hs
      rw [codeB, if_pos h6] at hs hr
      -- the places
      have p1 := hs.left.left.left.left.left
      obtain ⟨v1, l1, e1, r1⟩ := expr_run names c sv h.x k pc v now out p1.left hk (by rw [hl]; omega) hx ha
      have r2 := Rc.zero p1.right v1 now out (by rw [l1.1]; omega)
      rw [e1] at r2
      have p2 := hs.left.left.left.left.right
      have p3 := hs.left.left.left.right
      have p4 := hs.left.left.right
      have p5 := hs.left.right
      have p6 := hs.right
      have j1 := jump_at hN p3.tail
      have j2 := jump_at hN p5
      have hrest : Cont cells names c V (rest :: st) (pc + (codeE names h.x k ++ [sZero (varE names h.x k) l] ++ codeB cells names body (kH h k) (l + 2) ++ [sJump (l + 1), sLab l] ++ codeB cells names els (kB body (kH h k)) (lB body (l + 2)) ++ [sLab (l + 1)]).length) := by
        refine .row p6 (by omega) hv hok.2.2.2 (fun v now out => ?_) hc
        have := hr v now out
        rwa [List.length_append, ← Nat.add_assoc] at this
      have hend : ∀ v now out, Rc c ⟨jumpV c (l + 1 : Nat), v, now, out⟩ ⟨pc + (codeE names h.x k ++ [sZero (varE names h.x k) l] ++ codeB cells names body (kH h k) (l + 2) ++ [sJump (l + 1), sLab l] ++ codeB cells names els (kB body (kH h k)) (lB body (l + 2)) ++ [sLab (l + 1)]).length, v, now, out⟩ := fun v now out => by
        rw [j2]
        have := Rc.lab p5 v now out
        rw [List.length_append (bs := [sLab (l + 1)]), ← Nat.add_assoc]
        exact this
      unfold quietS
      rw [if_neg h0, if_pos h6]
      by_cases hz : evalE names sv h.x = 0
      · rw [if_pos hz] at r2
        rw [j1] at r2
        have r3 := Rc.lab p3.tail v1 now out
        refine ⟨_, ⟨?_, l1.agree ha hk, by rw [l1.1]; exact hl, rfl, rfl, hw⟩, (r1.trans r2).trans r3⟩
        dsimp only
        rw [if_pos hz]
        refine .row (k := kB body (kH h k)) (l := lB body (l + 2)) ?_ (by omega) (by omega) (hok.2.2.1 h6) (fun v now out => ?_) hrest
        · rw [List.length_append (bs := [sJump (l + 1), sLab l]), ← Nat.add_assoc] at p4
          exact p4
        · refine Rc.trans ?_ (hend v now out)
          rw [j2]
          have e : ∀ X, pc + (codeE names h.x k ++ [sZero (varE names h.x k) l] ++ codeB cells names body (kH h k) (l + 2)).length + 1 + 1 + X = pc + (codeE names h.x k ++ [sZero (varE names h.x k) l] ++ codeB cells names body (kH h k) (l + 2) ++ [sJump (l + 1), sLab l]).length + X := fun X => by
            rw [List.length_append (bs := [sJump (l + 1), sLab l])]; simp; omega
          rw [e, List.length_append (bs := codeB cells names els (kB body (kH h k)) (lB body (l + 2))), ← Nat.add_assoc]
          exact Rc.refl _ _
      · rw [if_neg hz] at r2
        refine ⟨_, ⟨?_, l1.agree ha hk, by rw [l1.1]; exact hl, rfl, rfl, hw⟩, r1.trans r2⟩
        dsimp only
        rw [if_neg hz]
        refine .row (k := kH h k) (l := l + 2) ?_ (by omega) (by omega) (hok.2.1 (.inl h6)) (fun v now out => ?_) hrest
        · rw [List.length_append, ← Nat.add_assoc] at p2
          exact p2
        · have r3 := (Rc.jump p3 v now out).trans (hend v now out)
          rw [List.length_append (bs := codeB cells names body (kH h k) (l + 2)), List.length_append (bs := [sZero (varE names h.x k) l]), ← Nat.add_assoc, ← Nat.add_assoc] at r3
          exact r3
    · by_cases h7 : h.kind = 7
      · have ek : kH h k = kE h.x k := by unfold kH; simp [h7]
        have hx := hH.x (.inr (.inr (.inr (.inr (.inr h7)))))
        have va := varE_lt names h.x k hx hk
        have hkk := kH_le h k
        have hkb := kB_le body (kH h k)
        rw [kB, if_neg h6, if_pos h7] at hv
        have hkr := kB_le rest (kB body (kH h k))
        have hs' := hs
        rw [codeB, if_neg h6, if_pos h7] at hs hr
        have p0 := hs.left.left.left.left.left
        have p1 := hs.left.left.left.left.right
        have p2 := hs.left.left.left.right
        have p3 := hs.left.left.right
        have p4 := hs.left.right
        have p5 := hs.right
        have j0 := jump_at hN p0
        have j1 := jump_at hN p4.tail
        have r0 := Rc.lab p0 v now out
        obtain ⟨v1, l1, e1, r1⟩ := expr_run names c sv h.x k (pc + 1) v now out p1 hk (by rw [hl]; omega) hx ha
        have e3 : pc + 1 + (codeE names h.x k).length = pc + ([sLab l] ++ codeE names h.x k).length := by rw [List.length_append]; simp; omega
        rw [e3] at r1
        have r2 := Rc.zero p2 v1 now out (by rw [l1.1]; omega)
        rw [e1] at r2
        have hrest : Cont cells names c V (rest :: st) (pc + ([sLab l] ++ codeE names h.x k ++ [sZero (varE names h.x k) (l + 1)] ++ codeB cells names body (kH h k) (l + 2) ++ [sJump l, sLab (l + 1)]).length) := by
          refine .row p5 (by omega) hv hok.2.2.2 (fun v now out => ?_) hc
          have := hr v now out
          rwa [List.length_append, ← Nat.add_assoc] at this
        unfold quietS
        rw [if_neg h0, if_neg h6, if_pos h7]
        by_cases hz : evalE names sv h.x = 0
        · rw [if_pos hz] at r2
          rw [j1] at r2
          have r3 := Rc.lab p4.tail v1 now out
          refine ⟨_, ⟨?_, l1.agree ha hk, by rw [l1.1]; exact hl, rfl, rfl, hw⟩, ((r0.trans r1).trans r2).trans r3⟩
          dsimp only
          rw [if_pos hz]
          rw [List.length_append (bs := [sJump l, sLab (l + 1)]), ← Nat.add_assoc] at hrest
          exact hrest
        · rw [if_neg hz] at r2
          refine ⟨_, ⟨?_, l1.agree ha hk, by rw [l1.1]; exact hl, rfl, rfl, hw⟩, (r0.trans r1).trans r2⟩
          dsimp only
          rw [if_neg hz]
          refine .row (k := kH h k) (l := l + 2) ?_ (by omega) (by omega) (hok.2.1 (.inr h7)) (fun v now out => ?_) hcc
          · rw [List.length_append (bs := [sZero (varE names h.x k) (l + 1)]), ← Nat.add_assoc] at p3
            exact p3
          · have r3 := Rc.jump p4 v now out
            rw [j0] at r3
            rw [List.length_append (bs := codeB cells names body (kH h k) (l + 2)), List.length_append (bs := [sZero (varE names h.x k) (l + 1)]), ← Nat.add_assoc, ← Nat.add_assoc] at r3
            exact r3
      · have hcont := cont_next h6 h7 hs hk hv hok hr hc
        rw [codeB_plain h6 h7] at hs
        have s1 := hs.left
        unfold isActS at hact
        simp only [Bool.or_eq_false_iff, beq_eq_false_iff_ne] at hact
        obtain ⟨⟨⟨n1, n2⟩, n3⟩, n5⟩ := hact
        unfold quietS
        rw [if_neg h0, if_neg h6, if_neg h7]
        unfold codeH at s1 hcont
        rw [if_neg h0, if_neg n1, if_neg n2, if_neg n3] at s1 hcont
        by_cases h4 : h.kind = 4
        · rw [if_pos h4] at s1 hcont
          exact ⟨⟨pc + 1, v, now, out⟩, ⟨hcont, ha, hl, rfl, rfl, hw⟩, Rc.one s1 rfl v now out⟩
        · rw [if_neg h4, if_neg n5] at s1 hcont
          exact ⟨⟨pc, v, now, out⟩, ⟨hcont, ha, hl, rfl, rfl, hw⟩, Rc.refl _ _⟩
theorem plc_word {w n : Nat} (h : w < n) (hn : n ≤ 1024) : plc n (addrV (4096 + 8 * (w : Int))) = some w := by
  have e : addrV (4096 + 8 * (w : Int)) = 4096 + 8 * (w : Int) := by
    unfold addrV
    rw [if_neg (by omega)]
    unfold wrap64
    omega
  rw [e]
  unfold plc
  rw [if_pos (by omega)]
  congr 1
  omega
theorem act_at {pc : Nat} {S : St} {t : List St} {p : Ps} {v now out : List Int} (hs : Seg c pc (S :: t)) (hS : isAct S.kind = true) (hr : Rc c p ⟨pc, v, now, out⟩) : ∃ n, ∀ k, goV c (n + k) p = (0, actV S ⟨pc + 1, v, now, out⟩) := by
  obtain ⟨n, hr⟩ := hr
  obtain ⟨h1, h2⟩ := hs.head
  refine ⟨n + 1, fun k => ?_⟩
  rw [Nat.add_assoc, hr, Nat.add_comm 1 k, goV, if_neg (by show ¬ c.length ≤ pc; omega)]
  rw [show (⟨pc, v, now, out⟩ : Ps).at_ = pc from rfl, h2, hS]
  rfl
theorem act_step (hcs : CellsOk cells) (hN1 : cwords cells = N) (hN2 : N ≤ 1024) {h : Hd} {body els rest : Bd} {st : List Bd} {s : Ss} {p : Ps} (hact : isActS h.kind = true) (hst : s.st = .cons h body els rest :: st) (hR : Rel cells names c V N s p) :
    ∃ n q, (∀ k, goV c (n + k) p = (0, q)) ∧ Rel cells names c V N (actS cells names h { s with st := rest :: st }) q := by
  obtain ⟨hc, ha, hl, hn, ho, hw⟩ := hR
  obtain ⟨pc, v, now, out⟩ := p
  obtain ⟨st0, sv, snow, sout⟩ := s
  dsimp only at hc ha hl hn ho hst hw
  subst hn ho hst
  cases hc with
  | @row _ _ _ k l pc2 hs hk hv hok hr hc =>
  have hH := hok.1
  have hkh := Nat.le_trans (head_le (h := h) (body := body) (els := els) (rest := rest) (k := k)) hv
  unfold isActS at hact
  simp only [Bool.or_eq_true, beq_iff_eq] at hact
  have hcont := cont_next (by omega) (by omega) hs hk hv hok hr hc
  rw [codeB_plain (by omega) (by omega)] at hs
  have s1 := hs.left
  unfold actS
  dsimp only
  obtain h1 | h2 | h3 | h5 : h.kind = 1 ∨ h.kind = 2 ∨ h.kind = 3 ∨ h.kind = 5 := by omega
  · have ek : kH h k = kP h k := by unfold kH; simp [h1]
    have ec : codeH cells names h k = codeP cells names h k ++ [⟨3, locN names h.name, varP h k, 0, 0, 0, cix cells h.cell, 0, 0⟩] := by unfold codeH; simp [h1]
    rw [ec] at s1 hcont
    have hi := hH.cell (.inl h1)
    obtain ⟨v1, l1, e1, r1⟩ := place_run cells hcs names c sv h k pc v now out s1.left hk (by rw [hl]; omega) (hH.i (.inl h1)) ha hi hN1 hN2
    obtain ⟨-, -, -, -, wlt⟩ := word_in cells hcs names sv h hi hN1
    have hp := plc_word wlt hN2
    have a1 := l1.agree ha hk
    have hx := hH.name (.inr (.inl h1))
    have lt := locN_lt a1 hx
    obtain ⟨n, hn⟩ := act_at s1.right rfl r1
    have ep : varP h k < v1.length := by rw [l1.1, hl]; have : kP h k = varP h k + 1 := rfl; omega
    have e2 : actV ⟨3, locN names h.name, varP h k, 0, 0, 0, cix cells h.cell, 0, 0⟩ ⟨pc + (codeP cells names h k).length + 1, v1, now, out⟩ = ⟨pc + (codeP cells names h k).length + 1, v1.set (locN names h.name) (now.getD (wordE cells names sv h) 0), now, out⟩ := by
      unfold actV plcP
      simp only [show ¬ (3 : Int) = 8 by decide, if_true, if_false]
      rw [getV_nat ep, e1, hw, hp, putV_nat lt]
      rfl
    rw [e2] at hn
    refine ⟨n, _, hn, ?_⟩
    rw [if_neg (by omega), if_pos h1]
    refine ⟨?_, setE_agree a1 hx, by simp [l1.1, hl], rfl, rfl, hw⟩
    rw [List.length_append, ← Nat.add_assoc] at hcont
    exact hcont
  · have ek : kH h k = kE h.x (kP h k) := by unfold kH; simp [h2]
    have ec : codeH cells names h k = codeP cells names h k ++ codeE names h.x (kP h k) ++ [⟨4, 0, varP h k, varE names h.x (kP h k), 0, 0, cix cells h.cell, 0, 0⟩] := by unfold codeH; simp [h2]
    rw [ec] at s1 hcont
    have hi := hH.cell (.inr (.inl h2))
    have kx := kE_le h.x (kP h k)
    have kpp : kP h k = varP h k + 1 := rfl
    have kp0 : k ≤ kP h k := by have := kE_le h.i k; unfold kP; omega
    obtain ⟨v1, l1, e1, r1⟩ := place_run cells hcs names c sv h k pc v now out s1.left.left hk (by rw [hl]; omega) (hH.i (.inr (.inl h2))) ha hi hN1 hN2
    obtain ⟨-, -, -, -, wlt⟩ := word_in cells hcs names sv h hi hN1
    have hp := plc_word wlt hN2
    have a1 := l1.agree ha hk
    have hx := hH.x (.inr (.inl h2))
    obtain ⟨v2, l2, e2, r2⟩ := expr_run names c sv h.x (kP h k) _ v1 now out s1.left.right (by omega) (by rw [l1.1, hl]; omega) hx a1
    have va := varE_lt names h.x (kP h k) hx (by omega)
    have eL : pc + (codeP cells names h k).length + (codeE names h.x (kP h k)).length = pc + (codeP cells names h k ++ codeE names h.x (kP h k)).length := by rw [List.length_append]; omega
    rw [eL] at r2
    obtain ⟨n, hn⟩ := act_at s1.right rfl (r1.trans r2)
    have e3 : actV ⟨4, 0, varP h k, varE names h.x (kP h k), 0, 0, cix cells h.cell, 0, 0⟩ ⟨pc + (codeP cells names h k ++ codeE names h.x (kP h k)).length + 1, v2, now, out⟩ = ⟨pc + (codeP cells names h k ++ codeE names h.x (kP h k)).length + 1, v2, now.set (wordE cells names sv h) (evalE names sv h.x), out⟩ := by
      unfold actV plcP
      simp only [show ¬ (4 : Int) = 8 by decide, show ¬ (4 : Int) = 3 by decide, if_true, if_false]
      rw [getV_nat (by rw [l2.1, l1.1]; omega), l2.2 _ (by omega), e1, hw, hp, getV_nat (by rw [l2.1, l1.1]; omega), e2]
      rfl
    rw [e3] at hn
    refine ⟨n, _, hn, ?_⟩
    rw [if_neg (by omega), if_neg (by omega), if_pos h2]
    refine ⟨?_, l2.agree a1 (by omega), by rw [l2.1, l1.1]; exact hl, rfl, rfl, by simpa using hw⟩
    rw [List.length_append (bs := [_]), ← Nat.add_assoc] at hcont
    exact hcont
  · have ek : kH h k = kE h.y (kE h.x (kP h k)) := by unfold kH; simp [h3]
    have ec : codeH cells names h k = codeP cells names h k ++ codeE names h.x (kP h k) ++ codeE names h.y (kE h.x (kP h k)) ++ [⟨5, locN names h.name, varP h k, varE names h.x (kP h k), varE names h.y (kE h.x (kP h k)), 0, cix cells h.cell, 0, 0⟩] := by unfold codeH; simp [h3]
    rw [ec] at s1 hcont
    have hi := hH.cell (.inr (.inr h3))
    have kx := kE_le h.x (kP h k)
    have ky := kE_le h.y (kE h.x (kP h k))
    have kpp : kP h k = varP h k + 1 := rfl
    have kp0 : k ≤ kP h k := by have := kE_le h.i k; unfold kP; omega
    obtain ⟨v1, l1, e1, r1⟩ := place_run cells hcs names c sv h k pc v now out s1.left.left.left hk (by rw [hl]; omega) (hH.i (.inr (.inr h3))) ha hi hN1 hN2
    obtain ⟨-, -, -, -, wlt⟩ := word_in cells hcs names sv h hi hN1
    have hp := plc_word wlt hN2
    have a1 := l1.agree ha hk
    have hx := hH.x (.inr (.inr (.inl h3)))
    have hy := hH.y h3
    have hnm := hH.name (.inr (.inr h3))
    obtain ⟨v2, l2, e2, r2⟩ := expr_run names c sv h.x (kP h k) _ v1 now out s1.left.left.right (by omega) (by rw [l1.1, hl]; omega) hx a1
    have a2 := l2.agree a1 (by omega)
    have va := varE_lt names h.x (kP h k) hx (by omega)
    have eL : pc + (codeP cells names h k).length + (codeE names h.x (kP h k)).length = pc + (codeP cells names h k ++ codeE names h.x (kP h k)).length := by rw [List.length_append]; omega
    rw [eL] at r2
    obtain ⟨v3, l3, e3, r3⟩ := expr_run names c sv h.y (kE h.x (kP h k)) _ v2 now out s1.left.right (by omega) (by rw [l2.1, l1.1, hl]; omega) hy a2
    have a3 := l3.agree a2 (by omega)
    have vb := varE_lt names h.y (kE h.x (kP h k)) hy (by omega)
    have eL2 : pc + (codeP cells names h k ++ codeE names h.x (kP h k)).length + (codeE names h.y (kE h.x (kP h k))).length = pc + (codeP cells names h k ++ codeE names h.x (kP h k) ++ codeE names h.y (kE h.x (kP h k))).length := by rw [List.length_append (bs := codeE names h.y _)]; omega
    rw [eL2] at r3
    obtain ⟨n, hn⟩ := act_at s1.right rfl ((r1.trans r2).trans r3)
    generalize hQ : pc + (codeP cells names h k ++ codeE names h.x (kP h k) ++ codeE names h.y (kE h.x (kP h k))).length = Q at *
    have lt := locN_lt a3 hnm
    have len3 : v3.length = v.length := by rw [l3.1, l2.1, l1.1]
    have g1 : getV v3 (varP h k) = 4096 + 8 * (wordE cells names sv h : Int) := by rw [getV_nat (by omega), l3.2 _ (by omega), l2.2 _ (by omega), e1]
    have g2 : getV v3 (varE names h.x (kP h k)) = evalE names sv h.x := by rw [getV_nat (by omega), l3.2 _ (by omega), e2]
    have g3 : getV v3 (varE names h.y (kE h.x (kP h k))) = evalE names sv h.y := by rw [getV_nat (by omega), e3]
    have e4 : actV ⟨5, locN names h.name, varP h k, varE names h.x (kP h k), varE names h.y (kE h.x (kP h k)), 0, cix cells h.cell, 0, 0⟩ ⟨Q + 1, v3, now, out⟩ =
        (if now.getD (wordE cells names sv h) 0 = evalE names sv h.x then ⟨Q + 1, v3.set (locN names h.name) 1, now.set (wordE cells names sv h) (evalE names sv h.y), out⟩ else ⟨Q + 1, v3.set (locN names h.name) 0, now, out⟩) := by
      unfold actV casV plcP
      simp only [show ¬ (5 : Int) = 8 by decide, show ¬ (5 : Int) = 3 by decide, show ¬ (5 : Int) = 4 by decide, if_true, if_false]
      rw [g1, g2, g3, hw, hp]
      simp only [Option.isSome_some, Bool.true_and, rd, put, beq_iff_eq]
      split
      · rename_i hq
        rw [hq]
        simp only [beq_self_eq_true, bitV, if_true]
        rw [putV_nat lt]
      · rename_i hq
        rw [show (now.getD (wordE cells names sv h) 0 == evalE names sv h.x) = false from beq_eq_false_iff_ne.2 hq]
        simp only [bitV, Bool.false_eq_true, if_false]
        rw [putV_nat lt]
    rw [e4] at hn
    refine ⟨n, _, hn, ?_⟩
    rw [if_neg (by omega), if_neg (by omega), if_neg (by omega), if_pos h3]
    rw [List.length_append (bs := [_]), ← Nat.add_assoc, hQ] at hcont
    split
    · exact ⟨hcont, setE_agree a3 hnm, by simp [len3, hl], rfl, rfl, by simpa using hw⟩
    · exact ⟨hcont, setE_agree a3 hnm, by simp [len3, hl], rfl, rfl, hw⟩
  · have ek : kH h k = kE h.x k := by unfold kH; simp [h5]
    have ec : codeH cells names h k = codeE names h.x k ++ [⟨8, 0, varE names h.x k, 0, 0, 0, 0, 0, 0⟩] := by unfold codeH; simp [h5]
    rw [ec] at s1 hcont
    have hx := hH.x (.inr (.inr (.inr (.inl h5))))
    obtain ⟨v1, l1, e1, r1⟩ := expr_run names c sv h.x k pc v now out s1.left hk (by rw [hl]; omega) hx ha
    have va := varE_lt names h.x k hx hk
    obtain ⟨n, hn⟩ := act_at s1.right rfl r1
    have e2 : actV ⟨8, 0, varE names h.x k, 0, 0, 0, 0, 0, 0⟩ ⟨pc + (codeE names h.x k).length + 1, v1, now, out⟩ = ⟨pc + (codeE names h.x k).length + 1, v1, now, out ++ [evalE names sv h.x]⟩ := by
      unfold actV
      simp only [if_true]
      rw [getV_nat (by rw [l1.1]; omega), e1]
    rw [e2] at hn
    refine ⟨n, _, hn, ?_⟩
    rw [if_pos h5]
    refine ⟨?_, l1.agree ha hk, by rw [l1.1]; exact hl, rfl, rfl, hw⟩
    rw [List.length_append, ← Nat.add_assoc] at hcont
    exact hcont
theorem dropNil_shape : ∀ l : List Bd, dropNil l = [] ∨ ∃ h body els rest st, dropNil l = .cons h body els rest :: st
  | [] => .inl rfl
  | .nil :: r => by rw [dropNil]; exact dropNil_shape r
  | .cons h body els rest :: st => .inr ⟨h, body, els, rest, st, rfl⟩
theorem end_run {pc : Nat} (h : c.length ≤ pc ∨ Seg c pc [sEnd]) (v now out : List Int) : ∃ n pc', c.length ≤ pc' ∧ ∀ k, goV c (n + k) ⟨pc, v, now, out⟩ = (1, ⟨pc', v, now, out⟩) := by
  rcases h with h | h
  · exact ⟨0, pc, h, fun k => goV_done c _ _ h⟩
  · obtain ⟨n, hr⟩ := Rc.one h rfl v now out
    refine ⟨n, c.length, Nat.le_refl _, fun k => ?_⟩
    rw [hr]
    have e : quietV c sEnd ⟨pc + 1, v, now, out⟩ = ⟨c.length, v, now, out⟩ := by unfold quietV sEnd; simp
    rw [e]
    exact goV_done c _ _ (Nat.le_refl _)
theorem sim (hcs : CellsOk cells) (hN1 : cwords cells = N) (hN2 : N ≤ 1024) (hN : (labs c).Nodup) : ∀ (f : Nat) (s : Ss) (p : Ps), Rel cells names c V N s p → (goS cells names f s).1 ≠ 2 →
    ∃ n q, (∀ k, goV c (n + k) p = ((goS cells names f s).1, q)) ∧ Rel cells names c V N (goS cells names f s).2 q := by
  intro f
  induction f with
  | zero =>
    intro s p hR h2
    obtain ⟨pc', hc, hr⟩ := hR.cont.drop
    rcases dropNil_shape s.st with e | ⟨h, body, els, rest, st, e⟩
    · rw [goS, e] at h2 ⊢
      rw [e] at hc
      cases hc with
      | done hd =>
      obtain ⟨n, pc2, hle, hn⟩ := end_run hd p.v p.now p.out
      obtain ⟨m, hm⟩ := hr p.v p.now p.out
      refine ⟨m + n, ⟨pc2, p.v, p.now, p.out⟩, fun k => by rw [Nat.add_assoc, hm, hn], ⟨.done (.inl hle), hR.agree, hR.len, hR.now, hR.out, hR.words⟩⟩
    · rw [goS, e] at h2
      exact absurd rfl h2
  | succ f ih =>
    intro s p hR h2
    obtain ⟨pc', hc, hr⟩ := hR.cont.drop
    rcases dropNil_shape s.st with e | ⟨h, body, els, rest, st, e⟩
    · rw [goS, e] at h2 ⊢
      rw [e] at hc
      cases hc with
      | done hd =>
      obtain ⟨n, pc2, hle, hn⟩ := end_run hd p.v p.now p.out
      obtain ⟨m, hm⟩ := hr p.v p.now p.out
      refine ⟨m + n, ⟨pc2, p.v, p.now, p.out⟩, fun k => by rw [Nat.add_assoc, hm, hn], ⟨.done (.inl hle), hR.agree, hR.len, hR.now, hR.out, hR.words⟩⟩
    · rw [goS, e] at h2 ⊢
      dsimp only at h2 ⊢
      rw [e] at hc
      obtain ⟨m, hm⟩ := hr p.v p.now p.out
      have hR2 : Rel cells names c V N { s with st := .cons h body els rest :: st } ⟨pc', p.v, p.now, p.out⟩ := ⟨hc, hR.agree, hR.len, hR.now, hR.out, hR.words⟩
      cases hact : isActS h.kind
      · rw [hact] at h2
        simp only [Bool.false_eq_true, if_false] at h2 ⊢
        obtain ⟨q, hq, n, hn⟩ := quiet_step hN hact rfl hR2
        have e3 : quietS names h body els rest st { s with st := .cons h body els rest :: st } = quietS names h body els rest st s := by unfold quietS; rfl
        rw [e3] at hq
        obtain ⟨n2, q2, h3, h4⟩ := ih _ q hq h2
        exact ⟨m + (n + n2), q2, fun k => by rw [Nat.add_assoc, Nat.add_assoc, hm, hn, h3], h4⟩
      · simp only [if_true]
        obtain ⟨n, q, hn, hq⟩ := act_step hcs hN1 hN2 hact rfl hR2
        exact ⟨m + n, q, fun k => by rw [Nat.add_assoc, hm, hn], hq⟩
end
end Go.Proofs.Ytapnnbbbgopobaa.Mi
namespace Go.Proofs.Ytapnnbbbgopobaa.Rn
open Go.RowKit Cm Mm Ow Me Ml Lg Stp Rr Lr
theorem elU64 : El Try.prog 50 53 1 8 := by
  obtain ⟨i, h1, h2, h3, h4⟩ := info_parts (P := Try.prog) (e := 53) (z := .int .u64 0) (size := 1) (bytes := 8) (by kernel_rfl)
  exact ⟨Try.underlying50, ⟨i, _, h1, h2, h3, h4, rfl⟩, by decide⟩
theorem run_load_st {w : World} {g : Nat} {vs : List Value} {a : Act} {x : Operand} {oi : Oper} (ho : oi.op = .load 122 x) (hx : a.eval x = .pointer (some ⟨g, 0, none⟩)) (hg : w.heap[g]? = some (.cells vs.toArray 122 (0, 0))) (hl : vs.length = 21) : (execOp a.eval oi).run Try.prog w = .ok (.value (.agg vs.toArray)) w := by
  unfold execOp
  simp only [ho, hx, Instr.loadAt, Instr.sureAddr, Sem.run_bind, Sem.run_pure, Result.andThen_ok, run_loadVar_row w g 122 122 vs.toArray (0, 0) _ hg Try.underlying122 rfl (by rw [List.size_toArray, hl]; kernel_rfl)]
def Rn (w : World) (B0 q : Nat) (f : Rf) (G : List Nat) (now out : List Int) (rec_ l : Value) (ill : Bool) : Prop := ∃ NA nc OA on oc, RnV w B0 q f G now out rec_ l ill NA nc OA on oc
section
variable {w w' : World} {B0 q p : Nat} {f : Rf} {G F : List Nat} {now out : List Int} {rec_ l : Value} {ill : Bool} {NA : Option Addr} {nc : Nat} {OA : Option Addr} {on oc : Nat} {names : List ByteArray} {v : List Int} {sk en : Bool} {nA : Option Addr} {nn nnc : Nat} {vA : Option Addr} {vc : Nat} {KA : Option Addr} {kn kc : Nat} {rows : List Lv}
theorem rs_names (hR : RnV w B0 q f G now out rec_ l ill NA nc OA on oc) (hS : SrV w B0 p F names v sk en nA nn nnc vA vc KA kn kc rows) : ∀ g ∈ G, nA.map (·.block) ≠ some g := fun g hg hx => by
  rcases hR.gg g hg with e | e | e
  · subst e
    obtain ⟨cur, e2⟩ := Own.type hS.nm hx
    rw [hR.blk] at e2
    injection e2 with e2
    injection e2 with _ e2
    exact absurd e2 (by decide)
  · exact own_ne hS.nm hR.nr (by decide) g hx e
  · exact own_ne hS.nm hR.or_ (by decide) g hx e
theorem rn_ge (hR : RnV w B0 q f G now out rec_ l ill NA nc OA on oc) : ∀ g ∈ G, B0 ≤ g ∧ g < w.heap.size := fun g hg => by
  rcases hR.gg g hg with e | e | e
  · subst e; exact ⟨hR.hq, hR.qlt⟩
  · exact hR.nr.lt g e
  · exact hR.or_.lt g e
theorem sr_ge (hS : SrV w B0 p F names v sk en nA nn nnc vA vc KA kn kc rows) : ∀ g ∈ F, B0 ≤ g ∧ g < w.heap.size := fun g hg => by
  rcases hS.ff g hg with e | e | e | e
  · subst e; exact ⟨hS.hq, hS.qlt⟩
  · exact hS.vr.lt g e
  · exact hS.kr.lt g e
  · exact Own.lt hS.nm g e
theorem RnV.setN {g : Nat} (h : RnV w B0 q f G now out rec_ l ill (some ⟨g, 0, none⟩) nc OA on oc) {i : Nat} (hi : i < now.length) (x : Int) : RnV (w.setCell ⟨g, i, none⟩ (.int .u64 x)) B0 q f G (now.set i x) out rec_ l ill (some ⟨g, 0, none⟩) nc OA on oc := by
  have hS := only_q w g i (.int .u64 x)
  have hgq : g ≠ q := fun e => h.qn (by rw [← e]; rfl)
  have hgB : B0 ≤ g := (h.nr.lt g rfl).1
  have e := own_cell h.nr (j := 0) hi (by omega) (.int .u64 x)
  rw [Nat.mul_one, Nat.add_zero] at e
  have e2 : (now.map uL).set i (((now.map uL).getD i []).set 0 (.int .u64 x)) = (now.set i x).map uL := by
    rw [List.map_set]
    congr 1
    simp [List.getD, hi, uL]
  rw [e2] at e
  have hl : (now.set i x).length = now.length := by simp
  exact ⟨by rw [hl]; exact (hS.block q h.qlt (by simp; omega)).trans h.blk, by rw [hl]; exact e, own_only h.or_ hS (fun k hk hx => by simp at hx; subst hx; exact h.no k rfl hk), h.no, h.hq, Fr.cl_only h.cl hS (fun h0 b o m hA hx => by have := h.cb h0 b o m hA; simp at hx; omega), h.cb, h.gq, h.gn, h.go, h.gg, by rw [hl]; exact h.wd, by rw [hl]; exact h.w64, h.c2, h.ok, h.ol⟩
theorem RnV.putO (h : RnV w B0 q f G now out rec_ l ill NA nc OA on oc) {OA2 : Option Addr} {oc2 : Nat} {x : Int} (hn : Own w' B0 53 1 OA2 (on + 1) oc2 ((out ++ [x]).map uL)) (ho : Only (OA.map (·.block)).toList w w') (hat : OA2.map (·.block) = OA.map (·.block) ∨ ∀ b, OA2.map (·.block) = some b → w.heap.size ≤ b) (hol : on + 1 ≤ 1000000) :
    RnV (w'.setCell ⟨q, 4, none⟩ (.slice OA2 (on + 1) oc2)) B0 q f (q :: ((NA.map (·.block)).toList ++ (OA2.map (·.block)).toList)) now (out ++ [x]) rec_ l ill NA nc OA2 (on + 1) oc2 := by
  have hS := only_q w' q 4 (.slice OA2 (on + 1) oc2)
  have hqo : q ∉ (OA.map (·.block)).toList := fun hx => h.qo (Fr.mem_blk.1 hx)
  have hb := (ho.block q h.qlt hqo).trans h.blk
  have hq2 : OA2.map (·.block) ≠ some q := fun hx => by
    rcases hat with e | e
    · exact h.qo (e ▸ hx)
    · have := e q hx; have := h.qlt; omega
  have hB : ∀ k, k ∈ (OA.map (·.block)).toList → B0 ≤ k := fun k hk => (h.or_.lt k (Fr.mem_blk.1 hk)).1
  refine ⟨Lx.blk_set hb _, own_only (own_only h.nr ho (fun k hk hx => h.no k hk (Fr.mem_blk.1 hx))) hS (fun k hk hx => by simp at hx; subst hx; exact h.qn hk), own_only hn hS (fun k hk hx => by simp at hx; subst hx; exact hq2 hk), fun k hk hx => ?_, h.hq, Fr.cl_only (Fr.cl_only h.cl ho (fun h0 b o m hA hx => by have := h.cb h0 b o m hA; have := hB b hx; omega)) hS (fun h0 b o m hA hx => by have := h.cb h0 b o m hA; have := h.hq; simp at hx; omega), h.cb, by simp, fun k hk => by simp [hk], fun k hk => by simp [hk], fun k hk => ?_, h.wd, h.w64, h.c2, h.ok, hol⟩
  · rcases hat with e | e
    · exact h.no k hk (e ▸ hx)
    · have := e k hx; have := (h.nr.lt k hk).2; omega
  · simp at hk
    rcases hk with e | ⟨a, e1, e2⟩ | ⟨a, e1, e2⟩
    · exact .inl e
    · exact .inr (.inl (by simp [e1, e2]))
    · exact .inr (.inr (by simp [e1, e2]))
end
theorem word_lt {cells : List Cl} {names : List ByteArray} {v : List Int} {h : Hd} {N : Nat} (hcs : CellsOk cells) (hN : cwords cells = N) (hc : cix cells h.cell < cells.length) : wordE cells names v h < N := by
  obtain ⟨-, -, -, -, wlt⟩ := word_in cells hcs names v h hc hN
  exact wlt
def ActA (w : World) (B0 q p : Nat) (f : Rf) (G F : List Nat) (rec_ l : Value) (ill : Bool) (names : List ByteArray) (s : Ss) (sk en : Bool) (e : Ending) (w' : World) : Prop := e = .returned (.tuple #[]) ∧ ∃ G', Rn w' B0 q f G' s.now s.out rec_ l ill ∧ Sr w' B0 p F names s.v s.st sk en ∧ Only (G ++ F) w w' ∧ ∀ g ∈ G', g ∈ G ∨ w.heap.size ≤ g
set_option maxRecDepth 20000 in
set_option maxHeartbeats 12800000 in
theorem act_5 {w : World} {B0 q p : Nat} {f : Rf} {G : List Nat} {now out : List Int} {rec_ l : Value} {ill : Bool} {NA : Option Addr} {nc : Nat} {OA : Option Addr} {on oc : Nat} {F : List Nat} {names : List ByteArray} {v : List Int} {st : List Bd} {sk en : Bool} {nA : Option Addr} {nn nnc : Nat} {vA : Option Addr} {vc : Nat} {KA : Option Addr} {kn kc : Nat} {rows : List Lv} {h : Hd} {b1 b2 : Bd} {vs : List Value} (hk : h.kind = 5) (hst : stk rows = st) (hR : RnV w B0 q f G now out rec_ l ill NA nc OA on oc) (hS : SrV w B0 p F names v sk en nA nn nnc vA vc KA kn kc rows) (hd : ∀ g ∈ F, g ∉ G) (hs : StP (Fr.Lo B0) w h b1 b2 vs) (hout : out.length < 1000000) :
    Calls Try.prog 61 #[.pointer (some ⟨q, 0, none⟩), .pointer (some ⟨p, 0, none⟩), .agg vs.toArray] w (ActA w B0 q p f G F rec_ l ill names (actS f.cs names h ⟨st, v, now, out⟩) sk en) := by
  have hb0 := below_new w (.cells vs.toArray 122)
  have HB := Lib.hid hb0
  have R := Lib.hid (hR.keep hb0)
  have Sx := Lib.hid (hS.keep hb0)
  have G0 := Lib.hid (heap_alloc_new w (.cells vs.toArray 122))
  have HS := Lib.hid (stP_only (Only.of_below (F := []) hb0) (fun g hg => by cases hg) hs)
  have HD := Lib.hid hd
  have HST := Lib.hid hst
  have VL := Lib.hid (Fr.StP.len hs)
  obtain ⟨vi, vx, vy, BA, bn, bc, EA, en', ec, hvs, hi, hx, hy, hr⟩ := hs
  have XX := Lib.hid (exV_keep hb0 (exV_of (B := 0) (fun b _ => Nat.zero_le b) hx))
  have XY := Lib.hid (exV_keep hb0 (exV_of (B := 0) (fun b _ => Nat.zero_le b) hy))
  obtain ⟨i0, i1, i2, i3, i4, rfl⟩ := Fr.len5 (Fr.exP_len hi)
  obtain ⟨x0, x1, x2, x3, x4, rfl⟩ := Fr.len5 (Fr.exP_len hx)
  obtain ⟨z0, z1, z2, z3, z4, rfl⟩ := Fr.len5 (Fr.exP_len hy)
  have v0 : vs.toArray[0]? = some (.int .i64 5) := by rw [hvs]; simp only [stVs, hk]; rfl
  have v2 : vs.toArray[2]? = some (.string h.name) := by rw [hvs]; rfl
  have v9 : vs.toArray[9]? = some (x0) := by rw [hvs]; rfl
  have v10 : vs.toArray[10]? = some (x1) := by rw [hvs]; rfl
  have v11 : vs.toArray[11]? = some (x2) := by rw [hvs]; rfl
  have v12 : vs.toArray[12]? = some (x3) := by rw [hvs]; rfl
  have v13 : vs.toArray[13]? = some (x4) := by rw [hvs]; rfl
  have v14 : vs.toArray[14]? = some (z0) := by rw [hvs]; rfl
  have v15 : vs.toArray[15]? = some (z1) := by rw [hvs]; rfl
  have v16 : vs.toArray[16]? = some (z2) := by rw [hvs]; rfl
  have v17 : vs.toArray[17]? = some (z3) := by rw [hvs]; rfl
  have v18 : vs.toArray[18]? = some (z4) := by rw [hvs]; rfl
  have HK := Lib.hid hk
  clear hvs hi hx hy hr hk hst hd hR hS
  obtain ⟨W, hW⟩ : ∃ W, w.alloc (.cells vs.toArray 122) = W := ⟨_, rfl⟩
  have hgl0 : w.heap.size < W.heap.size := by rw [← hW]; simp
  rw [hW] at HB R Sx G0 HS XX XY
  clear hb0
  go_enter Try.func61, Try.ntmps61
  go_upto_region 1 with fail
  try rw [hW]
  clear hW
  have p0 := Sx.out.y0
  have p1 := Sx.out.y1
  obtain ⟨WD, hWD⟩ : ∃ w', W.drew = w' := ⟨_, rfl⟩
  have HWD : Hid (Below W.heap.size W WD) := Lib.hid (by rw [← hWD]; exact (Below.refl _ _).drew)
  have SA : WD.heap[w.heap.size]? = some (.cells vs.toArray 122 (0, 0)) ∧ WD.cell? ⟨p, 0, none⟩ = some (.slice nA nn nnc) ∧ WD.cell? ⟨p, 1, none⟩ = some (.slice vA nn vc) := by
    rw [← hWD]
    exact ⟨G0.out, p0, p1⟩
  refine Hd.start 11 (fun w' => w'.heap[w.heap.size]? = some (.cells vs.toArray 122 (0, 0)) ∧ w'.cell? ⟨p, 0, none⟩ = some (.slice nA nn nnc) ∧ w'.cell? ⟨p, 1, none⟩ = some (.slice vA nn vc)) (by kernel_rfl) ?_
  try rw [hWD]
  clear hWD p0 p1
  refine Hd.take (i := 0) (v := ?va0) rfl (by decide +kernel) (by decide +kernel) (fun _ _ _ h => h) rfl ?hya0 SA ?resta0
  case hya0 =>
    intro wq hSw
    obtain ⟨s1, s2, s3⟩ := hSw
    go_simp
    try with_reducible rfl
  try simp only [Act.put, zA, zB, zC]
  refine Hd.take (i := 1) (v := ?va1) rfl (by decide +kernel) (by decide +kernel) (fun _ _ _ h => h) rfl ?hya1 SA ?resta1
  case hya1 =>
    intro wq hSw
    obtain ⟨s1, s2, s3⟩ := hSw
    have e9 := cells_of s1 v9
    have e10 := cells_of s1 v10
    have e11 := cells_of s1 v11
    have e12 := cells_of s1 v12
    have e13 := cells_of s1 v13
    go_simp
    try with_reducible rfl
  try simp only [Act.put, zA, zB, zC]
  refine Hd.take (i := 2) (v := ?va2) rfl (by decide +kernel) (by decide +kernel) (fun _ _ _ h => h) rfl ?hya2 SA ?resta2
  case hya2 =>
    intro wq hSw
    obtain ⟨s1, s2, s3⟩ := hSw
    go_simp
    try with_reducible rfl
  try simp only [Act.put, zA, zB, zC]
  refine Hd.take (i := 3) (v := ?va3) rfl (by decide +kernel) (by decide +kernel) (fun _ _ _ h => h) rfl ?hya3 SA ?resta3
  case hya3 =>
    intro wq hSw
    obtain ⟨s1, s2, s3⟩ := hSw
    go_simp
    try with_reducible rfl
  try simp only [Act.put, zA, zB, zC]
  refine Hd.take (i := 4) (v := ?va4) rfl (by decide +kernel) (by decide +kernel) (fun _ _ _ h => h) rfl ?hya4 SA ?resta4
  case hya4 =>
    intro wq hSw
    obtain ⟨s1, s2, s3⟩ := hSw
    go_simp
    try with_reducible rfl
  try simp only [Act.put, zA, zB, zC]
  refine Hd.take (i := 5) (v := ?va5) rfl (by decide +kernel) (by decide +kernel) (fun _ _ _ h => h) rfl ?hya5 SA ?resta5
  case hya5 =>
    intro wq hSw
    obtain ⟨s1, s2, s3⟩ := hSw
    go_simp
    try with_reducible rfl
  try simp only [Act.put, zA, zB, zC]
  refine Hd.take (i := 6) (v := ?va6) rfl (by decide +kernel) (by decide +kernel) (fun _ _ _ h => h) rfl ?hya6 SA ?resta6
  case hya6 =>
    intro wq hSw
    obtain ⟨s1, s2, s3⟩ := hSw
    go_simp
    try with_reducible rfl
  try simp only [Act.put, zA, zB, zC]
  refine Hd.take (i := 7) (v := ?va7) rfl (by decide +kernel) (by decide +kernel) (fun _ _ _ h => h) rfl ?hya7 SA ?resta7
  case hya7 =>
    intro wq hSw
    obtain ⟨s1, s2, s3⟩ := hSw
    go_simp
    try with_reducible rfl
  try simp only [Act.put, zA, zB, zC]
  refine Hd.take (i := 8) (v := ?va8) rfl (by decide +kernel) (by decide +kernel) (fun _ _ _ h => h) rfl ?hya8 SA ?resta8
  case hya8 =>
    intro wq hSw
    obtain ⟨s1, s2, s3⟩ := hSw
    go_simp
    try with_reducible rfl
  try simp only [Act.put, zA, zB, zC]
  refine Hd.take (i := 9) (v := ?va9) rfl (by decide +kernel) (by decide +kernel) (fun _ _ _ h => h) rfl ?hya9 SA ?resta9
  case hya9 =>
    intro wq hSw
    obtain ⟨s1, s2, s3⟩ := hSw
    go_simp
    try with_reducible rfl
  try simp only [Act.put, zA, zB, zC]
  refine Hd.one (i := 10) rfl (by kernel_rfl) rfl (fun K hK => ?_)
  go_simp
  have S2 := Lib.hid (Sx.out.keep HWD.out)
  refine (eval_any h.x (exV_keep HWD.out XX.out) S2.out.isn S2.out.isv S2.out.n2).mono ?_
  rintro e w2 ⟨rfl, hb2⟩
  have B2 := Lib.hid (HWD.out.trans (hb2.mono HWD.out.size))
  have hgd := Nat.lt_of_lt_of_le hgl0 HWD.out.size
  have SB : w2.heap[w.heap.size]? = some (.cells vs.toArray 122 (0, 0)) ∧ w2.cell? ⟨p, 0, none⟩ = some (.slice nA nn nnc) ∧ w2.cell? ⟨p, 1, none⟩ = some (.slice vA nn vc) := ⟨(hb2.block _ hgd).trans SA.1, (hb2.cell (p := ⟨p, 0, none⟩) S2.out.qlt).trans SA.2.1, (hb2.cell (p := ⟨p, 1, none⟩) S2.out.qlt).trans SA.2.2⟩
  refine hK _ _ (fun _ => SB) ?_
  clear hK K hb2 SA S2
  try simp only [Act.put, zA, zB, zC]
  refine Hd.one (i := 11) rfl (by kernel_rfl) rfl (fun K hK => ?_)
  go_simp
  refine hK _ _ (fun h => absurd h (by omega)) ?_
  clear hK K
  try simp only [Act.put, zA, zB, zC]
  refine Hd.done (by kernel_rfl) ?_ _
  have R3 := Lib.hid (R.out.keep B2.out)
  have S3 := Lib.hid (Sx.out.keep B2.out)
  have G3 := Lib.hid SB.1
  have HS3 := Lib.hid (stP_only (Only.of_below (F := []) B2.out) (fun g hg => by cases hg) HS.out)
  have XY3 := Lib.hid (exV_keep B2.out XY.out)
  have BB := Lib.hid (HB.out.trans (B2.out.mono HB.out.size))
  have k0 := cells_of SB.1 v0
  have k2 := cells_of SB.1 v2
  have HW2 := B2.out.size
  have hgw2 := Nat.lt_of_lt_of_le hgl0 HW2
  obtain ⟨vx', hvx⟩ : ∃ x, evalE names v h.x = x := ⟨_, rfl⟩
  rw [hvx]
  have HVX := Lib.hid hvx
  clear SB hvx hgd
  clear R Sx G0 HS XX XY HWD
  have HE : Hid (actS f.cs names h ⟨st, v, now, out⟩ = ⟨st, v, now, out ++ [vx']⟩) := Lib.hid (by unfold actS; rw [if_pos HK.out, HVX.out])
  have y4 := R3.out.y4
  have hol : out.length = on := by simpa using R3.out.or_.len
  have rf := R3.out.free
  go_upto_region 4 with fail
  go_wp2_with (at_builtin; refine Ow2.wpList_appN w2 rfl _ _ rfl elU64 B0 OA on oc 1 _ (out.map uL) [[.int .u64 vx']] rfl rfl R3.out.or_ rfl rfl (fun y hy => by simp at hy; subst hy; rfl) (fun y hy u hu => by simp at hy; subst hy; simp at hu; subst hu; rfl) (by unfold maxLen; omega) (by omega) (by have := R3.out.hq; have := R3.out.qlt; omega) _ rfl ?_; intro A4 c4 w4 hown4 hbel4 hkp4 hat4; have HO4 := Lib.hid hown4; have HB4 := Lib.hid hbel4; have HK4 := Lib.hid hkp4; have HA4 := Lib.hid hat4; have q4 : w4.heap[q]? = w2.heap[q]? := hkp4 q R3.out.qlt R3.out.qo; have y44 : w4.cell? ⟨q, 4, none⟩ = some (.slice OA on oc) := ((Ow2.blk_same q4).1 4).trans y4; have rf4 : ∀ k, w4.frozen? ⟨q, k, none⟩ = false := fun k => ((Ow2.blk_same q4).2 k).trans (rf k); clear hown4 hbel4 hkp4 hat4 q4)
  go_end0
  rw [HE.out]
  have hO4 : Only (OA.map (·.block)).toList w2 w4 := ⟨HB4.out.os, HB4.out.tape, HB4.out.output, HB4.out.size, fun b hb hn => HK4.out b hb (fun hx => hn (Fr.mem_blk.2 hx))⟩
  have hOG : ∀ g ∈ (OA.map (·.block)).toList, g ∈ G := fun g hg => R3.out.go g (Fr.mem_blk.1 hg)
  have hRN := rn_ge R3.out
  have hSN := rs_names R3.out S3.out
  have R5 := R3.out.putO (x := vx') (by have := HO4.out; rw [List.map_append]; exact this) hO4 HA4.out (by omega)
  have S5 := (S3.out.only hO4 (fun g hg => ⟨(hRN g (hOG g hg)).1, fun hx => HD.out g hx (hOG g hg), hSN g (hOG g hg)⟩)).only (only_q w4 q 4 (.slice A4 (on + 1) c4)) (fun g hg => by
    simp at hg; subst hg
    exact ⟨R3.out.hq, fun hx => HD.out _ hx R3.out.gq, hSN _ R3.out.gq⟩)
  refine ⟨rfl, _, ⟨_, _, _, _, _, R5⟩, ⟨_, _, _, _, _, _, _, _, _, S5, HST.out⟩, ?_, fun g hg => ?_⟩
  · have o1 : Only (G ++ F) w w2 := Only.of_below BB.out
    have o2 : Only (G ++ F) w w4 := o1.seq (hO4.more (fun x hx => List.mem_append_left _ (hOG x hx)))
    exact o2.setCell (p := ⟨q, 4, none⟩) (List.mem_append_left _ R3.out.gq) _
  · simp at hg
    rcases hg with e | ⟨a, e1, e2⟩ | ⟨a, e1, e2⟩
    · subst e; exact .inl R3.out.gq
    · exact .inl (R3.out.gn g (by simp [e1, e2]))
    · rcases HA4.out with e | e
      · exact .inl (R3.out.go g (by rw [← e]; simp [e1, e2]))
      · have := e g (by simp [e1, e2]); exact .inr (by have := BB.out.size; omega)
set_option maxRecDepth 20000 in
set_option maxHeartbeats 12800000 in
theorem act_1 {w : World} {B0 q p : Nat} {f : Rf} {G : List Nat} {now out : List Int} {rec_ l : Value} {ill : Bool} {NA : Option Addr} {nc : Nat} {OA : Option Addr} {on oc : Nat} {F : List Nat} {names : List ByteArray} {v : List Int} {st : List Bd} {sk en : Bool} {nA : Option Addr} {nn nnc : Nat} {vA : Option Addr} {vc : Nat} {KA : Option Addr} {kn kc : Nat} {rows : List Lv} {h : Hd} {b1 b2 : Bd} {vs : List Value} (hk : h.kind = 1) (hst : stk rows = st) (hR : RnV w B0 q f G now out rec_ l ill NA nc OA on oc) (hS : SrV w B0 p F names v sk en nA nn nnc vA vc KA kn kc rows) (hd : ∀ g ∈ F, g ∉ G) (hs : StP (Fr.Lo B0) w h b1 b2 vs) (hcx : cix f.cs h.cell < f.cs.length) :
    Calls Try.prog 61 #[.pointer (some ⟨q, 0, none⟩), .pointer (some ⟨p, 0, none⟩), .agg vs.toArray] w (ActA w B0 q p f G F rec_ l ill names (actS f.cs names h ⟨st, v, now, out⟩) sk en) := by
  have hb0 := below_new w (.cells vs.toArray 122)
  have HB := Lib.hid hb0
  have R := Lib.hid (hR.keep hb0)
  have Sx := Lib.hid (hS.keep hb0)
  have G0 := Lib.hid (heap_alloc_new w (.cells vs.toArray 122))
  have HS := Lib.hid (stP_only (Only.of_below (F := []) hb0) (fun g hg => by cases hg) hs)
  have HD := Lib.hid hd
  have HST := Lib.hid hst
  have VL := Lib.hid (Fr.StP.len hs)
  obtain ⟨vi, vx, vy, BA, bn, bc, EA, en', ec, hvs, hi, hx, hy, hr⟩ := hs
  have XX := Lib.hid (exV_keep hb0 (exV_of (B := 0) (fun b _ => Nat.zero_le b) hx))
  have XY := Lib.hid (exV_keep hb0 (exV_of (B := 0) (fun b _ => Nat.zero_le b) hy))
  obtain ⟨i0, i1, i2, i3, i4, rfl⟩ := Fr.len5 (Fr.exP_len hi)
  obtain ⟨x0, x1, x2, x3, x4, rfl⟩ := Fr.len5 (Fr.exP_len hx)
  obtain ⟨z0, z1, z2, z3, z4, rfl⟩ := Fr.len5 (Fr.exP_len hy)
  have v0 : vs.toArray[0]? = some (.int .i64 1) := by rw [hvs]; simp only [stVs, hk]; rfl
  have v2 : vs.toArray[2]? = some (.string h.name) := by rw [hvs]; rfl
  have v9 : vs.toArray[9]? = some (x0) := by rw [hvs]; rfl
  have v10 : vs.toArray[10]? = some (x1) := by rw [hvs]; rfl
  have v11 : vs.toArray[11]? = some (x2) := by rw [hvs]; rfl
  have v12 : vs.toArray[12]? = some (x3) := by rw [hvs]; rfl
  have v13 : vs.toArray[13]? = some (x4) := by rw [hvs]; rfl
  have v14 : vs.toArray[14]? = some (z0) := by rw [hvs]; rfl
  have v15 : vs.toArray[15]? = some (z1) := by rw [hvs]; rfl
  have v16 : vs.toArray[16]? = some (z2) := by rw [hvs]; rfl
  have v17 : vs.toArray[17]? = some (z3) := by rw [hvs]; rfl
  have v18 : vs.toArray[18]? = some (z4) := by rw [hvs]; rfl
  have HK := Lib.hid hk
  clear hvs hi hx hy hr hk hst hd hR hS
  obtain ⟨W, hW⟩ : ∃ W, w.alloc (.cells vs.toArray 122) = W := ⟨_, rfl⟩
  have hgl0 : w.heap.size < W.heap.size := by rw [← hW]; simp
  rw [hW] at HB R Sx G0 HS XX XY
  clear hb0
  go_enter Try.func61, Try.ntmps61
  go_upto_region 1 with fail
  try rw [hW]
  clear hW
  have p0 := Sx.out.y0
  have p1 := Sx.out.y1
  obtain ⟨WD, hWD⟩ : ∃ w', W.drew = w' := ⟨_, rfl⟩
  have HWD : Hid (Below W.heap.size W WD) := Lib.hid (by rw [← hWD]; exact (Below.refl _ _).drew)
  have SA : WD.heap[w.heap.size]? = some (.cells vs.toArray 122 (0, 0)) ∧ WD.cell? ⟨p, 0, none⟩ = some (.slice nA nn nnc) ∧ WD.cell? ⟨p, 1, none⟩ = some (.slice vA nn vc) := by
    rw [← hWD]
    exact ⟨G0.out, p0, p1⟩
  refine Hd.start 11 (fun w' => w'.heap[w.heap.size]? = some (.cells vs.toArray 122 (0, 0)) ∧ w'.cell? ⟨p, 0, none⟩ = some (.slice nA nn nnc) ∧ w'.cell? ⟨p, 1, none⟩ = some (.slice vA nn vc)) (by kernel_rfl) ?_
  try rw [hWD]
  clear hWD p0 p1
  refine Hd.take (i := 0) (v := ?va0) rfl (by decide +kernel) (by decide +kernel) (fun _ _ _ h => h) rfl ?hya0 SA ?resta0
  case hya0 =>
    intro wq hSw
    obtain ⟨s1, s2, s3⟩ := hSw
    go_simp
    try with_reducible rfl
  try simp only [Act.put, zA, zB, zC]
  refine Hd.take (i := 1) (v := ?va1) rfl (by decide +kernel) (by decide +kernel) (fun _ _ _ h => h) rfl ?hya1 SA ?resta1
  case hya1 =>
    intro wq hSw
    obtain ⟨s1, s2, s3⟩ := hSw
    have e9 := cells_of s1 v9
    have e10 := cells_of s1 v10
    have e11 := cells_of s1 v11
    have e12 := cells_of s1 v12
    have e13 := cells_of s1 v13
    go_simp
    try with_reducible rfl
  try simp only [Act.put, zA, zB, zC]
  refine Hd.take (i := 2) (v := ?va2) rfl (by decide +kernel) (by decide +kernel) (fun _ _ _ h => h) rfl ?hya2 SA ?resta2
  case hya2 =>
    intro wq hSw
    obtain ⟨s1, s2, s3⟩ := hSw
    go_simp
    try with_reducible rfl
  try simp only [Act.put, zA, zB, zC]
  refine Hd.take (i := 3) (v := ?va3) rfl (by decide +kernel) (by decide +kernel) (fun _ _ _ h => h) rfl ?hya3 SA ?resta3
  case hya3 =>
    intro wq hSw
    obtain ⟨s1, s2, s3⟩ := hSw
    go_simp
    try with_reducible rfl
  try simp only [Act.put, zA, zB, zC]
  refine Hd.take (i := 4) (v := ?va4) rfl (by decide +kernel) (by decide +kernel) (fun _ _ _ h => h) rfl ?hya4 SA ?resta4
  case hya4 =>
    intro wq hSw
    obtain ⟨s1, s2, s3⟩ := hSw
    go_simp
    try with_reducible rfl
  try simp only [Act.put, zA, zB, zC]
  refine Hd.take (i := 5) (v := ?va5) rfl (by decide +kernel) (by decide +kernel) (fun _ _ _ h => h) rfl ?hya5 SA ?resta5
  case hya5 =>
    intro wq hSw
    obtain ⟨s1, s2, s3⟩ := hSw
    go_simp
    try with_reducible rfl
  try simp only [Act.put, zA, zB, zC]
  refine Hd.take (i := 6) (v := ?va6) rfl (by decide +kernel) (by decide +kernel) (fun _ _ _ h => h) rfl ?hya6 SA ?resta6
  case hya6 =>
    intro wq hSw
    obtain ⟨s1, s2, s3⟩ := hSw
    go_simp
    try with_reducible rfl
  try simp only [Act.put, zA, zB, zC]
  refine Hd.take (i := 7) (v := ?va7) rfl (by decide +kernel) (by decide +kernel) (fun _ _ _ h => h) rfl ?hya7 SA ?resta7
  case hya7 =>
    intro wq hSw
    obtain ⟨s1, s2, s3⟩ := hSw
    go_simp
    try with_reducible rfl
  try simp only [Act.put, zA, zB, zC]
  refine Hd.take (i := 8) (v := ?va8) rfl (by decide +kernel) (by decide +kernel) (fun _ _ _ h => h) rfl ?hya8 SA ?resta8
  case hya8 =>
    intro wq hSw
    obtain ⟨s1, s2, s3⟩ := hSw
    go_simp
    try with_reducible rfl
  try simp only [Act.put, zA, zB, zC]
  refine Hd.take (i := 9) (v := ?va9) rfl (by decide +kernel) (by decide +kernel) (fun _ _ _ h => h) rfl ?hya9 SA ?resta9
  case hya9 =>
    intro wq hSw
    obtain ⟨s1, s2, s3⟩ := hSw
    go_simp
    try with_reducible rfl
  try simp only [Act.put, zA, zB, zC]
  refine Hd.one (i := 10) rfl (by kernel_rfl) rfl (fun K hK => ?_)
  go_simp
  have S2 := Lib.hid (Sx.out.keep HWD.out)
  refine (eval_any h.x (exV_keep HWD.out XX.out) S2.out.isn S2.out.isv S2.out.n2).mono ?_
  rintro e w2 ⟨rfl, hb2⟩
  have B2 := Lib.hid (HWD.out.trans (hb2.mono HWD.out.size))
  have hgd := Nat.lt_of_lt_of_le hgl0 HWD.out.size
  have SB : w2.heap[w.heap.size]? = some (.cells vs.toArray 122 (0, 0)) ∧ w2.cell? ⟨p, 0, none⟩ = some (.slice nA nn nnc) ∧ w2.cell? ⟨p, 1, none⟩ = some (.slice vA nn vc) := ⟨(hb2.block _ hgd).trans SA.1, (hb2.cell (p := ⟨p, 0, none⟩) S2.out.qlt).trans SA.2.1, (hb2.cell (p := ⟨p, 1, none⟩) S2.out.qlt).trans SA.2.2⟩
  refine hK _ _ (fun _ => SB) ?_
  clear hK K hb2 SA S2
  try simp only [Act.put, zA, zB, zC]
  refine Hd.one (i := 11) rfl (by kernel_rfl) rfl (fun K hK => ?_)
  go_simp
  refine hK _ _ (fun h => absurd h (by omega)) ?_
  clear hK K
  try simp only [Act.put, zA, zB, zC]
  refine Hd.done (by kernel_rfl) ?_ _
  have R3 := Lib.hid (R.out.keep B2.out)
  have S3 := Lib.hid (Sx.out.keep B2.out)
  have G3 := Lib.hid SB.1
  have HS3 := Lib.hid (stP_only (Only.of_below (F := []) B2.out) (fun g hg => by cases hg) HS.out)
  have XY3 := Lib.hid (exV_keep B2.out XY.out)
  have BB := Lib.hid (HB.out.trans (B2.out.mono HB.out.size))
  have k0 := cells_of SB.1 v0
  have k2 := cells_of SB.1 v2
  have HW2 := B2.out.size
  have hgw2 := Nat.lt_of_lt_of_le hgl0 HW2
  obtain ⟨vx', hvx⟩ : ∃ x, evalE names v h.x = x := ⟨_, rfl⟩
  rw [hvx]
  have HVX := Lib.hid hvx
  clear SB hvx hgd
  clear R Sx G0 HS XX XY HWD
  have hwlt : wordE f.cs names v h < now.length := word_lt R3.out.ok R3.out.wd.symm hcx
  have HCX := Lib.hid hcx
  obtain ⟨K0, hK0⟩ : ∃ K, wordE f.cs names v h = K := ⟨_, rfl⟩
  have HK0 := Lib.hid hK0
  rw [hK0] at hwlt
  clear hK0 hcx
  obtain ⟨nb, no, hNA, hnb, u0⟩ := R3.out.isn.cell hwlt
  have hno : no = 0 := by
    rcases R3.out.nr.row.2 with ⟨h1, _⟩ | ⟨g, cp, cur, h1, _⟩
    · rw [hNA] at h1; cases h1
    · rw [hNA] at h1
      injection h1 with h1
      injection h1 with h1
      injection h1
  subst hNA hno
  have u1 : w2.cell? ⟨nb, K0, none⟩ = some (.int .u64 (now.getD K0 0)) := by simpa [uw] using u0
  clear u0
  obtain ⟨nv, hnv⟩ : ∃ x, now.getD K0 0 = x := ⟨_, rfl⟩
  rw [hnv] at u1
  have HNV := Lib.hid hnv
  clear hnv
  have hki : (K0 : Int) < (now.length : Int) := by omega
  have HE : Hid (actS f.cs names h ⟨st, v, now, out⟩ = ⟨st, setE names v h.name nv, now, out⟩) := Lib.hid (by
    unfold actS
    rw [if_neg (by rw [HK.out]; decide), if_pos HK.out]
    dsimp only
    rw [HK0.out, HNV.out])
  have y3 := R3.out.y3
  go_upto_region 6 with fail
  obtain ⟨WD, hWD⟩ : ∃ w', w2.drew = w' := ⟨_, rfl⟩
  have HWD : Hid (Below w2.heap.size w2 WD) := Lib.hid (by rw [← hWD]; exact (Below.refl _ _).drew)
  have SA : WD.heap[w.heap.size]? = some (.cells vs.toArray 122 (0, 0)) ∧ WD.cell? ⟨q, 3, none⟩ = some (.slice (some ⟨nb, 0, none⟩) now.length nc) ∧ WD.cell? ⟨nb, K0, none⟩ = some (.int .u64 nv) := by
    rw [← hWD]
    exact ⟨G3.out, y3, u1⟩
  refine Hd.start 13 (fun w' => w'.heap[w.heap.size]? = some (.cells vs.toArray 122 (0, 0)) ∧ w'.cell? ⟨q, 3, none⟩ = some (.slice (some ⟨nb, 0, none⟩) now.length nc) ∧ w'.cell? ⟨nb, K0, none⟩ = some (.int .u64 nv)) (by kernel_rfl) ?_
  try rw [hWD]
  clear hWD y3 u1
  refine Hd.take (i := 0) (v := ?vb0) rfl (by decide +kernel) (by decide +kernel) (fun _ _ _ h => h) rfl ?hyb0 SA ?restb0
  case hyb0 =>
    intro wq hSw
    obtain ⟨s1, s2, s3⟩ := hSw
    go_simp
    try with_reducible rfl
  try simp only [Act.put, zA, zB, zC]
  refine Hd.take (i := 1) (v := ?vb1) rfl (by decide +kernel) (by decide +kernel) (fun _ _ _ h => h) rfl ?hyb1 SA ?restb1
  case hyb1 =>
    intro wq hSw
    obtain ⟨s1, s2, s3⟩ := hSw
    go_simp
    try with_reducible rfl
  try simp only [Act.put, zA, zB, zC]
  refine Hd.take (i := 2) (v := ?vb2) rfl (by decide +kernel) (by decide +kernel) (fun _ _ _ h => h) rfl ?hyb2 SA ?restb2
  case hyb2 =>
    intro wq hSw
    obtain ⟨s1, s2, s3⟩ := hSw
    have e2 := cells_of s1 v2
    go_simp
    try with_reducible rfl
  try simp only [Act.put, zA, zB, zC]
  refine Hd.take (i := 3) (v := ?vb3) rfl (by decide +kernel) (by decide +kernel) (fun _ _ _ h => h) rfl ?hyb3 SA ?restb3
  case hyb3 =>
    intro wq hSw
    obtain ⟨s1, s2, s3⟩ := hSw
    go_simp
    try with_reducible rfl
  try simp only [Act.put, zA, zB, zC]
  refine Hd.take (i := 4) (v := ?vb4) rfl (by decide +kernel) (by decide +kernel) (fun _ _ _ h => h) rfl ?hyb4 SA ?restb4
  case hyb4 =>
    intro wq hSw
    obtain ⟨s1, s2, s3⟩ := hSw
    go_simp
    try with_reducible rfl
  try simp only [Act.put, zA, zB, zC]
  refine Hd.take (i := 5) (v := ?vb5) rfl (by decide +kernel) (by decide +kernel) (fun _ _ _ h => h) rfl ?hyb5 SA ?restb5
  case hyb5 =>
    intro wq hSw
    obtain ⟨s1, s2, s3⟩ := hSw
    go_simp
    try with_reducible rfl
  try simp only [Act.put, zA, zB, zC]
  refine Hd.take (i := 6) (v := ?vb6) rfl (by decide +kernel) (by decide +kernel) (fun _ _ _ h => h) rfl ?hyb6 SA ?restb6
  case hyb6 =>
    intro wq hSw
    obtain ⟨s1, s2, s3⟩ := hSw
    go_simp
    try with_reducible rfl
  try simp only [Act.put, zA, zB, zC]
  refine Hd.take (i := 7) (v := ?vb7) rfl (by decide +kernel) (by decide +kernel) (fun _ _ _ h => h) rfl ?hyb7 SA ?restb7
  case hyb7 =>
    intro wq hSw
    obtain ⟨s1, s2, s3⟩ := hSw
    go_simp
    try with_reducible rfl
  try simp only [Act.put, zA, zB, zC]
  refine Hd.take (i := 8) (v := ?vb8) rfl (by decide +kernel) (by decide +kernel) (fun _ _ _ h => h) rfl ?hyb8 SA ?restb8
  case hyb8 =>
    intro wq hSw
    obtain ⟨s1, s2, s3⟩ := hSw
    go_simp
    try with_reducible rfl
  try simp only [Act.put, zA, zB, zC]
  refine Hd.take (i := 9) (v := ?vb9) rfl (by decide +kernel) (by decide +kernel) (fun _ _ _ h => h) rfl ?hyb9 SA ?restb9
  case hyb9 =>
    intro wq hSw
    obtain ⟨s1, s2, s3⟩ := hSw
    refine run_load_st (g := w.heap.size) (x := .tmp 5) ?_ ?_ s1 VL.out <;> rfl
  try simp only [Act.put, zA, zB, zC]
  have R4 := Lib.hid (R3.out.keep HWD.out)
  have S4 := Lib.hid (S3.out.keep HWD.out)
  refine Hd.one (i := 10) rfl (by kernel_rfl) rfl (fun K hK => ?_)
  go_simp
  refine (word_any R4.out S4.out (stP_only (Only.of_below (F := []) HWD.out) (fun g hg => by cases hg) HS3.out) HCX.out).mono ?_
  rintro e w5 ⟨rfl, hb5⟩
  rw [HK0.out]
  have SB : w5.heap[w.heap.size]? = some (.cells vs.toArray 122 (0, 0)) ∧ w5.cell? ⟨q, 3, none⟩ = some (.slice (some ⟨nb, 0, none⟩) now.length nc) ∧ w5.cell? ⟨nb, K0, none⟩ = some (.int .u64 nv) := ⟨(hb5.block _ (Nat.lt_of_lt_of_le hgw2 HWD.out.size)).trans SA.1, (hb5.cell (p := ⟨q, 3, none⟩) R4.out.qlt).trans SA.2.1, (hb5.cell (p := ⟨nb, K0, none⟩) (Nat.lt_of_lt_of_le hnb HWD.out.size)).trans SA.2.2⟩
  have R5 := Lib.hid (R4.out.keep hb5)
  have S5 := Lib.hid (S4.out.keep hb5)
  have B5 := Lib.hid (HWD.out.trans (hb5.mono HWD.out.size))
  refine hK _ _ (fun _ => SB) ?_
  clear hK K hb5 SA R4 S4
  try simp only [Act.put, zA, zB, zC]
  have u5 := SB.2.2
  refine Hd.one (i := 11) rfl (by kernel_rfl) rfl (fun K hK => ?_)
  go_simp
  refine hK _ _ (fun _ => SB) ?_
  clear hK K
  try simp only [Act.put, zA, zB, zC]
  refine Hd.one (i := 12) rfl (by kernel_rfl) rfl (fun K hK => ?_)
  go_simp
  refine hK _ _ (fun _ => SB) ?_
  clear hK K
  try simp only [Act.put, zA, zB, zC]
  refine Hd.one (i := 13) rfl (by kernel_rfl) rfl (fun K hK => ?_)
  go_simp
  refine (sput_any h.name _ ⟨_, _, _, _, _, _, _, _, _, S5.out, HST.out⟩).mono ?_
  rintro e w6 ⟨rfl, hS6, hO6⟩
  refine hK _ _ (fun h => absurd h (by omega)) ?_
  have S6 := Lib.hid hS6
  have O6 := Lib.hid hO6
  clear hK K SB hS6 hO6 u5
  try simp only [Act.put, zA, zB, zC]
  refine Hd.done (by kernel_rfl) ?_ _
  go_wp2_with fail
  go_end0
  rw [HE.out]
  exact ⟨rfl, G, ⟨_, _, _, _, _, R5.out.only O6.out (fun g hg => ⟨(sr_ge S5.out g hg).1, HD.out g hg⟩)⟩, S6.out, (Only.of_below (BB.out.trans (B5.out.mono BB.out.size))).seq (O6.out.more (fun x hx => List.mem_append_right _ hx)), fun g hg => .inl hg⟩
set_option maxRecDepth 20000 in
set_option maxHeartbeats 12800000 in
theorem act_2 {w : World} {B0 q p : Nat} {f : Rf} {G : List Nat} {now out : List Int} {rec_ l : Value} {ill : Bool} {NA : Option Addr} {nc : Nat} {OA : Option Addr} {on oc : Nat} {F : List Nat} {names : List ByteArray} {v : List Int} {st : List Bd} {sk en : Bool} {nA : Option Addr} {nn nnc : Nat} {vA : Option Addr} {vc : Nat} {KA : Option Addr} {kn kc : Nat} {rows : List Lv} {h : Hd} {b1 b2 : Bd} {vs : List Value} (hk : h.kind = 2) (hst : stk rows = st) (hR : RnV w B0 q f G now out rec_ l ill NA nc OA on oc) (hS : SrV w B0 p F names v sk en nA nn nnc vA vc KA kn kc rows) (hd : ∀ g ∈ F, g ∉ G) (hs : StP (Fr.Lo B0) w h b1 b2 vs) (hcx : cix f.cs h.cell < f.cs.length) :
    Calls Try.prog 61 #[.pointer (some ⟨q, 0, none⟩), .pointer (some ⟨p, 0, none⟩), .agg vs.toArray] w (ActA w B0 q p f G F rec_ l ill names (actS f.cs names h ⟨st, v, now, out⟩) sk en) := by
  have hb0 := below_new w (.cells vs.toArray 122)
  have HB := Lib.hid hb0
  have R := Lib.hid (hR.keep hb0)
  have Sx := Lib.hid (hS.keep hb0)
  have G0 := Lib.hid (heap_alloc_new w (.cells vs.toArray 122))
  have HS := Lib.hid (stP_only (Only.of_below (F := []) hb0) (fun g hg => by cases hg) hs)
  have HD := Lib.hid hd
  have HST := Lib.hid hst
  have VL := Lib.hid (Fr.StP.len hs)
  obtain ⟨vi, vx, vy, BA, bn, bc, EA, en', ec, hvs, hi, hx, hy, hr⟩ := hs
  have XX := Lib.hid (exV_keep hb0 (exV_of (B := 0) (fun b _ => Nat.zero_le b) hx))
  have XY := Lib.hid (exV_keep hb0 (exV_of (B := 0) (fun b _ => Nat.zero_le b) hy))
  obtain ⟨i0, i1, i2, i3, i4, rfl⟩ := Fr.len5 (Fr.exP_len hi)
  obtain ⟨x0, x1, x2, x3, x4, rfl⟩ := Fr.len5 (Fr.exP_len hx)
  obtain ⟨z0, z1, z2, z3, z4, rfl⟩ := Fr.len5 (Fr.exP_len hy)
  have v0 : vs.toArray[0]? = some (.int .i64 2) := by rw [hvs]; simp only [stVs, hk]; rfl
  have v2 : vs.toArray[2]? = some (.string h.name) := by rw [hvs]; rfl
  have v9 : vs.toArray[9]? = some (x0) := by rw [hvs]; rfl
  have v10 : vs.toArray[10]? = some (x1) := by rw [hvs]; rfl
  have v11 : vs.toArray[11]? = some (x2) := by rw [hvs]; rfl
  have v12 : vs.toArray[12]? = some (x3) := by rw [hvs]; rfl
  have v13 : vs.toArray[13]? = some (x4) := by rw [hvs]; rfl
  have v14 : vs.toArray[14]? = some (z0) := by rw [hvs]; rfl
  have v15 : vs.toArray[15]? = some (z1) := by rw [hvs]; rfl
  have v16 : vs.toArray[16]? = some (z2) := by rw [hvs]; rfl
  have v17 : vs.toArray[17]? = some (z3) := by rw [hvs]; rfl
  have v18 : vs.toArray[18]? = some (z4) := by rw [hvs]; rfl
  have HK := Lib.hid hk
  clear hvs hi hx hy hr hk hst hd hR hS
  obtain ⟨W, hW⟩ : ∃ W, w.alloc (.cells vs.toArray 122) = W := ⟨_, rfl⟩
  have hgl0 : w.heap.size < W.heap.size := by rw [← hW]; simp
  rw [hW] at HB R Sx G0 HS XX XY
  clear hb0
  go_enter Try.func61, Try.ntmps61
  go_upto_region 1 with fail
  try rw [hW]
  clear hW
  have p0 := Sx.out.y0
  have p1 := Sx.out.y1
  obtain ⟨WD, hWD⟩ : ∃ w', W.drew = w' := ⟨_, rfl⟩
  have HWD : Hid (Below W.heap.size W WD) := Lib.hid (by rw [← hWD]; exact (Below.refl _ _).drew)
  have SA : WD.heap[w.heap.size]? = some (.cells vs.toArray 122 (0, 0)) ∧ WD.cell? ⟨p, 0, none⟩ = some (.slice nA nn nnc) ∧ WD.cell? ⟨p, 1, none⟩ = some (.slice vA nn vc) := by
    rw [← hWD]
    exact ⟨G0.out, p0, p1⟩
  refine Hd.start 11 (fun w' => w'.heap[w.heap.size]? = some (.cells vs.toArray 122 (0, 0)) ∧ w'.cell? ⟨p, 0, none⟩ = some (.slice nA nn nnc) ∧ w'.cell? ⟨p, 1, none⟩ = some (.slice vA nn vc)) (by kernel_rfl) ?_
  try rw [hWD]
  clear hWD p0 p1
  refine Hd.take (i := 0) (v := ?va0) rfl (by decide +kernel) (by decide +kernel) (fun _ _ _ h => h) rfl ?hya0 SA ?resta0
  case hya0 =>
    intro wq hSw
    obtain ⟨s1, s2, s3⟩ := hSw
    go_simp
    try with_reducible rfl
  try simp only [Act.put, zA, zB, zC]
  refine Hd.take (i := 1) (v := ?va1) rfl (by decide +kernel) (by decide +kernel) (fun _ _ _ h => h) rfl ?hya1 SA ?resta1
  case hya1 =>
    intro wq hSw
    obtain ⟨s1, s2, s3⟩ := hSw
    have e9 := cells_of s1 v9
    have e10 := cells_of s1 v10
    have e11 := cells_of s1 v11
    have e12 := cells_of s1 v12
    have e13 := cells_of s1 v13
    go_simp
    try with_reducible rfl
  try simp only [Act.put, zA, zB, zC]
  refine Hd.take (i := 2) (v := ?va2) rfl (by decide +kernel) (by decide +kernel) (fun _ _ _ h => h) rfl ?hya2 SA ?resta2
  case hya2 =>
    intro wq hSw
    obtain ⟨s1, s2, s3⟩ := hSw
    go_simp
    try with_reducible rfl
  try simp only [Act.put, zA, zB, zC]
  refine Hd.take (i := 3) (v := ?va3) rfl (by decide +kernel) (by decide +kernel) (fun _ _ _ h => h) rfl ?hya3 SA ?resta3
  case hya3 =>
    intro wq hSw
    obtain ⟨s1, s2, s3⟩ := hSw
    go_simp
    try with_reducible rfl
  try simp only [Act.put, zA, zB, zC]
  refine Hd.take (i := 4) (v := ?va4) rfl (by decide +kernel) (by decide +kernel) (fun _ _ _ h => h) rfl ?hya4 SA ?resta4
  case hya4 =>
    intro wq hSw
    obtain ⟨s1, s2, s3⟩ := hSw
    go_simp
    try with_reducible rfl
  try simp only [Act.put, zA, zB, zC]
  refine Hd.take (i := 5) (v := ?va5) rfl (by decide +kernel) (by decide +kernel) (fun _ _ _ h => h) rfl ?hya5 SA ?resta5
  case hya5 =>
    intro wq hSw
    obtain ⟨s1, s2, s3⟩ := hSw
    go_simp
    try with_reducible rfl
  try simp only [Act.put, zA, zB, zC]
  refine Hd.take (i := 6) (v := ?va6) rfl (by decide +kernel) (by decide +kernel) (fun _ _ _ h => h) rfl ?hya6 SA ?resta6
  case hya6 =>
    intro wq hSw
    obtain ⟨s1, s2, s3⟩ := hSw
    go_simp
    try with_reducible rfl
  try simp only [Act.put, zA, zB, zC]
  refine Hd.take (i := 7) (v := ?va7) rfl (by decide +kernel) (by decide +kernel) (fun _ _ _ h => h) rfl ?hya7 SA ?resta7
  case hya7 =>
    intro wq hSw
    obtain ⟨s1, s2, s3⟩ := hSw
    go_simp
    try with_reducible rfl
  try simp only [Act.put, zA, zB, zC]
  refine Hd.take (i := 8) (v := ?va8) rfl (by decide +kernel) (by decide +kernel) (fun _ _ _ h => h) rfl ?hya8 SA ?resta8
  case hya8 =>
    intro wq hSw
    obtain ⟨s1, s2, s3⟩ := hSw
    go_simp
    try with_reducible rfl
  try simp only [Act.put, zA, zB, zC]
  refine Hd.take (i := 9) (v := ?va9) rfl (by decide +kernel) (by decide +kernel) (fun _ _ _ h => h) rfl ?hya9 SA ?resta9
  case hya9 =>
    intro wq hSw
    obtain ⟨s1, s2, s3⟩ := hSw
    go_simp
    try with_reducible rfl
  try simp only [Act.put, zA, zB, zC]
  refine Hd.one (i := 10) rfl (by kernel_rfl) rfl (fun K hK => ?_)
  go_simp
  have S2 := Lib.hid (Sx.out.keep HWD.out)
  refine (eval_any h.x (exV_keep HWD.out XX.out) S2.out.isn S2.out.isv S2.out.n2).mono ?_
  rintro e w2 ⟨rfl, hb2⟩
  have B2 := Lib.hid (HWD.out.trans (hb2.mono HWD.out.size))
  have hgd := Nat.lt_of_lt_of_le hgl0 HWD.out.size
  have SB : w2.heap[w.heap.size]? = some (.cells vs.toArray 122 (0, 0)) ∧ w2.cell? ⟨p, 0, none⟩ = some (.slice nA nn nnc) ∧ w2.cell? ⟨p, 1, none⟩ = some (.slice vA nn vc) := ⟨(hb2.block _ hgd).trans SA.1, (hb2.cell (p := ⟨p, 0, none⟩) S2.out.qlt).trans SA.2.1, (hb2.cell (p := ⟨p, 1, none⟩) S2.out.qlt).trans SA.2.2⟩
  refine hK _ _ (fun _ => SB) ?_
  clear hK K hb2 SA S2
  try simp only [Act.put, zA, zB, zC]
  refine Hd.one (i := 11) rfl (by kernel_rfl) rfl (fun K hK => ?_)
  go_simp
  refine hK _ _ (fun h => absurd h (by omega)) ?_
  clear hK K
  try simp only [Act.put, zA, zB, zC]
  refine Hd.done (by kernel_rfl) ?_ _
  have R3 := Lib.hid (R.out.keep B2.out)
  have S3 := Lib.hid (Sx.out.keep B2.out)
  have G3 := Lib.hid SB.1
  have HS3 := Lib.hid (stP_only (Only.of_below (F := []) B2.out) (fun g hg => by cases hg) HS.out)
  have XY3 := Lib.hid (exV_keep B2.out XY.out)
  have BB := Lib.hid (HB.out.trans (B2.out.mono HB.out.size))
  have k0 := cells_of SB.1 v0
  have k2 := cells_of SB.1 v2
  have HW2 := B2.out.size
  have hgw2 := Nat.lt_of_lt_of_le hgl0 HW2
  obtain ⟨vx', hvx⟩ : ∃ x, evalE names v h.x = x := ⟨_, rfl⟩
  rw [hvx]
  have HVX := Lib.hid hvx
  clear SB hvx hgd
  clear R Sx G0 HS XX XY HWD
  have hwlt : wordE f.cs names v h < now.length := word_lt R3.out.ok R3.out.wd.symm hcx
  have HCX := Lib.hid hcx
  obtain ⟨K0, hK0⟩ : ∃ K, wordE f.cs names v h = K := ⟨_, rfl⟩
  have HK0 := Lib.hid hK0
  rw [hK0] at hwlt
  clear hK0 hcx
  obtain ⟨nb, no, hNA, hnb, u0⟩ := R3.out.isn.cell hwlt
  have hno : no = 0 := by
    rcases R3.out.nr.row.2 with ⟨h1, _⟩ | ⟨g, cp, cur, h1, _⟩
    · rw [hNA] at h1; cases h1
    · rw [hNA] at h1
      injection h1 with h1
      injection h1 with h1
      injection h1
  subst hNA hno
  have u1 : w2.cell? ⟨nb, K0, none⟩ = some (.int .u64 (now.getD K0 0)) := by simpa [uw] using u0
  clear u0
  obtain ⟨nv, hnv⟩ : ∃ x, now.getD K0 0 = x := ⟨_, rfl⟩
  rw [hnv] at u1
  have HNV := Lib.hid hnv
  clear hnv
  have hki : (K0 : Int) < (now.length : Int) := by omega
  obtain ⟨cur, hty⟩ := R3.out.nr.type (g := nb) rfl
  have hng : nb ≠ w.heap.size := fun e => by
    have := G3.out
    rw [← e, hty] at this
    injection this with this
    injection this with _ this
    exact absurd this (by decide)
  have HN := Lib.hid hng
  have HT := Lib.hid hty
  clear hng hty
  have HE : Hid (actS f.cs names h ⟨st, v, now, out⟩ = ⟨st, v, now.set K0 vx', out⟩) := Lib.hid (by
    unfold actS
    rw [if_neg (by rw [HK.out]; decide), if_neg (by rw [HK.out]; decide), if_pos HK.out, HK0.out, HVX.out])
  have y3 := R3.out.y3
  go_upto_region 8 with fail
  obtain ⟨WD, hWD⟩ : ∃ w', w2.drew = w' := ⟨_, rfl⟩
  have HWD : Hid (Below w2.heap.size w2 WD) := Lib.hid (by rw [← hWD]; exact (Below.refl _ _).drew)
  have SA : WD.heap[w.heap.size]? = some (.cells vs.toArray 122 (0, 0)) ∧ WD.cell? ⟨q, 3, none⟩ = some (.slice (some ⟨nb, 0, none⟩) now.length nc) ∧ WD.cell? ⟨nb, K0, none⟩ = some (.int .u64 nv) := by
    rw [← hWD]
    exact ⟨G3.out, y3, u1⟩
  refine Hd.start 9 (fun w' => w'.heap[w.heap.size]? = some (.cells vs.toArray 122 (0, 0)) ∧ w'.cell? ⟨q, 3, none⟩ = some (.slice (some ⟨nb, 0, none⟩) now.length nc) ∧ w'.cell? ⟨nb, K0, none⟩ = some (.int .u64 nv)) (by kernel_rfl) ?_
  try rw [hWD]
  clear hWD y3 u1
  refine Hd.take (i := 0) (v := ?vb0) rfl (by decide +kernel) (by decide +kernel) (fun _ _ _ h => h) rfl ?hyb0 SA ?restb0
  case hyb0 =>
    intro wq hSw
    obtain ⟨s1, s2, s3⟩ := hSw
    go_simp
    try with_reducible rfl
  try simp only [Act.put, zA, zB, zC]
  refine Hd.take (i := 1) (v := ?vb1) rfl (by decide +kernel) (by decide +kernel) (fun _ _ _ h => h) rfl ?hyb1 SA ?restb1
  case hyb1 =>
    intro wq hSw
    obtain ⟨s1, s2, s3⟩ := hSw
    go_simp
    try with_reducible rfl
  try simp only [Act.put, zA, zB, zC]
  refine Hd.take (i := 2) (v := ?vb2) rfl (by decide +kernel) (by decide +kernel) (fun _ _ _ h => h) rfl ?hyb2 SA ?restb2
  case hyb2 =>
    intro wq hSw
    obtain ⟨s1, s2, s3⟩ := hSw
    go_simp
    try with_reducible rfl
  try simp only [Act.put, zA, zB, zC]
  refine Hd.take (i := 3) (v := ?vb3) rfl (by decide +kernel) (by decide +kernel) (fun _ _ _ h => h) rfl ?hyb3 SA ?restb3
  case hyb3 =>
    intro wq hSw
    obtain ⟨s1, s2, s3⟩ := hSw
    go_simp
    try with_reducible rfl
  try simp only [Act.put, zA, zB, zC]
  refine Hd.take (i := 4) (v := ?vb4) rfl (by decide +kernel) (by decide +kernel) (fun _ _ _ h => h) rfl ?hyb4 SA ?restb4
  case hyb4 =>
    intro wq hSw
    obtain ⟨s1, s2, s3⟩ := hSw
    go_simp
    try with_reducible rfl
  try simp only [Act.put, zA, zB, zC]
  refine Hd.take (i := 5) (v := ?vb5) rfl (by decide +kernel) (by decide +kernel) (fun _ _ _ h => h) rfl ?hyb5 SA ?restb5
  case hyb5 =>
    intro wq hSw
    obtain ⟨s1, s2, s3⟩ := hSw
    go_simp
    try with_reducible rfl
  try simp only [Act.put, zA, zB, zC]
  refine Hd.take (i := 6) (v := ?vb6) rfl (by decide +kernel) (by decide +kernel) (fun _ _ _ h => h) rfl ?hyb6 SA ?restb6
  case hyb6 =>
    intro wq hSw
    obtain ⟨s1, s2, s3⟩ := hSw
    refine run_load_st (g := w.heap.size) (x := .tmp 5) ?_ ?_ s1 VL.out <;> rfl
  try simp only [Act.put, zA, zB, zC]
  refine Hd.take (i := 8) (v := ?vb8) rfl (by decide +kernel) (by decide +kernel) (fun _ _ _ h => h) rfl ?hyb8 SA ?restb8
  case hyb8 =>
    intro wq hSw
    obtain ⟨s1, s2, s3⟩ := hSw
    go_simp
    try with_reducible rfl
  try simp only [Act.put, zA, zB, zC]
  have R4 := Lib.hid (R3.out.keep HWD.out)
  have S4 := Lib.hid (S3.out.keep HWD.out)
  refine Hd.one (i := 7) rfl (by kernel_rfl) rfl (fun K hK => ?_)
  go_simp
  refine (word_any R4.out S4.out (stP_only (Only.of_below (F := []) HWD.out) (fun g hg => by cases hg) HS3.out) HCX.out).mono ?_
  rintro e w5 ⟨rfl, hb5⟩
  rw [HK0.out]
  have SB : w5.heap[w.heap.size]? = some (.cells vs.toArray 122 (0, 0)) ∧ w5.cell? ⟨q, 3, none⟩ = some (.slice (some ⟨nb, 0, none⟩) now.length nc) ∧ w5.cell? ⟨nb, K0, none⟩ = some (.int .u64 nv) := ⟨(hb5.block _ (Nat.lt_of_lt_of_le hgw2 HWD.out.size)).trans SA.1, (hb5.cell (p := ⟨q, 3, none⟩) R4.out.qlt).trans SA.2.1, (hb5.cell (p := ⟨nb, K0, none⟩) (Nat.lt_of_lt_of_le hnb HWD.out.size)).trans SA.2.2⟩
  have R5 := Lib.hid (R4.out.keep hb5)
  have S5 := Lib.hid (S4.out.keep hb5)
  have B5 := Lib.hid (HWD.out.trans (hb5.mono HWD.out.size))
  refine hK _ _ (fun _ => SB) ?_
  clear hK K hb5 SA R4 S4
  try simp only [Act.put, zA, zB, zC]
  have tyw5 : w5.heap[nb]? = _ := (B5.out.block nb hnb).trans HT.out
  have ufw5 : ∀ i, w5.frozen? ⟨nb, i, none⟩ = false := fun i => by simp only [World.frozen?, tyw5]; simp
  clear tyw5
  have u5 := SB.2.2
  refine Hd.one (i := 9) rfl (by kernel_rfl) rfl (fun K hK => ?_)
  go_simp
  refine hK _ _ (fun h => absurd h (by omega)) ?_
  clear hK K
  try simp only [Act.put, zA, zB, zC]
  refine Hd.one (i := 10) rfl (by kernel_rfl) rfl (fun K hK => ?_)
  go_simp
  refine hK _ _ (fun h => absurd h (by omega)) ?_
  clear hK K SB
  try simp only [Act.put, zA, zB, zC]
  refine Hd.done (by kernel_rfl) ?_ _
  go_wp2_with fail
  go_end0
  rw [HE.out]
  have hnG : nb ∈ G := R5.out.gn nb rfl
  refine ⟨rfl, G, ⟨_, _, _, _, _, R5.out.setN hwlt vx'⟩, ⟨_, _, _, _, _, _, _, _, _, S5.out.only (only_q w5 nb K0 (.int .u64 vx')) (fun g hg => ?_), HST.out⟩, ?_, fun g hg => .inl hg⟩
  · simp at hg
    subst hg
    exact ⟨(rn_ge R5.out g hnG).1, fun hx => HD.out g hx hnG, rs_names R5.out S5.out g hnG⟩
  · exact (Only.of_below (F := G ++ F) (BB.out.trans (B5.out.mono BB.out.size))).setCell (p := ⟨nb, K0, none⟩) (List.mem_append_left _ hnG) _
set_option maxRecDepth 20000 in
set_option maxHeartbeats 12800000 in
theorem act_3 {w : World} {B0 q p : Nat} {f : Rf} {G : List Nat} {now out : List Int} {rec_ l : Value} {ill : Bool} {NA : Option Addr} {nc : Nat} {OA : Option Addr} {on oc : Nat} {F : List Nat} {names : List ByteArray} {v : List Int} {st : List Bd} {sk en : Bool} {nA : Option Addr} {nn nnc : Nat} {vA : Option Addr} {vc : Nat} {KA : Option Addr} {kn kc : Nat} {rows : List Lv} {h : Hd} {b1 b2 : Bd} {vs : List Value} (hk : h.kind = 3) (hst : stk rows = st) (hR : RnV w B0 q f G now out rec_ l ill NA nc OA on oc) (hS : SrV w B0 p F names v sk en nA nn nnc vA vc KA kn kc rows) (hd : ∀ g ∈ F, g ∉ G) (hs : StP (Fr.Lo B0) w h b1 b2 vs) (hcx : cix f.cs h.cell < f.cs.length) :
    Calls Try.prog 61 #[.pointer (some ⟨q, 0, none⟩), .pointer (some ⟨p, 0, none⟩), .agg vs.toArray] w (ActA w B0 q p f G F rec_ l ill names (actS f.cs names h ⟨st, v, now, out⟩) sk en) := by
  have hb0 := below_new w (.cells vs.toArray 122)
  have HB := Lib.hid hb0
  have R := Lib.hid (hR.keep hb0)
  have Sx := Lib.hid (hS.keep hb0)
  have G0 := Lib.hid (heap_alloc_new w (.cells vs.toArray 122))
  have HS := Lib.hid (stP_only (Only.of_below (F := []) hb0) (fun g hg => by cases hg) hs)
  have HD := Lib.hid hd
  have HST := Lib.hid hst
  have VL := Lib.hid (Fr.StP.len hs)
  obtain ⟨vi, vx, vy, BA, bn, bc, EA, en', ec, hvs, hi, hx, hy, hr⟩ := hs
  have XX := Lib.hid (exV_keep hb0 (exV_of (B := 0) (fun b _ => Nat.zero_le b) hx))
  have XY := Lib.hid (exV_keep hb0 (exV_of (B := 0) (fun b _ => Nat.zero_le b) hy))
  obtain ⟨i0, i1, i2, i3, i4, rfl⟩ := Fr.len5 (Fr.exP_len hi)
  obtain ⟨x0, x1, x2, x3, x4, rfl⟩ := Fr.len5 (Fr.exP_len hx)
  obtain ⟨z0, z1, z2, z3, z4, rfl⟩ := Fr.len5 (Fr.exP_len hy)
  have v0 : vs.toArray[0]? = some (.int .i64 3) := by rw [hvs]; simp only [stVs, hk]; rfl
  have v2 : vs.toArray[2]? = some (.string h.name) := by rw [hvs]; rfl
  have v9 : vs.toArray[9]? = some (x0) := by rw [hvs]; rfl
  have v10 : vs.toArray[10]? = some (x1) := by rw [hvs]; rfl
  have v11 : vs.toArray[11]? = some (x2) := by rw [hvs]; rfl
  have v12 : vs.toArray[12]? = some (x3) := by rw [hvs]; rfl
  have v13 : vs.toArray[13]? = some (x4) := by rw [hvs]; rfl
  have v14 : vs.toArray[14]? = some (z0) := by rw [hvs]; rfl
  have v15 : vs.toArray[15]? = some (z1) := by rw [hvs]; rfl
  have v16 : vs.toArray[16]? = some (z2) := by rw [hvs]; rfl
  have v17 : vs.toArray[17]? = some (z3) := by rw [hvs]; rfl
  have v18 : vs.toArray[18]? = some (z4) := by rw [hvs]; rfl
  have HK := Lib.hid hk
  clear hvs hi hx hy hr hk hst hd hR hS
  obtain ⟨W, hW⟩ : ∃ W, w.alloc (.cells vs.toArray 122) = W := ⟨_, rfl⟩
  have hgl0 : w.heap.size < W.heap.size := by rw [← hW]; simp
  rw [hW] at HB R Sx G0 HS XX XY
  clear hb0
  go_enter Try.func61, Try.ntmps61
  go_upto_region 1 with fail
  try rw [hW]
  clear hW
  have p0 := Sx.out.y0
  have p1 := Sx.out.y1
  obtain ⟨WD, hWD⟩ : ∃ w', W.drew = w' := ⟨_, rfl⟩
  have HWD : Hid (Below W.heap.size W WD) := Lib.hid (by rw [← hWD]; exact (Below.refl _ _).drew)
  have SA : WD.heap[w.heap.size]? = some (.cells vs.toArray 122 (0, 0)) ∧ WD.cell? ⟨p, 0, none⟩ = some (.slice nA nn nnc) ∧ WD.cell? ⟨p, 1, none⟩ = some (.slice vA nn vc) := by
    rw [← hWD]
    exact ⟨G0.out, p0, p1⟩
  refine Hd.start 11 (fun w' => w'.heap[w.heap.size]? = some (.cells vs.toArray 122 (0, 0)) ∧ w'.cell? ⟨p, 0, none⟩ = some (.slice nA nn nnc) ∧ w'.cell? ⟨p, 1, none⟩ = some (.slice vA nn vc)) (by kernel_rfl) ?_
  try rw [hWD]
  clear hWD p0 p1
  refine Hd.take (i := 0) (v := ?va0) rfl (by decide +kernel) (by decide +kernel) (fun _ _ _ h => h) rfl ?hya0 SA ?resta0
  case hya0 =>
    intro wq hSw
    obtain ⟨s1, s2, s3⟩ := hSw
    go_simp
    try with_reducible rfl
  try simp only [Act.put, zA, zB, zC]
  refine Hd.take (i := 1) (v := ?va1) rfl (by decide +kernel) (by decide +kernel) (fun _ _ _ h => h) rfl ?hya1 SA ?resta1
  case hya1 =>
    intro wq hSw
    obtain ⟨s1, s2, s3⟩ := hSw
    have e9 := cells_of s1 v9
    have e10 := cells_of s1 v10
    have e11 := cells_of s1 v11
    have e12 := cells_of s1 v12
    have e13 := cells_of s1 v13
    go_simp
    try with_reducible rfl
  try simp only [Act.put, zA, zB, zC]
  refine Hd.take (i := 2) (v := ?va2) rfl (by decide +kernel) (by decide +kernel) (fun _ _ _ h => h) rfl ?hya2 SA ?resta2
  case hya2 =>
    intro wq hSw
    obtain ⟨s1, s2, s3⟩ := hSw
    go_simp
    try with_reducible rfl
  try simp only [Act.put, zA, zB, zC]
  refine Hd.take (i := 3) (v := ?va3) rfl (by decide +kernel) (by decide +kernel) (fun _ _ _ h => h) rfl ?hya3 SA ?resta3
  case hya3 =>
    intro wq hSw
    obtain ⟨s1, s2, s3⟩ := hSw
    go_simp
    try with_reducible rfl
  try simp only [Act.put, zA, zB, zC]
  refine Hd.take (i := 4) (v := ?va4) rfl (by decide +kernel) (by decide +kernel) (fun _ _ _ h => h) rfl ?hya4 SA ?resta4
  case hya4 =>
    intro wq hSw
    obtain ⟨s1, s2, s3⟩ := hSw
    go_simp
    try with_reducible rfl
  try simp only [Act.put, zA, zB, zC]
  refine Hd.take (i := 5) (v := ?va5) rfl (by decide +kernel) (by decide +kernel) (fun _ _ _ h => h) rfl ?hya5 SA ?resta5
  case hya5 =>
    intro wq hSw
    obtain ⟨s1, s2, s3⟩ := hSw
    go_simp
    try with_reducible rfl
  try simp only [Act.put, zA, zB, zC]
  refine Hd.take (i := 6) (v := ?va6) rfl (by decide +kernel) (by decide +kernel) (fun _ _ _ h => h) rfl ?hya6 SA ?resta6
  case hya6 =>
    intro wq hSw
    obtain ⟨s1, s2, s3⟩ := hSw
    go_simp
    try with_reducible rfl
  try simp only [Act.put, zA, zB, zC]
  refine Hd.take (i := 7) (v := ?va7) rfl (by decide +kernel) (by decide +kernel) (fun _ _ _ h => h) rfl ?hya7 SA ?resta7
  case hya7 =>
    intro wq hSw
    obtain ⟨s1, s2, s3⟩ := hSw
    go_simp
    try with_reducible rfl
  try simp only [Act.put, zA, zB, zC]
  refine Hd.take (i := 8) (v := ?va8) rfl (by decide +kernel) (by decide +kernel) (fun _ _ _ h => h) rfl ?hya8 SA ?resta8
  case hya8 =>
    intro wq hSw
    obtain ⟨s1, s2, s3⟩ := hSw
    go_simp
    try with_reducible rfl
  try simp only [Act.put, zA, zB, zC]
  refine Hd.take (i := 9) (v := ?va9) rfl (by decide +kernel) (by decide +kernel) (fun _ _ _ h => h) rfl ?hya9 SA ?resta9
  case hya9 =>
    intro wq hSw
    obtain ⟨s1, s2, s3⟩ := hSw
    go_simp
    try with_reducible rfl
  try simp only [Act.put, zA, zB, zC]
  refine Hd.one (i := 10) rfl (by kernel_rfl) rfl (fun K hK => ?_)
  go_simp
  have S2 := Lib.hid (Sx.out.keep HWD.out)
  refine (eval_any h.x (exV_keep HWD.out XX.out) S2.out.isn S2.out.isv S2.out.n2).mono ?_
  rintro e w2 ⟨rfl, hb2⟩
  have B2 := Lib.hid (HWD.out.trans (hb2.mono HWD.out.size))
  have hgd := Nat.lt_of_lt_of_le hgl0 HWD.out.size
  have SB : w2.heap[w.heap.size]? = some (.cells vs.toArray 122 (0, 0)) ∧ w2.cell? ⟨p, 0, none⟩ = some (.slice nA nn nnc) ∧ w2.cell? ⟨p, 1, none⟩ = some (.slice vA nn vc) := ⟨(hb2.block _ hgd).trans SA.1, (hb2.cell (p := ⟨p, 0, none⟩) S2.out.qlt).trans SA.2.1, (hb2.cell (p := ⟨p, 1, none⟩) S2.out.qlt).trans SA.2.2⟩
  refine hK _ _ (fun _ => SB) ?_
  clear hK K hb2 SA S2
  try simp only [Act.put, zA, zB, zC]
  refine Hd.one (i := 11) rfl (by kernel_rfl) rfl (fun K hK => ?_)
  go_simp
  refine hK _ _ (fun h => absurd h (by omega)) ?_
  clear hK K
  try simp only [Act.put, zA, zB, zC]
  refine Hd.done (by kernel_rfl) ?_ _
  have R3 := Lib.hid (R.out.keep B2.out)
  have S3 := Lib.hid (Sx.out.keep B2.out)
  have G3 := Lib.hid SB.1
  have HS3 := Lib.hid (stP_only (Only.of_below (F := []) B2.out) (fun g hg => by cases hg) HS.out)
  have XY3 := Lib.hid (exV_keep B2.out XY.out)
  have BB := Lib.hid (HB.out.trans (B2.out.mono HB.out.size))
  have k0 := cells_of SB.1 v0
  have k2 := cells_of SB.1 v2
  have HW2 := B2.out.size
  have hgw2 := Nat.lt_of_lt_of_le hgl0 HW2
  obtain ⟨vx', hvx⟩ : ∃ x, evalE names v h.x = x := ⟨_, rfl⟩
  rw [hvx]
  have HVX := Lib.hid hvx
  clear SB hvx hgd
  clear R Sx G0 HS XX XY HWD
  have hwlt : wordE f.cs names v h < now.length := word_lt R3.out.ok R3.out.wd.symm hcx
  have HCX := Lib.hid hcx
  obtain ⟨K0, hK0⟩ : ∃ K, wordE f.cs names v h = K := ⟨_, rfl⟩
  have HK0 := Lib.hid hK0
  rw [hK0] at hwlt
  clear hK0 hcx
  obtain ⟨nb, no, hNA, hnb, u0⟩ := R3.out.isn.cell hwlt
  have hno : no = 0 := by
    rcases R3.out.nr.row.2 with ⟨h1, _⟩ | ⟨g, cp, cur, h1, _⟩
    · rw [hNA] at h1; cases h1
    · rw [hNA] at h1
      injection h1 with h1
      injection h1 with h1
      injection h1
  subst hNA hno
  have u1 : w2.cell? ⟨nb, K0, none⟩ = some (.int .u64 (now.getD K0 0)) := by simpa [uw] using u0
  clear u0
  obtain ⟨nv, hnv⟩ : ∃ x, now.getD K0 0 = x := ⟨_, rfl⟩
  rw [hnv] at u1
  have HNV := Lib.hid hnv
  clear hnv
  have hki : (K0 : Int) < (now.length : Int) := by omega
  obtain ⟨cur, hty⟩ := R3.out.nr.type (g := nb) rfl
  have hng : nb ≠ w.heap.size := fun e => by
    have := G3.out
    rw [← e, hty] at this
    injection this with this
    injection this with _ this
    exact absurd this (by decide)
  have HN := Lib.hid hng
  have HT := Lib.hid hty
  clear hng hty
  have HE : Hid (actS f.cs names h ⟨st, v, now, out⟩ = if nv = vx' then ⟨st, setE names v h.name 1, now.set K0 (evalE names v h.y), out⟩ else ⟨st, setE names v h.name 0, now, out⟩) := Lib.hid (by
    unfold actS
    rw [if_neg (by rw [HK.out]; decide), if_neg (by rw [HK.out]; decide), if_neg (by rw [HK.out]; decide), if_pos HK.out]
    dsimp only
    rw [HK0.out, HNV.out, HVX.out])
  have HU : Try.prog.underlying 122 = some _ := Try.underlying122
  have HII : Hid ((Try.prog.info? 122).map (·.size) = some vs.toArray.size) := Lib.hid (by rw [List.size_toArray, VL.out]; kernel_rfl)
  go_wp2_with (first | (refine wpList_load_row rfl 122 (.tmp 5) rfl w.heap.size rfl 122 vs.toArray (0, 0) _ G3.out HU rfl HII.out ?_) | fail)
  refine (word_any R3.out S3.out HS3.out HCX.out).mono ?_
  rintro e w5 ⟨rfl, hb5⟩
  rw [HK0.out]
  have R5 := Lib.hid (R3.out.keep hb5)
  have S5 := Lib.hid (S3.out.keep hb5)
  have B5 := Lib.hid hb5
  have XY5 := Lib.hid (exV_keep hb5 XY3.out)
  have g5 := (hb5.block _ hgw2).trans G3.out
  have G5 := Lib.hid g5
  have k52 := cells_of g5 v2
  have u5 := (hb5.cell (p := ⟨nb, K0, none⟩) hnb).trans u1
  have y53 := R5.out.y3
  have p50 := S5.out.y0
  have p51 := S5.out.y1
  have hw5 := hb5.size
  have hnb5 := Nat.lt_of_lt_of_le hnb hw5
  have hgw5 := Nat.lt_of_lt_of_le hgw2 hw5
  clear hb5 g5 u1 k0 k2 HS3 XY3 R3 S3 G3
  by_cases hne : nv = vx'
  · have d1 : (nv == vx') = true := by simp [hne]
    have d2 : (nv != vx') = false := by simp [hne]
    have HNE := Lib.hid hne
    clear hne
    go_upto_region 13 with fail
    obtain ⟨WD, hWD⟩ : ∃ w', w5.drew = w' := ⟨_, rfl⟩
    have HWD : Hid (Below w5.heap.size w5 WD) := Lib.hid (by rw [← hWD]; exact (Below.refl _ _).drew)
    have SA : WD.heap[w.heap.size]? = some (.cells vs.toArray 122 (0, 0)) ∧ WD.cell? ⟨q, 3, none⟩ = some (.slice (some ⟨nb, 0, none⟩) now.length nc) ∧ WD.cell? ⟨nb, K0, none⟩ = some (.int .u64 nv) ∧ WD.cell? ⟨p, 0, none⟩ = some (.slice nA nn nnc) ∧ WD.cell? ⟨p, 1, none⟩ = some (.slice vA nn vc) := by
      rw [← hWD]
      exact ⟨G5.out, y53, u5, p50, p51⟩
    refine Hd.start 16 (fun w' => w'.heap[w.heap.size]? = some (.cells vs.toArray 122 (0, 0)) ∧ w'.cell? ⟨q, 3, none⟩ = some (.slice (some ⟨nb, 0, none⟩) now.length nc) ∧ w'.cell? ⟨nb, K0, none⟩ = some (.int .u64 nv) ∧ w'.cell? ⟨p, 0, none⟩ = some (.slice nA nn nnc) ∧ w'.cell? ⟨p, 1, none⟩ = some (.slice vA nn vc)) (by kernel_rfl) ?_
    try rw [hWD]
    clear hWD y53 u5 p50 p51 k52
    refine Hd.take (i := 0) (v := ?vc0) rfl (by decide +kernel) (by decide +kernel) (fun _ _ _ h => h) rfl ?hyc0 SA ?restc0
    case hyc0 =>
      intro wq hSw
      obtain ⟨s1, s2, s3, s4, s5⟩ := hSw
      go_simp
      try with_reducible rfl
    try simp only [Act.put, zA, zB, zC]
    refine Hd.take (i := 1) (v := ?vc1) rfl (by decide +kernel) (by decide +kernel) (fun _ _ _ h => h) rfl ?hyc1 SA ?restc1
    case hyc1 =>
      intro wq hSw
      obtain ⟨s1, s2, s3, s4, s5⟩ := hSw
      go_simp
      try with_reducible rfl
    try simp only [Act.put, zA, zB, zC]
    refine Hd.take (i := 2) (v := ?vc2) rfl (by decide +kernel) (by decide +kernel) (fun _ _ _ h => h) rfl ?hyc2 SA ?restc2
    case hyc2 =>
      intro wq hSw
      obtain ⟨s1, s2, s3, s4, s5⟩ := hSw
      go_simp
      try with_reducible rfl
    try simp only [Act.put, zA, zB, zC]
    refine Hd.take (i := 3) (v := ?vc3) rfl (by decide +kernel) (by decide +kernel) (fun _ _ _ h => h) rfl ?hyc3 SA ?restc3
    case hyc3 =>
      intro wq hSw
      obtain ⟨s1, s2, s3, s4, s5⟩ := hSw
      go_simp
      try with_reducible rfl
    try simp only [Act.put, zA, zB, zC]
    refine Hd.take (i := 4) (v := ?vc4) rfl (by decide +kernel) (by decide +kernel) (fun _ _ _ h => h) rfl ?hyc4 SA ?restc4
    case hyc4 =>
      intro wq hSw
      obtain ⟨s1, s2, s3, s4, s5⟩ := hSw
      go_simp
      try with_reducible rfl
    try simp only [Act.put, zA, zB, zC]
    refine Hd.take (i := 5) (v := ?vc5) rfl (by decide +kernel) (by decide +kernel) (fun _ _ _ h => h) rfl ?hyc5 SA ?restc5
    case hyc5 =>
      intro wq hSw
      obtain ⟨s1, s2, s3, s4, s5⟩ := hSw
      go_simp
      try with_reducible rfl
    try simp only [Act.put, zA, zB, zC]
    refine Hd.take (i := 6) (v := ?vc6) rfl (by decide +kernel) (by decide +kernel) (fun _ _ _ h => h) rfl ?hyc6 SA ?restc6
    case hyc6 =>
      intro wq hSw
      obtain ⟨s1, s2, s3, s4, s5⟩ := hSw
      have e14 := cells_of s1 v14
      have e15 := cells_of s1 v15
      have e16 := cells_of s1 v16
      have e17 := cells_of s1 v17
      have e18 := cells_of s1 v18
      go_simp
      try with_reducible rfl
    try simp only [Act.put, zA, zB, zC]
    refine Hd.take (i := 7) (v := ?vc7) rfl (by decide +kernel) (by decide +kernel) (fun _ _ _ h => h) rfl ?hyc7 SA ?restc7
    case hyc7 =>
      intro wq hSw
      obtain ⟨s1, s2, s3, s4, s5⟩ := hSw
      go_simp
      try with_reducible rfl
    try simp only [Act.put, zA, zB, zC]
    refine Hd.take (i := 8) (v := ?vc8) rfl (by decide +kernel) (by decide +kernel) (fun _ _ _ h => h) rfl ?hyc8 SA ?restc8
    case hyc8 =>
      intro wq hSw
      obtain ⟨s1, s2, s3, s4, s5⟩ := hSw
      go_simp
      try with_reducible rfl
    try simp only [Act.put, zA, zB, zC]
    refine Hd.take (i := 9) (v := ?vc9) rfl (by decide +kernel) (by decide +kernel) (fun _ _ _ h => h) rfl ?hyc9 SA ?restc9
    case hyc9 =>
      intro wq hSw
      obtain ⟨s1, s2, s3, s4, s5⟩ := hSw
      go_simp
      try with_reducible rfl
    try simp only [Act.put, zA, zB, zC]
    refine Hd.take (i := 10) (v := ?vc10) rfl (by decide +kernel) (by decide +kernel) (fun _ _ _ h => h) rfl ?hyc10 SA ?restc10
    case hyc10 =>
      intro wq hSw
      obtain ⟨s1, s2, s3, s4, s5⟩ := hSw
      go_simp
      try with_reducible rfl
    try simp only [Act.put, zA, zB, zC]
    refine Hd.take (i := 11) (v := ?vc11) rfl (by decide +kernel) (by decide +kernel) (fun _ _ _ h => h) rfl ?hyc11 SA ?restc11
    case hyc11 =>
      intro wq hSw
      obtain ⟨s1, s2, s3, s4, s5⟩ := hSw
      go_simp
      try with_reducible rfl
    try simp only [Act.put, zA, zB, zC]
    refine Hd.take (i := 12) (v := ?vc12) rfl (by decide +kernel) (by decide +kernel) (fun _ _ _ h => h) rfl ?hyc12 SA ?restc12
    case hyc12 =>
      intro wq hSw
      obtain ⟨s1, s2, s3, s4, s5⟩ := hSw
      go_simp
      try with_reducible rfl
    try simp only [Act.put, zA, zB, zC]
    refine Hd.take (i := 13) (v := ?vc13) rfl (by decide +kernel) (by decide +kernel) (fun _ _ _ h => h) rfl ?hyc13 SA ?restc13
    case hyc13 =>
      intro wq hSw
      obtain ⟨s1, s2, s3, s4, s5⟩ := hSw
      go_simp
      try with_reducible rfl
    try simp only [Act.put, zA, zB, zC]
    refine Hd.take (i := 14) (v := ?vc14) rfl (by decide +kernel) (by decide +kernel) (fun _ _ _ h => h) rfl ?hyc14 SA ?restc14
    case hyc14 =>
      intro wq hSw
      obtain ⟨s1, s2, s3, s4, s5⟩ := hSw
      go_simp
      try with_reducible rfl
    try simp only [Act.put, zA, zB, zC]
    have R6 := Lib.hid (R5.out.keep HWD.out)
    have S6 := Lib.hid (S5.out.keep HWD.out)
    refine Hd.one (i := 15) rfl (by kernel_rfl) rfl (fun K hK => ?_)
    go_simp
    refine (eval_any h.y (exV_keep HWD.out XY5.out) S6.out.isn S6.out.isv S6.out.n2).mono ?_
    rintro e w6 ⟨rfl, hb6⟩
    have SB : w6.heap[w.heap.size]? = some (.cells vs.toArray 122 (0, 0)) ∧ w6.cell? ⟨q, 3, none⟩ = some (.slice (some ⟨nb, 0, none⟩) now.length nc) ∧ w6.cell? ⟨nb, K0, none⟩ = some (.int .u64 nv) ∧ w6.cell? ⟨p, 0, none⟩ = some (.slice nA nn nnc) ∧ w6.cell? ⟨p, 1, none⟩ = some (.slice vA nn vc) := ⟨(hb6.block _ (Nat.lt_of_lt_of_le hgw5 HWD.out.size)).trans SA.1, (hb6.cell (p := ⟨q, 3, none⟩) R6.out.qlt).trans SA.2.1, (hb6.cell (p := ⟨nb, K0, none⟩) (Nat.lt_of_lt_of_le hnb5 HWD.out.size)).trans SA.2.2.1, (hb6.cell (p := ⟨p, 0, none⟩) S6.out.qlt).trans SA.2.2.2.1, (hb6.cell (p := ⟨p, 1, none⟩) S6.out.qlt).trans SA.2.2.2.2⟩
    have R7 := Lib.hid (R6.out.keep hb6)
    have S7 := Lib.hid (S6.out.keep hb6)
    have B6 := Lib.hid (B5.out.trans ((HWD.out.trans (hb6.mono HWD.out.size)).mono B5.out.size))
    refine hK _ _ (fun _ => SB) ?_
    clear hK K hb6 SA R6 S6
    try simp only [Act.put, zA, zB, zC]
    obtain ⟨vy', hvy⟩ : ∃ x, evalE names v h.y = x := ⟨_, rfl⟩
    rw [hvy]
    have HVY := Lib.hid hvy
    clear hvy
    have tyw6 : w6.heap[nb]? = _ := (B6.out.block nb hnb).trans HT.out
    have ufw6 : ∀ i, w6.frozen? ⟨nb, i, none⟩ = false := fun i => by simp only [World.frozen?, tyw6]; simp
    clear tyw6
    have u6 := SB.2.2.1
    refine Hd.one (i := 16) rfl (by kernel_rfl) rfl (fun K hK => ?_)
    go_simp
    refine hK _ _ (fun h => absurd h (by omega)) ?_
    clear hK K
    try simp only [Act.put, zA, zB, zC]
    have G6 := Lib.hid SB.1
    refine Hd.one (i := 17) rfl (by kernel_rfl) rfl (fun K hK => ?_)
    go_simp
    refine hK _ _ (fun h => absurd h (by omega)) ?_
    clear hK K SB
    try simp only [Act.put, zA, zB, zC]
    refine Hd.done (by kernel_rfl) ?_ _
    have hnG : nb ∈ G := R7.out.gn nb rfl
    have O7 := only_q w6 nb K0 (.int .u64 vy')
    have R8 := Lib.hid (R7.out.setN hwlt vy')
    have S8 := Lib.hid (S7.out.only O7 (fun g hg => by
      simp at hg
      subst hg
      exact ⟨(rn_ge R7.out g hnG).1, fun hx => HD.out g hx hnG, rs_names R7.out S7.out g hnG⟩))
    have k8 : (w6.setCell ⟨nb, K0, none⟩ (.int .u64 vy')).cell? ⟨w.heap.size, 2, none⟩ = some (.string h.name) := cells_of ((O7.block _ (Nat.lt_of_lt_of_le hgw2 B6.out.size) (by simp; exact fun e => HN.out e.symm)).trans G6.out) v2
    have O8 := Lib.hid ((Only.of_below (F := G ++ F) (BB.out.trans (B6.out.mono BB.out.size))).setCell (p := ⟨nb, K0, none⟩) (List.mem_append_left _ hnG) (.int .u64 vy'))
    clear O7 u6 ufw6
    generalize w6.setCell ⟨nb, K0, none⟩ (.int .u64 vy') = w7 at *
    go_wp2_with fail
    refine (sput_any h.name 1 ⟨_, _, _, _, _, _, _, _, _, S8.out, HST.out⟩).mono ?_
    rintro e w8 ⟨rfl, hS9, hO9⟩
    have HR9 := Lib.hid (R8.out.only hO9 (fun g hg => ⟨(sr_ge S8.out g hg).1, HD.out g hg⟩))
    have HS9 := Lib.hid hS9
    have HO9 := Lib.hid (O8.out.seq (hO9.more (fun x hx => List.mem_append_right _ hx)))
    clear hS9 hO9
    go_wp2_with fail
    go_end0
    rw [HE.out, if_pos HNE.out, HVY.out]
    exact ⟨rfl, G, ⟨_, _, _, _, _, HR9.out⟩, HS9.out, HO9.out, fun g hg => .inl hg⟩
  · have d1 : (nv == vx') = false := by simp [hne]
    have d2 : (nv != vx') = true := by simp [hne]
    have HNE := Lib.hid hne
    clear hne
    go_wp2_with fail
    refine (sput_any h.name 0 ⟨_, _, _, _, _, _, _, _, _, S5.out, HST.out⟩).mono ?_
    rintro e w8 ⟨rfl, hS9, hO9⟩
    have HR9 := Lib.hid (R5.out.only hO9 (fun g hg => ⟨(sr_ge S5.out g hg).1, HD.out g hg⟩))
    have HS9 := Lib.hid hS9
    have HO9 := Lib.hid ((Only.of_below (F := G ++ F) (BB.out.trans (B5.out.mono BB.out.size))).seq (hO9.more (fun x hx => List.mem_append_right _ hx)))
    clear hS9 hO9
    go_wp2_with fail
    go_end0
    rw [HE.out, if_neg HNE.out]
    exact ⟨rfl, G, ⟨_, _, _, _, _, HR9.out⟩, HS9.out, HO9.out, fun g hg => .inl hg⟩
end Go.Proofs.Ytapnnbbbgopobaa.Rn
namespace Go.Proofs.Ytapnnbbbgopobaa.Rn
open Go.RowKit Cm Mm Ow Me Ml Lg Stp Rr Lr
section
variable {w w' : World} {B0 q : Nat} {F : List Nat} {names : List ByteArray} {v : List Int} {st : List Bd} {sk en : Bool} {nA : Option Addr} {nn nc : Nat} {vA : Option Addr} {vc : Nat} {KA : Option Addr} {kn kc : Nat} {rows : List Lv} {g : Nat}
theorem SrV.setAt (h : SrV w B0 q F names v sk en nA nn nc vA vc (some ⟨g, 0, none⟩) kn kc rows) {i : Nat} (hi : i < kn) {x : Nat} (hx : x ≤ (rows.getD i zeroLv).n) : SrV (w.setCell ⟨g, i * 2 + 1, none⟩ (.int .i64 x)) B0 q F names v sk en nA nn nc vA vc (some ⟨g, 0, none⟩) kn kc (rows.set i { rows.getD i zeroLv with at_ := x }) := by
  have hS := only_q w g (i * 2 + 1) (.int .i64 x)
  have hg : g ≠ q := fun e => h.qk (by rw [← e]; rfl)
  have hgB : B0 ≤ g := (h.kr.lt g rfl).1
  have hl := h.lenk
  have e := own_cell h.kr (j := 1) hi (by omega) (.int .i64 x)
  have e2 : (rows.map lvL).set i (((rows.map lvL).getD i []).set 1 (.int .i64 x)) = (rows.set i { rows.getD i zeroLv with at_ := x }).map lvL := by
    rw [List.map_set]
    congr 1
    simp [List.getD, show i < rows.length by omega, lvL]
  rw [e2] at e
  have h2 := h.ok.only hS (fun k hk => by simp at hk; omega)
  have hgd : ∀ j, (rows.set i { rows.getD i zeroLv with at_ := x }).getD j zeroLv = if j = i then { rows.getD i zeroLv with at_ := x } else rows.getD j zeroLv := fun j => by
    by_cases hj : j = i
    · subst hj
      simp [List.getD, show j < rows.length by omega]
    · rw [if_neg hj]
      simp only [List.getD]
      rw [List.getElem?_set_ne (fun e => hj e.symm)]
  refine ⟨(hS.block q h.qlt (by simp; omega)).trans h.blk, h.nm.only hS (fun k hk hx => by simp at hx; subst hx; exact h.nk k hk rfl), own_only h.vr hS (fun k hk hx => by simp at hx; subst hx; exact h.vk k hk rfl), e, ⟨fun j hj => ?_, fun j hj => ?_, fun j hj => ?_⟩, h.hq, h.fq, h.fv, h.fk, h.fn, h.ff, h.n2⟩
  · rw [List.length_set] at hj
    rw [hgd]
    split
    · rename_i e; subst e; exact h2.bd j hj
    · exact h2.bd j hj
  · rw [List.length_set] at hj
    rw [hgd]
    split
    · exact hx
    · exact h2.at_ j hj
  · rw [List.length_set] at hj
    rw [hgd]
    split
    · rename_i e; subst e; exact h2.wt j hj
    · exact h2.wt j hj
theorem SrV.push {KA2 : Option Addr} {kc2 : Nat} {r : Lv} (h : SrV w B0 q F names v sk en nA nn nc vA vc KA kn kc rows) (hn : Own w' B0 116 2 KA2 (kn + 1) kc2 ((rows ++ [r]).map lvL)) (ho : Only (KA.map (·.block)).toList w w') (hat : KA2.map (·.block) = KA.map (·.block) ∨ ∀ b, KA2.map (·.block) = some b → w.heap.size ≤ b)
    (hbd : IsBdP (Fr.Lo B0) w r.b r.A r.n r.c) (h0 : r.at_ ≤ r.n) (hwt : kn + bsz r.b ≤ 100000) :
    SrV (w'.setCell ⟨q, 2, none⟩ (.slice KA2 (kn + 1) kc2)) B0 q (q :: ((vA.map (·.block)).toList ++ ((KA2.map (·.block)).toList ++ (nA.map (·.block)).toList))) names v sk en nA nn nc vA vc KA2 (kn + 1) kc2 (rows ++ [r]) := by
  have hS := only_q w' q 2 (.slice KA2 (kn + 1) kc2)
  have hl := h.lenk
  have hqo : q ∉ (KA.map (·.block)).toList := fun hx => h.qk (Fr.mem_blk.1 hx)
  have hb := (ho.block q h.qlt hqo).trans h.blk
  have hq2 : KA2.map (·.block) ≠ some q := fun hx => by
    rcases hat with e | e
    · exact h.qk (e ▸ hx)
    · have := e q hx; have := h.qlt; omega
  have hB : ∀ k, k ∈ (KA.map (·.block)).toList → B0 ≤ k := fun k hk => (h.kr.lt k (Fr.mem_blk.1 hk)).1
  have hbd2 := isP_only ho (fun g hg hh => by have := hB g hg; unfold Fr.Lo at hh; omega) hbd
  have h2 := (h.ok.only ho hB).only hS (fun k hk => by simp at hk; have := h.hq; omega)
  have hbd3 := isP_only hS (fun g hg hh => by simp at hg; have := h.hq; unfold Fr.Lo at hh; omega) hbd2
  have hgd : ∀ j, (rows ++ [r]).getD j zeroLv = if j = kn then r else rows.getD j zeroLv := fun j => by
    by_cases hj : j = kn
    · subst hj
      simp [List.getD, ← hl]
    · rw [if_neg hj]
      simp only [List.getD]
      by_cases hj2 : j < rows.length
      · rw [List.getElem?_append_left hj2]
      · rw [List.getElem?_eq_none (by simp; omega), List.getElem?_eq_none (by omega)]
  refine ⟨Lx.blk_set hb _, (h.nm.only ho (fun k hk hx => h.nk k hk (Fr.mem_blk.1 hx))).only hS (fun k hk hx => by simp at hx; subst hx; exact h.qn hk), own_only (own_only h.vr ho (fun k hk hx => h.vk k hk (Fr.mem_blk.1 hx))) hS (fun k hk hx => by simp at hx; subst hx; exact h.qv hk), own_only hn hS (fun k hk hx => by simp at hx; subst hx; exact hq2 hk), ⟨fun j hj => ?_, fun j hj => ?_, fun j hj => ?_⟩, h.hq, by simp, fun k hk => by simp [hk], fun k hk => by simp [hk], fun k hk => by simp [hk], fun k hk => ?_, h.n2⟩
  · simp at hj
    rw [hgd]
    split
    · exact hbd3
    · exact h2.bd j (by omega)
  · simp at hj
    rw [hgd]
    split
    · exact h0
    · exact h2.at_ j (by omega)
  · simp at hj
    rw [hgd]
    split
    · rename_i e; subst e; exact hwt
    · exact h2.wt j (by omega)
  · simp at hk
    rcases hk with e | ⟨a, e1, e2⟩ | ⟨a, e1, e2⟩ | ⟨a, e1, e2⟩
    · exact .inl e
    · exact .inr (.inl (by simp [e1, e2]))
    · exact .inr (.inr (.inl (by simp [e1, e2])))
    · exact .inr (.inr (.inr (by simp [e1, e2])))
theorem SrV.flag3 (h : SrV w B0 q F names v sk en nA nn nc vA vc KA kn kc rows) (x : Bool) : SrV (w.setCell ⟨q, 3, none⟩ (.bool x)) B0 q F names v x en nA nn nc vA vc KA kn kc rows := by
  have hS := only_q w q 3 (.bool x)
  exact ⟨Lx.blk_set h.blk _, h.nm.only hS (fun k hk hx => by simp at hx; subst hx; exact h.qn hk), own_only h.vr hS (fun k hk hx => by simp at hx; subst hx; exact h.qv hk), own_only h.kr hS (fun k hk hx => by simp at hx; subst hx; exact h.qk hk), h.ok.only hS (fun k hk => by simp at hk; have := h.hq; omega), h.hq, h.fq, h.fv, h.fk, h.fn, h.ff, h.n2⟩
theorem SrV.flag4 (h : SrV w B0 q F names v sk en nA nn nc vA vc KA kn kc rows) (x : Bool) : SrV (w.setCell ⟨q, 4, none⟩ (.bool x)) B0 q F names v sk x nA nn nc vA vc KA kn kc rows := by
  have hS := only_q w q 4 (.bool x)
  exact ⟨Lx.blk_set h.blk _, h.nm.only hS (fun k hk hx => by simp at hx; subst hx; exact h.qn hk), own_only h.vr hS (fun k hk hx => by simp at hx; subst hx; exact h.qv hk), own_only h.kr hS (fun k hk hx => by simp at hx; subst hx; exact h.qk hk), h.ok.only hS (fun k hk => by simp at hk; have := h.hq; omega), h.hq, h.fq, h.fv, h.fk, h.fn, h.ff, h.n2⟩
end
section
variable {w w' : World} {B0 q p : Nat} {f : Rf} {G F : List Nat} {now out : List Int} {rec_ l : Value} {ill : Bool} {NA : Option Addr} {nc : Nat} {OA : Option Addr} {on oc : Nat}
theorem RnV.flag7 (h : RnV w B0 q f G now out rec_ l ill NA nc OA on oc) (x : Bool) : RnV (w.setCell ⟨q, 7, none⟩ (.bool x)) B0 q f G now out rec_ l x NA nc OA on oc := by
  have hS := only_q w q 7 (.bool x)
  exact ⟨Lx.blk_set h.blk _, own_only h.nr hS (fun k hk hx => by simp at hx; subst hx; exact h.qn hk), own_only h.or_ hS (fun k hk hx => by simp at hx; subst hx; exact h.qo hk), h.no, h.hq, Fr.cl_only h.cl hS (fun h0 b o m hA hx => by have := h.cb h0 b o m hA; have := h.hq; simp at hx; omega), h.cb, h.gq, h.gn, h.go, h.gg, h.wd, h.w64, h.c2, h.ok, h.ol⟩
end
theorem stk_top {rows : List Lv} {m : Nat} (h : rows.length = m + 1) : stk rows = remn (rows.getD m zeroLv) :: stk (rows.take m) := by
  have e := stk_snoc (rows.take m) (rows.getD m zeroLv)
  rw [← rows_split h] at e
  exact e
theorem stk_set {rows : List Lv} {m : Nat} (h : rows.length = m + 1) (r : Lv) : stk (rows.set m r) = remn r :: stk (rows.take m) := by
  have e := stk_top (rows := rows.set m r) (m := m) (by simp [h])
  rw [e]
  congr 1
  · simp [List.getD, h]
  · congr 1
    rw [List.take_set_of_le (Nat.le_refl m)]
theorem dropNil_ne : ∀ {l : List Bd} {b : Bd} {r : List Bd}, dropNil l = b :: r → b ≠ .nil
  | [], b, r, h => by simp [dropNil] at h
  | .nil :: l, b, r, h => dropNil_ne (l := l) (by simpa [dropNil] using h)
  | .cons h1 b1 b2 r1 :: l, b, r, h => by
    simp only [dropNil, List.cons.injEq] at h
    rw [← h.1]
    exact fun e => by cases e
def CelS (cs : List Lay.Cl) (st : List Bd) : Prop := ∀ b ∈ st, CelB cs b
theorem CelS.drop {cs : List Lay.Cl} : ∀ {st : List Bd}, CelS cs st → CelS cs (dropNil st)
  | [], h => by simpa [dropNil] using h
  | .nil :: l, h => by
    have : CelS cs l := fun b hb => h b (List.mem_cons_of_mem _ hb)
    simpa [dropNil] using this.drop
  | .cons _ _ _ _ :: l, h => by simpa [dropNil] using h
section
variable {cs : List Lay.Cl} {names : List ByteArray} {k : Nat} {st : List Bd} {v now out : List Int} {h : Hd} {b1 b2 rest : Bd} {st1 : List Bd}
theorem goS_quiet (hk : k < 1000) (hd : dropNil st = .cons h b1 b2 rest :: st1) (hi : isActS h.kind = false) : goS cs names (1000 - k) ⟨st, v, now, out⟩ = goS cs names (1000 - (k + 1)) (quietS names h b1 b2 rest st1 ⟨st, v, now, out⟩) := by
  obtain ⟨j, hj⟩ : ∃ j, 1000 - k = j + 1 := ⟨999 - k, by omega⟩
  rw [hj, show 1000 - (k + 1) = j by omega, goS]
  dsimp only
  rw [hd]
  dsimp only
  rw [if_neg (by rw [hi]; decide)]
theorem goS_act (hk : k < 1000) (hd : dropNil st = .cons h b1 b2 rest :: st1) (hi : isActS h.kind = true) : goS cs names (1000 - k) ⟨st, v, now, out⟩ = (0, actS cs names h ⟨rest :: st1, v, now, out⟩) := by
  obtain ⟨j, hj⟩ : ∃ j, 1000 - k = j + 1 := ⟨999 - k, by omega⟩
  rw [hj, goS]
  dsimp only
  rw [hd]
  dsimp only
  rw [if_pos hi]
theorem goS_end (hd : dropNil st = []) : goS cs names k ⟨st, v, now, out⟩ = (1, ⟨[], v, now, out⟩) := by
  cases k with
  | zero => rw [goS]; dsimp only; rw [hd]
  | succ j => rw [goS]; dsimp only; rw [hd]
theorem goS_stuck (hd : dropNil st = .cons h b1 b2 rest :: st1) : goS cs names 0 ⟨st, v, now, out⟩ = (2, ⟨.cons h b1 b2 rest :: st1, v, now, out⟩) := by
  rw [goS]
  dsimp only
  rw [hd]
end
theorem act_any {w : World} {B0 q p : Nat} {f : Rf} {G : List Nat} {now out : List Int} {rec_ l : Value} {ill : Bool} {F : List Nat} {names : List ByteArray} {v : List Int} {st : List Bd} {sk en : Bool} {h : Hd} {b1 b2 : Bd} {vs : List Value} (hk : isActS h.kind = true) (hR : Rn w B0 q f G now out rec_ l ill) (hS : Sr w B0 p F names v st sk en) (hd : ∀ g ∈ F, g ∉ G) (hs : StP (Fr.Lo B0) w h b1 b2 vs) (hc : Fr.isCelled h.kind = true → cix f.cs h.cell < f.cs.length) (hout : out.length < 1000000) :
    Calls Try.prog 61 #[.pointer (some ⟨q, 0, none⟩), .pointer (some ⟨p, 0, none⟩), .agg vs.toArray] w (ActA w B0 q p f G F rec_ l ill names (actS f.cs names h ⟨st, v, now, out⟩) sk en) := by
  obtain ⟨NA, nc, OA, on, oc, hR⟩ := hR
  obtain ⟨nA, nn, nnc, vA, vc, KA, kn, kc, rows, hS, hst⟩ := hS
  have h4 : h.kind = 1 ∨ h.kind = 2 ∨ h.kind = 3 ∨ h.kind = 5 := by
    unfold isActS at hk
    simp at hk
    omega
  rcases h4 with e | e | e | e
  · exact act_1 e hst hR hS hd hs (hc (by rw [e]; decide))
  · exact act_2 e hst hR hS hd hs (hc (by rw [e]; decide))
  · exact act_3 e hst hR hS hd hs (hc (by rw [e]; decide))
  · exact act_5 e hst hR hS hd hs hout
theorem run_load_at {P : Program} {oi : Oper} {a : Act} {w : World} (ty : TypeId) (x : Operand) (ho : oi.op = .load ty x) (b off : Nat) (hx : a.eval x = .pointer (some ⟨b, off, none⟩)) (vs : List Value) (d : TypeDesc)
    (hc : ∀ j, j < vs.length → w.cell? ⟨b, off + j, none⟩ = vs[j]?) (hu : P.underlying ty = some d) (hd : (match d with | .struct _ | .array _ _ => true | _ => false) = true) (hi : (P.info? ty).map (·.size) = some vs.length) : (execOp a.eval oi).run P w = .ok (.value (.agg vs.toArray)) w := by
  have hl : (loadCells ⟨b, off, none⟩ vs.length).run P w = .ok vs.toArray w :=
    run_loadCells_list (P := P) w ⟨b, off, none⟩ vs (fun j v hv => by
      have hadd : (⟨b, off, none⟩ : Addr).add j = ⟨b, off + j, none⟩ := by unfold Addr.add; split <;> simp_all
      have hj : j < vs.length := (List.getElem?_eq_some_iff.1 hv).1
      rw [hadd, hc j hj, hv])
  have hv : (loadVar ty ⟨b, off, none⟩).run P w = .ok (.agg vs.toArray) w := by
    cases hq : P.info? ty with
    | none => simp [hq] at hi
    | some i =>
      have hs : i.size = vs.length := by simpa [hq] using hi
      have hagg : (isAgg ty).run P w = .ok true w := by
        unfold isAgg
        rw [Sem.run_bind, run_underlying hu w]
        cases d <;> simp_all
      simp [loadVar, Sem.run_bind, hagg, sizeOf, typeInfo, hq, hs, hl]
  unfold execOp
  simp only [ho, hx, Instr.loadAt, Instr.sureAddr, Sem.run_bind, Sem.run_pure, Result.andThen_ok, hv]
end Go.Proofs.Ytapnnbbbgopobaa.Rn
