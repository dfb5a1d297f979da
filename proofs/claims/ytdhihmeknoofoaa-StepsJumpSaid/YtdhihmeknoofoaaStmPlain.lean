/-
  THE RUN OF STEPS (chapter 17), in plain Lean: what a code does up to its next action; codes into which steps are put that do nothing.
-/
import Derived.Test.YtdhihmeknoofoaaStmMem
import Derived.Test.YtdhihmeknoofoaaElideMore
namespace Go.Proofs.Ytdhihmeknoofoaa.Sp
set_option linter.unusedVariables false
set_option linter.unusedSimpArgs false
open Go.RowKit Stp Rm

def getV (v : List Int) (i : Int) : Int := if 0 ≤ i ∧ i < v.length then v.getD i.toNat 0 else 0
def putV (v : List Int) (i x : Int) : List Int := if 0 ≤ i ∧ i < v.length then v.set i.toNat x else v
theorem putV_len (v : List Int) (i x : Int) : (putV v i x).length = v.length := by unfold putV; split <;> simp
def isLab (to : Int) (s : St) : Bool := s.kind == 9 && s.to == to
def jumpV (c : List St) (to : Int) : Nat := c.findIdx (isLab to)
def bitV (b : Bool) : Int := if b then 1 else 0
def opV (o a b : Int) : Int :=
  if o = 43 then (a + b) % 18446744073709551616 else if o = 45 then (a - b) % 18446744073709551616 else if o = 42 then (a * b) % 18446744073709551616 else if o = 38 then bits .and .u64 a b
  else if o = 61 then bitV (a == b) else if o = 60 then bitV (decide (wrap64 a < wrap64 b)) else 0
def addrV (x : Int) : Int := if 1099511627776 < x then -1 else wrap64 x

/-- a code's place and variables, the words, what was put out -/
structure Ps where
  at_ : Nat
  v : List Int
  now : List Int
  out : List Int
def isAct (k : Int) : Bool := k == 3 || k == 4 || k == 5 || k == 8
def plcP (s : St) (p : Ps) : Option Nat := plc p.now.length (addrV (getV p.v s.a))
def casV (s : St) (p : Ps) : Bool := (plcP s p).isSome && rd p.now (plcP s p) == getV p.v s.b
def actV (s : St) (p : Ps) : Ps :=
  if s.kind = 8 then { p with out := p.out ++ [getV p.v s.a] }
  else if s.kind = 3 then { p with v := putV p.v s.d (rd p.now (plcP s p)) }
  else if s.kind = 4 then { p with now := put p.now (plcP s p) (getV p.v s.b) }
  else if s.kind = 5 then { p with now := if casV s p then put p.now (plcP s p) (getV p.v s.c) else p.now, v := putV p.v s.d (bitV (casV s p)) }
  else p
def quietV (c : List St) (s : St) (p : Ps) : Ps :=
  if s.kind = 0 then { p with v := putV p.v s.d s.n }
  else if s.kind = 1 then { p with v := putV p.v s.d (getV p.v s.a) }
  else if s.kind = 2 then { p with v := putV p.v s.d (opV s.op (getV p.v s.a) (getV p.v s.b)) }
  else if s.kind = 10 then { p with at_ := jumpV c s.to }
  else if s.kind = 11 then (if getV p.v s.a = 0 then { p with at_ := jumpV c s.to } else p)
  else if s.kind = 12 then { p with at_ := c.length }
  else p
/-- up to and behind the next action: 0: one was done; 1: the code is at its end; 2: it is stuck -/
def goV (c : List St) : Nat → Ps → Nat × Ps
  | 0, p => if c.length ≤ p.at_ then (1, p) else (2, p)
  | k + 1, p => if c.length ≤ p.at_ then (1, p) else
      if isAct (c.getD p.at_ zeroSt).kind then (0, actV (c.getD p.at_ zeroSt) { p with at_ := p.at_ + 1 })
      else goV c k (quietV c (c.getD p.at_ zeroSt) { p with at_ := p.at_ + 1 })

/-- d is c, with steps put in that do nothing -/
inductive Ins : List St → List St → Prop where
  | nil : Ins [] []
  | cons (s : St) {c d : List St} : Ins c d → Ins (s :: c) (s :: d)
  | skip (s : St) {c d : List St} : (s.kind = 6 ∨ s.kind = 7) → Ins c d → Ins c (s :: d)
theorem Ins.refl : ∀ c : List St, Ins c c
  | [] => .nil
  | s :: c => .cons s (Ins.refl c)
theorem ins_flush : ∀ l : List St, Ins l (flush l)
  | [] => .nil
  | s :: t => by
    rw [flush_cons]
    unfold flush1
    split
    · exact .cons s (.skip _ (.inl rfl) (.skip _ (.inr rfl) (ins_flush t)))
    · exact .cons s (ins_flush t)
theorem ins_elide (sole : List Bool) : ∀ (n : Nat) (l : List St), l.length ≤ n → Ins (elide sole l) l := by
  intro n
  induction n with
  | zero => intro l h; obtain rfl : l = [] := List.eq_nil_of_length_eq_zero (by omega); simp [elide]; exact .nil
  | succ n ih =>
    intro l h
    cases l with
    | nil => simp [elide]; exact .nil
    | cons s t =>
      rw [elide]
      simp only [List.length_cons] at h
      split
      · rename_i hc
        simp only [Bool.and_eq_true] at hc
        have hf := hc.2
        match t, hf with
        | f :: y :: r, hf =>
          simp only [flwT, flw3, Bool.and_eq_true, beq_iff_eq] at hf
          refine .cons s (.skip f (.inl hf.1.1.1) (.skip y (.inr hf.2) (ih r (by simp only [List.length_cons] at h; omega))))
      · exact .cons s (ih t (by omega))
theorem Ins.jump {c d : List St} (h : Ins c d) (to : Int) : Ins (c.drop (jumpV c to)) (d.drop (jumpV d to)) := by
  unfold jumpV
  induction h with
  | nil => exact .nil
  | cons s h ih =>
    rw [List.findIdx_cons, List.findIdx_cons]
    cases hb : isLab to s
    · exact ih
    · exact .cons s h
  | skip s hs h ih =>
    rw [List.findIdx_cons]
    have : isLab to s = false := by
      unfold isLab
      rcases hs with hs | hs <;> simp [hs]
    rw [this]
    exact ih

/-- the two stand at one place -/
structure Sim (c d : List St) (p q : Ps) : Prop where
  at_ : Ins (c.drop p.at_) (d.drop q.at_)
  v : p.v = q.v
  now : p.now = q.now
  out : p.out = q.out
theorem getD_drop {c : List St} {i : Nat} {s : St} {t : List St} (h : c.drop i = s :: t) : i < c.length ∧ c.getD i zeroSt = s ∧ c.drop (i + 1) = t := by
  have h1 : i < c.length := by
    rcases Nat.lt_or_ge i c.length with h1 | h1
    · exact h1
    · rw [List.drop_eq_nil_of_le h1] at h; cases h
  rw [List.drop_eq_getElem_cons h1] at h
  injection h with h2 h3
  exact ⟨h1, by simp [List.getD, h1, h2], h3⟩
theorem getD_done {c : List St} {i : Nat} (h : c.drop i = []) : c.length ≤ i := by
  rcases Nat.lt_or_ge i c.length with h1 | h1
  · rw [List.drop_eq_getElem_cons h1] at h; cases h
  · exact h1
theorem goV_done (c : List St) (k : Nat) (p : Ps) (h : c.length ≤ p.at_) : goV c k p = (1, p) := by
  cases k <;> simp [goV, h]

theorem quiet_sim {c d : List St} (hi : Ins c d) (s : St) {p q : Ps} (h : Sim c d p q) : Sim c d (quietV c s p) (quietV d s q) := by
  obtain ⟨ha, hv, hn, ho⟩ := h
  obtain ⟨pa, pv, pn, po⟩ := p
  obtain ⟨qa, qv, qn, qo⟩ := q
  dsimp only at ha hv hn ho
  subst hv hn ho
  unfold quietV
  dsimp only
  repeat' split
  all_goals first
    | exact ⟨ha, rfl, rfl, rfl⟩
    | exact ⟨hi.jump _, rfl, rfl, rfl⟩
    | exact ⟨by simp only [List.drop_length]; exact .nil, rfl, rfl, rfl⟩
theorem act_sim {c d : List St} (s : St) {p q : Ps} (h : Sim c d p q) : Sim c d (actV s p) (actV s q) := by
  obtain ⟨ha, hv, hn, ho⟩ := h
  obtain ⟨pa, pv, pn, po⟩ := p
  obtain ⟨qa, qv, qn, qo⟩ := q
  dsimp only at ha hv hn ho
  subst hv hn ho
  unfold actV casV plcP
  dsimp only
  repeat' split
  all_goals exact ⟨ha, rfl, rfl, rfl⟩

theorem go_sim {c d : List St} (hi : Ins c d) : ∀ (N k k' : Nat) (p q : Ps), k + k' ≤ N → Sim c d p q → (goV c k p).1 ≠ 2 → (goV d k' q).1 ≠ 2 →
    (goV c k p).1 = (goV d k' q).1 ∧ Sim c d (goV c k p).2 (goV d k' q).2 := by
  intro N
  induction N with
  | zero =>
    intro k k' p q hN h h1 h2
    obtain ⟨rfl, rfl⟩ : k = 0 ∧ k' = 0 := by omega
    by_cases hc : c.length ≤ p.at_
    · by_cases hd : d.length ≤ q.at_
      · rw [goV_done _ _ _ hc, goV_done _ _ _ hd]; exact ⟨rfl, h⟩
      · exact absurd (by simp [goV, hd]) h2
    · exact absurd (by simp [goV, hc]) h1
  | succ N ih =>
    intro k k' p q hN h h1 h2
    have ha := h.at_
    generalize hx : c.drop p.at_ = x at ha
    generalize hy : d.drop q.at_ = y at ha
    cases ha with
    | nil =>
      rw [goV_done _ _ _ (getD_done hx), goV_done _ _ _ (getD_done hy)]; exact ⟨rfl, h⟩
    | @skip s _ d' hs hrest =>
      obtain ⟨y1, y2, y3⟩ := getD_drop hy
      have hny : ¬ d.length ≤ q.at_ := by omega
      cases k' with
      | zero => exact absurd (by simp [goV, hny]) h2
      | succ k' =>
        have e : goV d (k' + 1) q = goV d k' { q with at_ := q.at_ + 1 } := by
          have e1 : isAct s.kind = false := by unfold isAct; rcases hs with hs | hs <;> rw [hs] <;> rfl
          have e2 : ∀ z : Ps, quietV d s z = z := fun z => by unfold quietV; rcases hs with hs | hs <;> rw [hs] <;> simp
          rw [goV, if_neg hny, y2, e1, e2]
          rfl
        rw [e] at h2 ⊢
        refine ih k k' p _ (by omega) ⟨?_, h.v, h.now, h.out⟩ h1 h2
        show Ins (c.drop p.at_) (d.drop (q.at_ + 1))
        rw [y3, hx]; exact hrest
    | @cons s c' d' hrest =>
      obtain ⟨x1, x2, x3⟩ := getD_drop hx
      obtain ⟨y1, y2, y3⟩ := getD_drop hy
      have hnx : ¬ c.length ≤ p.at_ := by omega
      have hny : ¬ d.length ≤ q.at_ := by omega
      have hs1 : Sim c d { p with at_ := p.at_ + 1 } { q with at_ := q.at_ + 1 } := ⟨by show Ins (c.drop (p.at_ + 1)) (d.drop (q.at_ + 1)); rw [x3, y3]; exact hrest, h.v, h.now, h.out⟩
      cases k with
      | zero => exact absurd (by simp [goV, hnx]) h1
      | succ k =>
        cases k' with
        | zero => exact absurd (by simp [goV, hny]) h2
        | succ k' =>
          rw [goV, if_neg hnx, x2] at h1 ⊢
          rw [goV, if_neg hny, y2] at h2 ⊢
          cases hact : isAct s.kind
          · rw [hact] at h1 h2
            simp only [Bool.false_eq_true, if_false] at h1 h2 ⊢
            exact ih k k' _ _ (by omega) (quiet_sim hi s hs1) h1 h2
          · simp only [if_true]
            exact ⟨trivial, act_sim s hs1⟩
end Go.Proofs.Ytdhihmeknoofoaa.Sp
