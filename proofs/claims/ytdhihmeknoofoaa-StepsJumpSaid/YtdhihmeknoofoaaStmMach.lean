/-
  THE RUN OF STEPS, in plain Lean: all lanes; that two runs whose lanes do alike do alike.
-/
import Derived.Test.YtdhihmeknoofoaaStmPlain
namespace Go.Proofs.Ytdhihmeknoofoaa.Sx
set_option linter.unusedVariables false
set_option linter.unusedSimpArgs false
open Go.RowKit Stp Rm Sp

/-- a run: who recovers (none: it is at its end), the others, the words, what was put out -/
structure Mch (L : Type) where
  rc : Option L
  l : List L
  now : List Int
  out : List Int
/-- what a lane comes to: 0: an action was done; 1: it is at its end; 2: it is stuck -/
structure Res (L : Type) where
  r : Nat
  ln : L
  now : List Int
  out : List Int
section
variable {L M : Type}
def coreM (go : L → List Int → List Int → Res L) (m : Mch L) (core : Int) : Nat × Mch L :=
  if h : 0 ≤ core ∧ core < m.l.length then
    let x := go (m.l[core.toNat]'(by omega)) m.now m.out
    (x.r, ⟨m.rc, m.l.set core.toNat x.ln, x.now, x.out⟩)
  else (1, m)
def stepM (go : L → List Int → List Int → Res L) (begun : List L) (m : Mch L) (core : Int) : Nat × Mch L :=
  match m.rc with
  | none => coreM go m core
  | some a =>
    let x := go a m.now m.out
    if x.r = 1 then coreM go ⟨none, begun, x.now, x.out⟩ core else (x.r, ⟨some x.ln, m.l, x.now, x.out⟩)
def crashM (start : L) (m : Mch L) : Mch L := ⟨some start, [], m.now, m.out⟩

inductive Two (R : L → M → Prop) : List L → List M → Prop where
  | nil : Two R [] []
  | cons {a : L} {b : M} {l : List L} {k : List M} : R a b → Two R l k → Two R (a :: l) (b :: k)
variable {R : L → M → Prop}
theorem Two.len {l : List L} {k : List M} (h : Two R l k) : l.length = k.length := by induction h with | nil => rfl | cons _ _ ih => simp [ih]
theorem Two.get {l : List L} {k : List M} (h : Two R l k) : ∀ (i : Nat) (hl : i < l.length) (hk : i < k.length), R l[i] k[i] := by
  induction h with
  | nil => intro i hl; exact absurd hl (by simp)
  | cons hr _ ih =>
    intro i hl hk
    cases i with
    | zero => exact hr
    | succ i => exact ih i (by simpa using hl) (by simpa using hk)
theorem Two.set {l : List L} {k : List M} (h : Two R l k) {a : L} {b : M} (hr : R a b) : ∀ i, Two R (l.set i a) (k.set i b) := by
  induction h with
  | nil => intro i; simpa using Two.nil
  | cons h1 h2 ih =>
    intro i
    cases i with
    | zero => exact .cons hr h2
    | succ i => exact .cons h1 (ih i)
def OptR (R : L → M → Prop) : Option L → Option M → Prop
  | none, none => True
  | some a, some b => R a b
  | _, _ => False
/-- the two stand alike -/
structure Both (R : L → M → Prop) (N : Nat) (a : Mch L) (b : Mch M) : Prop where
  rc : OptR R a.rc b.rc
  l : Two R a.l b.l
  now : a.now = b.now
  out : a.out = b.out
  words : a.now.length = N
/-- lanes that do alike -/
def Alike (R : L → M → Prop) (N : Nat) (go : L → List Int → List Int → Res L) (go' : M → List Int → List Int → Res M) : Prop :=
  ∀ a b now out, R a b → now.length = N → (go a now out).r ≠ 2 → (go' b now out).r ≠ 2 →
    (go a now out).r = (go' b now out).r ∧ R (go a now out).ln (go' b now out).ln ∧ (go a now out).now = (go' b now out).now ∧ (go a now out).out = (go' b now out).out ∧ (go a now out).now.length = N
variable {N : Nat} {go : L → List Int → List Int → Res L} {go' : M → List Int → List Int → Res M}
theorem core_alike (hA : Alike R N go go') {a : Mch L} {b : Mch M} (h : Both R N a b) (core : Int) (h1 : (coreM go a core).1 ≠ 2) (h2 : (coreM go' b core).1 ≠ 2) :
    (coreM go a core).1 = (coreM go' b core).1 ∧ Both R N (coreM go a core).2 (coreM go' b core).2 := by
  obtain ⟨hr, hl, hn, ho, hw⟩ := h
  have hlen := hl.len
  unfold coreM at h1 h2 ⊢
  by_cases hc : 0 ≤ core ∧ core < a.l.length
  · have hc' : 0 ≤ core ∧ core < b.l.length := by omega
    simp only [dif_pos hc, dif_pos hc'] at h1 h2 ⊢
    rw [← hn, ← ho] at h2 ⊢
    obtain ⟨e1, e2, e3, e4, e5⟩ := hA _ _ a.now a.out (hl.get core.toNat (by omega) (by omega)) hw h1 h2
    exact ⟨e1, hr, hl.set e2 _, e3, e4, e5⟩
  · have hc' : ¬ (0 ≤ core ∧ core < b.l.length) := by omega
    simp only [dif_neg hc, dif_neg hc']
    exact ⟨trivial, hr, hl, hn, ho, hw⟩
theorem step_alike (hA : Alike R N go go') {beg : List L} {beg' : List M} (hb : Two R beg beg') {a : Mch L} {b : Mch M} (h : Both R N a b) (core : Int) (h1 : (stepM go beg a core).1 ≠ 2) (h2 : (stepM go' beg' b core).1 ≠ 2) :
    (stepM go beg a core).1 = (stepM go' beg' b core).1 ∧ Both R N (stepM go beg a core).2 (stepM go' beg' b core).2 := by
  obtain ⟨ar, al, anow, aout⟩ := a
  obtain ⟨br, bl, bnow, bout⟩ := b
  have h0 := h
  obtain ⟨hr, hl, hn, ho, hw⟩ := h
  dsimp only at hr hl hn ho hw
  subst hn ho
  cases ar with
  | none =>
    cases br with
    | none => exact core_alike hA h0 core h1 h2
    | some y => exact hr.elim
  | some x =>
    cases br with
    | none => exact hr.elim
    | some y =>
      unfold stepM at h1 h2 ⊢
      dsimp only at h1 h2 ⊢
      have q1 : (go x anow aout).r ≠ 2 := by
        intro e
        rw [if_neg (by omega)] at h1
        exact h1 e
      have q2 : (go' y anow aout).r ≠ 2 := by
        intro e
        rw [if_neg (by omega)] at h2
        exact h2 e
      obtain ⟨e1, e2, e3, e4, e5⟩ := hA x y anow aout hr hw q1 q2
      rw [e1] at h1 ⊢
      by_cases hz : (go' y anow aout).r = 1
      · rw [if_pos hz] at h1 h2 ⊢
        rw [if_pos hz]
        exact core_alike hA (a := ⟨none, beg, (go x anow aout).now, (go x anow aout).out⟩) (b := ⟨none, beg', (go' y anow aout).now, (go' y anow aout).out⟩) ⟨trivial, hb, e3, e4, e5⟩ core h1 h2
      · rw [if_neg hz, if_neg hz]
        exact ⟨rfl, e2, hl, e3, e4, e5⟩
theorem crash_alike {s : L} {s' : M} (hs : R s s') {a : Mch L} {b : Mch M} (h : Both R N a b) : Both R N (crashM s a) (crashM s' b) := ⟨hs, .nil, h.now, h.out, h.words⟩
end

/-- a code, as it goes -/
structure Ln where
  c : List St
  v : List Int
  at_ : Nat
  en : Bool
def goL (a : Ln) (now out : List Int) : Res Ln :=
  ⟨(goV a.c 20000 ⟨a.at_, a.v, now, out⟩).1, ⟨a.c, (goV a.c 20000 ⟨a.at_, a.v, now, out⟩).2.v, (goV a.c 20000 ⟨a.at_, a.v, now, out⟩).2.at_, a.en || (goV a.c 20000 ⟨a.at_, a.v, now, out⟩).1 == 1⟩, (goV a.c 20000 ⟨a.at_, a.v, now, out⟩).2.now, (goV a.c 20000 ⟨a.at_, a.v, now, out⟩).2.out⟩
theorem put_len (l : List Int) (o : Option Nat) (z : Int) : (put l o z).length = l.length := by cases o <;> simp [put]
theorem quiet_words (c : List St) (s : St) (p : Ps) : (quietV c s p).now = p.now := by unfold quietV; repeat' split <;> try rfl
theorem act_words (s : St) (p : Ps) : (actV s p).now.length = p.now.length := by
  unfold actV
  repeat' split
  all_goals first
    | rfl
    | exact put_len _ _ _
theorem goV_words (c : List St) : ∀ (k : Nat) (p : Ps), (goV c k p).2.now.length = p.now.length
  | 0, p => by unfold goV; split <;> rfl
  | k + 1, p => by
    unfold goV
    split
    · rfl
    · split
      · exact act_words _ _
      · exact (goV_words c k _).trans (by rw [quiet_words])
/-- one code is the other one, with steps put in that do nothing -/
structure InsR (a b : Ln) : Prop where
  ins : Ins a.c b.c
  at_ : Ins (a.c.drop a.at_) (b.c.drop b.at_)
  v : a.v = b.v
  en : a.en = b.en
theorem ins_alike (N : Nat) : Alike InsR N goL goL := by
  intro a b now out hR hN h1 h2
  obtain ⟨ac, av, aat, aen⟩ := a
  obtain ⟨bc, bv, bat, ben⟩ := b
  obtain ⟨hi, ha, hv, he⟩ := hR
  dsimp only at hi ha hv he
  subst hv he
  obtain ⟨e1, e2⟩ := go_sim hi 40000 20000 20000 ⟨aat, av, now, out⟩ ⟨bat, av, now, out⟩ (by omega) ⟨ha, rfl, rfl, rfl⟩ h1 h2
  unfold goL
  dsimp only
  refine ⟨e1, ⟨hi, e2.at_, e2.v, by rw [e1]⟩, e2.now, e2.out, ?_⟩
  rw [goV_words]; exact hN
end Go.Proofs.Ytdhihmeknoofoaa.Sx
