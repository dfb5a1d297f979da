/-
  PLAIN: steps (chapters 15 and 16): accesses made durable, what follows an access, what is left out. No Go here.
-/
import Derived.WalkKit
namespace Go.Proofs.Ytdhihmeknoofoaa.Stp
set_option linter.unusedVariables false
set_option linter.unusedSimpArgs false

structure St where
  kind : Int
  d : Int
  a : Int
  b : Int
  c : Int
  to : Int
  cell : Int
  n : Int
  op : Int
deriving DecidableEq
def zeroSt : St := ⟨0, 0, 0, 0, 0, 0, 0, 0, 0⟩
def access (s : St) : Bool := s.kind == 3 || s.kind == 4 || s.kind == 5
def fl (s : St) : St := ⟨6, 0, s.a, 0, 0, 0, s.cell, 0, 0⟩
def sy : St := ⟨7, 0, 0, 0, 0, 0, 0, 0, 0⟩
def flw3 (s f y : St) : Bool := f.kind == 6 && f.a == s.a && f.cell == s.cell && y.kind == 7
def flwT (s : St) : List St → Bool
  | f :: y :: _ => flw3 s f y
  | _ => false
def flw (l : List St) (i : Nat) : Bool := decide (i + 2 < l.length) && flw3 (l.getD i zeroSt) (l.getD (i + 1) zeroSt) (l.getD (i + 2) zeroSt)
def flush1 (s : St) : List St := if access s then [s, fl s, sy] else [s]
def flush (l : List St) : List St := l.flatMap flush1
def durT : List St → Bool
  | [] => true
  | s :: t => (!access s || flwT s t) && durT t
def bare (sole : List Bool) (s : St) : Bool := s.kind == 3 && decide (0 ≤ s.cell ∧ s.cell < sole.length) && sole.getD s.cell.toNat false
def elide (sole : List Bool) : List St → List St
  | [] => []
  | s :: t => s :: elide sole (if bare sole s && flwT s t then t.drop 2 else t)
termination_by l => l.length
decreasing_by
  simp only [List.length_cons]
  split
  · rw [List.length_drop]; omega
  · omega

theorem drop_cons {l : List St} {i : Nat} (h : i < l.length) : l.drop i = l.getD i zeroSt :: l.drop (i + 1) := by
  rw [List.drop_eq_getElem_cons h]; simp [List.getD, h]
theorem flw_eq {l : List St} {i : Nat} (h : i < l.length) : flwT (l.getD i zeroSt) (l.drop (i + 1)) = flw l i := by
  unfold flw
  by_cases h2 : i + 2 < l.length
  · rw [drop_cons (show i + 1 < l.length by omega), drop_cons (show i + 1 + 1 < l.length by omega)]
    simp [flwT, h2]
  · have e : (l.drop (i + 1)).length ≤ 1 := by rw [List.length_drop]; omega
    rw [decide_eq_false h2, Bool.false_and]
    cases hl : l.drop (i + 1) with
    | nil => rfl
    | cons x t =>
      rw [hl] at e
      simp only [List.length_cons] at e
      cases t with
      | nil => rfl
      | cons y t => simp only [List.length_cons] at e; omega
theorem elide_step (sole : List Bool) {l : List St} {i : Nat} (h : i < l.length) :
    elide sole (l.drop i) = l.getD i zeroSt :: elide sole (l.drop (if bare sole (l.getD i zeroSt) && flw l i then i + 3 else i + 1)) := by
  rw [drop_cons h, elide, flw_eq h]
  congr 2
  split
  · rw [List.drop_drop]
  · rfl
theorem flw_lt {l : List St} {i : Nat} (h : flw l i = true) : i + 2 < l.length := by
  unfold flw at h
  simp only [Bool.and_eq_true, decide_eq_true_eq] at h
  exact h.1
theorem durT_step {l : List St} {i : Nat} (h : i < l.length) : durT (l.drop i) = ((!access (l.getD i zeroSt) || flw l i) && durT (l.drop (i + 1))) := by
  rw [drop_cons h, durT, flw_eq h]
theorem flush_snoc (l : List St) (k : Nat) (h : k < l.length) : flush (l.take (k + 1)) = flush (l.take k) ++ flush1 (l.getD k zeroSt) := by
  have e : l.take (k + 1) = l.take k ++ [l.getD k zeroSt] := by
    rw [List.take_succ_eq_append_getElem h]; simp [List.getD, h]
  unfold flush
  rw [e, List.flatMap_append]
  simp
theorem flush1_len (s : St) : (flush1 s).length = if access s then 3 else 1 := by unfold flush1; split <;> rfl
theorem flush_len_take (l : List St) (k : Nat) : (flush (l.take k)).length ≤ 3 * k := by
  induction k with
  | zero => simp [flush]
  | succ k ih =>
    by_cases h : k < l.length
    · rw [flush_snoc l k h, List.length_append, flush1_len]; split <;> omega
    · have e : l.take (k + 1) = l.take k := by rw [List.take_of_length_le (by omega), List.take_of_length_le (by omega)]
      rw [e]; omega
theorem flush_len (l : List St) : (flush l).length ≤ 3 * l.length := by have := flush_len_take l l.length; rwa [List.take_length] at this
theorem flush_cons (s : St) (t : List St) : flush (s :: t) = flush1 s ++ flush t := by simp [flush]
theorem flush_split (l : List St) (k : Nat) (h : k < l.length) : flush l = flush (l.take k) ++ (flush1 (l.getD k zeroSt) ++ flush (l.drop (k + 1))) := by
  have e : l = l.take k ++ (l.getD k zeroSt :: l.drop (k + 1)) := by
    rw [← drop_cons h]; exact (List.take_append_drop k l).symm
  conv => lhs; rw [e]
  unfold flush
  rw [List.flatMap_append]
  simp
/-- the k-th of the code stands behind what the first k of them came to -/
theorem flush_at (l : List St) (k j : Nat) (h : k < l.length) (hj : j < (flush1 (l.getD k zeroSt)).length) : (flush l).getD ((flush (l.take k)).length + j) zeroSt = (flush1 (l.getD k zeroSt)).getD j zeroSt := by
  rw [flush_split l k h]
  generalize flush1 (l.getD k zeroSt) = m at *
  simp only [List.getD]
  rw [List.getElem?_append_right (by omega), List.getElem?_append_left (by omega)]
  congr 2
  omega
theorem flush_at0 (l : List St) (k : Nat) (h : k < l.length) : (flush l).getD (flush (l.take k)).length zeroSt = l.getD k zeroSt := by
  have := flush_at l k 0 h (by rw [flush1_len]; split <;> omega)
  rw [Nat.add_zero] at this
  rw [this]
  unfold flush1
  split <;> rfl
theorem flush_lt (l : List St) (k : Nat) (h : k < l.length) : (flush (l.take k)).length < (flush l).length := by
  rw [flush_split l k h]
  simp only [List.length_append]
  have := flush1_len (l.getD k zeroSt)
  split at this <;> omega

theorem fl_access (s : St) : access (fl s) = false := rfl
theorem sy_access : access sy = false := rfl
theorem flw_self (s : St) (t : List St) : flwT s (fl s :: sy :: t) = true := by simp [flwT, flw3, fl, sy]
theorem durT_flush (l : List St) : durT (flush l) = true := by
  induction l with
  | nil => rfl
  | cons s t ih =>
    rw [flush_cons]
    unfold flush1
    cases h : access s
    · simp [durT, h, ih]
    · simp [durT, h, ih, flw_self, fl_access, sy_access]

/-- what is left out of a code that was made durable -/
def spare1 (sole : List Bool) (s : St) : List St := if bare sole s then [s] else flush1 s
theorem bare_access {sole : List Bool} {s : St} (h : bare sole s = true) : access s = true := by
  unfold bare at h
  simp only [Bool.and_eq_true] at h
  simp [access, h.1.1]
theorem bare_not {sole : List Bool} {s : St} (h : access s = false) : bare sole s = false := by
  cases hb : bare sole s
  · rfl
  · rw [bare_access hb] at h; cases h
theorem elide_plain (sole : List Bool) (s : St) (t : List St) (h : bare sole s = false) : elide sole (s :: t) = s :: elide sole t := by
  rw [elide, h]; simp
theorem elide_flush (sole : List Bool) (l : List St) : elide sole (flush l) = l.flatMap (spare1 sole) := by
  induction l with
  | nil => simp [flush, elide]
  | cons s t ih =>
    rw [flush_cons, List.flatMap_cons, ← ih]
    unfold spare1 flush1
    cases hb : bare sole s
    · cases h : access s
      · simp [elide_plain, hb]
      · simp only [if_true, List.cons_append, List.nil_append]
        rw [elide_plain _ _ _ hb, elide_plain _ _ _ (bare_not (fl_access s)), elide_plain _ _ _ (bare_not sy_access)]
        simp
    · have h := bare_access hb
      simp only [h, if_true, List.cons_append, List.nil_append]
      rw [elide, hb, flw_self]
      simp

def asks (l : List St) (c : Int) : Bool := l.any fun s => access s && s.cell == c
def many (ls : List (List St)) (c : Int) : Nat := ls.countP fun l => asks l c
def solesN (ls : List (List St)) (m : Nat) : List Bool := (List.range m).map fun (c : Nat) => decide (many ls c ≤ 1)
def cutN (n : Int) : Nat := (max 0 (min n 16)).toNat
def soles (ls : List (List St)) (cells : Int) : List Bool := solesN ls (cutN cells)
theorem solesN_snoc (ls : List (List St)) (m : Nat) : solesN ls (m + 1) = solesN ls m ++ [decide (many ls m ≤ 1)] := by simp [solesN, List.range_succ]
theorem take_snoc {α : Type} (d : α) (l : List α) (k : Nat) (h : k < l.length) : l.take (k + 1) = l.take k ++ [l.getD k d] := by
  rw [List.take_succ_eq_append_getElem h]; simp [List.getD, h]
theorem many_snoc (ls : List (List St)) (c : Int) (k : Nat) (h : k < ls.length) : many (ls.take (k + 1)) c = many (ls.take k) c + if asks (ls.getD k []) c then 1 else 0 := by
  rw [take_snoc [] ls k h]
  unfold many
  rw [List.countP_append]
  simp [List.countP_cons]
theorem asks_snoc (l : List St) (c : Int) (k : Nat) (h : k < l.length) : asks (l.take (k + 1)) c = (asks (l.take k) c || (access (l.getD k zeroSt) && (l.getD k zeroSt).cell == c)) := by
  rw [take_snoc zeroSt l k h]
  unfold asks
  rw [List.any_append]
  simp

/-- how many accesses -/
def count (l : List St) : Nat := l.countP access
theorem count_snoc (l : List St) (k : Nat) (h : k < l.length) : count (l.take (k + 1)) = count (l.take k) + if access (l.getD k zeroSt) then 1 else 0 := by
  rw [take_snoc zeroSt l k h]
  unfold count
  rw [List.countP_append]
  simp [List.countP_cons]
theorem count_spare (sole : List Bool) (l : List St) : count (elide sole (flush l)) = count l := by
  rw [elide_flush]
  induction l with
  | nil => rfl
  | cons s t ih =>
    rw [List.flatMap_cons]
    unfold count at *
    rw [List.countP_append, ih, List.countP_cons]
    have e : (spare1 sole s).countP access = if access s then 1 else 0 := by
      unfold spare1 flush1
      cases h : access s
      · simp [bare_not h, h]
      · cases hb : bare sole s
        · simp [h, fl_access, sy_access, List.countP_cons]
        · simp [h, List.countP_cons]
    rw [e]
    omega
/-- an access is a load of a sole cell, or its flush stands behind it -/
def keptT (sole : List Bool) : List St → Bool
  | [] => true
  | s :: t => (!access s || (bare sole s || flwT s t)) && keptT sole t
theorem kept_spare (sole : List Bool) (l : List St) : keptT sole (elide sole (flush l)) = true := by
  rw [elide_flush]
  induction l with
  | nil => rfl
  | cons s t ih =>
    rw [List.flatMap_cons]
    generalize t.flatMap (spare1 sole) = r at *
    unfold spare1 flush1
    cases hb : bare sole s
    · cases h : access s
      · simp [keptT, h, ih]
      · simp [keptT, h, ih, flw_self, fl_access, sy_access]
    · simp [keptT, hb, ih]
theorem keptT_step (sole : List Bool) {l : List St} {i : Nat} (h : i < l.length) : keptT sole (l.drop i) = ((!access (l.getD i zeroSt) || (bare sole (l.getD i zeroSt) || flw l i)) && keptT sole (l.drop (i + 1))) := by
  rw [drop_cons h, keptT, flw_eq h]
end Go.Proofs.Ytdhihmeknoofoaa.Stp
