/-
  PLAIN: writes that are pending (chapter 5): which may go, what the last one to an address has. No Go here.
-/
import Derived.Test.YtdhihmeknoofoaaCommon
namespace Go.Proofs.Ytdhihmeknoofoaa.Pnd
set_option linter.unusedVariables false
set_option linter.unusedSimpArgs false

structure Wr where
  at' : Int
  v : Int
  rel : Bool
deriving DecidableEq
def zeroWr : Wr := ⟨0, 0, false⟩
/-- no elder one to its address -/
def first (l : List Wr) (k : Nat) : Bool := !((l.take k).any fun x => x.at' == (l.getD k zeroWr).at')
def may (l : List Wr) (i : Int) : Bool := decide (0 ≤ i ∧ i < l.length) && !((l.getD i.toNat zeroWr).rel && decide (0 < i)) && first l i.toNat
def last (l : List Wr) (a : Int) : Option Wr := l.reverse.find? fun x => x.at' == a
def lastV (l : List Wr) (a : Int) : Int := ((last l a).map (·.v)).getD 0
def lastOk (l : List Wr) (a : Int) : Bool := (last l a).isSome

/-! the last one, out of those to its address alone -/
def only (a : Int) (l : List Wr) : List Wr := l.filter fun x => x.at' == a
theorem last_only (l : List Wr) (a : Int) : last l a = (only a l).getLast? := by
  unfold last only
  rw [← List.head?_filter, List.filter_reverse, List.head?_reverse]
theorem last_same {l m : List Wr} {a : Int} (h : only a l = only a m) : lastV l a = lastV m a := by
  unfold lastV
  rw [last_only, last_only, h]
theorem split_at (l : List Wr) (k : Nat) (h : k < l.length) : l = l.take k ++ (l.getD k zeroWr :: l.drop (k + 1)) := by
  have : l.drop k = l.getD k zeroWr :: l.drop (k + 1) := by rw [List.drop_eq_getElem_cons h]; simp [List.getD, h]
  rw [← this, List.take_append_drop]
/-- one that may go goes ahead of the others, and nothing turns of what is to one address -/
theorem only_move (g l : List Wr) (k : Nat) (h : k < l.length) (hf : first l k = true) (a : Int) :
    only a ((g ++ [l.getD k zeroWr]) ++ (l.take k ++ l.drop (k + 1))) = only a (g ++ l) := by
  conv => rhs; rw [split_at l k h]
  unfold only
  simp only [List.filter_append, List.filter_cons, List.filter_nil, List.append_assoc]
  congr 1
  by_cases ha : ((l.getD k zeroWr).at' == a) = true
  · have e : (l.take k).filter (fun x => x.at' == a) = [] := by
      rw [List.filter_eq_nil_iff]
      intro x hx hxa
      unfold first at hf
      simp only [Bool.not_eq_true', List.any_eq_false] at hf
      apply hf x hx
      rw [beq_iff_eq] at ha hxa ⊢
      rw [ha, hxa]
    rw [e, ha]
    simp
  · simp only [ha]
    simp
theorem first_zero (l : List Wr) : first l 0 = true := by unfold first; simp
theorem may_zero (l : List Wr) (h : 0 < l.length) : may l 0 = true := by
  unfold may
  rw [decide_eq_true (by omega)]
  simp [first]
theorem may_first {l : List Wr} {k : Nat} (h : may l k = true) : first l k = true := by
  unfold may at h
  simp only [Bool.and_eq_true, Int.toNat_natCast] at h
  exact h.2
end Go.Proofs.Ytdhihmeknoofoaa.Pnd
