/-
  PLAIN: instructions with labels linked, and their words (chapter 21). No Go here.
-/
import Derived.Test.YtkohichiojmakaaA64Plain
namespace Go.Proofs.Ytkohichiojmakaa.Pat
set_option linter.unusedVariables false
set_option linter.unusedSimpArgs false
open A64

def br (k : Int) : Bool := decide (8 ≤ k) && decide (k ≤ 11)
def asks (i : In) : Bool := br i.kind && i.b == 1
def lead (N : Nat) (lb : List Int) (i : In) : Bool := decide (0 ≤ i.n ∧ i.n < lb.length) && decide (0 ≤ lb.getD i.n.toNat 0 ∧ lb.getD i.n.toNat 0 ≤ N)
def to (lb : List Int) (at_ : Nat) (i : In) : In := ⟨i.kind, i.d, i.a, 0, i.s, i.c, lb.getD i.n.toNat 0 - at_⟩
def okAt (N : Nat) (lb : List Int) (at_ : Nat) (i : In) : Bool := !asks i || (lead N lb i && right (to lb at_ i))
def mk (lb : List Int) (at_ : Nat) (i : In) : In := if asks i then to lb at_ i else i
def okTo (lb : List Int) (l : List In) (k : Nat) : Bool := (List.range k).all fun j => okAt l.length lb j (l.getD j zeroIn)
def outTo (lb : List Int) (l : List In) (k : Nat) : List In := (List.range k).map fun j => mk lb j (l.getD j zeroIn)
def link (l : List In) (lb : List Int) : List In × Int := if okTo lb l l.length then (outTo lb l l.length, 0) else ([], 10)
def wordsOk (l : List In) (k : Nat) : Bool := (List.range k).all fun j => right (l.getD j zeroIn)
def wordsTo (l : List In) (k : Nat) : List (BitVec 32) := (List.range k).map fun j => (encode (l.getD j zeroIn)).1
def words (l : List In) : List (BitVec 32) × Int := if wordsOk l l.length then (wordsTo l l.length, 0) else ([], 1)

theorem okTo_succ (lb : List Int) (l : List In) (k : Nat) : okTo lb l (k + 1) = (okTo lb l k && okAt l.length lb k (l.getD k zeroIn)) := by
  unfold okTo; rw [List.range_succ, List.all_append]; simp
theorem outTo_succ (lb : List Int) (l : List In) (k : Nat) : outTo lb l (k + 1) = outTo lb l k ++ [mk lb k (l.getD k zeroIn)] := by
  unfold outTo; rw [List.range_succ, List.map_append]; rfl
theorem outTo_len (lb : List Int) (l : List In) (k : Nat) : (outTo lb l k).length = k := by unfold outTo; simp
theorem outTo_get (lb : List Int) (l : List In) (k j : Nat) (h : j < k) : (outTo lb l k).getD j zeroIn = mk lb j (l.getD j zeroIn) := by
  unfold outTo; simp [List.getD, h]
theorem okTo_bad {lb : List Int} {l : List In} {k : Nat} (h : k < l.length) (hb : okAt l.length lb k (l.getD k zeroIn) = false) : okTo lb l l.length = false := by
  unfold okTo
  rw [List.all_eq_false]
  exact ⟨k, List.mem_range.2 h, by simpa using hb⟩
theorem link_bad {lb : List Int} {l : List In} {k : Nat} (h : k < l.length) (hb : okAt l.length lb k (l.getD k zeroIn) = false) : link l lb = ([], 10) := by
  unfold link; rw [okTo_bad h hb]; rfl
theorem link_good {lb : List Int} {l : List In} (h : okTo lb l l.length = true) : link l lb = (outTo lb l l.length, 0) := by
  unfold link; rw [h]; rfl
theorem wordsOk_succ (l : List In) (k : Nat) : wordsOk l (k + 1) = (wordsOk l k && right (l.getD k zeroIn)) := by
  unfold wordsOk; rw [List.range_succ, List.all_append]; simp
theorem wordsTo_succ (l : List In) (k : Nat) : wordsTo l (k + 1) = wordsTo l k ++ [(encode (l.getD k zeroIn)).1] := by
  unfold wordsTo; rw [List.range_succ, List.map_append]; rfl
theorem wordsTo_len (l : List In) (k : Nat) : (wordsTo l k).length = k := by unfold wordsTo; simp
theorem words_bad {l : List In} {k : Nat} (h : k < l.length) (hb : right (l.getD k zeroIn) = false) : words l = ([], 1) := by
  have e : wordsOk l l.length = false := by
    unfold wordsOk
    rw [List.all_eq_false]
    exact ⟨k, List.mem_range.2 h, by simpa using hb⟩
  unfold words; rw [e]; rfl
theorem words_good {l : List In} (h : wordsOk l l.length = true) : words l = (wordsTo l l.length, 0) := by
  unfold words; rw [h]; rfl
theorem encode_err (i : In) : (encode i).2 = if right i then 0 else 1 := by unfold encode; split <;> rfl
end Go.Proofs.Ytkohichiojmakaa.Pat
