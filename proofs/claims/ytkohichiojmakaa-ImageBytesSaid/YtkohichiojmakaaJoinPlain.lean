/-
  PLAIN: codes put one behind the other (chapter 22). No Go here.
-/
import Derived.Test.YtkohichiojmakaaImgPlain
namespace Go.Proofs.Ytkohichiojmakaa.Jn
set_option linter.unusedVariables false
set_option linter.unusedSimpArgs false
open A64 Pat Img

def codeK (s : List (BitVec 32)) (t : List (List (BitVec 32))) (k : Nat) : List (BitVec 32) := s ++ (t.take k).flatten
def entK (s : List (BitVec 32)) (t : List (List (BitVec 32))) (k : Nat) : List Int := (List.range k).map fun j => ((codeK s t j).length : Int)
def joined (s : List (BitVec 32)) (t : List (List (BitVec 32))) (x : Int) : Im := ⟨x, 0, entK s t t.length, codeK s t t.length⟩
def join (s : List (BitVec 32)) (t : List (List (BitVec 32))) (x : Int) : Im × Int := if right' (joined s t x) then (joined s t x, 0) else (⟨0, 0, [], []⟩, 1)
theorem codeK_zero (s : List (BitVec 32)) (t : List (List (BitVec 32))) : codeK s t 0 = s := by unfold codeK; simp
theorem codeK_succ {s : List (BitVec 32)} {t : List (List (BitVec 32))} {k : Nat} (h : k < t.length) : codeK s t (k + 1) = codeK s t k ++ t.getD k [] := by
  unfold codeK
  rw [List.take_succ_eq_append_getElem h, List.flatten_append, List.append_assoc]
  simp [List.getD, h]
theorem entK_succ (s : List (BitVec 32)) (t : List (List (BitVec 32))) (k : Nat) : entK s t (k + 1) = entK s t k ++ [((codeK s t k).length : Int)] := by
  unfold entK; rw [List.range_succ, List.map_append]; rfl
theorem codeK_len {s : List (BitVec 32)} {t : List (List (BitVec 32))} (hs : s.length ≤ 100) (ht : ∀ j, j < t.length → (t.getD j []).length ≤ 100) : ∀ k, k ≤ t.length → (codeK s t k).length ≤ 100 + 100 * k := by
  intro k
  induction k with
  | zero => intro _; rw [codeK_zero]; omega
  | succ k ih =>
    intro h
    rw [codeK_succ (by omega), List.length_append]
    have := ih (by omega)
    have := ht k (by omega)
    omega
theorem join_good {s : List (BitVec 32)} {t : List (List (BitVec 32))} {x : Int} (h : right' (joined s t x) = true) : join s t x = (joined s t x, 0) := by unfold join; rw [h]; rfl
theorem join_bad {s : List (BitVec 32)} {t : List (List (BitVec 32))} {x : Int} (h : right' (joined s t x) = false) : join s t x = (⟨0, 0, [], []⟩, 1) := by unfold join; rw [h]; rfl
end Go.Proofs.Ytkohichiojmakaa.Jn
