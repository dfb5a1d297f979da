/-
  PLAIN: what is written of an image is read as it was (chapter 22). No Go here.
-/
import Derived.Test.YtkohichiojmakaaBytePlain
namespace Go.Proofs.Ytkohichiojmakaa.Byt
set_option linter.unusedVariables false
set_option linter.unusedSimpArgs false
open A64 Pat Img

def four (n : BitVec 32) : List (BitVec 8) := [n.setWidth 8, (n >>> 8).setWidth 8, (n >>> 16).setWidth 8, (n >>> 24).setWidth 8]
def bytesI (x : Im) : List (BitVec 8) := magic ++ ([BitVec.ofInt 8 x.words, BitVec.ofNat 8 x.entry.length] ++ (four (BitVec.ofInt 32 x.start) ++ ((x.entry.map (BitVec.ofInt 32)).flatMap four ++ (four (BitVec.ofNat 32 x.code.length) ++ x.code.flatMap four))))
theorem num_four (n : BitVec 32) : num (four n) = n := by
  have e : num (four n) = ((((0 ||| ((n.setWidth 8).setWidth 32 <<< 0)) ||| (((n >>> 8).setWidth 8).setWidth 32 <<< 8)) ||| (((n >>> 16).setWidth 8).setWidth 32 <<< 16)) ||| (((n >>> 24).setWidth 8).setWidth 32 <<< 24)) := rfl
  rw [e]
  refine BitVec.eq_of_getLsbD_eq fun i hi => ?_
  simp only [BitVec.getLsbD_or, BitVec.getLsbD_shiftLeft, BitVec.getLsbD_setWidth, BitVec.getLsbD_ushiftRight, BitVec.getLsbD_zero, Bool.false_or]
  by_cases h1 : i < 8
  · simp [h1, hi, show i < 16 by omega, show i < 24 by omega]
  · by_cases h2 : i < 16
    · simp [h1, h2, hi, show i < 24 by omega, show i - 8 < 32 by omega, show i - 8 < 8 by omega, show 8 + (i - 8) = i by omega]
    · by_cases h3 : i < 24
      · simp [h1, h2, h3, hi, show i - 8 < 32 by omega, show ¬ i - 8 < 8 by omega, show i - 16 < 32 by omega, show i - 16 < 8 by omega, show 16 + (i - 16) = i by omega]
      · simp [h1, h2, h3, hi, show i - 8 < 32 by omega, show ¬ i - 8 < 8 by omega, show i - 16 < 32 by omega, show ¬ i - 16 < 8 by omega, show i - 24 < 32 by omega, show i - 24 < 8 by omega, show 24 + (i - 24) = i by omega]
theorem tk_app (a b : List (BitVec 8)) (s : Bool) (n : Nat) (hn : a.length = n) : tk ⟨a ++ b, s⟩ n = (a, ⟨b, s⟩) := by
  subst hn
  unfold tk
  rw [if_pos (by simp)]
  simp
theorem nb_four (n : BitVec 32) (b : List (BitVec 8)) (s : Bool) : nb ⟨four n ++ b, s⟩ 4 = (n, ⟨b, s⟩) := by
  unfold nb
  rw [tk_app _ _ _ 4 rfl]
  dsimp only
  rw [num_four]
theorem num_one (x : BitVec 8) : num [x] = x.setWidth 32 := by
  have e : num [x] = 0 ||| (x.setWidth 32 <<< 0) := rfl
  rw [e]; simp
theorem nb_one (x : BitVec 8) (b : List (BitVec 8)) (s : Bool) : nb ⟨x :: b, s⟩ 1 = (x.setWidth 32, ⟨b, s⟩) := by
  unfold nb
  rw [show x :: b = [x] ++ b from rfl, tk_app _ _ _ 1 rfl]
  dsimp only
  rw [num_one]
theorem four_len (l : List (BitVec 32)) : (l.flatMap four).length = 4 * l.length := by
  induction l with
  | nil => rfl
  | cons x l ih => rw [List.flatMap_cons, List.length_append, ih, List.length_cons]; show 4 + _ = _; omega
theorem wdsTo_all (l : List (BitVec 32)) (rest : List (BitVec 8)) (s : Bool) : ∀ k, k ≤ l.length → wdsTo ⟨l.flatMap four ++ rest, s⟩ k = (l.take k, ⟨(l.drop k).flatMap four ++ rest, s⟩)
  | 0, _ => by simp [wdsTo]
  | k + 1, h => by
    have ih := wdsTo_all l rest s k (by omega)
    have e : (l.drop k).flatMap four ++ rest = four (l[k]'(by omega)) ++ ((l.drop (k + 1)).flatMap four ++ rest) := by
      rw [List.drop_eq_getElem_cons (by omega), List.flatMap_cons, List.append_assoc]
    unfold wdsTo
    rw [ih]
    dsimp only
    rw [e, nb_four, List.take_succ_eq_append_getElem (by omega)]
theorem wds_all (l : List (BitVec 32)) (rest : List (BitVec 8)) (s : Bool) : wds ⟨l.flatMap four ++ rest, s⟩ l.length = (l, ⟨rest, s⟩) := by
  unfold wds
  rw [if_pos (by show l.length ≤ (l.flatMap four ++ rest).length / 4; rw [List.length_append, four_len]; omega), wdsTo_all l rest s l.length (Nat.le_refl _)]
  simp
theorem right_in {x : Im} (h : right' x = true) : sizes x = true ∧ (∀ y ∈ x.start :: x.entry, 0 ≤ y ∧ y < x.code.length) := by
  unfold right' at h
  simp only [Bool.and_eq_true] at h
  refine ⟨h.1, fun y hy => ?_⟩
  have := List.all_eq_true.1 h.2.1 y hy
  unfold inCode at this
  simpa using this
theorem to32 {y : Int} {n : Nat} (h : 0 ≤ y ∧ y < n) (hn : n ≤ 20000) : ((BitVec.ofInt 32 y).toNat : Int) = y := by
  rw [BitVec.toNat_ofInt]
  omega
theorem full {x : Im} (h : right' x = true) : gH (bytesI x) = (magic, ⟨[BitVec.ofInt 8 x.words, BitVec.ofNat 8 x.entry.length] ++ (four (BitVec.ofInt 32 x.start) ++ ((x.entry.map (BitVec.ofInt 32)).flatMap four ++ (four (BitVec.ofNat 32 x.code.length) ++ x.code.flatMap four))), false⟩) ∧ imOf (bytesI x) = x ∧ (gC (bytesI x)).2 = ⟨[], false⟩ := by
  obtain ⟨hs, hin⟩ := right_in h
  unfold sizes at hs
  simp only [Bool.and_eq_true, decide_eq_true_eq] at hs
  obtain ⟨⟨⟨⟨s1, s2⟩, s3⟩, s4⟩, s5⟩ := hs
  have c1 : gH (bytesI x) = (magic, ⟨[BitVec.ofInt 8 x.words, BitVec.ofNat 8 x.entry.length] ++ (four (BitVec.ofInt 32 x.start) ++ ((x.entry.map (BitVec.ofInt 32)).flatMap four ++ (four (BitVec.ofNat 32 x.code.length) ++ x.code.flatMap four))), false⟩) := by
    rw [gH_eq]; unfold bytesI; exact tk_app _ _ _ 3 rfl
  have c2 : gW (bytesI x) = ((BitVec.ofInt 8 x.words).setWidth 32, ⟨BitVec.ofNat 8 x.entry.length :: (four (BitVec.ofInt 32 x.start) ++ ((x.entry.map (BitVec.ofInt 32)).flatMap four ++ (four (BitVec.ofNat 32 x.code.length) ++ x.code.flatMap four))), false⟩) := by
    rw [gW_eq, c1]; exact nb_one _ _ _
  have c3 : gE (bytesI x) = ((BitVec.ofNat 8 x.entry.length).setWidth 32, ⟨four (BitVec.ofInt 32 x.start) ++ ((x.entry.map (BitVec.ofInt 32)).flatMap four ++ (four (BitVec.ofNat 32 x.code.length) ++ x.code.flatMap four)), false⟩) := by
    rw [gE_eq, c2]; exact nb_one _ _ _
  have c4 : gS (bytesI x) = (BitVec.ofInt 32 x.start, ⟨(x.entry.map (BitVec.ofInt 32)).flatMap four ++ (four (BitVec.ofNat 32 x.code.length) ++ x.code.flatMap four), false⟩) := by
    rw [gS_eq, c3]; exact nb_four _ _ _
  have en : ((BitVec.ofNat 8 x.entry.length).setWidth 32).toNat = (x.entry.map (BitVec.ofInt 32)).length := by
    rw [List.length_map, BitVec.toNat_setWidth, BitVec.toNat_ofNat]; omega
  have c5 : gEs (bytesI x) = (x.entry.map (BitVec.ofInt 32), ⟨four (BitVec.ofNat 32 x.code.length) ++ x.code.flatMap four, false⟩) := by
    rw [gEs_eq, c3, c4]
    dsimp only
    rw [en]
    exact wds_all _ _ _
  have c6 : gK (bytesI x) = (BitVec.ofNat 32 x.code.length, ⟨x.code.flatMap four, false⟩) := by
    rw [gK_eq, c5]; exact nb_four _ _ _
  have c7 : gC (bytesI x) = (x.code, ⟨[], false⟩) := by
    rw [gC_eq, c6]
    dsimp only
    have e : (BitVec.ofNat 32 x.code.length).toNat = x.code.length := by rw [BitVec.toNat_ofNat]; omega
    rw [e]
    have := wds_all x.code [] false
    rwa [List.append_nil] at this
  refine ⟨c1, ?_, by rw [c7]⟩
  unfold imOf
  rw [c2, c4, c5, c7]
  dsimp only
  have e1 : (((BitVec.ofInt 8 x.words).setWidth 32).toNat : Int) = x.words := by
    rw [BitVec.toNat_setWidth, BitVec.toNat_ofInt]; omega
  have e2 := to32 (hin x.start (by simp)) s5
  have e3 : (x.entry.map (BitVec.ofInt 32)).map (fun y => (y.toNat : Int)) = x.entry := by
    rw [List.map_map]
    refine (List.map_congr_left fun y hy => ?_).trans (List.map_id _)
    exact to32 (hin y (by simp [hy])) s5
  rw [e1, e2, e3]
theorem read_all {x : Im} (h : right' x = true) : readI (bytesI x) = (x, 0) := by
  obtain ⟨c1, c2, c3⟩ := full h
  unfold readI
  rw [c1, c2, c3, h]
  simp
theorem bytes_len {x : Im} (h : right' x = true) : (bytesI x).length = 13 + 4 * x.entry.length + 4 * x.code.length := by
  unfold bytesI
  simp only [List.length_append, four_len, List.length_map, magic, List.length_cons, List.length_nil, four]
  omega
end Go.Proofs.Ytkohichiojmakaa.Byt
