/-
  PLAIN: codes of nops with one branch (chapter 22). No Go here.
-/
import Derived.Test.YtkohichiojmakaaImgPlain
namespace Go.Proofs.Ytkohichiojmakaa.ImB
set_option linter.unusedVariables false
set_option linter.unusedSimpArgs false
open A64 A64P A64H Pat Img

def nop : In := ⟨21, 0, 0, 0, 0, 0, 0⟩
def jmp (k d : Int) : In := ⟨k, 0, 0, 0, 0, 0, d⟩
theorem right_nop : right nop = true := by decide +kernel
theorem right_jmp0 : ∀ (k : Fin 4) (d : Fin 361), right (jmp ((k.val : Int) + 8) ((d.val : Int) - 160)) = true := by decide +kernel
theorem right_jmp {k d : Int} (h1 : 8 ≤ k) (h2 : k ≤ 11) (h3 : -160 ≤ d) (h4 : d ≤ 200) : right (jmp k d) = true := by
  have := right_jmp0 ⟨(k - 8).toNat, by omega⟩ ⟨(d + 160).toNat, by omega⟩
  rwa [show (((k - 8).toNat : Nat) : Int) + 8 = k by omega, show (((d + 160).toNat : Nat) : Int) - 160 = d by omega] at this
/-- the j-th instruction -/
def ins (k to_ : Int) (q j : Nat) : In := if j = q then jmp k (to_ - q) else nop
def cw (k to_ : Int) (q n : Nat) : List (BitVec 32) := (List.range n).map fun j => (encode (ins k to_ q j)).1
theorem cw_len (k to_ : Int) (q n : Nat) : (cw k to_ q n).length = n := by unfold cw; simp
theorem cw_succ (k to_ : Int) (q n : Nat) : cw k to_ q (n + 1) = cw k to_ q n ++ [(encode (ins k to_ q n)).1] := by unfold cw; rw [List.range_succ, List.map_append]; rfl
theorem cw_get {k to_ : Int} {q n j : Nat} (h : j < n) : (cw k to_ q n).getD j 0 = (encode (ins k to_ q j)).1 := by unfold cw; simp [List.getD, h]
theorem at_nop (N j : Nat) : codeAt N j (encode nop).1 = true := by
  unfold codeAt
  rw [(decode_encode nop right_nop).1]
  rfl
theorem at_jmp {N q : Nat} {k to_ : Int} (h1 : 8 ≤ k) (h2 : k ≤ 11) (hq : q < 60) (h3 : -100 ≤ to_) (h4 : to_ ≤ 200) : codeAt N q (encode (jmp k (to_ - q))).1 = (decide (0 ≤ to_) && decide (to_ < N)) := by
  unfold codeAt
  rw [(decode_encode _ (right_jmp h1 h2 (by omega) (by omega))).1]
  have hb : br (jmp k (to_ - q)).kind = true := by show br k = true; unfold br; rw [decide_eq_true h1, decide_eq_true h2]; rfl
  rw [hb]
  have e : (q : Int) + (jmp k (to_ - q)).n = to_ := by show (q : Int) + (to_ - q) = to_; omega
  rw [e]
  simp
theorem all_in {n : Nat} (hn : 1 ≤ n) (x : Im) (h0 : x.words = 0) (h1 : x.start = 0) (h2 : x.entry = [0]) (h3 : x.code.length = n) (h4 : n ≤ 60) : right' x = codeOk x.code := by
  refine right_code ?_ fun k hk => ?_
  · unfold sizes
    rw [h0, h2, h3]
    simp
    omega
  · rw [h1, h2, h3] at *
    have : k = 0 ∨ k = 1 := by simp at hk; omega
    rcases this with rfl | rfl <;> · unfold inCode; simp; omega
theorem right_br {n q : Nat} {k to_ : Int} (hn : 1 ≤ n) (hn2 : n ≤ 60) (hq : q < n) (h1 : 8 ≤ k) (h2 : k ≤ 11) (h3 : -100 ≤ to_) (h4 : to_ ≤ 200) :
    right' ⟨0, 0, [0], cw k to_ q n⟩ = (decide (0 ≤ to_) && decide (to_ < n)) := by
  rw [all_in hn _ rfl rfl rfl (cw_len _ _ _ _) hn2]
  show codeOk (cw k to_ q n) = _
  have hat : ∀ j, j < n → codeAt n j ((cw k to_ q n).getD j 0) = if j = q then (decide (0 ≤ to_) && decide (to_ < n)) else true := fun j hj => by
    rw [cw_get hj]
    unfold ins
    by_cases e : j = q
    · subst e
      rw [if_pos rfl, if_pos rfl]
      exact at_jmp h1 h2 (by omega) h3 h4
    · rw [if_neg e, if_neg e]
      exact at_nop _ _
  cases hb : (decide (0 ≤ to_) && decide (to_ < (n : Int)))
  · refine codeOk_bad (k := q) (by rw [cw_len]; exact hq) ?_
    rw [cw_len, hat q hq, if_pos rfl, hb]
  · unfold codeOk codeTo
    rw [cw_len, List.all_eq_true]
    intro j hj
    rw [hat j (List.mem_range.1 hj), hb]
    split <;> rfl
theorem seven : (A64.decode 7#32).2 = 8 := by decide +kernel
theorem right_seven {n q : Nat} {l : List (BitVec 32)} (hl : l.length = n) (hq : q < n) : right' ⟨0, 0, [0], l.set q 7#32⟩ = false := by
  unfold right'
  have : codeOk (l.set q 7#32) = false := by
    refine codeOk_bad (k := q) (by rw [List.length_set]; omega) ?_
    rw [show (l.set q 7#32).getD q 0 = 7#32 by simp [List.getD, show q < l.length by omega]]
    unfold codeAt
    rw [seven]
    rfl
  show (_ && (_ && codeOk (l.set q 7#32))) = false
  rw [this, Bool.and_false, Bool.and_false]
end Go.Proofs.Ytkohichiojmakaa.ImB
