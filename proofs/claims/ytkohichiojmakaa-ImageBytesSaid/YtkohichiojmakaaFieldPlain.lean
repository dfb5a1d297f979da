/-
  PLAIN: fields of 32-bit words, as bit vectors: what 'get' and 'put' do bit by bit, and the laws of chapter 1 about them. No Go here.
-/
import Derived.WalkKit
namespace Go.Proofs.Ytkohichiojmakaa.Fld
set_option linter.unusedVariables false
set_option linter.unusedSimpArgs false

def low (n : Nat) : BitVec 32 := BitVec.ofNat 32 (2 ^ n - 1)
def get (w : BitVec 32) (a n : Nat) : BitVec 32 := (w >>> a) &&& low n
def put (w : BitVec 32) (a n : Nat) (v : BitVec 32) : BitVec 32 := (w &&& ~~~(low n <<< a)) ||| ((v <<< a) &&& (low n <<< a))

theorem low_bit (n i : Nat) (hi : i < 32) : (low n).getLsbD i = decide (i < n) := by
  rw [low, BitVec.getLsbD_ofNat]
  simp only [hi, decide_true, Bool.true_and, Nat.testBit_two_pow_sub_one]

theorem get_bit (w : BitVec 32) (a n i : Nat) (hi : i < 32) : (get w a n).getLsbD i = (decide (i < n) && w.getLsbD (a + i)) := by
  simp only [get, BitVec.getLsbD_and, BitVec.getLsbD_ushiftRight, low_bit n i hi]
  exact Bool.and_comm _ _

theorem put_bit (w : BitVec 32) (a n : Nat) (v : BitVec 32) (i : Nat) (hi : i < 32) :
    (put w a n v).getLsbD i = if a ≤ i ∧ i < a + n then v.getLsbD (i - a) else w.getLsbD i := by
  simp only [put, BitVec.getLsbD_or, BitVec.getLsbD_and, BitVec.getLsbD_not, BitVec.getLsbD_shiftLeft, hi, decide_true, Bool.true_and]
  by_cases ha : i < a
  · rw [if_neg (by omega)]
    simp [ha]
  · have hb : i - a < 32 := by omega
    rw [low_bit n (i - a) hb]
    by_cases hn : i < a + n
    · rw [if_pos ⟨by omega, hn⟩]
      simp only [ha, show i - a < n by omega, decide_true, decide_false, Bool.not_false, Bool.true_and, Bool.not_true, Bool.and_false, Bool.false_or, Bool.and_true]
    · rw [if_neg (by omega)]
      simp only [ha, show ¬ (i - a < n) by omega, decide_false, Bool.not_false, Bool.true_and, Bool.and_false, Bool.or_false, Bool.and_true]

theorem ext {x y : BitVec 32} (h : ∀ i, i < 32 → x.getLsbD i = y.getLsbD i) : x = y := BitVec.eq_of_getLsbD_eq (fun i hi => h i hi)

/-- what is put and what is put beside it, in whatever order -/
theorem put_comm (w : BitVec 32) (n gap m : Nat) (a b : BitVec 32) : put (put w 0 n a) (n + gap) m b = put (put w (n + gap) m b) 0 n a := by
  refine ext fun i hi => ?_
  simp only [put_bit _ _ _ _ i hi]
  by_cases h1 : n + gap ≤ i ∧ i < n + gap + m <;> by_cases h2 : 0 ≤ i ∧ i < 0 + n <;> simp only [h1, h2, if_true, if_false] <;> omega

theorem get_gap (w : BitVec 32) (n gap m : Nat) (a b : BitVec 32) (h : n + m + gap ≤ 32) : get (put (put w 0 n a) (n + gap) m b) n gap = get w n gap := by
  refine ext fun i hi => ?_
  simp only [get_bit _ _ _ i hi]
  by_cases hg : i < gap
  · have h32 : n + i < 32 := by omega
    simp only [put_bit _ _ _ _ _ h32, show ¬ (n + gap ≤ n + i ∧ n + i < n + gap + m) by omega, show ¬ (0 ≤ n + i ∧ n + i < 0 + n) by omega, if_false]
  · simp [hg]

theorem get_put (w : BitVec 32) (a n : Nat) (v : BitVec 32) (h : a + n ≤ 32) : get (put w a n v) a n = v &&& low n := by
  refine ext fun i hi => ?_
  simp only [get_bit _ _ _ i hi, BitVec.getLsbD_and, low_bit n i hi]
  by_cases hg : i < n
  · simp [hg, put_bit _ _ _ _ (a + i) (by omega)]
  · simp [hg]

theorem put_get (w : BitVec 32) (a n : Nat) (v : BitVec 32) : put (put w a n v) a n (get w a n) = w := by
  refine ext fun i hi => ?_
  simp only [put_bit _ _ _ _ i hi]
  by_cases h1 : a ≤ i ∧ i < a + n
  · simp only [h1, and_self, if_true, get_bit _ _ _ (i - a) (by omega)]
    simp [show i - a < n by omega, show a + (i - a) = i by omega]
  · simp only [h1, if_false]

theorem low_toNat (n : Nat) (h : n ≤ 32) : (low n).toNat = 2 ^ n - 1 := by
  have h2 : 2 ^ n ≤ 2 ^ 32 := Nat.pow_le_pow_right (by decide) h
  have h3 : 0 < 2 ^ n := Nat.two_pow_pos n
  rw [low, BitVec.toNat_ofNat]
  exact Nat.mod_eq_of_lt (by omega)

theorem and_low_toNat (v : BitVec 32) (n : Nat) (h : n ≤ 32) : (v &&& low n).toNat = v.toNat % 2 ^ n := by
  rw [BitVec.toNat_and, low_toNat n h, Nat.and_two_pow_sub_one_eq_mod]

theorem get_toNat (w : BitVec 32) (a n : Nat) (h : n ≤ 32) : (get w a n).toNat = w.toNat / 2 ^ a % 2 ^ n := by
  rw [get, and_low_toNat _ _ h, BitVec.toNat_ushiftRight, Nat.shiftRight_eq_div_pow]

theorem get_lt (w : BitVec 32) (a n : Nat) (h : n ≤ 32) : (get w a n).toNat < 2 ^ n := by
  rw [get_toNat w a n h]; exact Nat.mod_lt _ (Nat.two_pow_pos n)

/-- the place, and how many bits from it on -/
def ca (a : Int) : Nat := (max 0 (min a 32)).toNat
def cn (a n : Int) : Nat := (max 0 (min n (32 - max 0 (min a 32)))).toNat
theorem ca_le (a : Int) : (ca a : Int) ≤ 32 := by unfold ca; omega
theorem cn_le (a n : Int) : (ca a : Int) + (cn a n : Int) ≤ 32 := by unfold ca cn; omega
theorem ca_nat {a : Nat} (h : a ≤ 32) : ca (a : Int) = a := by unfold ca; omega
theorem cn_nat {a n : Nat} (h : a + n ≤ 32) : cn (a : Int) (n : Int) = n := by unfold cn; omega
theorem ca_ca (a : Int) : ca (ca a : Int) = ca a := ca_nat (by have := ca_le a; omega)
theorem cn_cn (a n : Int) : cn (ca a : Int) (cn a n : Int) = cn a n := cn_nat (by have := cn_le a n; omega)
theorem cn_zero (n : Int) : cn 0 (cn 0 n : Int) = cn 0 n := by unfold cn; omega
theorem cn0 (n : Int) : (cn 0 n : Int) = max 0 (min n 32) := by unfold cn; omega

/-- what bits that stand for a number with a sign come to -/
def sgn (g n : Nat) : Int := if 0 < n ∧ 2 ^ (n - 1) ≤ g then (g : Int) - 2 ^ n else g
def fits (v : Int) (n : Nat) : Bool := decide (0 ≤ v ∧ v < 2 ^ n)
def fitsS (v : Int) (n : Nat) : Bool := if n = 0 then decide (v = 0) else decide (-2 ^ (n - 1) ≤ v ∧ v < 2 ^ (n - 1))

theorem pow_nat (n : Nat) : (2 : Int) ^ n = ((2 ^ n : Nat) : Int) := by simp
theorem pow_pos' (n : Nat) : 0 < 2 ^ n := Nat.two_pow_pos n
theorem pow_le {n : Nat} (h : n ≤ 32) : 2 ^ n ≤ 4294967296 := by
  have := Nat.pow_le_pow_right (show 0 < 2 by decide) h
  simpa using this
theorem pow_pred {n : Nat} (h : 0 < n) : 2 ^ n = 2 * 2 ^ (n - 1) := by
  obtain ⟨m, rfl⟩ : ∃ m, n = m + 1 := ⟨n - 1, by omega⟩
  rw [Nat.pow_succ, Nat.add_sub_cancel]; omega
theorem pow_ipos (n : Nat) : (0 : Int) < 2 ^ n := by rw [pow_nat]; have := pow_pos' n; omega
theorem pow_ile {n : Nat} (h : n ≤ 32) : (2 : Int) ^ n ≤ 4294967296 := by rw [pow_nat]; have := pow_le h; omega
theorem pow_ipred {n : Nat} (h : 0 < n) : (2 : Int) ^ n = 2 * 2 ^ (n - 1) := by rw [pow_nat, pow_nat, pow_pred h]; omega

/-- the highest bit, as the program asks for it -/
theorem high_iff {g n : Nat} (h : 0 < n) (hg : g < 2 ^ n) : g / 2 ^ (n - 1) = 1 ↔ 2 ^ (n - 1) ≤ g := by
  have hp := pow_pred h
  have h0 := pow_pos' (n - 1)
  constructor
  · intro e
    rcases Nat.lt_or_ge g (2 ^ (n - 1)) with hl | hl
    · rw [Nat.div_eq_of_lt hl] at e; omega
    · exact hl
  · intro hl
    exact Nat.div_eq_of_lt_le (by omega) (by omega)
end Go.Proofs.Ytkohichiojmakaa.Fld
