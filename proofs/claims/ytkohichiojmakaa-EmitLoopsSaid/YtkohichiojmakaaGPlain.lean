/-
  PLAIN: fields of 32-bit words, as bit vectors: what 'get' and 'put' do bit by bit, and the laws of chapter 1 about them. No Go here.
-/
import Derived.WalkKit
import Derived.Handy
import Derived.Deep.QuietTactic
import Derived.BigQuiet
import Derived.Lib.Hide
import Derived.Test.YtkohichiojmakaaProg
namespace Go.Proofs.Ytkohichiojmakaa.Fld
set_option linter.unusedVariables false
set_option linter.unusedSimpArgs false

def low (n : Nat) : BitVec 32 := BitVec.ofNat 32 (2 ^ n - 1)
def get (w : BitVec 32) (a n : Nat) : BitVec 32 := (w >>> a) &&& low n
def put (w : BitVec 32) (a n : Nat) (v : BitVec 32) : BitVec 32 := (w &&& ~~~(low n <<< a)) ||| ((v <<< a) &&& (low n <<< a))

theorem low_bit (n i : Nat) (hi : i < 32) : (low n).getLsbD i = decide (i < n) := by
  rw [low, BitVec.getLsbD_ofNat]
  simp only [hi, decide_true, Bool.true_and, Nat.testBit_two_pow_sub_one]

theorem get_bit (w : BitVec 32) (a n i : Nat) (hi : i < 32) : (get w a n).getLsbD i = (decide (i < n) && w.getLsbD (a + i)) := by
  simp only [get, BitVec.getLsbD_and, BitVec.getLsbD_ushiftRight, low_bit n i hi]
  exact Bool.and_comm _ _

theorem put_bit (w : BitVec 32) (a n : Nat) (v : BitVec 32) (i : Nat) (hi : i < 32) :
    (put w a n v).getLsbD i = if a ≤ i ∧ i < a + n then v.getLsbD (i - a) else w.getLsbD i := by
  simp only [put, BitVec.getLsbD_or, BitVec.getLsbD_and, BitVec.getLsbD_not, BitVec.getLsbD_shiftLeft, hi, decide_true, Bool.true_and]
  by_cases ha : i < a
  · rw [if_neg (by omega)]
    simp [ha]
  · have hb : i - a < 32 := by omega
    rw [low_bit n (i - a) hb]
    by_cases hn : i < a + n
    · rw [if_pos ⟨by omega, hn⟩]
      simp only [ha, show i - a < n by omega, decide_true, decide_false, Bool.not_false, Bool.true_and, Bool.not_true, Bool.and_false, Bool.false_or, Bool.and_true]
    · rw [if_neg (by omega)]
      simp only [ha, show ¬ (i - a < n) by omega, decide_false, Bool.not_false, Bool.true_and, Bool.and_false, Bool.or_false, Bool.and_true]

theorem ext {x y : BitVec 32} (h : ∀ i, i < 32 → x.getLsbD i = y.getLsbD i) : x = y := BitVec.eq_of_getLsbD_eq (fun i hi => h i hi)

/-- what is put and what is put beside it, in whatever order -/
theorem put_comm (w : BitVec 32) (n gap m : Nat) (a b : BitVec 32) : put (put w 0 n a) (n + gap) m b = put (put w (n + gap) m b) 0 n a := by
  refine ext fun i hi => ?_
  simp only [put_bit _ _ _ _ i hi]
  by_cases h1 : n + gap ≤ i ∧ i < n + gap + m <;> by_cases h2 : 0 ≤ i ∧ i < 0 + n <;> simp only [h1, h2, if_true, if_false] <;> omega

theorem get_gap (w : BitVec 32) (n gap m : Nat) (a b : BitVec 32) (h : n + m + gap ≤ 32) : get (put (put w 0 n a) (n + gap) m b) n gap = get w n gap := by
  refine ext fun i hi => ?_
  simp only [get_bit _ _ _ i hi]
  by_cases hg : i < gap
  · have h32 : n + i < 32 := by omega
    simp only [put_bit _ _ _ _ _ h32, show ¬ (n + gap ≤ n + i ∧ n + i < n + gap + m) by omega, show ¬ (0 ≤ n + i ∧ n + i < 0 + n) by omega, if_false]
  · simp [hg]

theorem get_put (w : BitVec 32) (a n : Nat) (v : BitVec 32) (h : a + n ≤ 32) : get (put w a n v) a n = v &&& low n := by
  refine ext fun i hi => ?_
  simp only [get_bit _ _ _ i hi, BitVec.getLsbD_and, low_bit n i hi]
  by_cases hg : i < n
  · simp [hg, put_bit _ _ _ _ (a + i) (by omega)]
  · simp [hg]

theorem put_get (w : BitVec 32) (a n : Nat) (v : BitVec 32) : put (put w a n v) a n (get w a n) = w := by
  refine ext fun i hi => ?_
  simp only [put_bit _ _ _ _ i hi]
  by_cases h1 : a ≤ i ∧ i < a + n
  · simp only [h1, and_self, if_true, get_bit _ _ _ (i - a) (by omega)]
    simp [show i - a < n by omega, show a + (i - a) = i by omega]
  · simp only [h1, if_false]

theorem low_toNat (n : Nat) (h : n ≤ 32) : (low n).toNat = 2 ^ n - 1 := by
  have h2 : 2 ^ n ≤ 2 ^ 32 := Nat.pow_le_pow_right (by decide) h
  have h3 : 0 < 2 ^ n := Nat.two_pow_pos n
  rw [low, BitVec.toNat_ofNat]
  exact Nat.mod_eq_of_lt (by omega)

theorem and_low_toNat (v : BitVec 32) (n : Nat) (h : n ≤ 32) : (v &&& low n).toNat = v.toNat % 2 ^ n := by
  rw [BitVec.toNat_and, low_toNat n h, Nat.and_two_pow_sub_one_eq_mod]

theorem get_toNat (w : BitVec 32) (a n : Nat) (h : n ≤ 32) : (get w a n).toNat = w.toNat / 2 ^ a % 2 ^ n := by
  rw [get, and_low_toNat _ _ h, BitVec.toNat_ushiftRight, Nat.shiftRight_eq_div_pow]

theorem get_lt (w : BitVec 32) (a n : Nat) (h : n ≤ 32) : (get w a n).toNat < 2 ^ n := by
  rw [get_toNat w a n h]; exact Nat.mod_lt _ (Nat.two_pow_pos n)

/-- the place, and how many bits from it on -/
def ca (a : Int) : Nat := (max 0 (min a 32)).toNat
def cn (a n : Int) : Nat := (max 0 (min n (32 - max 0 (min a 32)))).toNat
theorem ca_le (a : Int) : (ca a : Int) ≤ 32 := by unfold ca; omega
theorem cn_le (a n : Int) : (ca a : Int) + (cn a n : Int) ≤ 32 := by unfold ca cn; omega
theorem ca_nat {a : Nat} (h : a ≤ 32) : ca (a : Int) = a := by unfold ca; omega
theorem cn_nat {a n : Nat} (h : a + n ≤ 32) : cn (a : Int) (n : Int) = n := by unfold cn; omega
theorem ca_ca (a : Int) : ca (ca a : Int) = ca a := ca_nat (by have := ca_le a; omega)
theorem cn_cn (a n : Int) : cn (ca a : Int) (cn a n : Int) = cn a n := cn_nat (by have := cn_le a n; omega)
theorem cn_zero (n : Int) : cn 0 (cn 0 n : Int) = cn 0 n := by unfold cn; omega
theorem cn0 (n : Int) : (cn 0 n : Int) = max 0 (min n 32) := by unfold cn; omega

/-- what bits that stand for a number with a sign come to -/
def sgn (g n : Nat) : Int := if 0 < n ∧ 2 ^ (n - 1) ≤ g then (g : Int) - 2 ^ n else g
def fits (v : Int) (n : Nat) : Bool := decide (0 ≤ v ∧ v < 2 ^ n)
def fitsS (v : Int) (n : Nat) : Bool := if n = 0 then decide (v = 0) else decide (-2 ^ (n - 1) ≤ v ∧ v < 2 ^ (n - 1))

theorem pow_nat (n : Nat) : (2 : Int) ^ n = ((2 ^ n : Nat) : Int) := by simp
theorem pow_pos' (n : Nat) : 0 < 2 ^ n := Nat.two_pow_pos n
theorem pow_le {n : Nat} (h : n ≤ 32) : 2 ^ n ≤ 4294967296 := by
  have := Nat.pow_le_pow_right (show 0 < 2 by decide) h
  simpa using this
theorem pow_pred {n : Nat} (h : 0 < n) : 2 ^ n = 2 * 2 ^ (n - 1) := by
  obtain ⟨m, rfl⟩ : ∃ m, n = m + 1 := ⟨n - 1, by omega⟩
  rw [Nat.pow_succ, Nat.add_sub_cancel]; omega
theorem pow_ipos (n : Nat) : (0 : Int) < 2 ^ n := by rw [pow_nat]; have := pow_pos' n; omega
theorem pow_ile {n : Nat} (h : n ≤ 32) : (2 : Int) ^ n ≤ 4294967296 := by rw [pow_nat]; have := pow_le h; omega
theorem pow_ipred {n : Nat} (h : 0 < n) : (2 : Int) ^ n = 2 * 2 ^ (n - 1) := by rw [pow_nat, pow_nat, pow_pred h]; omega

/-- the highest bit, as the program asks for it -/
theorem high_iff {g n : Nat} (h : 0 < n) (hg : g < 2 ^ n) : g / 2 ^ (n - 1) = 1 ↔ 2 ^ (n - 1) ≤ g := by
  have hp := pow_pred h
  have h0 := pow_pos' (n - 1)
  constructor
  · intro e
    rcases Nat.lt_or_ge g (2 ^ (n - 1)) with hl | hl
    · rw [Nat.div_eq_of_lt hl] at e; omega
    · exact hl
  · intro hl
    exact Nat.div_eq_of_lt_le (by omega) (by omega)
end Go.Proofs.Ytkohichiojmakaa.Fld
/-
  SMALL LEMMAS for the walks: endings, quiet calls, words of 32 and 64 bits as bit vectors.
-/
namespace Go.Proofs.Ytkohichiojmakaa.Cm
set_option linter.unusedVariables false
set_option linter.unusedSimpArgs false
open Go.RowKit

theorem ret1 {k : IntKind} {a b : Int} (h : a = b) : Ending.returned (.int k a) = Ending.returned (.int k b) := by rw [h]
theorem ret2 {k k' : IntKind} {a b c d : Int} (h : a = b) (h' : c = d) : Ending.returned (.tuple #[.int k a, .int k' c]) = Ending.returned (.tuple #[.int k b, .int k' d]) := by rw [h, h']
theorem retb {a b : Bool} (h : a = b) : Ending.returned (.bool a) = Ending.returned (.bool b) := by rw [h]

theorem quiet_left {P : Program} {f : FuncId} {args : Array Value} {w : World} {n : Nat} {v : Value}
    (h : Calls P f args (w.drewN n) fun e w' => e = .returned v ∧ w.drewN n = w') : Calls P f args (w.drewN n) fun e w'' => e = .returned v ∧ ∃ m, w'' = w.drewN m :=
  h.mono fun _ _ ⟨he, hm⟩ => ⟨he, n, hm.symm⟩
theorem quiet_add {P : Program} {f : FuncId} {args : Array Value} {w : World} {a n : Nat} {v : Value}
    (h : Calls P f args (w.drewN (a + n)) fun e w' => e = .returned v ∧ ∃ m, w' = (w.drewN (a + n)).drewN m) :
    Calls P f args (w.drewN (a + n)) fun e w'' => e = .returned v ∧ ∃ m, w'' = w.drewN (a + m) :=
  h.mono fun _ _ ⟨he, m, hm⟩ => ⟨he, n + m, by rw [hm, World.drewN_drewN, Nat.add_assoc]⟩
theorem quiet_add_left {P : Program} {f : FuncId} {args : Array Value} {w : World} {a n : Nat} {v : Value}
    (h : Calls P f args (w.drewN (a + n)) fun e w' => e = .returned v ∧ w.drewN (a + n) = w') :
    Calls P f args (w.drewN (a + n)) fun e w'' => e = .returned v ∧ ∃ m, w'' = w.drewN (a + m) :=
  h.mono fun _ _ ⟨he, hm⟩ => ⟨he, n, hm.symm⟩

/-- what draws alone leave -/
theorem grown_drewN (w : World) (n : Nat) : Grown w (w.drewN n) := by
  induction n with
  | zero => exact Grown.refl _
  | succ n ih => exact ih.drew

theorem if_min (a b : Int) : (if b < a then b else a) = min a b := by rw [Int.min_def]; split <;> split <;> omega
theorem if_max (a : Int) : (if 0 < a then a else 0) = max 0 a := by rw [Int.max_def]; split <;> split <;> omega

theorem ofInt32 (x : BitVec 32) : BitVec.ofInt 32 (x.toNat : Int) = x := by
  rw [BitVec.ofInt_natCast]; simp
theorem w32_of (v : Int) : v % 4294967296 = ((BitVec.ofInt 32 v).toNat : Int) := by
  rw [BitVec.toNat_ofInt]
  have : 0 ≤ v % ((2 ^ 32 : Nat) : Int) := Int.emod_nonneg _ (by decide)
  omega
theorem w32_mod (x : BitVec 32) : (x.toNat : Int) % 4294967296 = (x.toNat : Int) := by have := x.isLt; omega
theorem w32_shl (x : BitVec 32) (k : Nat) : (x.toNat : Int) * 2 ^ k % 4294967296 = ((x <<< k).toNat : Int) := by
  rw [BitVec.toNat_shiftLeft, Nat.shiftLeft_eq]
  simp
theorem w32_shr (x : BitVec 32) (k : Nat) : (x.toNat : Int) / 2 ^ k = ((x >>> k).toNat : Int) := by
  rw [BitVec.toNat_ushiftRight, Nat.shiftRight_eq_div_pow]
  simp
theorem w32_bits (op : BinOp) (f : BitVec 32 → BitVec 32 → BitVec 32) (x y : BitVec 32) (h : bits op .u32 (x.toNat : Int) (y.toNat : Int) = IntKind.u32.wrap ((f (BitVec.ofInt 32 x.toNat) (BitVec.ofInt 32 y.toNat)).toNat : Int)) :
    bits op .u32 (x.toNat : Int) (y.toNat : Int) = ((f x y).toNat : Int) := by
  rw [h, ofInt32, ofInt32, IntKind.wrap_u32]
  exact w32_mod _
theorem w32_and (x y : BitVec 32) : bits .and .u32 (x.toNat : Int) (y.toNat : Int) = ((x &&& y).toNat : Int) := w32_bits _ (· &&& ·) x y rfl
theorem w32_or (x y : BitVec 32) : bits .or .u32 (x.toNat : Int) (y.toNat : Int) = ((x ||| y).toNat : Int) := w32_bits _ (· ||| ·) x y rfl
theorem w32_andNot (x y : BitVec 32) : bits .andNot .u32 (x.toNat : Int) (y.toNat : Int) = ((x &&& ~~~y).toNat : Int) := w32_bits _ (fun a b => a &&& ~~~b) x y rfl
theorem w32_eq (x y : BitVec 32) : ((x.toNat : Int) == (y.toNat : Int)) = decide (x = y) := by
  by_cases h : x = y
  · subst h; simp
  · have : ¬ ((x.toNat : Int) = (y.toNat : Int)) := fun e => h (BitVec.eq_of_toNat_eq (by omega))
    simp [h, this]

/-- an integer argument that fits its kind -/
theorem i64_bounds {a : Int} (h : (Lit.int .i64 a).wf = true) : -9223372036854775808 ≤ a ∧ a ≤ 9223372036854775807 := by
  simpa [Lit.wf, IntKind.min, IntKind.max, IntKind.signed, IntKind.bits] using h
theorem w32_word {a : Int} (h : (Lit.int .u32 a).wf = true) : ∃ x : BitVec 32, a = (x.toNat : Int) := by
  have h : 0 ≤ a ∧ a ≤ 4294967295 := by simpa [Lit.wf, IntKind.min, IntKind.max, IntKind.signed, IntKind.bits] using h
  refine ⟨BitVec.ofInt 32 a, ?_⟩
  rw [← w32_of]
  omega
end Go.Proofs.Ytkohichiojmakaa.Cm
/-
  WALKS: package field, each function once: what it computes, as bit vectors and numbers.
-/
namespace Go.Proofs.Ytkohichiojmakaa.FldW
set_option linter.unusedVariables false
set_option linter.unusedSimpArgs false
open Go.RowKit Cm Fld

section
attribute [local go_sem] if_min if_max
theorem cut_any (a n : Int) (w : World) (h1 : -9223372036854775808 ≤ a) (h2 : a ≤ 9223372036854775807) (h3 : -9223372036854775808 ≤ n) (h4 : n ≤ 9223372036854775807) :
    Calls Try.prog 108 #[.int .i64 a, .int .i64 n] w fun e w' => e = .returned (.tuple #[.int .i64 (ca a), .int .i64 (cn a n)]) ∧ w = w' := by
  go_enter Try.func108, Try.ntmps108
  go_wp2
  go_ret2
  exact ⟨ret2 (by unfold ca; omega) (by unfold cn; omega), rfl⟩
end

theorem low_num (n : Nat) (h : n ≤ 32) : ((2 : Int) ^ n % 4294967296 - 1) % 4294967296 = ((Fld.low n).toNat : Int) := by
  rw [Fld.low_toNat n h]
  have h2 : 2 ^ n ≤ 2 ^ 32 := Nat.pow_le_pow_right (by decide) h
  have h3 : 0 < 2 ^ n := Nat.two_pow_pos n
  have e : (2 : Int) ^ n = ((2 ^ n : Nat) : Int) := by simp
  rw [e]
  omega
theorem low_any (n : Nat) (w : World) (h3 : (n : Int) ≤ 32) :
    Calls Try.prog 110 #[.int .i64 n] w fun e w' => e = .returned (.int .u32 ((Fld.low n).toNat : Int)) ∧ w = w' := by
  go_enter Try.func110, Try.ntmps110
  go_wp2
  go_ret
  exact ⟨ret1 (low_num n (by omega)), rfl⟩

theorem get_any (x : Int) (W : BitVec 32) (a n : Int) (w : World) (hx : x = W.toNat) (h1 : -9223372036854775808 ≤ a) (h2 : a ≤ 9223372036854775807) (h3 : -9223372036854775808 ≤ n) (h4 : n ≤ 9223372036854775807) :
    Calls Try.prog 106 #[.int .u32 x, .int .i64 a, .int .i64 n] w fun e w' => e = .returned (.int .u32 (get W (ca a) (cn a n)).toNat) ∧ ∃ n, w' = w.drewN n := by
  subst hx
  have k1 := ca_le a
  have k2 := cn_le a n
  go_enter Try.func106, Try.ntmps106
  go_wp2_with (go_at_call 108; refine (cut_any a n _ h1 h2 h3 h4).mono ?_; rintro e w' ⟨rfl, rfl⟩)
  go_quiet ((go_at_call 110; exact quiet_left (low_any _ _ (by omega))))
  go_wp2
  go_ret
  exact ⟨ret1 (by simp only [w32_shr, w32_and]; rfl), _, rfl⟩

theorem put_any (x : Int) (W : BitVec 32) (a n v : Int) (w : World) (hx : x = W.toNat) (h1 : -9223372036854775808 ≤ a) (h2 : a ≤ 9223372036854775807) (h3 : -9223372036854775808 ≤ n) (h4 : n ≤ 9223372036854775807) :
    Calls Try.prog 109 #[.int .u32 x, .int .i64 a, .int .i64 n, .int .i64 v] w fun e w' => e = .returned (.int .u32 (put W (ca a) (cn a n) (BitVec.ofInt 32 v)).toNat) ∧ w = w' := by
  subst hx
  have k1 := ca_le a
  have k2 := cn_le a n
  go_enter Try.func109, Try.ntmps109
  go_wp2_with (first | (go_at_call 108; refine (cut_any a n _ h1 h2 h3 h4).mono ?_; rintro e w' ⟨rfl, rfl⟩) | (go_at_call 110; refine (low_any _ _ (by omega)).mono ?_; rintro e w' ⟨rfl, rfl⟩))
  go_ret
  exact ⟨ret1 (by rw [w32_of v]; simp only [w32_shl, w32_and, w32_or, w32_andNot]; rfl), rfl⟩

/-! numbers with a sign -/
theorem p64 {n : Nat} (h : n ≤ 32) : wrap64 ((2 : Int) ^ n) = 2 ^ n := IntWalk.wrap64_in _ ⟨by have := pow_ipos n; omega, by have := pow_ile h; omega⟩
theorem high_eq {g n : Nat} (hn : 0 < n) (hg : g < 2 ^ n) : ((g : Int) / 2 ^ (n - 1) == 1) = decide (2 ^ (n - 1) ≤ g) := by
  have e : (g : Int) / 2 ^ (n - 1) = ((g / 2 ^ (n - 1) : Nat) : Int) := by rw [pow_nat]; simp
  rw [e]
  have := high_iff hn hg
  by_cases h : 2 ^ (n - 1) ≤ g
  · have h1 := this.2 h
    rw [h1]
    simp [h]
  · have h1 : ¬ g / 2 ^ (n - 1) = 1 := fun hh => h (this.1 hh)
    have h2 : ¬ ((g / 2 ^ (n - 1) : Nat) : Int) = 1 := by omega
    rw [beq_eq_false_iff_ne.2 h2]
    simp [h]
theorem sgn_high {g n : Nat} (hn : 0 < n) (h : 2 ^ (n - 1) ≤ g) : sgn g n = (g : Int) - 2 ^ n := by unfold sgn; rw [if_pos ⟨hn, h⟩]
theorem sgn_low {g n : Nat} (h : ¬ (0 < n ∧ 2 ^ (n - 1) ≤ g)) : sgn g n = (g : Int) := by unfold sgn; rw [if_neg h]
theorem sgn_num {g n : Nat} (hg : g < 2 ^ n) (h : n ≤ 32) : wrap64 ((g : Int) - 2 ^ n) = (g : Int) - 2 ^ n :=
  IntWalk.wrap64_in _ ⟨by have := pow_ile h; omega, by have := pow_ipos n; rw [pow_nat] at *; omega⟩

set_option maxHeartbeats 400000 in
theorem signed_any (x : Int) (W : BitVec 32) (a n : Int) (w : World) (hx : x = W.toNat) (h1 : -9223372036854775808 ≤ a) (h2 : a ≤ 9223372036854775807) (h3 : -9223372036854775808 ≤ n) (h4 : n ≤ 9223372036854775807) :
    Calls Try.prog 107 #[.int .u32 x, .int .i64 a, .int .i64 n] w fun e w' => e = .returned (.int .i64 (sgn (get W (ca a) (cn a n)).toNat (cn a n))) ∧ ∃ n, w' = w.drewN n := by
  subst hx
  have k1 := ca_le a
  have k2 := cn_le a n
  have k3 : cn a n ≤ 32 := by omega
  have gl := get_lt W (ca a) (cn a n) k3
  have gi := (get W (ca a) (cn a n)).isLt
  have R : ∀ w : World, Calls Try.prog 106 #[.int .u32 W.toNat, .int .i64 (ca a), .int .i64 (cn a n)] w fun e w' => e = .returned (.int .u32 (get W (ca a) (cn a n)).toNat) ∧ ∃ n, w' = w.drewN n := by
    intro w
    have := get_any W.toNat W (ca a) (cn a n) w rfl (by omega) (by omega) (by omega) (by omega)
    rwa [ca_ca, cn_cn] at this
  generalize hG : (get W (ca a) (cn a n)).toNat = G at *
  have hp := p64 k3
  have hs := sgn_num gl k3
  clear hG
  by_cases hn : 0 < (cn a n : Int)
  · have hq := high_eq (by omega) gl
    have HR := Lib.hid R; clear R
    have gl' := Lib.hid gl; clear gl
    by_cases hh : 2 ^ (cn a n - 1) ≤ G
    · rw [decide_eq_true hh] at hq
      have H1 := Lib.hid (sgn_high (by omega) hh); clear hh
      go_enter Try.func107, Try.ntmps107
      go_wp2_with (first | (go_at_call 108; refine (cut_any a n _ h1 h2 h3 h4).mono ?_; rintro e w' ⟨rfl, rfl⟩) | (go_at_call 106; refine (HR.out _).mono ?_; rintro e w' ⟨rfl, m, rfl⟩))
      go_ret
      exact ⟨ret1 (hs.trans H1.out.symm), _, rfl⟩
    · rw [decide_eq_false hh] at hq
      have H1 := Lib.hid (sgn_low (g := G) (n := cn a n) (fun h => hh h.2)); clear hh
      go_enter Try.func107, Try.ntmps107
      go_wp2_with (first | (go_at_call 108; refine (cut_any a n _ h1 h2 h3 h4).mono ?_; rintro e w' ⟨rfl, rfl⟩) | (go_at_call 106; refine (HR.out _).mono ?_; rintro e w' ⟨rfl, m, rfl⟩))
      go_ret
      exact ⟨ret1 H1.out.symm, _, rfl⟩
  · have H1 := Lib.hid (sgn_low (g := G) (n := cn a n) (fun h => hn (by omega)))
    have HR := Lib.hid R; clear R
    have gl' := Lib.hid gl; clear gl
    go_enter Try.func107, Try.ntmps107
    go_wp2_with (first | (go_at_call 108; refine (cut_any a n _ h1 h2 h3 h4).mono ?_; rintro e w' ⟨rfl, rfl⟩) | (go_at_call 106; refine (HR.out _).mono ?_; rintro e w' ⟨rfl, m, rfl⟩))
    go_ret
    exact ⟨ret1 H1.out.symm, _, rfl⟩

theorem fits_any (v n : Int) (w : World) (h1 : -9223372036854775808 ≤ v) (h2 : v ≤ 9223372036854775807) (h3 : -9223372036854775808 ≤ n) (h4 : n ≤ 9223372036854775807) :
    Calls Try.prog 100 #[.int .i64 v, .int .i64 n] w fun e w' => e = .returned (.bool (fits v (cn 0 n))) ∧ w = w' := by
  have k2 := cn_le 0 n
  have k3 : cn 0 n ≤ 32 := by omega
  have hp := p64 k3
  go_enter Try.func100, Try.ntmps100
  go_wp2_with (first | (go_at_call 108; refine (cut_any 0 n _ (by omega) (by omega) h3 h4).mono ?_; rintro e w' ⟨rfl, rfl⟩))
  all_goals go_ret
  all_goals refine ⟨retb ?_, rfl⟩
  all_goals unfold fits
  all_goals (by_cases h0 : 0 ≤ v <;> simp [h0] <;> omega)

theorem fitsSigned_any (v n : Int) (w : World) (h1 : -9223372036854775808 ≤ v) (h2 : v ≤ 9223372036854775807) (h3 : -9223372036854775808 ≤ n) (h4 : n ≤ 9223372036854775807) :
    Calls Try.prog 101 #[.int .i64 v, .int .i64 n] w fun e w' => e = .returned (.bool (fitsS v (cn 0 n))) ∧ w = w' := by
  have k2 := cn_le 0 n
  have k3 : cn 0 n ≤ 32 := by omega
  by_cases hn : cn 0 n = 0
  · have hb : ((cn 0 n : Int) == 0) = true := by rw [hn]; rfl
    go_enter Try.func101, Try.ntmps101
    go_wp2_with (first | (go_at_call 108; refine (cut_any 0 n _ (by omega) (by omega) h3 h4).mono ?_; rintro e w' ⟨rfl, rfl⟩))
    go_ret
    refine ⟨retb ?_, rfl⟩
    unfold fitsS
    rw [if_pos hn]
    by_cases h0 : v = 0 <;> simp [h0]
  · have hb : ((cn 0 n : Int) == 0) = false := by rw [beq_eq_false_iff_ne]; omega
    have hz := Lib.hid hn
    have hp : wrap64 ((2 : Int) ^ (cn 0 n - 1)) = 2 ^ (cn 0 n - 1) := p64 (by omega)
    have hm : wrap64 (-(2 : Int) ^ (cn 0 n - 1)) = -2 ^ (cn 0 n - 1) :=
      IntWalk.wrap64_in _ ⟨by have := pow_ile (n := cn 0 n - 1) (by omega); omega, by have := pow_ipos (cn 0 n - 1); omega⟩
    have hi : 1 ≤ (cn 0 n : Int) := by omega
    clear hn
    go_enter Try.func101, Try.ntmps101
    go_wp2_with (first | (go_at_call 108; refine (cut_any 0 n _ (by omega) (by omega) h3 h4).mono ?_; rintro e w' ⟨rfl, rfl⟩))
    all_goals go_ret
    all_goals refine ⟨retb ?_, rfl⟩
    all_goals unfold fitsS
    all_goals rw [if_neg hz.out]
    all_goals (by_cases h0 : -2 ^ (cn 0 n - 1) ≤ v <;> simp [h0] <;> omega)
end Go.Proofs.Ytkohichiojmakaa.FldW
/-
  PLAIN: what was put and fits is got again.
-/
namespace Go.Proofs.Ytkohichiojmakaa.FldM
set_option linter.unusedVariables false
set_option linter.unusedSimpArgs false
open Fld FldW

theorem word_fits {v : Int} {N : Nat} (hN : N ≤ 32) (h : fits v N = true) (A : Nat) (W : BitVec 32) (hA : A + N ≤ 32) : ((get (put W A N (BitVec.ofInt 32 v)) A N).toNat : Int) = v := by
  have h := of_decide_eq_true h
  rw [get_put _ _ _ _ hA, and_low_toNat _ _ hN]
  have hl := pow_ile hN
  obtain ⟨V, rfl⟩ := Int.eq_ofNat_of_zero_le h.1
  have h2 := h.2
  rw [pow_nat] at h2 hl
  have e : (BitVec.ofInt 32 (V : Int)).toNat = V := by rw [BitVec.toNat_ofInt]; omega
  rw [e, Nat.mod_eq_of_lt (by omega)]

theorem word_fitsS {v : Int} {N : Nat} (hN : N ≤ 32) (h : fitsS v N = true) (A : Nat) (W : BitVec 32) (hA : A + N ≤ 32) : sgn (get (put W A N (BitVec.ofInt 32 v)) A N).toNat N = v := by
  rw [get_put _ _ _ _ hA, and_low_toNat _ _ hN]
  unfold fitsS at h
  by_cases h0 : N = 0
  · subst h0
    simp at h
    subst h
    simp [sgn]
  · rw [if_neg h0] at h
    have h := of_decide_eq_true h
    have hp := pow_ipred (n := N) (by omega)
    have hp' := pow_pred (n := N) (by omega)
    have hl := pow_le hN
    have hd : (2 ^ N : Nat) ∣ 2 ^ 32 := Nat.pow_dvd_pow 2 hN
    have e : (BitVec.ofInt 32 v).toNat % 2 ^ N = (v % ((2 ^ N : Nat) : Int)).toNat := by
      rw [BitVec.toNat_ofInt]
      have h1 : 0 ≤ v % ((2 ^ 32 : Nat) : Int) := Int.emod_nonneg _ (by decide)
      have h2 : ((v % ((2 ^ 32 : Nat) : Int)).toNat : Int) = v % ((2 ^ 32 : Nat) : Int) := Int.toNat_of_nonneg h1
      have h3 : (((v % ((2 ^ 32 : Nat) : Int)).toNat % 2 ^ N : Nat) : Int) = v % ((2 ^ N : Nat) : Int) := by
        rw [Int.natCast_emod, h2, Int.emod_emod_of_dvd]
        exact Int.natCast_dvd_natCast.2 hd
      omega
    rw [e]
    have q := pow_pos' (N - 1)
    rw [pow_nat] at h
    by_cases hs : v < 0
    · have e2 : v % ((2 ^ N : Nat) : Int) = v + ((2 ^ N : Nat) : Int) := by
        rw [← Int.add_emod_right, Int.emod_eq_of_lt (by omega) (by omega)]
      rw [e2, sgn_high (by omega) (by omega), pow_nat]
      omega
    · rw [Int.emod_eq_of_lt (by omega) (by omega), sgn_low (by omega)]
      omega

end Go.Proofs.Ytkohichiojmakaa.FldM
/-
  PLAIN: instructions and their words (chapter 2): the forms, what is right, the word, and what a word is decoded as; one word for each right instruction. No Go here.
-/
namespace Go.Proofs.Ytkohichiojmakaa.A64
set_option linter.unusedVariables false
set_option linter.unusedSimpArgs false
open Fld FldM

/-- a field: its lowest bit, and how many -/
abbrev Bt := Nat × Nat
structure Fm where
  word : BitVec 32
  d : Bt := (0, 0)
  a : Bt := (0, 0)
  b : Bt := (0, 0)
  s : Bt := (0, 0)
  n : Bt := (0, 0)
  c : Bt := (0, 0)
  signed : Bool := false
  turned : Bool := false
structure In where
  kind : Int
  d : Int
  a : Int
  b : Int
  s : Int
  c : Int
  n : Int
deriving DecidableEq

def zeroFm : Fm := { word := 0 }
def table : List Fm := [
  { word := 0xD2800000, d := (0, 5), s := (21, 2), n := (5, 16) },
  { word := 0xF2800000, d := (0, 5), s := (21, 2), n := (5, 16) },
  { word := 0x8B000000, d := (0, 5), a := (5, 5), b := (16, 5) },
  { word := 0xCB000000, d := (0, 5), a := (5, 5), b := (16, 5) },
  { word := 0x9B007C00, d := (0, 5), a := (5, 5), b := (16, 5) },
  { word := 0x8A000000, d := (0, 5), a := (5, 5), b := (16, 5) },
  { word := 0xEB00001F, a := (5, 5), b := (16, 5) },
  { word := 0x9A9F07E0, d := (0, 5), c := (12, 4), turned := true },
  { word := 0x14000000, n := (0, 26), signed := true },
  { word := 0x54000000, n := (5, 19), signed := true, c := (0, 4) },
  { word := 0xB4000000, a := (0, 5), n := (5, 19), signed := true },
  { word := 0xB5000000, a := (0, 5), n := (5, 19), signed := true },
  { word := 0xF9400000, d := (0, 5), a := (5, 5), n := (10, 12) },
  { word := 0xF9000000, d := (0, 5), a := (5, 5), n := (10, 12) },
  { word := 0xC8DFFC00, d := (0, 5), a := (5, 5) },
  { word := 0xC89FFC00, d := (0, 5), a := (5, 5) },
  { word := 0xC85F7C00, d := (0, 5), a := (5, 5) },
  { word := 0xC8007C00, d := (0, 5), a := (5, 5), s := (16, 5) },
  { word := 0xD5033BBF },
  { word := 0xD5033B9F },
  { word := 0xD50B7C20, a := (0, 5) },
  { word := 0xD503201F },
  { word := 0xD4400000 },
  { word := 0xD4000001 }]
def form (k : Nat) : Fm := table.getD k zeroFm

def cond (c : Int) : Bool := c == 0 || c == 1 || c == 11 || c == 10
def fitN (f : Fm) (v : Int) : Bool := if f.signed then fitsS v f.n.2 else fits v f.n.2
def fitC (f : Fm) (c : Int) : Bool := if f.c.2 = 0 then c == 0 else cond c
def rightF (f : Fm) (i : In) : Bool := fits i.d f.d.2 && fits i.a f.a.2 && fits i.b f.b.2 && fits i.s f.s.2 && fitN f i.n && fitC f i.c
def right (i : In) : Bool := decide (0 ≤ i.kind ∧ i.kind < 24) && rightF (form i.kind.toNat) i
def flip (f : Fm) (c : Int) : Int := if f.turned then bits .xor .i64 c 1 else c
def putF (w : BitVec 32) (x : Bt) (v : Int) : BitVec 32 := put w x.1 x.2 (BitVec.ofInt 32 v)
def encF (f : Fm) (i : In) : BitVec 32 := putF (putF (putF (putF (putF (putF f.word f.d i.d) f.a i.a) f.b i.b) f.s i.s) f.n i.n) f.c (flip f i.c)
def getF (w : BitVec 32) (x : Bt) : Int := ((get w x.1 x.2).toNat : Int)
def getN (f : Fm) (w : BitVec 32) : Int := if f.signed then sgn (get w f.n.1 f.n.2).toNat f.n.2 else getF w f.n
def decF (f : Fm) (k : Int) (w : BitVec 32) : In := ⟨k, getF w f.d, getF w f.a, getF w f.b, getF w f.s, flip f (getF w f.c), getN f w⟩
def hit (k : Nat) (w : BitVec 32) : Bool := rightF (form k) (decF (form k) k w) && decide (encF (form k) (decF (form k) k w) = w)
def kindOf (w : BitVec 32) : Option Nat := (List.range 24).find? (fun k => hit k w)
def zeroIn : In := ⟨0, 0, 0, 0, 0, 0, 0⟩
def decode (w : BitVec 32) : In × Int := match kindOf w with
  | some k => (decF (form k) k w, 0)
  | none => (zeroIn, 8)
def encode (i : In) : BitVec 32 × Int := if right i then (encF (form i.kind.toNat) i, 0) else (0, 1)

/-! the fields of a form lie apart -/
def disj (x y : Bt) : Bool := x.2 == 0 || y.2 == 0 || decide (x.1 + x.2 ≤ y.1) || decide (y.1 + y.2 ≤ x.1)
def inside (x : Bt) : Bool := decide (x.1 + x.2 ≤ 32)
def good (f : Fm) : Bool := inside f.d && inside f.a && inside f.b && inside f.s && inside f.n && inside f.c &&
  (disj f.d f.a && disj f.d f.b && disj f.d f.s && disj f.d f.n && disj f.d f.c) && (disj f.a f.b && disj f.a f.s && disj f.a f.n && disj f.a f.c) &&
  (disj f.b f.s && disj f.b f.n && disj f.b f.c) && (disj f.s f.n && disj f.s f.c) && disj f.n f.c && (f.c.2 == 0 && !f.turned || f.c.2 == 4)
theorem good_all : ∀ k : Nat, k < 24 → good (form k) = true := by decide +kernel

theorem put_zero (w : BitVec 32) (a : Nat) (v : BitVec 32) : put w a 0 v = w := by
  refine ext fun i hi => ?_
  rw [put_bit _ _ _ _ i hi, if_neg (by omega)]
theorem get_zero (w : BitVec 32) (a : Nat) : get w a 0 = 0 := by
  refine ext fun i hi => ?_
  rw [get_bit _ _ _ i hi]
  simp
theorem get_other (w : BitVec 32) (x y : Bt) (v : BitVec 32) (h : disj x y = true) (hy : y.1 + y.2 ≤ 32) : get (put w x.1 x.2 v) y.1 y.2 = get w y.1 y.2 := by
  simp only [disj, Bool.or_eq_true, beq_iff_eq, decide_eq_true_eq] at h
  by_cases hx0 : x.2 = 0
  · rw [hx0, put_zero]
  by_cases hy0 : y.2 = 0
  · rw [hy0, get_zero, get_zero]
  refine ext fun i hi => ?_
  simp only [get_bit _ _ _ i hi]
  by_cases hg : i < y.2
  · rw [put_bit _ _ _ _ (y.1 + i) (by omega), if_neg (by omega)]
  · simp [hg]
theorem disj_symm (x y : Bt) (h : disj x y = true) : disj y x = true := by
  simp only [disj, Bool.or_eq_true, beq_iff_eq, decide_eq_true_eq] at h ⊢
  omega

theorem getF_put (w : BitVec 32) (x y : Bt) (v : Int) (h : disj x y = true) (hy : y.1 + y.2 ≤ 32) : get (putF w x v) y.1 y.2 = get w y.1 y.2 := get_other w x y _ h hy

theorem flip_flip (f : Fm) (c : Int) (h : fitC f c = true) (hg : (f.c.2 == 0 && !f.turned || f.c.2 == 4) = true) : flip f (flip f c) = c ∧ fits (flip f c) f.c.2 = true := by
  unfold fitC at h
  unfold flip
  by_cases h0 : f.c.2 = 0
  · rw [if_pos h0] at h
    simp [h0] at hg
    simp [hg, h0] at h ⊢
    subst h
    decide
  · rw [if_neg h0] at h
    have h4 : f.c.2 = 4 := by simpa [h0] using hg
    rw [h4]
    simp only [cond, Bool.or_eq_true, beq_iff_eq] at h
    rcases h with ((h | h) | h) | h <;> subst h <;> cases f.turned <;> decide +kernel

/-- a right instruction is decoded of its word as it was -/
theorem dec_enc (k : Nat) (i : In) (hk : k < 24) (hi : i.kind = k) (h : rightF (form k) i = true) : decF (form k) k (encF (form k) i) = i := by
  have hg := good_all k hk
  generalize form k = f at *
  simp only [good, inside, Bool.and_eq_true, decide_eq_true_eq] at hg
  simp only [rightF, Bool.and_eq_true] at h
  obtain ⟨⟨⟨⟨⟨hd, ha⟩, hb⟩, hs⟩, hn⟩, hc⟩ := h
  obtain ⟨⟨⟨⟨⟨⟨⟨⟨⟨⟨⟨l1, l2⟩, l3⟩, l4⟩, l5⟩, l6⟩, ⟨⟨⟨⟨da, db⟩, ds⟩, dn⟩, dc⟩⟩, ⟨⟨⟨ab, as_⟩, an⟩, ac⟩⟩, ⟨⟨bs, bn⟩, bc⟩⟩, ⟨sn, sc⟩⟩, nc⟩, ht⟩ := hg
  obtain ⟨c1, c2⟩ := flip_flip f i.c hc ht
  have e1 : getF (encF f i) f.d = i.d := by
    unfold getF encF
    rw [getF_put _ _ _ _ (disj_symm _ _ dc) l1, getF_put _ _ _ _ (disj_symm _ _ dn) l1, getF_put _ _ _ _ (disj_symm _ _ ds) l1, getF_put _ _ _ _ (disj_symm _ _ db) l1, getF_put _ _ _ _ (disj_symm _ _ da) l1]
    exact word_fits (by omega) hd _ _ l1
  have e2 : getF (encF f i) f.a = i.a := by
    unfold getF encF
    rw [getF_put _ _ _ _ (disj_symm _ _ ac) l2, getF_put _ _ _ _ (disj_symm _ _ an) l2, getF_put _ _ _ _ (disj_symm _ _ as_) l2, getF_put _ _ _ _ (disj_symm _ _ ab) l2]
    exact word_fits (by omega) ha _ _ l2
  have e3 : getF (encF f i) f.b = i.b := by
    unfold getF encF
    rw [getF_put _ _ _ _ (disj_symm _ _ bc) l3, getF_put _ _ _ _ (disj_symm _ _ bn) l3, getF_put _ _ _ _ (disj_symm _ _ bs) l3]
    exact word_fits (by omega) hb _ _ l3
  have e4 : getF (encF f i) f.s = i.s := by
    unfold getF encF
    rw [getF_put _ _ _ _ (disj_symm _ _ sc) l4, getF_put _ _ _ _ (disj_symm _ _ sn) l4]
    exact word_fits (by omega) hs _ _ l4
  have e6 : getF (encF f i) f.c = flip f i.c := by
    unfold getF encF
    exact word_fits (by omega) c2 _ _ l6
  have e5 : getN f (encF f i) = i.n := by
    unfold getN getF encF
    rw [getF_put _ _ _ _ (disj_symm _ _ nc) l5]
    unfold fitN at hn
    split
    · rename_i hsg
      rw [if_pos hsg] at hn
      exact word_fitsS (by omega) hn _ _ l5
    · rename_i hsg
      rw [if_neg hsg] at hn
      exact word_fits (by omega) hn _ _ l5
  unfold decF
  rw [e1, e2, e3, e4, e5, e6, c1, ← hi]

/-! no word of two forms -/
def mask1 (x : Bt) : BitVec 32 := low x.2 <<< x.1
def mask (f : Fm) : BitVec 32 := mask1 f.d ||| mask1 f.a ||| mask1 f.b ||| mask1 f.s ||| mask1 f.n ||| mask1 f.c
theorem putF_out (w m : BitVec 32) (x : Bt) (v : Int) (hx : x.1 + x.2 ≤ 32) (h : mask1 x &&& m = mask1 x) : putF w x v &&& ~~~m = w &&& ~~~m := by
  refine ext fun i hi => ?_
  simp only [putF, BitVec.getLsbD_and, BitVec.getLsbD_not, put_bit _ _ _ _ i hi, hi, decide_true, Bool.true_and]
  split
  · rename_i hin
    have e := congrArg (fun b => b.getLsbD i) h
    simp only [mask1, BitVec.getLsbD_and, BitVec.getLsbD_shiftLeft, hi, decide_true, Bool.true_and, low_bit _ _ (show i - x.1 < 32 by omega)] at e
    have h1 : decide (i < x.1) = false := by simp; omega
    have h2 : decide (i - x.1 < x.2) = true := by simp; omega
    rw [h1, h2] at e
    simp at e
    simp [e]
  · rfl
theorem encF_out (f : Fm) (i : In) (hg : good f = true) : encF f i &&& ~~~mask f = f.word &&& ~~~mask f := by
  simp only [good, inside, Bool.and_eq_true, decide_eq_true_eq] at hg
  obtain ⟨⟨⟨⟨⟨⟨⟨⟨⟨⟨⟨l1, l2⟩, l3⟩, l4⟩, l5⟩, l6⟩, _⟩, _⟩, _⟩, _⟩, _⟩, _⟩ := hg
  unfold encF
  have hm : ∀ x y : BitVec 32, x &&& (x ||| y) = x := fun x y => by
    refine ext fun i hi => ?_
    simp only [BitVec.getLsbD_and, BitVec.getLsbD_or]
    cases x.getLsbD i <;> simp
  have m : ∀ (x : Bt) (j : Nat), mask f = mask f → True := fun _ _ _ => trivial
  rw [putF_out _ _ _ _ l6, putF_out _ _ _ _ l5, putF_out _ _ _ _ l4, putF_out _ _ _ _ l3, putF_out _ _ _ _ l2, putF_out _ _ _ _ l1]
  all_goals
    unfold mask
    refine ext fun i hi => ?_
    simp only [BitVec.getLsbD_and, BitVec.getLsbD_or]
    generalize (mask1 f.d).getLsbD i = x1
    generalize (mask1 f.a).getLsbD i = x2
    generalize (mask1 f.b).getLsbD i = x3
    generalize (mask1 f.s).getLsbD i = x4
    generalize (mask1 f.n).getLsbD i = x5
    generalize (mask1 f.c).getLsbD i = x6
    cases x1 <;> cases x2 <;> cases x3 <;> cases x4 <;> cases x5 <;> cases x6 <;> rfl
theorem apart_all : ∀ k : Nat, k < 24 → ∀ j : Nat, j < 24 → k = j ∨ ((form k).word ^^^ (form j).word) &&& ~~~mask (form k) &&& ~~~mask (form j) ≠ 0 := by decide +kernel
theorem enc_apart (k j : Nat) (hk : k < 24) (hj : j < 24) (x y : In) (h : encF (form k) x = encF (form j) y) : k = j := by
  rcases apart_all k hk j hj with e | e
  · exact e
  · exfalso
    apply e
    have h1 := encF_out (form k) x (good_all k hk)
    have h2 := encF_out (form j) y (good_all j hj)
    rw [h] at h1
    generalize encF (form j) y = z at *
    generalize (form k).word = wk at *
    generalize (form j).word = wj at *
    generalize mask (form k) = mk at *
    generalize mask (form j) = mj at *
    refine ext fun i hi => ?_
    have e1 := congrArg (fun b => b.getLsbD i) h1
    have e2 := congrArg (fun b => b.getLsbD i) h2
    simp only [BitVec.getLsbD_and, BitVec.getLsbD_not, BitVec.getLsbD_xor, hi, decide_true, Bool.true_and, BitVec.getLsbD_zero] at *
    generalize z.getLsbD i = b1 at *
    generalize wk.getLsbD i = b2 at *
    generalize wj.getLsbD i = b3 at *
    generalize mk.getLsbD i = b4 at *
    generalize mj.getLsbD i = b5 at *
    cases b1 <;> cases b2 <;> cases b3 <;> cases b4 <;> cases b5 <;> simp_all

theorem right_kind {i : In} (h : right i = true) : ∃ k : Nat, k < 24 ∧ i.kind = (k : Int) ∧ rightF (form k) i = true := by
  unfold right at h
  simp only [Bool.and_eq_true, decide_eq_true_eq] at h
  exact ⟨i.kind.toNat, by omega, by omega, h.2⟩
theorem right_of (k : Nat) (i : In) (hk : k < 24) (hi : i.kind = (k : Int)) : right i = rightF (form k) i := by
  unfold right
  rw [decide_eq_true (by omega), hi, Int.toNat_natCast, Bool.true_and]
theorem encode_of (k : Nat) (i : In) (hk : k < 24) (hi : i.kind = (k : Int)) (h : rightF (form k) i = true) : encode i = (encF (form k) i, 0) := by
  unfold encode
  rw [if_pos (by rw [right_of k i hk hi]; exact h), hi, Int.toNat_natCast]
theorem hit_enc (k j : Nat) (i : In) (hk : k < 24) (hj : j < 24) (hi : i.kind = (k : Int)) (h : rightF (form k) i = true) : hit j (encF (form k) i) = decide (j = k) := by
  by_cases e : j = k
  · subst e
    unfold hit
    rw [dec_enc j i hk hi h, h]
    simp
  · rw [decide_eq_false e]
    unfold hit
    rw [decide_eq_false (fun x => e (enc_apart j k hj hk _ _ x)), Bool.and_false]
theorem kindOf_enc (k : Nat) (i : In) (hk : k < 24) (hi : i.kind = (k : Int)) (h : rightF (form k) i = true) : kindOf (encF (form k) i) = some k := by
  unfold kindOf
  have e : ∀ x ∈ List.range 24, (fun j => hit j (encF (form k) i)) x = (fun j => decide (j = k)) x := fun x hx => hit_enc k x i hk (List.mem_range.1 hx) hi h
  have e2 : (List.range 24).find? (fun j => hit j (encF (form k) i)) = (List.range 24).find? (fun j => decide (j = k)) := by
    have : ∀ l : List Nat, (∀ x ∈ l, hit x (encF (form k) i) = decide (x = k)) → l.find? (fun j => hit j (encF (form k) i)) = l.find? (fun j => decide (j = k)) := by
      intro l hl
      induction l with
      | nil => rfl
      | cons a l ih => simp only [List.find?_cons, hl a (by simp), ih (fun x hx => hl x (by simp [hx]))]
    exact this _ e
  rw [e2]
  have : ∀ k : Nat, k < 24 → (List.range 24).find? (fun j => decide (j = k)) = some k := by decide +kernel
  exact this k hk
theorem decode_encode (i : In) (h : right i = true) : decode (encode i).1 = (i, 0) ∧ (encode i).2 = 0 := by
  obtain ⟨k, hk, hi, hr⟩ := right_kind h
  rw [encode_of k i hk hi hr]
  unfold decode
  simp only
  rw [kindOf_enc k i hk hi hr]
  exact ⟨by simp [dec_enc k i hk hi hr], trivial⟩
theorem encode_decode (w : BitVec 32) (k : Nat) (h : kindOf w = some k) : k < 24 ∧ encode (decF (form k) k w) = (w, 0) ∧ right (decF (form k) k w) = true := by
  have hk : k < 24 := List.mem_range.1 (List.mem_of_find?_eq_some h)
  have hh := List.find?_some h
  simp only [hit, Bool.and_eq_true, decide_eq_true_eq] at hh
  exact ⟨hk, by rw [encode_of k _ hk rfl hh.1, hh.2], by rw [right_of k _ hk rfl]; exact hh.1⟩
theorem encode_inj (a b : In) (ha : right a = true) (hb : right b = true) : (encode a).1 = (encode b).1 ↔ a = b := by
  constructor
  · intro h
    have h1 := (decode_encode a ha).1
    rw [h, (decode_encode b hb).1] at h1
    injection h1 with h1
    exact h1.symm
  · rintro rfl; rfl
end Go.Proofs.Ytkohichiojmakaa.A64
/-
  PLAIN: registers (chapter 3): what is read, what is written, which conditions hold, what an instruction comes to, where it goes on. No Go here.
-/
namespace Go.Proofs.Ytkohichiojmakaa.Alu
set_option linter.unusedVariables false
set_option linter.unusedSimpArgs false
open A64

structure Rg where
  x : List (BitVec 64)
  l : BitVec 64
  r : BitVec 64
def okR (r : Rg) : Prop := r.x.length = 31
def zeroR : Rg := ⟨List.replicate 31 0, 0, 0⟩
def reg (r : Rg) (n : Int) : BitVec 64 := if 0 ≤ n ∧ n < 31 then r.x.getD n.toNat 0 else 0
def setReg (r : Rg) (n : Int) (v : BitVec 64) : Rg := if 0 ≤ n ∧ n < 31 then { r with x := r.x.set n.toNat v } else r
def holds (r : Rg) (c : Int) : Bool :=
  if c = 0 then decide (r.l = r.r) else if c = 1 then !decide (r.l = r.r) else if c = 11 then decide (r.l.toInt < r.r.toInt) else if c = 10 then decide (r.r.toInt ≤ r.l.toInt) else false
def part (i : In) : BitVec 64 := BitVec.ofInt 64 i.n <<< (16 * i.s.toNat)
def hole (i : In) : BitVec 64 := 65535#64 <<< (16 * i.s.toNat)
def reckon (r : Rg) (i : In) : BitVec 64 :=
  if i.kind = 0 then part i
  else if i.kind = 1 then (reg r i.d &&& ~~~ hole i) ||| part i
  else if i.kind = 2 then reg r i.a + reg r i.b
  else if i.kind = 3 then reg r i.a - reg r i.b
  else if i.kind = 4 then reg r i.a * reg r i.b
  else if i.kind = 5 then reg r i.a &&& reg r i.b
  else if holds r i.c then 1 else 0
def jumps (r : Rg) (i : In) : Bool :=
  if i.kind = 8 then true else if i.kind = 9 then holds r i.c else if i.kind = 10 then decide (reg r i.a = 0) else decide (i.kind = 11) && !decide (reg r i.a = 0)
def inAlu (i : In) : Bool := right i && decide (i.kind ≤ 11 ∨ i.kind = 21)
def step (r : Rg) (i : In) : Rg × Int × Bool :=
  if inAlu i = false then (r, 0, false)
  else if i.kind = 21 then (r, 1, true)
  else if jumps r i then (r, i.n, true)
  else if 8 ≤ i.kind then (r, 1, true)
  else if i.kind = 6 then ({ r with l := reg r i.a, r := reg r i.b }, 1, true)
  else (setReg r i.d (reckon r i), 1, true)

theorem setReg_ok {r : Rg} (h : okR r) (n : Int) (v : BitVec 64) : okR (setReg r n v) := by
  unfold setReg okR at *
  split <;> simp [h]
theorem step_ok {r : Rg} (h : okR r) (i : In) : okR (step r i).1 := by
  unfold step
  split
  · exact h
  split
  · exact h
  split
  · exact h
  split
  · exact h
  split
  · exact h
  · exact setReg_ok h _ _
theorem zero_ok : okR zeroR := by unfold okR zeroR; simp

/-! words of 64 bits -/
theorem ofInt64 (x : BitVec 64) : BitVec.ofInt 64 (x.toNat : Int) = x := by
  rw [BitVec.ofInt_natCast]; simp
theorem w64_of (v : Int) : v % 18446744073709551616 = ((BitVec.ofInt 64 v).toNat : Int) := by
  rw [BitVec.toNat_ofInt]
  have : 0 ≤ v % ((2 ^ 64 : Nat) : Int) := Int.emod_nonneg _ (by decide)
  omega
theorem w64_mod (x : BitVec 64) : (x.toNat : Int) % 18446744073709551616 = (x.toNat : Int) := by have := x.isLt; omega
theorem w64_add (x y : BitVec 64) : ((x.toNat : Int) + y.toNat) % 18446744073709551616 = ((x + y).toNat : Int) := by
  rw [w64_of, BitVec.ofInt_add, ofInt64, ofInt64]
theorem w64_sub (x y : BitVec 64) : ((x.toNat : Int) - y.toNat) % 18446744073709551616 = ((x - y).toNat : Int) := by
  rw [w64_of, Int.sub_eq_add_neg, BitVec.ofInt_add, BitVec.ofInt_neg, ofInt64, ofInt64, BitVec.sub_eq_add_neg]
theorem w64_mul (x y : BitVec 64) : ((x.toNat : Int) * y.toNat) % 18446744073709551616 = ((x * y).toNat : Int) := by
  rw [w64_of, BitVec.ofInt_mul, ofInt64, ofInt64]
theorem w64_shl (x : BitVec 64) (k : Nat) : (x.toNat : Int) * 2 ^ k % 18446744073709551616 = ((x <<< k).toNat : Int) := by
  rw [BitVec.toNat_shiftLeft, Nat.shiftLeft_eq]
  simp
theorem w64_shr (x : BitVec 64) (k : Nat) : (x.toNat : Int) / 2 ^ k = ((x >>> k).toNat : Int) := by
  rw [BitVec.toNat_ushiftRight, Nat.shiftRight_eq_div_pow]
  simp
theorem w64_bits (op : BinOp) (f : BitVec 64 → BitVec 64 → BitVec 64) (x y : BitVec 64) (h : bits op .u64 (x.toNat : Int) (y.toNat : Int) = IntKind.u64.wrap ((f (BitVec.ofInt 64 x.toNat) (BitVec.ofInt 64 y.toNat)).toNat : Int)) :
    bits op .u64 (x.toNat : Int) (y.toNat : Int) = ((f x y).toNat : Int) := by
  rw [h, ofInt64, ofInt64, IntKind.wrap_u64]
  exact w64_mod _
theorem w64_and (x y : BitVec 64) : bits .and .u64 (x.toNat : Int) (y.toNat : Int) = ((x &&& y).toNat : Int) := w64_bits _ (· &&& ·) x y rfl
theorem w64_or (x y : BitVec 64) : bits .or .u64 (x.toNat : Int) (y.toNat : Int) = ((x ||| y).toNat : Int) := w64_bits _ (· ||| ·) x y rfl
theorem w64_andNot (x y : BitVec 64) : bits .andNot .u64 (x.toNat : Int) (y.toNat : Int) = ((x &&& ~~~y).toNat : Int) := w64_bits _ (fun a b => a &&& ~~~b) x y rfl
theorem w64_eq (x y : BitVec 64) : ((x.toNat : Int) == (y.toNat : Int)) = decide (x = y) := by
  by_cases h : x = y
  · subst h; simp
  · have : ¬ ((x.toNat : Int) = (y.toNat : Int)) := fun e => h (BitVec.eq_of_toNat_eq (by omega))
    simp [h, this]
theorem w64_zero (x : BitVec 64) : ((x.toNat : Int) == 0) = decide (x = 0) := w64_eq x 0
/-- a word read with its sign -/
theorem w64_sgn (x : BitVec 64) : IntKind.i64.wrap (x.toNat : Int) = x.toInt := by
  rw [IntKind.wrap_i64]
  have := x.isLt
  rw [BitVec.toInt_eq_toNat_cond]
  split <;> omega
theorem w64_word {a : Int} (h : (Lit.int .u64 a).wf = true) : ∃ x : BitVec 64, a = (x.toNat : Int) := by
  have h : 0 ≤ a ∧ a ≤ 18446744073709551615 := by simpa [Lit.wf, IntKind.min, IntKind.max, IntKind.signed, IntKind.bits] using h
  refine ⟨BitVec.ofInt 64 a, ?_⟩
  rw [← w64_of]
  omega
end Go.Proofs.Ytkohichiojmakaa.Alu
/-
  PLAIN: steps (chapters 15 and 16): accesses made durable, what follows an access, what is left out. No Go here.
-/
namespace Go.Proofs.Ytkohichiojmakaa.Stp
set_option linter.unusedVariables false
set_option linter.unusedSimpArgs false

structure St where
  kind : Int
  d : Int
  a : Int
  b : Int
  c : Int
  to : Int
  cell : Int
  n : Int
  op : Int
deriving DecidableEq
def zeroSt : St := ⟨0, 0, 0, 0, 0, 0, 0, 0, 0⟩
def access (s : St) : Bool := s.kind == 3 || s.kind == 4 || s.kind == 5
def fl (s : St) : St := ⟨6, 0, s.a, 0, 0, 0, s.cell, 0, 0⟩
def sy : St := ⟨7, 0, 0, 0, 0, 0, 0, 0, 0⟩
def flw3 (s f y : St) : Bool := f.kind == 6 && f.a == s.a && f.cell == s.cell && y.kind == 7
def flwT (s : St) : List St → Bool
  | f :: y :: _ => flw3 s f y
  | _ => false
def flw (l : List St) (i : Nat) : Bool := decide (i + 2 < l.length) && flw3 (l.getD i zeroSt) (l.getD (i + 1) zeroSt) (l.getD (i + 2) zeroSt)
def flush1 (s : St) : List St := if access s then [s, fl s, sy] else [s]
def flush (l : List St) : List St := l.flatMap flush1
def durT : List St → Bool
  | [] => true
  | s :: t => (!access s || flwT s t) && durT t
def bare (sole : List Bool) (s : St) : Bool := s.kind == 3 && decide (0 ≤ s.cell ∧ s.cell < sole.length) && sole.getD s.cell.toNat false
def elide (sole : List Bool) : List St → List St
  | [] => []
  | s :: t => s :: elide sole (if bare sole s && flwT s t then t.drop 2 else t)
termination_by l => l.length
decreasing_by
  simp only [List.length_cons]
  split
  · rw [List.length_drop]; omega
  · omega

theorem drop_cons {l : List St} {i : Nat} (h : i < l.length) : l.drop i = l.getD i zeroSt :: l.drop (i + 1) := by
  rw [List.drop_eq_getElem_cons h]; simp [List.getD, h]
theorem flw_eq {l : List St} {i : Nat} (h : i < l.length) : flwT (l.getD i zeroSt) (l.drop (i + 1)) = flw l i := by
  unfold flw
  by_cases h2 : i + 2 < l.length
  · rw [drop_cons (show i + 1 < l.length by omega), drop_cons (show i + 1 + 1 < l.length by omega)]
    simp [flwT, h2]
  · have e : (l.drop (i + 1)).length ≤ 1 := by rw [List.length_drop]; omega
    rw [decide_eq_false h2, Bool.false_and]
    cases hl : l.drop (i + 1) with
    | nil => rfl
    | cons x t =>
      rw [hl] at e
      simp only [List.length_cons] at e
      cases t with
      | nil => rfl
      | cons y t => simp only [List.length_cons] at e; omega
theorem elide_step (sole : List Bool) {l : List St} {i : Nat} (h : i < l.length) :
    elide sole (l.drop i) = l.getD i zeroSt :: elide sole (l.drop (if bare sole (l.getD i zeroSt) && flw l i then i + 3 else i + 1)) := by
  rw [drop_cons h, elide, flw_eq h]
  congr 2
  split
  · rw [List.drop_drop]
  · rfl
theorem flw_lt {l : List St} {i : Nat} (h : flw l i = true) : i + 2 < l.length := by
  unfold flw at h
  simp only [Bool.and_eq_true, decide_eq_true_eq] at h
  exact h.1
theorem durT_step {l : List St} {i : Nat} (h : i < l.length) : durT (l.drop i) = ((!access (l.getD i zeroSt) || flw l i) && durT (l.drop (i + 1))) := by
  rw [drop_cons h, durT, flw_eq h]
theorem flush_snoc (l : List St) (k : Nat) (h : k < l.length) : flush (l.take (k + 1)) = flush (l.take k) ++ flush1 (l.getD k zeroSt) := by
  have e : l.take (k + 1) = l.take k ++ [l.getD k zeroSt] := by
    rw [List.take_succ_eq_append_getElem h]; simp [List.getD, h]
  unfold flush
  rw [e, List.flatMap_append]
  simp
theorem flush1_len (s : St) : (flush1 s).length = if access s then 3 else 1 := by unfold flush1; split <;> rfl
theorem flush_len_take (l : List St) (k : Nat) : (flush (l.take k)).length ≤ 3 * k := by
  induction k with
  | zero => simp [flush]
  | succ k ih =>
    by_cases h : k < l.length
    · rw [flush_snoc l k h, List.length_append, flush1_len]; split <;> omega
    · have e : l.take (k + 1) = l.take k := by rw [List.take_of_length_le (by omega), List.take_of_length_le (by omega)]
      rw [e]; omega
theorem flush_len (l : List St) : (flush l).length ≤ 3 * l.length := by have := flush_len_take l l.length; rwa [List.take_length] at this
theorem flush_cons (s : St) (t : List St) : flush (s :: t) = flush1 s ++ flush t := by simp [flush]
theorem flush_split (l : List St) (k : Nat) (h : k < l.length) : flush l = flush (l.take k) ++ (flush1 (l.getD k zeroSt) ++ flush (l.drop (k + 1))) := by
  have e : l = l.take k ++ (l.getD k zeroSt :: l.drop (k + 1)) := by
    rw [← drop_cons h]; exact (List.take_append_drop k l).symm
  conv => lhs; rw [e]
  unfold flush
  rw [List.flatMap_append]
  simp
/-- the k-th of the code stands behind what the first k of them came to -/
theorem flush_at (l : List St) (k j : Nat) (h : k < l.length) (hj : j < (flush1 (l.getD k zeroSt)).length) : (flush l).getD ((flush (l.take k)).length + j) zeroSt = (flush1 (l.getD k zeroSt)).getD j zeroSt := by
  rw [flush_split l k h]
  generalize flush1 (l.getD k zeroSt) = m at *
  simp only [List.getD]
  rw [List.getElem?_append_right (by omega), List.getElem?_append_left (by omega)]
  congr 2
  omega
theorem flush_at0 (l : List St) (k : Nat) (h : k < l.length) : (flush l).getD (flush (l.take k)).length zeroSt = l.getD k zeroSt := by
  have := flush_at l k 0 h (by rw [flush1_len]; split <;> omega)
  rw [Nat.add_zero] at this
  rw [this]
  unfold flush1
  split <;> rfl
theorem flush_lt (l : List St) (k : Nat) (h : k < l.length) : (flush (l.take k)).length < (flush l).length := by
  rw [flush_split l k h]
  simp only [List.length_append]
  have := flush1_len (l.getD k zeroSt)
  split at this <;> omega

theorem fl_access (s : St) : access (fl s) = false := rfl
theorem sy_access : access sy = false := rfl
theorem flw_self (s : St) (t : List St) : flwT s (fl s :: sy :: t) = true := by simp [flwT, flw3, fl, sy]
theorem durT_flush (l : List St) : durT (flush l) = true := by
  induction l with
  | nil => rfl
  | cons s t ih =>
    rw [flush_cons]
    unfold flush1
    cases h : access s
    · simp [durT, h, ih]
    · simp [durT, h, ih, flw_self, fl_access, sy_access]

/-- what is left out of a code that was made durable -/
def spare1 (sole : List Bool) (s : St) : List St := if bare sole s then [s] else flush1 s
theorem bare_access {sole : List Bool} {s : St} (h : bare sole s = true) : access s = true := by
  unfold bare at h
  simp only [Bool.and_eq_true] at h
  simp [access, h.1.1]
theorem bare_not {sole : List Bool} {s : St} (h : access s = false) : bare sole s = false := by
  cases hb : bare sole s
  · rfl
  · rw [bare_access hb] at h; cases h
theorem elide_plain (sole : List Bool) (s : St) (t : List St) (h : bare sole s = false) : elide sole (s :: t) = s :: elide sole t := by
  rw [elide, h]; simp
theorem elide_flush (sole : List Bool) (l : List St) : elide sole (flush l) = l.flatMap (spare1 sole) := by
  induction l with
  | nil => simp [flush, elide]
  | cons s t ih =>
    rw [flush_cons, List.flatMap_cons, ← ih]
    unfold spare1 flush1
    cases hb : bare sole s
    · cases h : access s
      · simp [elide_plain, hb]
      · simp only [if_true, List.cons_append, List.nil_append]
        rw [elide_plain _ _ _ hb, elide_plain _ _ _ (bare_not (fl_access s)), elide_plain _ _ _ (bare_not sy_access)]
        simp
    · have h := bare_access hb
      simp only [h, if_true, List.cons_append, List.nil_append]
      rw [elide, hb, flw_self]
      simp

def asks (l : List St) (c : Int) : Bool := l.any fun s => access s && s.cell == c
def many (ls : List (List St)) (c : Int) : Nat := ls.countP fun l => asks l c
def solesN (ls : List (List St)) (m : Nat) : List Bool := (List.range m).map fun (c : Nat) => decide (many ls c ≤ 1)
def cutN (n : Int) : Nat := (max 0 (min n 16)).toNat
def soles (ls : List (List St)) (cells : Int) : List Bool := solesN ls (cutN cells)
theorem solesN_snoc (ls : List (List St)) (m : Nat) : solesN ls (m + 1) = solesN ls m ++ [decide (many ls m ≤ 1)] := by simp [solesN, List.range_succ]
theorem take_snoc {α : Type} (d : α) (l : List α) (k : Nat) (h : k < l.length) : l.take (k + 1) = l.take k ++ [l.getD k d] := by
  rw [List.take_succ_eq_append_getElem h]; simp [List.getD, h]
theorem many_snoc (ls : List (List St)) (c : Int) (k : Nat) (h : k < ls.length) : many (ls.take (k + 1)) c = many (ls.take k) c + if asks (ls.getD k []) c then 1 else 0 := by
  rw [take_snoc [] ls k h]
  unfold many
  rw [List.countP_append]
  simp [List.countP_cons]
theorem asks_snoc (l : List St) (c : Int) (k : Nat) (h : k < l.length) : asks (l.take (k + 1)) c = (asks (l.take k) c || (access (l.getD k zeroSt) && (l.getD k zeroSt).cell == c)) := by
  rw [take_snoc zeroSt l k h]
  unfold asks
  rw [List.any_append]
  simp

/-- how many accesses -/
def count (l : List St) : Nat := l.countP access
theorem count_snoc (l : List St) (k : Nat) (h : k < l.length) : count (l.take (k + 1)) = count (l.take k) + if access (l.getD k zeroSt) then 1 else 0 := by
  rw [take_snoc zeroSt l k h]
  unfold count
  rw [List.countP_append]
  simp [List.countP_cons]
theorem count_spare (sole : List Bool) (l : List St) : count (elide sole (flush l)) = count l := by
  rw [elide_flush]
  induction l with
  | nil => rfl
  | cons s t ih =>
    rw [List.flatMap_cons]
    unfold count at *
    rw [List.countP_append, ih, List.countP_cons]
    have e : (spare1 sole s).countP access = if access s then 1 else 0 := by
      unfold spare1 flush1
      cases h : access s
      · simp [bare_not h, h]
      · cases hb : bare sole s
        · simp [h, fl_access, sy_access, List.countP_cons]
        · simp [h, List.countP_cons]
    rw [e]
    omega
/-- an access is a load of a sole cell, or its flush stands behind it -/
def keptT (sole : List Bool) : List St → Bool
  | [] => true
  | s :: t => (!access s || (bare sole s || flwT s t)) && keptT sole t
theorem kept_spare (sole : List Bool) (l : List St) : keptT sole (elide sole (flush l)) = true := by
  rw [elide_flush]
  induction l with
  | nil => rfl
  | cons s t ih =>
    rw [List.flatMap_cons]
    generalize t.flatMap (spare1 sole) = r at *
    unfold spare1 flush1
    cases hb : bare sole s
    · cases h : access s
      · simp [keptT, h, ih]
      · simp [keptT, h, ih, flw_self, fl_access, sy_access]
    · simp [keptT, hb, ih]
theorem keptT_step (sole : List Bool) {l : List St} {i : Nat} (h : i < l.length) : keptT sole (l.drop i) = ((!access (l.getD i zeroSt) || (bare sole (l.getD i zeroSt) || flw l i)) && keptT sole (l.drop (i + 1))) := by
  rw [drop_cons h, keptT, flw_eq h]
end Go.Proofs.Ytkohichiojmakaa.Stp
/-
  PLAIN: instructions with labels linked, and their words (chapter 21). No Go here.
-/
namespace Go.Proofs.Ytkohichiojmakaa.Pat
set_option linter.unusedVariables false
set_option linter.unusedSimpArgs false
open A64

def br (k : Int) : Bool := decide (8 ≤ k) && decide (k ≤ 11)
def asks (i : In) : Bool := br i.kind && i.b == 1
def lead (N : Nat) (lb : List Int) (i : In) : Bool := decide (0 ≤ i.n ∧ i.n < lb.length) && decide (0 ≤ lb.getD i.n.toNat 0 ∧ lb.getD i.n.toNat 0 ≤ N)
def to (lb : List Int) (at_ : Nat) (i : In) : In := ⟨i.kind, i.d, i.a, 0, i.s, i.c, lb.getD i.n.toNat 0 - at_⟩
def okAt (N : Nat) (lb : List Int) (at_ : Nat) (i : In) : Bool := !asks i || (lead N lb i && right (to lb at_ i))
def mk (lb : List Int) (at_ : Nat) (i : In) : In := if asks i then to lb at_ i else i
def okTo (lb : List Int) (l : List In) (k : Nat) : Bool := (List.range k).all fun j => okAt l.length lb j (l.getD j zeroIn)
def outTo (lb : List Int) (l : List In) (k : Nat) : List In := (List.range k).map fun j => mk lb j (l.getD j zeroIn)
def link (l : List In) (lb : List Int) : List In × Int := if okTo lb l l.length then (outTo lb l l.length, 0) else ([], 10)
def wordsOk (l : List In) (k : Nat) : Bool := (List.range k).all fun j => right (l.getD j zeroIn)
def wordsTo (l : List In) (k : Nat) : List (BitVec 32) := (List.range k).map fun j => (encode (l.getD j zeroIn)).1
def words (l : List In) : List (BitVec 32) × Int := if wordsOk l l.length then (wordsTo l l.length, 0) else ([], 1)

theorem okTo_succ (lb : List Int) (l : List In) (k : Nat) : okTo lb l (k + 1) = (okTo lb l k && okAt l.length lb k (l.getD k zeroIn)) := by
  unfold okTo; rw [List.range_succ, List.all_append]; simp
theorem outTo_succ (lb : List Int) (l : List In) (k : Nat) : outTo lb l (k + 1) = outTo lb l k ++ [mk lb k (l.getD k zeroIn)] := by
  unfold outTo; rw [List.range_succ, List.map_append]; rfl
theorem outTo_len (lb : List Int) (l : List In) (k : Nat) : (outTo lb l k).length = k := by unfold outTo; simp
theorem outTo_get (lb : List Int) (l : List In) (k j : Nat) (h : j < k) : (outTo lb l k).getD j zeroIn = mk lb j (l.getD j zeroIn) := by
  unfold outTo; simp [List.getD, h]
theorem okTo_bad {lb : List Int} {l : List In} {k : Nat} (h : k < l.length) (hb : okAt l.length lb k (l.getD k zeroIn) = false) : okTo lb l l.length = false := by
  unfold okTo
  rw [List.all_eq_false]
  exact ⟨k, List.mem_range.2 h, by simpa using hb⟩
theorem link_bad {lb : List Int} {l : List In} {k : Nat} (h : k < l.length) (hb : okAt l.length lb k (l.getD k zeroIn) = false) : link l lb = ([], 10) := by
  unfold link; rw [okTo_bad h hb]; rfl
theorem link_good {lb : List Int} {l : List In} (h : okTo lb l l.length = true) : link l lb = (outTo lb l l.length, 0) := by
  unfold link; rw [h]; rfl
theorem wordsOk_succ (l : List In) (k : Nat) : wordsOk l (k + 1) = (wordsOk l k && right (l.getD k zeroIn)) := by
  unfold wordsOk; rw [List.range_succ, List.all_append]; simp
theorem wordsTo_succ (l : List In) (k : Nat) : wordsTo l (k + 1) = wordsTo l k ++ [(encode (l.getD k zeroIn)).1] := by
  unfold wordsTo; rw [List.range_succ, List.map_append]; rfl
theorem wordsTo_len (l : List In) (k : Nat) : (wordsTo l k).length = k := by unfold wordsTo; simp
theorem words_bad {l : List In} {k : Nat} (h : k < l.length) (hb : right (l.getD k zeroIn) = false) : words l = ([], 1) := by
  have e : wordsOk l l.length = false := by
    unfold wordsOk
    rw [List.all_eq_false]
    exact ⟨k, List.mem_range.2 h, by simpa using hb⟩
  unfold words; rw [e]; rfl
theorem words_good {l : List In} (h : wordsOk l l.length = true) : words l = (wordsTo l l.length, 0) := by
  unfold words; rw [h]; rfl
theorem encode_err (i : In) : (encode i).2 = if right i then 0 else 1 := by unfold encode; split <;> rfl
end Go.Proofs.Ytkohichiojmakaa.Pat
