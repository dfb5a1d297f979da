/-
  WALKS: package field, each function once: what it computes, as bit vectors and numbers.
-/
import Derived.Test.YtkohichiojmakaaProg
import Derived.Test.YtkohichiojmakaaFieldPlain
import Derived.Test.YtkohichiojmakaaCommon
namespace Go.Proofs.Ytkohichiojmakaa.FldW
set_option linter.unusedVariables false
set_option linter.unusedSimpArgs false
open Go.RowKit Cm Fld

section
attribute [local go_sem] if_min if_max
theorem cut_any (a n : Int) (w : World) (h1 : -9223372036854775808 ≤ a) (h2 : a ≤ 9223372036854775807) (h3 : -9223372036854775808 ≤ n) (h4 : n ≤ 9223372036854775807) :
    Calls Try.prog 108 #[.int .i64 a, .int .i64 n] w fun e w' => e = .returned (.tuple #[.int .i64 (ca a), .int .i64 (cn a n)]) ∧ w = w' := by
  go_enter Try.func108, Try.ntmps108
  go_wp2
  go_ret2
  exact ⟨ret2 (by unfold ca; omega) (by unfold cn; omega), rfl⟩
end

theorem low_num (n : Nat) (h : n ≤ 32) : ((2 : Int) ^ n % 4294967296 - 1) % 4294967296 = ((Fld.low n).toNat : Int) := by
  rw [Fld.low_toNat n h]
  have h2 : 2 ^ n ≤ 2 ^ 32 := Nat.pow_le_pow_right (by decide) h
  have h3 : 0 < 2 ^ n := Nat.two_pow_pos n
  have e : (2 : Int) ^ n = ((2 ^ n : Nat) : Int) := by simp
  rw [e]
  omega
theorem low_any (n : Nat) (w : World) (h3 : (n : Int) ≤ 32) :
    Calls Try.prog 110 #[.int .i64 n] w fun e w' => e = .returned (.int .u32 ((Fld.low n).toNat : Int)) ∧ w = w' := by
  go_enter Try.func110, Try.ntmps110
  go_wp2
  go_ret
  exact ⟨ret1 (low_num n (by omega)), rfl⟩

theorem get_any (x : Int) (W : BitVec 32) (a n : Int) (w : World) (hx : x = W.toNat) (h1 : -9223372036854775808 ≤ a) (h2 : a ≤ 9223372036854775807) (h3 : -9223372036854775808 ≤ n) (h4 : n ≤ 9223372036854775807) :
    Calls Try.prog 106 #[.int .u32 x, .int .i64 a, .int .i64 n] w fun e w' => e = .returned (.int .u32 (get W (ca a) (cn a n)).toNat) ∧ ∃ n, w' = w.drewN n := by
  subst hx
  have k1 := ca_le a
  have k2 := cn_le a n
  go_enter Try.func106, Try.ntmps106
  go_wp2_with (go_at_call 108; refine (cut_any a n _ h1 h2 h3 h4).mono ?_; rintro e w' ⟨rfl, rfl⟩)
  go_quiet ((go_at_call 110; exact quiet_left (low_any _ _ (by omega))))
  go_wp2
  go_ret
  exact ⟨ret1 (by simp only [w32_shr, w32_and]; rfl), _, rfl⟩

theorem put_any (x : Int) (W : BitVec 32) (a n v : Int) (w : World) (hx : x = W.toNat) (h1 : -9223372036854775808 ≤ a) (h2 : a ≤ 9223372036854775807) (h3 : -9223372036854775808 ≤ n) (h4 : n ≤ 9223372036854775807) :
    Calls Try.prog 109 #[.int .u32 x, .int .i64 a, .int .i64 n, .int .i64 v] w fun e w' => e = .returned (.int .u32 (put W (ca a) (cn a n) (BitVec.ofInt 32 v)).toNat) ∧ w = w' := by
  subst hx
  have k1 := ca_le a
  have k2 := cn_le a n
  go_enter Try.func109, Try.ntmps109
  go_wp2_with (first | (go_at_call 108; refine (cut_any a n _ h1 h2 h3 h4).mono ?_; rintro e w' ⟨rfl, rfl⟩) | (go_at_call 110; refine (low_any _ _ (by omega)).mono ?_; rintro e w' ⟨rfl, rfl⟩))
  go_ret
  exact ⟨ret1 (by rw [w32_of v]; simp only [w32_shl, w32_and, w32_or, w32_andNot]; rfl), rfl⟩

/-! numbers with a sign -/
theorem p64 {n : Nat} (h : n ≤ 32) : wrap64 ((2 : Int) ^ n) = 2 ^ n := IntWalk.wrap64_in _ ⟨by have := pow_ipos n; omega, by have := pow_ile h; omega⟩
theorem high_eq {g n : Nat} (hn : 0 < n) (hg : g < 2 ^ n) : ((g : Int) / 2 ^ (n - 1) == 1) = decide (2 ^ (n - 1) ≤ g) := by
  have e : (g : Int) / 2 ^ (n - 1) = ((g / 2 ^ (n - 1) : Nat) : Int) := by rw [pow_nat]; simp
  rw [e]
  have := high_iff hn hg
  by_cases h : 2 ^ (n - 1) ≤ g
  · have h1 := this.2 h
    rw [h1]
    simp [h]
  · have h1 : ¬ g / 2 ^ (n - 1) = 1 := fun hh => h (this.1 hh)
    have h2 : ¬ ((g / 2 ^ (n - 1) : Nat) : Int) = 1 := by omega
    rw [beq_eq_false_iff_ne.2 h2]
    simp [h]
theorem sgn_high {g n : Nat} (hn : 0 < n) (h : 2 ^ (n - 1) ≤ g) : sgn g n = (g : Int) - 2 ^ n := by unfold sgn; rw [if_pos ⟨hn, h⟩]
theorem sgn_low {g n : Nat} (h : ¬ (0 < n ∧ 2 ^ (n - 1) ≤ g)) : sgn g n = (g : Int) := by unfold sgn; rw [if_neg h]
theorem sgn_num {g n : Nat} (hg : g < 2 ^ n) (h : n ≤ 32) : wrap64 ((g : Int) - 2 ^ n) = (g : Int) - 2 ^ n :=
  IntWalk.wrap64_in _ ⟨by have := pow_ile h; omega, by have := pow_ipos n; rw [pow_nat] at *; omega⟩

set_option maxHeartbeats 400000 in
theorem signed_any (x : Int) (W : BitVec 32) (a n : Int) (w : World) (hx : x = W.toNat) (h1 : -9223372036854775808 ≤ a) (h2 : a ≤ 9223372036854775807) (h3 : -9223372036854775808 ≤ n) (h4 : n ≤ 9223372036854775807) :
    Calls Try.prog 107 #[.int .u32 x, .int .i64 a, .int .i64 n] w fun e w' => e = .returned (.int .i64 (sgn (get W (ca a) (cn a n)).toNat (cn a n))) ∧ ∃ n, w' = w.drewN n := by
  subst hx
  have k1 := ca_le a
  have k2 := cn_le a n
  have k3 : cn a n ≤ 32 := by omega
  have gl := get_lt W (ca a) (cn a n) k3
  have gi := (get W (ca a) (cn a n)).isLt
  have R : ∀ w : World, Calls Try.prog 106 #[.int .u32 W.toNat, .int .i64 (ca a), .int .i64 (cn a n)] w fun e w' => e = .returned (.int .u32 (get W (ca a) (cn a n)).toNat) ∧ ∃ n, w' = w.drewN n := by
    intro w
    have := get_any W.toNat W (ca a) (cn a n) w rfl (by omega) (by omega) (by omega) (by omega)
    rwa [ca_ca, cn_cn] at this
  generalize hG : (get W (ca a) (cn a n)).toNat = G at *
  have hp := p64 k3
  have hs := sgn_num gl k3
  clear hG
  by_cases hn : 0 < (cn a n : Int)
  · have hq := high_eq (by omega) gl
    have HR := Lib.hid R; clear R
    have gl' := Lib.hid gl; clear gl
    by_cases hh : 2 ^ (cn a n - 1) ≤ G
    · rw [decide_eq_true hh] at hq
      have H1 := Lib.hid (sgn_high (by omega) hh); clear hh
      go_enter Try.func107, Try.ntmps107
      go_wp2_with (first | (go_at_call 108; refine (cut_any a n _ h1 h2 h3 h4).mono ?_; rintro e w' ⟨rfl, rfl⟩) | (go_at_call 106; refine (HR.out _).mono ?_; rintro e w' ⟨rfl, m, rfl⟩))
      go_ret
      exact ⟨ret1 (hs.trans H1.out.symm), _, rfl⟩
    · rw [decide_eq_false hh] at hq
      have H1 := Lib.hid (sgn_low (g := G) (n := cn a n) (fun h => hh h.2)); clear hh
      go_enter Try.func107, Try.ntmps107
      go_wp2_with (first | (go_at_call 108; refine (cut_any a n _ h1 h2 h3 h4).mono ?_; rintro e w' ⟨rfl, rfl⟩) | (go_at_call 106; refine (HR.out _).mono ?_; rintro e w' ⟨rfl, m, rfl⟩))
      go_ret
      exact ⟨ret1 H1.out.symm, _, rfl⟩
  · have H1 := Lib.hid (sgn_low (g := G) (n := cn a n) (fun h => hn (by omega)))
    have HR := Lib.hid R; clear R
    have gl' := Lib.hid gl; clear gl
    go_enter Try.func107, Try.ntmps107
    go_wp2_with (first | (go_at_call 108; refine (cut_any a n _ h1 h2 h3 h4).mono ?_; rintro e w' ⟨rfl, rfl⟩) | (go_at_call 106; refine (HR.out _).mono ?_; rintro e w' ⟨rfl, m, rfl⟩))
    go_ret
    exact ⟨ret1 H1.out.symm, _, rfl⟩

theorem fits_any (v n : Int) (w : World) (h1 : -9223372036854775808 ≤ v) (h2 : v ≤ 9223372036854775807) (h3 : -9223372036854775808 ≤ n) (h4 : n ≤ 9223372036854775807) :
    Calls Try.prog 100 #[.int .i64 v, .int .i64 n] w fun e w' => e = .returned (.bool (fits v (cn 0 n))) ∧ w = w' := by
  have k2 := cn_le 0 n
  have k3 : cn 0 n ≤ 32 := by omega
  have hp := p64 k3
  go_enter Try.func100, Try.ntmps100
  go_wp2_with (first | (go_at_call 108; refine (cut_any 0 n _ (by omega) (by omega) h3 h4).mono ?_; rintro e w' ⟨rfl, rfl⟩))
  all_goals go_ret
  all_goals refine ⟨retb ?_, rfl⟩
  all_goals unfold fits
  all_goals (by_cases h0 : 0 ≤ v <;> simp [h0] <;> omega)

theorem fitsSigned_any (v n : Int) (w : World) (h1 : -9223372036854775808 ≤ v) (h2 : v ≤ 9223372036854775807) (h3 : -9223372036854775808 ≤ n) (h4 : n ≤ 9223372036854775807) :
    Calls Try.prog 101 #[.int .i64 v, .int .i64 n] w fun e w' => e = .returned (.bool (fitsS v (cn 0 n))) ∧ w = w' := by
  have k2 := cn_le 0 n
  have k3 : cn 0 n ≤ 32 := by omega
  by_cases hn : cn 0 n = 0
  · have hb : ((cn 0 n : Int) == 0) = true := by rw [hn]; rfl
    go_enter Try.func101, Try.ntmps101
    go_wp2_with (first | (go_at_call 108; refine (cut_any 0 n _ (by omega) (by omega) h3 h4).mono ?_; rintro e w' ⟨rfl, rfl⟩))
    go_ret
    refine ⟨retb ?_, rfl⟩
    unfold fitsS
    rw [if_pos hn]
    by_cases h0 : v = 0 <;> simp [h0]
  · have hb : ((cn 0 n : Int) == 0) = false := by rw [beq_eq_false_iff_ne]; omega
    have hz := Lib.hid hn
    have hp : wrap64 ((2 : Int) ^ (cn 0 n - 1)) = 2 ^ (cn 0 n - 1) := p64 (by omega)
    have hm : wrap64 (-(2 : Int) ^ (cn 0 n - 1)) = -2 ^ (cn 0 n - 1) :=
      IntWalk.wrap64_in _ ⟨by have := pow_ile (n := cn 0 n - 1) (by omega); omega, by have := pow_ipos (cn 0 n - 1); omega⟩
    have hi : 1 ≤ (cn 0 n : Int) := by omega
    clear hn
    go_enter Try.func101, Try.ntmps101
    go_wp2_with (first | (go_at_call 108; refine (cut_any 0 n _ (by omega) (by omega) h3 h4).mono ?_; rintro e w' ⟨rfl, rfl⟩))
    all_goals go_ret
    all_goals refine ⟨retb ?_, rfl⟩
    all_goals unfold fitsS
    all_goals rw [if_neg hz.out]
    all_goals (by_cases h0 : -2 ^ (cn 0 n - 1) ≤ v <;> simp [h0] <;> omega)
end Go.Proofs.Ytkohichiojmakaa.FldW
