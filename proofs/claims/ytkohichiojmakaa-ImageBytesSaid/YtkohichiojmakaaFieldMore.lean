/-
  PLAIN: what was put and fits is got again.
-/
import Derived.Test.YtkohichiojmakaaFieldWalks
namespace Go.Proofs.Ytkohichiojmakaa.FldM
set_option linter.unusedVariables false
set_option linter.unusedSimpArgs false
open Fld FldW

theorem word_fits {v : Int} {N : Nat} (hN : N ≤ 32) (h : fits v N = true) (A : Nat) (W : BitVec 32) (hA : A + N ≤ 32) : ((get (put W A N (BitVec.ofInt 32 v)) A N).toNat : Int) = v := by
  have h := of_decide_eq_true h
  rw [get_put _ _ _ _ hA, and_low_toNat _ _ hN]
  have hl := pow_ile hN
  obtain ⟨V, rfl⟩ := Int.eq_ofNat_of_zero_le h.1
  have h2 := h.2
  rw [pow_nat] at h2 hl
  have e : (BitVec.ofInt 32 (V : Int)).toNat = V := by rw [BitVec.toNat_ofInt]; omega
  rw [e, Nat.mod_eq_of_lt (by omega)]

theorem word_fitsS {v : Int} {N : Nat} (hN : N ≤ 32) (h : fitsS v N = true) (A : Nat) (W : BitVec 32) (hA : A + N ≤ 32) : sgn (get (put W A N (BitVec.ofInt 32 v)) A N).toNat N = v := by
  rw [get_put _ _ _ _ hA, and_low_toNat _ _ hN]
  unfold fitsS at h
  by_cases h0 : N = 0
  · subst h0
    simp at h
    subst h
    simp [sgn]
  · rw [if_neg h0] at h
    have h := of_decide_eq_true h
    have hp := pow_ipred (n := N) (by omega)
    have hp' := pow_pred (n := N) (by omega)
    have hl := pow_le hN
    have hd : (2 ^ N : Nat) ∣ 2 ^ 32 := Nat.pow_dvd_pow 2 hN
    have e : (BitVec.ofInt 32 v).toNat % 2 ^ N = (v % ((2 ^ N : Nat) : Int)).toNat := by
      rw [BitVec.toNat_ofInt]
      have h1 : 0 ≤ v % ((2 ^ 32 : Nat) : Int) := Int.emod_nonneg _ (by decide)
      have h2 : ((v % ((2 ^ 32 : Nat) : Int)).toNat : Int) = v % ((2 ^ 32 : Nat) : Int) := Int.toNat_of_nonneg h1
      have h3 : (((v % ((2 ^ 32 : Nat) : Int)).toNat % 2 ^ N : Nat) : Int) = v % ((2 ^ N : Nat) : Int) := by
        rw [Int.natCast_emod, h2, Int.emod_emod_of_dvd]
        exact Int.natCast_dvd_natCast.2 hd
      omega
    rw [e]
    have q := pow_pos' (N - 1)
    rw [pow_nat] at h
    by_cases hs : v < 0
    · have e2 : v % ((2 ^ N : Nat) : Int) = v + ((2 ^ N : Nat) : Int) := by
        rw [← Int.add_emod_right, Int.emod_eq_of_lt (by omega) (by omega)]
      rw [e2, sgn_high (by omega) (by omega), pow_nat]
      omega
    · rw [Int.emod_eq_of_lt (by omega) (by omega), sgn_low (by omega)]
      omega

end Go.Proofs.Ytkohichiojmakaa.FldM
