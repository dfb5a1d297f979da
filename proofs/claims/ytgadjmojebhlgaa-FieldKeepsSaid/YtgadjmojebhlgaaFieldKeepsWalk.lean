/-
  WALK: the law FieldKeeps.
-/
import Derived.Test.YtgadjmojebhlgaaFieldLawWalks
namespace Go.Proofs.Ytgadjmojebhlgaa.FldKeeps
set_option linter.unusedVariables false
set_option linter.unusedSimpArgs false
open Go.RowKit Cm Fld FldW FldR FldL

theorem word_fits {v : Int} {N : Nat} (hN : N ≤ 32) (h : fits v N = true) (A : Nat) (W : BitVec 32) (hA : A + N ≤ 32) : ((get (put W A N (BitVec.ofInt 32 v)) A N).toNat : Int) = v := by
  have h := of_decide_eq_true h
  rw [get_put _ _ _ _ hA, and_low_toNat _ _ hN]
  have hl := pow_ile hN
  obtain ⟨V, rfl⟩ := Int.eq_ofNat_of_zero_le h.1
  have h2 := h.2
  rw [pow_nat] at h2 hl
  have e : (BitVec.ofInt 32 (V : Int)).toNat = V := by rw [BitVec.toNat_ofInt]; omega
  rw [e, Nat.mod_eq_of_lt (by omega)]

theorem word_fitsS {v : Int} {N : Nat} (hN : N ≤ 32) (h : fitsS v N = true) (A : Nat) (W : BitVec 32) (hA : A + N ≤ 32) : sgn (get (put W A N (BitVec.ofInt 32 v)) A N).toNat N = v := by
  rw [get_put _ _ _ _ hA, and_low_toNat _ _ hN]
  unfold fitsS at h
  by_cases h0 : N = 0
  · subst h0
    simp at h
    subst h
    simp [sgn]
  · rw [if_neg h0] at h
    have h := of_decide_eq_true h
    have hp := pow_ipred (n := N) (by omega)
    have hp' := pow_pred (n := N) (by omega)
    have hl := pow_le hN
    have hd : (2 ^ N : Nat) ∣ 2 ^ 32 := Nat.pow_dvd_pow 2 hN
    have e : (BitVec.ofInt 32 v).toNat % 2 ^ N = (v % ((2 ^ N : Nat) : Int)).toNat := by
      rw [BitVec.toNat_ofInt]
      have h1 : 0 ≤ v % ((2 ^ 32 : Nat) : Int) := Int.emod_nonneg _ (by decide)
      have h2 : ((v % ((2 ^ 32 : Nat) : Int)).toNat : Int) = v % ((2 ^ 32 : Nat) : Int) := Int.toNat_of_nonneg h1
      have h3 : (((v % ((2 ^ 32 : Nat) : Int)).toNat % 2 ^ N : Nat) : Int) = v % ((2 ^ N : Nat) : Int) := by
        rw [Int.natCast_emod, h2, Int.emod_emod_of_dvd]
        exact Int.natCast_dvd_natCast.2 hd
      omega
    rw [e]
    have q := pow_pos' (N - 1)
    rw [pow_nat] at h
    by_cases hs : v < 0
    · have e2 : v % ((2 ^ N : Nat) : Int) = v + ((2 ^ N : Nat) : Int) := by
        rw [← Int.add_emod_right, Int.emod_eq_of_lt (by omega) (by omega)]
      rw [e2, sgn_high (by omega) (by omega), pow_nat]
      omega
    · rw [Int.emod_eq_of_lt (by omega) (by omega), sgn_low (by omega)]
      omega

set_option maxHeartbeats 1600000 in
theorem walk (a0 a1 a2 a3 : Int) (w : World) (w0 : (Lit.int .u32 a0).wf = true) (w1 : (Lit.int .i64 a1).wf = true) (w2 : (Lit.int .i64 a2).wf = true) (w3 : (Lit.int .i64 a3).wf = true) :
    Calls Try.prog 8 #[.int .u32 a0, .int .i64 a1, .int .i64 a2, .int .i64 a3] w fun e w' => e = .returned (.bool true) ∧ Below w.heap.size w w' := by
  obtain ⟨W, rfl⟩ := w32_word w0
  obtain ⟨l1, u1⟩ := i64_bounds w1
  obtain ⟨l2, u2⟩ := i64_bounds w2
  obtain ⟨l3, u3⟩ := i64_bounds w3
  clear w0 w1 w2 w3
  by_cases hb : 0 ≤ a1 ∧ 0 ≤ a2 ∧ a1 ≤ 32 ∧ a2 ≤ 32 - a1
  · obtain ⟨b1, b2, b3, b4⟩ := hb
    obtain ⟨A, rfl⟩ := Int.eq_ofNat_of_zero_le b1
    obtain ⟨N, rfl⟩ := Int.eq_ofNat_of_zero_le b2
    have eA : ca (A : Int) = A := ca_nat (by omega)
    have eN : cn (A : Int) (N : Int) = N := cn_nat (by omega)
    have e0 : cn 0 (N : Int) = N := by unfold cn; omega
    have P : ∀ (X : BitVec 32) (v : Int) (w : World), Calls Try.prog 16 #[.int .u32 X.toNat, .int .i64 A, .int .i64 N, .int .i64 v] w fun e w' => e = .returned (.int .u32 (put X A N (BitVec.ofInt 32 v)).toNat) ∧ w = w' := fun X v w => by
      have := put_any X.toNat X A N v w rfl (by omega) (by omega) (by omega) (by omega)
      rwa [eA, eN] at this
    have G : ∀ (X : BitVec 32) (w : World), Calls Try.prog 17 #[.int .u32 X.toNat, .int .i64 A, .int .i64 N] w fun e w' => e = .returned (.int .u32 (get X A N).toNat) ∧ ∃ n, w' = w.drewN n := fun X w => by
      have := get_any X.toNat X A N w rfl (by omega) (by omega) (by omega) (by omega)
      rwa [eA, eN] at this
    have S : ∀ (X : BitVec 32) (w : World), Calls Try.prog 27 #[.int .u32 X.toNat, .int .i64 A, .int .i64 N] w fun e w' => e = .returned (.int .i64 (sgn (get X A N).toNat N)) ∧ ∃ n, w' = w.drewN n := fun X w => by
      have := signed_any X.toNat X A N w rfl (by omega) (by omega) (by omega) (by omega)
      rwa [eA, eN] at this
    have F : ∀ (w : World), Calls Try.prog 30 #[.int .i64 a3, .int .i64 N] w fun e w' => e = .returned (.bool (fits a3 N)) ∧ w = w' := fun w => by
      have := fits_any a3 N w l3 u3 (by omega) (by omega)
      rwa [e0] at this
    have FS : ∀ (w : World), Calls Try.prog 32 #[.int .i64 a3, .int .i64 N] w fun e w' => e = .returned (.bool (fitsS a3 N)) ∧ w = w' := fun w => by
      have := fitsSigned_any a3 N w l3 u3 (by omega) (by omega)
      rwa [e0] at this
    have q1 : put (put W A N (BitVec.ofInt 32 a3)) A N (BitVec.ofInt 32 (get W A N).toNat) = W := by rw [ofInt32, put_get]
    have q2 : fits a3 N = true → ((get (put W A N (BitVec.ofInt 32 a3)) A N).toNat : Int) = a3 := fun h => word_fits (by omega) h A W (by omega)
    have q3 : fitsS a3 N = true → sgn (get (put W A N (BitVec.ofInt 32 a3)) A N).toNat N = a3 := fun h => word_fitsS (by omega) h A W (by omega)
    have hgi : ∀ X, (get X A N).toNat < 4294967296 := fun X => (get X A N).isLt
    generalize hX : put W A N (BitVec.ofInt 32 a3) = X at *
    have hg1 := hgi W
    have hg2 := hgi X
    have HX := Lib.hid hX; clear hX hgi
    have HP := Lib.hid P; clear P
    have HG := Lib.hid G; clear G
    have HS := Lib.hid S; clear S
    have HF := Lib.hid F; clear F
    have HFS := Lib.hid FS; clear FS
    have Q1 := Lib.hid q1; clear q1
    have Q2 := Lib.hid q2; clear q2
    have Q3 := Lib.hid q3; clear q3
    clear eA eN e0
    cases hf : fits a3 N <;> cases hs : fitsS a3 N
    all_goals
      have hf' := Lib.hid hf
      have hs' := Lib.hid hs
      clear hf hs
      go_enter Try.func8, Try.ntmps8
      go_wp2_with (go_at_call 15; refine (alive_any _).mono ?_; rintro e w' ⟨rfl, m1, rfl⟩)
      refine (HP.out _ _ _).mono ?_
      rintro e w' ⟨rfl, rfl⟩
      rw [HX.out]
      go_wp2_with fail
      refine (HG.out _ _).mono ?_
      rintro e w' ⟨rfl, m2, rfl⟩
      go_wp2_with fail
      refine (HP.out _ _ _).mono ?_
      rintro e w' ⟨rfl, rfl⟩
      rw [Q1.out]
      go_wp2_with fail
      refine (HF.out _).mono ?_
      rintro e w' ⟨rfl, rfl⟩
      rw [hf'.out]
      go_wp2_with fail
    · refine (HFS.out _).mono ?_
      rintro e w' ⟨rfl, rfl⟩
      rw [hs'.out]
      go_wp2_with fail
      go_ret
      exact ⟨rfl, below_drewN _ _⟩
    · refine (HFS.out _).mono ?_
      rintro e w' ⟨rfl, rfl⟩
      rw [hs'.out]
      go_wp2_with fail
      refine (HS.out _ _).mono ?_
      rintro e w' ⟨rfl, m4, rfl⟩
      rw [Q3.out hs'.out]
      go_wp2_with fail
      go_ret
      exact ⟨rfl, below_drewN _ _⟩
    · refine (HG.out _ _).mono ?_
      rintro e w' ⟨rfl, m3, rfl⟩
      have hq := Q2.out hf'.out
      have hq' : ((((get X A N).toNat : Int)) == a3) = true := by rw [hq]; simp
      clear hq
      go_wp2_with fail
      refine (HFS.out _).mono ?_
      rintro e w' ⟨rfl, rfl⟩
      rw [hs'.out]
      go_wp2_with fail
      go_ret
      exact ⟨rfl, below_drewN _ _⟩
    · refine (HG.out _ _).mono ?_
      rintro e w' ⟨rfl, m3, rfl⟩
      have hq := Q2.out hf'.out
      have hq' : ((((get X A N).toNat : Int)) == a3) = true := by rw [hq]; simp
      clear hq
      go_wp2_with fail
      refine (HFS.out _).mono ?_
      rintro e w' ⟨rfl, rfl⟩
      rw [hs'.out]
      go_wp2_with fail
      refine (HS.out _ _).mono ?_
      rintro e w' ⟨rfl, m4, rfl⟩
      rw [Q3.out hs'.out]
      go_wp2_with fail
      go_ret
      exact ⟨rfl, below_drewN _ _⟩
  · obtain h | ⟨_, h⟩ | ⟨_, _, h⟩ | ⟨_, _, _, h⟩ : a1 < 0 ∨ (0 ≤ a1 ∧ a2 < 0) ∨ (0 ≤ a1 ∧ 0 ≤ a2 ∧ 32 < a1) ∨ (0 ≤ a1 ∧ 0 ≤ a2 ∧ a1 ≤ 32 ∧ 32 - a1 < a2) := by omega
    all_goals clear hb
    all_goals
      go_enter Try.func8, Try.ntmps8
      go_wp2_with (go_at_call 15; refine (alive_any _).mono ?_; rintro e w' ⟨rfl, m1, rfl⟩)
      go_ret
      exact ⟨rfl, below_drewN _ _⟩
end Go.Proofs.Ytgadjmojebhlgaa.FldKeeps
