/-
  WALK: the law FieldSigns.
-/
import Derived.Test.YtgadjmojebhlgaaFieldLawWalks
namespace Go.Proofs.Ytgadjmojebhlgaa.FldSigns
set_option linter.unusedVariables false
set_option linter.unusedSimpArgs false
open Go.RowKit Cm Fld FldW FldR FldL

theorem high_bit (W : BitVec 32) (A N : Nat) (hN : 0 < N) (hA : A + N ≤ 32) : (get W (A + N - 1) 1).toNat = (get W A N).toNat / 2 ^ (N - 1) := by
  rw [get_toNat W (A + N - 1) 1 (by decide), get_toNat W A N (by omega)]
  have e : A + N - 1 = A + (N - 1) := by omega
  rw [e, Nat.pow_add, ← Nat.div_div_eq_div_mul]
  have hp := pow_pred hN
  generalize W.toNat / 2 ^ A = x
  rw [hp, Nat.mul_comm, Nat.mod_mul_right_div_self]

set_option maxHeartbeats 1600000 in
theorem walk (a0 a1 a2 : Int) (w : World) (w0 : (Lit.int .u32 a0).wf = true) (w1 : (Lit.int .i64 a1).wf = true) (w2 : (Lit.int .i64 a2).wf = true) :
    Calls Try.prog 9 #[.int .u32 a0, .int .i64 a1, .int .i64 a2] w fun e w' => e = .returned (.bool true) ∧ Below w.heap.size w w' := by
  obtain ⟨W, rfl⟩ := w32_word w0
  obtain ⟨l1, u1⟩ := i64_bounds w1
  obtain ⟨l2, u2⟩ := i64_bounds w2
  clear w0 w1 w2
  by_cases hb : 0 ≤ a1 ∧ 1 ≤ a2 ∧ a1 ≤ 31 ∧ a2 ≤ 32 - a1
  · obtain ⟨b1, b2, b3, b4⟩ := hb
    obtain ⟨A, rfl⟩ := Int.eq_ofNat_of_zero_le b1
    obtain ⟨N, rfl⟩ := Int.eq_ofNat_of_zero_le (show 0 ≤ a2 by omega)
    have eA : ca (A : Int) = A := ca_nat (by omega)
    have eN : cn (A : Int) (N : Int) = N := cn_nat (by omega)
    have e0 : cn 0 (N : Int) = N := by unfold cn; omega
    have eT : ca ((A : Int) + N - 1) = A + N - 1 := by unfold ca; omega
    have e1 : cn ((A : Int) + N - 1) 1 = 1 := by unfold cn; omega
    have G : ∀ (w : World), Calls Try.prog 17 #[.int .u32 W.toNat, .int .i64 A, .int .i64 N] w fun e w' => e = .returned (.int .u32 (get W A N).toNat) ∧ ∃ n, w' = w.drewN n := fun w => by
      have := get_any W.toNat W A N w rfl (by omega) (by omega) (by omega) (by omega)
      rwa [eA, eN] at this
    have T : ∀ (w : World), Calls Try.prog 17 #[.int .u32 W.toNat, .int .i64 ((A : Int) + N - 1), .int .i64 1] w fun e w' => e = .returned (.int .u32 ((get W A N).toNat / 2 ^ (N - 1) : Nat)) ∧ ∃ n, w' = w.drewN n := fun w => by
      have := get_any W.toNat W ((A : Int) + N - 1) 1 w rfl (by omega) (by omega) (by omega) (by omega)
      rwa [eT, e1, high_bit W A N (by omega) (by omega)] at this
    have S : ∀ (w : World), Calls Try.prog 27 #[.int .u32 W.toNat, .int .i64 A, .int .i64 N] w fun e w' => e = .returned (.int .i64 (sgn (get W A N).toNat N)) ∧ ∃ n, w' = w.drewN n := fun w => by
      have := signed_any W.toNat W A N w rfl (by omega) (by omega) (by omega) (by omega)
      rwa [eA, eN] at this
    have F : ∀ (v : Int) (w : World), -9223372036854775808 ≤ v → v ≤ 9223372036854775807 → Calls Try.prog 30 #[.int .i64 v, .int .i64 N] w fun e w' => e = .returned (.bool (fits v N)) ∧ w = w' := fun v w l3 u3 => by
      have := fits_any v N w l3 u3 (by omega) (by omega)
      rwa [e0] at this
    have FS : ∀ (v : Int) (w : World), -9223372036854775808 ≤ v → v ≤ 9223372036854775807 → Calls Try.prog 32 #[.int .i64 v, .int .i64 N] w fun e w' => e = .returned (.bool (fitsS v N)) ∧ w = w' := fun v w l3 u3 => by
      have := fitsSigned_any v N w l3 u3 (by omega) (by omega)
      rwa [e0] at this
    have gl := get_lt W A N (by omega)
    have gi := (get W A N).isLt
    generalize hG : (get W A N).toNat = g at *
    have hN : N ≤ 32 := by omega
    have hp := p64 hN
    have hl := pow_ile hN
    have h0 := pow_ipos N
    have hpp := pow_ipred (n := N) (by omega)
    have hhi := high_iff (g := g) (n := N) (by omega) gl
    have gl' : (g : Int) < 2 ^ N := by rw [pow_nat]; omega
    have f1 : fits (g : Int) N = true := decide_eq_true ⟨by omega, gl'⟩
    have hq : g / 2 ^ (N - 1) ≤ 1 := by
      have := Nat.div_lt_iff_lt_mul (x := g) (y := 2) (pow_pos' (N - 1))
      have h2 := pow_pred (n := N) (by omega)
      omega
    have fs : ∀ b : Int, -2 ^ (N - 1) ≤ b → b < 2 ^ (N - 1) → fitsS b N = true := fun b hb1 hb2 => by
      unfold fitsS
      rw [if_neg (by omega)]
      exact decide_eq_true ⟨hb1, hb2⟩
    have HG := Lib.hid G; clear G
    have HT := Lib.hid T; clear T
    have HS := Lib.hid S; clear S
    have HF := Lib.hid F; clear F
    have HFS := Lib.hid FS; clear FS
    have F1 := Lib.hid f1; clear f1
    have HP := Lib.hid hp; clear hp
    clear eA eN e0 eT e1 hG
    by_cases hh : 2 ^ (N - 1) ≤ g
    · have t1 := hhi.2 hh
      have es := sgn_high (g := g) (n := N) (by omega) hh
      have hh' : (2 : Int) ^ (N - 1) ≤ g := by rw [pow_nat]; omega
      have f2 := fs ((g : Int) - 2 ^ N) (by omega) (by omega)
      generalize hb : (g : Int) - 2 ^ N = b at *
      have e3 : ((g : Int) == b) = false := by rw [beq_eq_false_iff_ne]; omega
      have e4 : ((g : Int) - b == 2 ^ N) = true := by rw [beq_iff_eq]; omega
      have hb1 : b < 0 := by omega
      have hb2 : -4294967296 ≤ b := by omega
      have T1 := Lib.hid t1; clear t1
      have ES := Lib.hid es; clear es
      have F2 := Lib.hid f2; clear f2
      clear fs hhi hh hpp hb hh' hq gl gl' h0 hl
      have hp := HP.out
      go_enter Try.func9, Try.ntmps9
      go_wp2_with (go_at_call 15; refine (alive_any _).mono ?_; rintro e w' ⟨rfl, m1, rfl⟩)
      refine (HG.out _).mono ?_
      rintro e w' ⟨rfl, m2, rfl⟩
      go_wp2_with fail
      refine (HS.out _).mono ?_
      rintro e w' ⟨rfl, m3, rfl⟩
      rw [ES.out]
      go_wp2_with fail
      refine (HT.out _).mono ?_
      rintro e w' ⟨rfl, m4, rfl⟩
      rw [T1.out]
      go_wp2_with fail
      refine (HF.out _ _ (by omega) (by omega)).mono ?_
      rintro e w' ⟨rfl, rfl⟩
      rw [F1.out]
      go_wp2_with fail
      refine (HFS.out _ _ (by omega) (by omega)).mono ?_
      rintro e w' ⟨rfl, rfl⟩
      rw [F2.out]
      go_wp2_with fail
      go_ret
      exact ⟨rfl, below_drewN _ _⟩
    · have t1 : g / 2 ^ (N - 1) = 0 := Nat.div_eq_of_lt (by omega)
      have es := sgn_low (g := g) (n := N) (by omega)
      have hh' : (g : Int) < (2 : Int) ^ (N - 1) := by rw [pow_nat]; omega
      have f2 := fs (g : Int) (by omega) (by omega)
      have T1 := Lib.hid t1; clear t1
      have ES := Lib.hid es; clear es
      have F2 := Lib.hid f2; clear f2
      clear fs hhi hh hpp hh' hq gl gl' h0 hl
      have hp := HP.out
      go_enter Try.func9, Try.ntmps9
      go_wp2_with (go_at_call 15; refine (alive_any _).mono ?_; rintro e w' ⟨rfl, m1, rfl⟩)
      refine (HG.out _).mono ?_
      rintro e w' ⟨rfl, m2, rfl⟩
      go_wp2_with fail
      refine (HS.out _).mono ?_
      rintro e w' ⟨rfl, m3, rfl⟩
      rw [ES.out]
      go_wp2_with fail
      refine (HT.out _).mono ?_
      rintro e w' ⟨rfl, m4, rfl⟩
      rw [T1.out]
      go_wp2_with fail
      refine (HF.out _ _ (by omega) (by omega)).mono ?_
      rintro e w' ⟨rfl, rfl⟩
      rw [F1.out]
      go_wp2_with fail
      refine (HFS.out _ _ (by omega) (by omega)).mono ?_
      rintro e w' ⟨rfl, rfl⟩
      rw [F2.out]
      go_wp2_with fail
      go_ret
      exact ⟨rfl, below_drewN _ _⟩
  · obtain h | ⟨_, h⟩ | ⟨_, _, h⟩ | ⟨_, _, _, h⟩ : a1 < 0 ∨ (0 ≤ a1 ∧ a2 < 1) ∨ (0 ≤ a1 ∧ 1 ≤ a2 ∧ 31 < a1) ∨ (0 ≤ a1 ∧ 1 ≤ a2 ∧ a1 ≤ 31 ∧ 32 - a1 < a2) := by omega
    all_goals clear hb
    all_goals
      go_enter Try.func9, Try.ntmps9
      go_wp2_with (go_at_call 15; refine (alive_any _).mono ?_; rintro e w' ⟨rfl, m1, rfl⟩)
      go_ret
      exact ⟨rfl, below_drewN _ _⟩
end Go.Proofs.Ytgadjmojebhlgaa.FldSigns
