/-
  WALK: the law FieldLimits.
-/
import Derived.Test.YtgadjmojebhlgaaFieldLawWalks
namespace Go.Proofs.Ytgadjmojebhlgaa.FldLimits
set_option linter.unusedVariables false
set_option linter.unusedSimpArgs false
open Go.RowKit Cm Fld FldW FldR FldL

set_option maxHeartbeats 1600000 in
theorem walk (a0 : Int) (w : World) (w0 : (Lit.int .i64 a0).wf = true) :
    Calls Try.prog 10 #[.int .i64 a0] w fun e w' => e = .returned (.bool true) ∧ Below w.heap.size w w' := by
  obtain ⟨l1, u1⟩ := i64_bounds w0
  clear w0
  by_cases hb : 1 ≤ a0 ∧ a0 ≤ 32
  · obtain ⟨b1, b2⟩ := hb
    obtain ⟨N, rfl⟩ := Int.eq_ofNat_of_zero_le (show 0 ≤ a0 by omega)
    have e0 : cn 0 (N : Int) = N := by unfold cn; omega
    have hN : N ≤ 32 := by omega
    have hl := pow_ile hN
    have h0 := pow_ipos (N - 1)
    have hpp := pow_ipred (n := N) (by omega)
    have F : ∀ (v : Int) (r : Bool) (w : World), -9223372036854775808 ≤ v → v ≤ 9223372036854775807 → decide (0 ≤ v ∧ v < 2 ^ N) = r → Calls Try.prog 30 #[.int .i64 v, .int .i64 N] w fun e w' => e = .returned (.bool r) ∧ w = w' := fun v r w l3 u3 hr => by
      have := fits_any v N w l3 u3 (by omega) (by omega)
      rw [e0] at this
      unfold fits at this
      rwa [hr] at this
    have FS : ∀ (v : Int) (r : Bool) (w : World), -9223372036854775808 ≤ v → v ≤ 9223372036854775807 → decide (-2 ^ (N - 1) ≤ v ∧ v < 2 ^ (N - 1)) = r → Calls Try.prog 32 #[.int .i64 v, .int .i64 N] w fun e w' => e = .returned (.bool r) ∧ w = w' := fun v r w l3 u3 hr => by
      have := fitsSigned_any v N w l3 u3 (by omega) (by omega)
      rw [e0] at this
      unfold fitsS at this
      rw [if_neg (by omega)] at this
      rwa [hr] at this
    have hp : wrap64 ((2 : Int) ^ N) = 2 * 2 ^ (N - 1) := by rw [p64 hN, hpp]
    simp only [hpp] at F hl
    clear hpp
    generalize (2 : Int) ^ (N - 1) = M at *
    have d1 : (-(2 * M)).tdiv 2 = -M := by rw [Int.neg_tdiv, Int.tdiv_eq_ediv_of_nonneg (by omega)]; omega
    have HF := Lib.hid F; clear F
    have HFS := Lib.hid FS; clear FS
    clear e0
    go_enter Try.func10, Try.ntmps10
    go_wp2_with (go_at_call 15; refine (alive_any _).mono ?_; rintro e w' ⟨rfl, m1, rfl⟩)
    refine (HF.out _ true _ (by omega) (by omega) (by simp <;> omega)).mono ?_
    rintro e w' ⟨rfl, rfl⟩
    go_wp2_with fail
    refine (HF.out _ true _ (by omega) (by omega) (by simp <;> omega)).mono ?_
    rintro e w' ⟨rfl, rfl⟩
    go_wp2_with fail
    refine (HF.out _ false _ (by omega) (by omega) (by simp <;> omega)).mono ?_
    rintro e w' ⟨rfl, rfl⟩
    go_wp2_with fail
    refine (HF.out _ false _ (by omega) (by omega) (by simp <;> omega)).mono ?_
    rintro e w' ⟨rfl, rfl⟩
    go_wp2_with fail

    refine (HFS.out _ true _ (by omega) (by omega) (by simp <;> omega)).mono ?_
    rintro e w' ⟨rfl, rfl⟩
    go_wp2_with fail
    refine (HFS.out _ true _ (by omega) (by omega) (by simp <;> omega)).mono ?_
    rintro e w' ⟨rfl, rfl⟩
    go_wp2_with fail
    refine (HFS.out _ false _ (by omega) (by omega) (by simp <;> omega)).mono ?_
    rintro e w' ⟨rfl, rfl⟩
    go_wp2_with fail
    refine (HFS.out _ false _ (by omega) (by omega) (by simp <;> omega)).mono ?_
    rintro e w' ⟨rfl, rfl⟩
    go_wp2_with fail
    go_ret
    exact ⟨rfl, below_drewN _ _⟩
  · obtain h | ⟨_, h⟩ : a0 < 1 ∨ (1 ≤ a0 ∧ 32 < a0) := by omega
    all_goals clear hb
    all_goals
      go_enter Try.func10, Try.ntmps10
      go_wp2_with (go_at_call 15; refine (alive_any _).mono ?_; rintro e w' ⟨rfl, m1, rfl⟩)
      go_ret
      exact ⟨rfl, below_drewN _ _⟩
end Go.Proofs.Ytgadjmojebhlgaa.FldLimits
