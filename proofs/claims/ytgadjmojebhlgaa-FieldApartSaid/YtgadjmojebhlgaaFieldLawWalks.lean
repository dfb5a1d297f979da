/-
  WALKS: the laws of chapter 1.
-/
import Derived.Test.YtgadjmojebhlgaaProg
import Derived.Test.YtgadjmojebhlgaaFieldRefs
import Derived.Below
namespace Go.Proofs.Ytgadjmojebhlgaa.FldL
set_option linter.unusedVariables false
set_option linter.unusedSimpArgs false
open Go.RowKit Cm Fld FldW FldR

theorem below_drewN (w : World) (n : Nat) : Below w.heap.size w (w.drewN n) := ⟨rfl, rfl, rfl, Nat.le_refl _, fun _ _ => rfl⟩

theorem alive_any (w : World) : Calls Try.prog 15 #[] w fun e w' => e = .returned (.bool true) ∧ ∃ n, w' = w.drewN n := by
  have S : ∀ w : World, Calls Try.prog 27 #[.int .u32 240, .int .i64 4, .int .i64 4] w fun e w' => e = .returned (.int .i64 (-1)) ∧ ∃ n, w' = w.drewN n := fun w =>
    signed_any 240 240#32 4 4 w (by decide) (by decide) (by decide) (by decide) (by decide)
  have G : ∀ w : World, Calls Try.prog 17 #[.int .u32 240, .int .i64 4, .int .i64 4] w fun e w' => e = .returned (.int .u32 15) ∧ ∃ n, w' = w.drewN n := fun w =>
    get_any 240 240#32 4 4 w (by decide) (by decide) (by decide) (by decide) (by decide)
  have U : ∀ w : World, Calls Try.prog 16 #[.int .u32 0, .int .i64 4, .int .i64 4, .int .i64 15] w fun e w' => e = .returned (.int .u32 240) ∧ w = w' := fun w =>
    put_any 0 0#32 4 4 15 w (by decide) (by decide) (by decide) (by decide) (by decide)
  have HS := Lib.hid S; clear S
  have HG := Lib.hid G; clear G
  have HU := Lib.hid U; clear U
  go_enter Try.func15, Try.ntmps15
  go_wp2_with (first
    | (go_at_call 27; refine (HS.out _).mono ?_; rintro e w' ⟨rfl, m1, rfl⟩)
    | (go_at_call 17; refine (HG.out _).mono ?_; rintro e w' ⟨rfl, m2, rfl⟩)
    | (go_at_call 16; refine (HU.out _).mono ?_; rintro e w' ⟨rfl, rfl⟩))
  go_ret
  exact ⟨rfl, _, rfl⟩

set_option maxHeartbeats 800000 in
theorem apart (a0 : Int) (a1 : Int) (a2 : Int) (a3 : Int) (a4 : Int) (a5 : Int) (w : World) (w0 : (Lit.int .u32 a0).wf = true) (w1 : (Lit.int .i64 a1).wf = true) (w2 : (Lit.int .i64 a2).wf = true) (w3 : (Lit.int .i64 a3).wf = true) (w4 : (Lit.int .i64 a4).wf = true) (w5 : (Lit.int .i64 a5).wf = true) :
    Calls Try.prog 3 #[.int .u32 a0, .int .i64 a1, .int .i64 a2, .int .i64 a3, .int .i64 a4, .int .i64 a5] w fun e w' => e = .returned (.bool true) ∧ Below w.heap.size w w' := by
  obtain ⟨W, rfl⟩ := w32_word w0
  obtain ⟨l1, u1⟩ := i64_bounds w1
  obtain ⟨l2, u2⟩ := i64_bounds w2
  obtain ⟨l3, u3⟩ := i64_bounds w3
  obtain ⟨l4, u4⟩ := i64_bounds w4
  obtain ⟨l5, u5⟩ := i64_bounds w5
  clear w0 w1 w2 w3 w4 w5
  by_cases hb : 0 ≤ a1 ∧ 0 ≤ a3 ∧ 0 ≤ a2 ∧ a1 ≤ 32 ∧ a3 ≤ 32 ∧ a2 ≤ 32 ∧ a1 + a3 + a2 ≤ 32
  · obtain ⟨b1, b2, b3, b4, b5, b6, b7⟩ := hb
    obtain ⟨n, rfl⟩ := Int.eq_ofNat_of_zero_le b1
    obtain ⟨m, rfl⟩ := Int.eq_ofNat_of_zero_le b2
    obtain ⟨g, rfl⟩ := Int.eq_ofNat_of_zero_le b3
    have e1 : ca 0 = 0 := rfl
    have e2 : cn 0 n = n := by unfold cn; omega
    have e3 : ca ((n : Int) + g) = n + g := by unfold ca; omega
    have e4 : cn ((n : Int) + g) m = m := by unfold cn; omega
    have e5 : ca (n : Int) = n := by unfold ca; omega
    have e6 : cn (n : Int) g = g := by unfold cn; omega
    have P1 : ∀ (X : BitVec 32) (w : World), Calls Try.prog 16 #[.int .u32 X.toNat, .int .i64 0, .int .i64 n, .int .i64 a4] w fun e w' => e = .returned (.int .u32 (put X 0 n (BitVec.ofInt 32 a4)).toNat) ∧ w = w' := fun X w => by
      have := put_any X.toNat X 0 n a4 w rfl (by omega) (by omega) (by omega) (by omega)
      rwa [e1, e2] at this
    have P2 : ∀ (X : BitVec 32) (w : World), Calls Try.prog 16 #[.int .u32 X.toNat, .int .i64 ((n : Int) + g), .int .i64 m, .int .i64 a5] w fun e w' => e = .returned (.int .u32 (put X (n + g) m (BitVec.ofInt 32 a5)).toNat) ∧ w = w' := fun X w => by
      have := put_any X.toNat X ((n : Int) + g) m a5 w rfl (by omega) (by omega) (by omega) (by omega)
      rwa [e3, e4] at this
    have G1 : ∀ (X : BitVec 32) (w : World), Calls Try.prog 17 #[.int .u32 X.toNat, .int .i64 n, .int .i64 g] w fun e w' => e = .returned (.int .u32 (get X n g).toNat) ∧ ∃ n, w' = w.drewN n := fun X w => by
      have := get_any X.toNat X n g w rfl (by omega) (by omega) (by omega) (by omega)
      rwa [e5, e6] at this
    have q1 := put_comm W n g m (BitVec.ofInt 32 a4) (BitVec.ofInt 32 a5)
    have q2 := get_gap W n g m (BitVec.ofInt 32 a4) (BitVec.ofInt 32 a5) (by omega)
    have HP1 := Lib.hid P1; clear P1
    have HP2 := Lib.hid P2; clear P2
    have HG1 := Lib.hid G1; clear G1
    have Q1 := Lib.hid q1; clear q1
    have Q2 := Lib.hid q2; clear q2
    clear e1 e2 e3 e4 e5 e6
    go_enter Try.func3, Try.ntmps3
    go_wp2_with (go_at_call 15; refine (alive_any _).mono ?_; rintro e w' ⟨rfl, m1, rfl⟩)
    refine (HP1.out _ _).mono ?_
    rintro e w' ⟨rfl, rfl⟩
    go_wp2_with fail
    refine (HP2.out _ _).mono ?_
    rintro e w' ⟨rfl, rfl⟩
    go_wp2_with fail
    refine (HP2.out _ _).mono ?_
    rintro e w' ⟨rfl, rfl⟩
    go_wp2_with fail
    refine (HP1.out _ _).mono ?_
    rintro e w' ⟨rfl, rfl⟩
    rw [← Q1.out]
    go_wp2_with fail
    refine (HG1.out _ _).mono ?_
    rintro e w' ⟨rfl, m2, rfl⟩
    go_wp2_with fail
    refine (HG1.out _ _).mono ?_
    rintro e w' ⟨rfl, m3, rfl⟩
    rw [Q2.out]
    go_wp2_with fail
    go_ret
    exact ⟨rfl, below_drewN _ _⟩
  · obtain h | ⟨_, h⟩ | ⟨_, _, h⟩ | ⟨_, _, _, h⟩ | ⟨_, _, _, _, h⟩ | ⟨_, _, _, _, _, h⟩ | ⟨_, _, _, _, _, _, h⟩ : a1 < 0 ∨ (0 ≤ a1 ∧ a3 < 0) ∨ (0 ≤ a1 ∧ 0 ≤ a3 ∧ a2 < 0) ∨ (0 ≤ a1 ∧ 0 ≤ a3 ∧ 0 ≤ a2 ∧ 32 < a1) ∨ (0 ≤ a1 ∧ 0 ≤ a3 ∧ 0 ≤ a2 ∧ a1 ≤ 32 ∧ 32 < a3) ∨ (0 ≤ a1 ∧ 0 ≤ a3 ∧ 0 ≤ a2 ∧ a1 ≤ 32 ∧ a3 ≤ 32 ∧ 32 < a2) ∨ (0 ≤ a1 ∧ 0 ≤ a3 ∧ 0 ≤ a2 ∧ a1 ≤ 32 ∧ a3 ≤ 32 ∧ a2 ≤ 32 ∧ 32 < a1 + a3 + a2) := by omega
    all_goals clear hb
    all_goals
      go_enter Try.func3, Try.ntmps3
      go_wp2_with (go_at_call 15; refine (alive_any _).mono ?_; rintro e w' ⟨rfl, m1, rfl⟩)
      go_ret
      exact ⟨rfl, below_drewN _ _⟩
end Go.Proofs.Ytgadjmojebhlgaa.FldL
