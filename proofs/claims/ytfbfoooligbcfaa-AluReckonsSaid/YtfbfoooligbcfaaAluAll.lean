/-
  WALK: package alu: Step, of any instruction.
-/
import Derived.Test.YtfbfoooligbcfaaAluTop3
namespace Go.Proofs.Ytfbfoooligbcfaa.AluA
set_option linter.unusedVariables false
set_option linter.unusedSimpArgs false
open Go.RowKit Cm Mm Ow A64 Fld FldW A64W A64P A64C A64T A64R A64E Alu AluG AluS AluO AluK AluP AluQ AluE

theorem fits_bd {v : Int} {n : Nat} (h : fits v n = true) : 0 ≤ v ∧ v < 2 ^ n := of_decide_eq_true h
/-- what stands in an instruction that writes a register -/
theorem right_low {i : In} (h : right i = true) (hk : i.kind ≤ 7) : 0 ≤ i.s ∧ i.s < 4 ∧ 0 ≤ i.n ∧ i.n < 65536 := by
  obtain ⟨k, hk24, hkk, hf⟩ := right_kind h
  have hk8 : k < 8 := by omega
  simp only [rightF, Bool.and_eq_true] at hf
  obtain ⟨⟨⟨⟨⟨_, _⟩, _⟩, hs⟩, hn⟩, _⟩ := hf
  have hs := fits_bd hs
  have e : k = 0 ∨ k = 1 ∨ k = 2 ∨ k = 3 ∨ k = 4 ∨ k = 5 ∨ k = 6 ∨ k = 7 := by omega
  rcases e with rfl | rfl | rfl | rfl | rfl | rfl | rfl | rfl
  all_goals
    simp [fitN, form, table] at hn
    have hn := fits_bd hn
    simp [form, table] at hs
    omega

theorem step_any (r : Rg) (i : In) (w : World) (ok : okR r) (hi : okIn i) :
    Calls Try.prog 23 #[.agg (rgA r), .agg #[.int .i64 i.kind, .int .i64 i.d, .int .i64 i.a, .int .i64 i.b, .int .i64 i.s, .int .i64 i.c, .int .i64 i.n]] w fun e w' => e = .returned (.tuple #[.agg (rgA (Alu.step r i).1), .int .i64 (Alu.step r i).2.1, .bool (Alu.step r i).2.2]) ∧ Below w.heap.size w w' := by
  obtain ⟨kd, d, a, b, s, c, n⟩ := i
  cases hr : right ⟨kd, d, a, b, s, c, n⟩
  · have e : Alu.step r ⟨kd, d, a, b, s, c, n⟩ = (r, 0, false) := by simp [Alu.step, inAlu, hr]
    rw [e]
    exact stepA r kd d a b s c n w ok hi hr
  by_cases h21 : kd = 21
  · subst h21
    have e : Alu.step r ⟨21, d, a, b, s, c, n⟩ = (r, 1, true) := by simp [Alu.step, inAlu, hr]
    rw [e]
    exact stepB r d a b s c n w ok hi hr
  by_cases h11 : 11 < kd
  · have e : Alu.step r ⟨kd, d, a, b, s, c, n⟩ = (r, 0, false) := by
      simp only [Alu.step, inAlu, hr, Bool.true_and]
      rw [if_pos (by simp; omega)]
    rw [e]
    exact stepA2 r kd d a b s c n w ok hi hr (by simpa using h11) (by simpa using h21) (by simpa using h21)
  have hin : inAlu ⟨kd, d, a, b, s, c, n⟩ = true := by simp only [inAlu, hr, Bool.true_and]; simp; omega
  cases hj : jumps r ⟨kd, d, a, b, s, c, n⟩
  · by_cases h8 : 8 ≤ kd
    · have e : Alu.step r ⟨kd, d, a, b, s, c, n⟩ = (r, 1, true) := by simp [Alu.step, hin, h21, hj, h8]
      rw [e]
      exact stepD r kd d a b s c n w ok hi hr (by simp; omega) (by simpa using h21) hj (by simpa using h8)
    · by_cases h6 : kd = 6
      · subst h6
        have e : Alu.step r ⟨6, d, a, b, s, c, n⟩ = ({ r with l := reg r a, r := reg r b }, 1, true) := by simp [Alu.step, hin, hj]
        rw [e]
        exact stepE r d a b s c n w ok hi hr
      · have e : Alu.step r ⟨kd, d, a, b, s, c, n⟩ = (setReg r d (reckon r ⟨kd, d, a, b, s, c, n⟩), 1, true) := by simp [Alu.step, hin, h21, hj, h8, h6]
        rw [e]
        obtain ⟨b1, b2, b3, b4⟩ := right_low hr (show kd ≤ 7 by omega)
        exact stepF r kd d a b s c n w ok hi hr (by simp; omega) (by simpa using h21) hj (by simp; omega) (by simpa using h6) b1 b2 b3 b4
  · have e : Alu.step r ⟨kd, d, a, b, s, c, n⟩ = (r, n, true) := by simp [Alu.step, hin, h21, hj]
    rw [e]
    exact stepC r kd d a b s c n w ok hi hr (by simp; omega) (by simpa using h21) hj
end Go.Proofs.Ytfbfoooligbcfaa.AluA
