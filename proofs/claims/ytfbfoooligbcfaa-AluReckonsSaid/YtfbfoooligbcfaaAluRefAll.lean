/-
  WALK: the document's Alu (of any instruction).
-/
import Derived.Test.YtfbfoooligbcfaaAluRef0
import Derived.Test.YtfbfoooligbcfaaAluRef1
namespace Go.Proofs.Ytfbfoooligbcfaa.AluRA
set_option linter.unusedVariables false
set_option linter.unusedSimpArgs false
open Go.RowKit Cm Mm Ow A64 Fld FldW FldR A64W A64P A64C A64T A64R A64E A64F A64Q Alu AluG AluS AluO AluK AluP AluQ AluE AluA AluR AluR0 AluR1
attribute [local go_sem ↓] Go.wp_at_zero Go.wp_at_succ exec_load_regs exec_store_regs


theorem ralu_any (r : Rg) (i : In) (w : World) (ok : okR r) (hi : okIn i) :
    Calls Try.prog 24 #[.agg (rgA r), .agg #[.int .i64 i.kind, .int .i64 i.d, .int .i64 i.a, .int .i64 i.b, .int .i64 i.s, .int .i64 i.c, .int .i64 i.n]] w fun e w' => e = .returned (.tuple #[.agg (rgA (Alu.step r i).1), .int .i64 (Alu.step r i).2.1, .bool (Alu.step r i).2.2]) ∧ Below w.heap.size w w' := by
  obtain ⟨kd, d, a, b, s, c, n⟩ := i
  cases hr : right ⟨kd, d, a, b, s, c, n⟩
  · have e : Alu.step r ⟨kd, d, a, b, s, c, n⟩ = (r, 0, false) := by simp [Alu.step, inAlu, hr]
    rw [e]
    exact raluA r kd d a b s c n w ok hi hr
  by_cases hin : kd ≤ 11 ∨ kd = 21
  · have h0 : 0 ≤ kd := by
      have := hr
      unfold right at this
      simp only [Bool.and_eq_true, decide_eq_true_eq] at this
      exact this.1.1
    obtain ⟨s0, s1⟩ := right_s hr hin
    have hn : kd ≤ 7 → 0 ≤ n ∧ n < 65536 := fun h => ⟨(right_low hr h).2.2.1, (right_low hr h).2.2.2⟩
    have hk : kd = 0 ∨ kd = 1 ∨ kd = 2 ∨ kd = 3 ∨ kd = 4 ∨ kd = 5 ∨ kd = 6 ∨ kd = 7 ∨ kd = 8 ∨ kd = 9 ∨ kd = 10 ∨ kd = 11 ∨ kd = 21 := by omega
    rcases hk with h | h | h | h | h | h | h | h | h | h | h | h | h
    · subst h
      have e : Alu.step r ⟨0, d, a, b, s, c, n⟩ = (setReg r d (Alu.part ⟨0, d, a, b, s, c, n⟩), 1, true) := by simp [Alu.step, inAlu, hr, jumps, reckon]
      rw [e]
      exact ralu0 r d a b s c n w ok hi hr s0 s1 (hn (by omega)).1 (hn (by omega)).2
    · subst h
      have e : Alu.step r ⟨1, d, a, b, s, c, n⟩ = (setReg r d ((reg r d &&& ~~~ hole ⟨1, d, a, b, s, c, n⟩) ||| Alu.part ⟨1, d, a, b, s, c, n⟩), 1, true) := by simp [Alu.step, inAlu, hr, jumps, reckon]
      rw [e]
      exact ralu1 r d a b s c n w ok hi hr s0 s1 (hn (by omega)).1 (hn (by omega)).2 _ rfl
    · subst h
      have e : Alu.step r ⟨2, d, a, b, s, c, n⟩ = (setReg r d (reg r a + reg r b), 1, true) := by simp [Alu.step, inAlu, hr, jumps, reckon]
      rw [e]
      exact ralu2 r d a b s c n w ok hi hr s0 s1 (hn (by omega)).1 (hn (by omega)).2
    · subst h
      have e : Alu.step r ⟨3, d, a, b, s, c, n⟩ = (setReg r d (reg r a - reg r b), 1, true) := by simp [Alu.step, inAlu, hr, jumps, reckon]
      rw [e]
      exact ralu3 r d a b s c n w ok hi hr s0 s1 (hn (by omega)).1 (hn (by omega)).2
    · subst h
      have e : Alu.step r ⟨4, d, a, b, s, c, n⟩ = (setReg r d (reg r a * reg r b), 1, true) := by simp [Alu.step, inAlu, hr, jumps, reckon]
      rw [e]
      exact ralu4 r d a b s c n w ok hi hr s0 s1 (hn (by omega)).1 (hn (by omega)).2
    · subst h
      have e : Alu.step r ⟨5, d, a, b, s, c, n⟩ = (setReg r d (reg r a &&& reg r b), 1, true) := by simp [Alu.step, inAlu, hr, jumps, reckon]
      rw [e]
      exact ralu5 r d a b s c n w ok hi hr s0 s1 (hn (by omega)).1 (hn (by omega)).2
    · subst h
      have e : Alu.step r ⟨6, d, a, b, s, c, n⟩ = ({ r with l := reg r a, r := reg r b }, 1, true) := by simp [Alu.step, inAlu, hr, jumps, reckon]
      rw [e]
      exact ralu6 r d a b s c n w ok hi hr s0 s1
    · subst h
      cases hh : holds r c
      · have e : Alu.step r ⟨7, d, a, b, s, c, n⟩ = (setReg r d 0#64, 1, true) := by simp [Alu.step, inAlu, hr, jumps, reckon, hh]
        rw [e]
        exact ralu7false r d a b s c n w ok hi hr s0 s1 hh
      · have e : Alu.step r ⟨7, d, a, b, s, c, n⟩ = (setReg r d 1#64, 1, true) := by simp [Alu.step, inAlu, hr, jumps, reckon, hh]
        rw [e]
        exact ralu7true r d a b s c n w ok hi hr s0 s1 hh
    · subst h
      have e : Alu.step r ⟨8, d, a, b, s, c, n⟩ = (r, n, true) := by simp [Alu.step, inAlu, hr, jumps, reckon]
      rw [e]
      exact ralu8 r d a b s c n w ok hi hr s0 s1
    · subst h
      cases hh : holds r c
      · have e : Alu.step r ⟨9, d, a, b, s, c, n⟩ = (r, 1, true) := by simp [Alu.step, inAlu, hr, jumps, hh]
        rw [e]
        exact ralu9false r d a b s c n w ok hi hr s0 s1 hh
      · have e : Alu.step r ⟨9, d, a, b, s, c, n⟩ = (r, n, true) := by simp [Alu.step, inAlu, hr, jumps, hh]
        rw [e]
        exact ralu9true r d a b s c n w ok hi hr s0 s1 hh
    · subst h
      have hz := w64_zero (reg r a)
      by_cases hh : reg r a = 0
      · rw [decide_eq_true hh] at hz
        have e : Alu.step r ⟨10, d, a, b, s, c, n⟩ = (r, n, true) := by simp [Alu.step, inAlu, hr, jumps, hh]
        rw [e]
        exact ralu10true r d a b s c n w ok hi hr s0 s1 hz (by unfold bne; rw [hz]; rfl)
      · rw [decide_eq_false hh] at hz
        have e : Alu.step r ⟨10, d, a, b, s, c, n⟩ = (r, 1, true) := by simp [Alu.step, inAlu, hr, jumps, hh]; intro h; exact absurd h hh
        rw [e]
        exact ralu10false r d a b s c n w ok hi hr s0 s1 hz (by unfold bne; rw [hz]; rfl)
    · subst h
      have hz := w64_zero (reg r a)
      by_cases hh : reg r a = 0
      · rw [decide_eq_true hh] at hz
        have e : Alu.step r ⟨11, d, a, b, s, c, n⟩ = (r, 1, true) := by simp [Alu.step, inAlu, hr, jumps, hh]
        rw [e]
        exact ralu11true r d a b s c n w ok hi hr s0 s1 hz (by unfold bne; rw [hz]; rfl)
      · rw [decide_eq_false hh] at hz
        have e : Alu.step r ⟨11, d, a, b, s, c, n⟩ = (r, n, true) := by simp [Alu.step, inAlu, hr, jumps, hh]; intro h; exact absurd h hh
        rw [e]
        exact ralu11false r d a b s c n w ok hi hr s0 s1 hz (by unfold bne; rw [hz]; rfl)
    · subst h
      have e : Alu.step r ⟨21, d, a, b, s, c, n⟩ = (r, 1, true) := by simp [Alu.step, inAlu, hr, jumps, reckon]
      rw [e]
      exact ralu21 r d a b s c n w ok hi hr s0 s1
  · have e : Alu.step r ⟨kd, d, a, b, s, c, n⟩ = (r, 0, false) := by
      simp only [Alu.step, inAlu, hr, Bool.true_and]
      rw [if_pos (by simp; omega)]
    rw [e]
    have h21 : kd ≠ 21 := by omega
    exact raluA2 r kd d a b s c n w ok hi hr (by simp; omega) (by simpa using h21) (by simpa using h21)
end Go.Proofs.Ytfbfoooligbcfaa.AluRA
