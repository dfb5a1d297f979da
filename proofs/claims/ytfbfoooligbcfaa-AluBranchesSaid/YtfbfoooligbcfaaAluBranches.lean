/-
  WALK: the law AluBranches.
-/
import Derived.Test.YtfbfoooligbcfaaAluLaws
namespace Go.Proofs.Ytfbfoooligbcfaa.AluLB
set_option linter.unusedVariables false
set_option linter.unusedSimpArgs false
open Go.RowKit Go.WideShapes Go.ChangeShapes Cm Mm Ow A64 Fld FldW FldR A64W A64P A64C A64T A64R A64E A64F A64Q A64D A64L Alu AluG AluS AluO AluK AluP AluQ AluE AluA AluR AluR0 AluR1 AluRA AluV AluL
attribute [local go_sem ↓] Go.wp_at_zero Go.wp_at_succ exec_load_regs exec_store_regs
attribute [local go_sem] zeros_eq
attribute [-go_sem] run_equalIn_agg


theorem reg_set (r : Rg) (n : Int) (v : BitVec 64) (ok : okR r) (h : 0 ≤ n ∧ n < 31) : reg (setReg r n v) n = v := by
  unfold setReg reg okR at *
  rw [if_pos h, if_pos h]
  have : n.toNat < r.x.length := by omega
  simp [List.getD, List.getElem?_set, this]
theorem right_jump (k a by' : Int) (h : k = 8 ∧ a = 0 ∨ (k = 10 ∨ k = 11) ∧ a = 4) (hb : -1000 ≤ by' ∧ by' ≤ 1000) : right ⟨k, 0, a, 0, 0, 0, by'⟩ = true := by
  rcases h with ⟨rfl, rfl⟩ | ⟨rfl | rfl, rfl⟩
  all_goals
    simp [right, rightF, fitN, fitC, form, table, fits, fitsS]
    omega
set_option maxRecDepth 20000 in
set_option maxHeartbeats 6400000 in
theorem branchesZ (v : BitVec 64) (by' : Int) (w : World) (hv : (((v.toNat : Int)) == 0) = true) (hv2 : ((v.toNat : Int) != 0) = false) (hv3 : v = 0#64) (g1 : -1000 ≤ by') (g2 : by' ≤ 1000) (g3 : by' ≠ 1) :
    Calls Try.prog 11 #[.int .u64 (v.toNat : Int), .int .i64 by'] w fun e w' => e = .returned (.bool true) ∧ Below w.heap.size w w' := by
  have okR1 : okR (setReg zeroR 4 v) := setReg_ok zero_ok _ _
  have hr4 := reg_set zeroR 4 v zero_ok (by omega)
  have CP := Lib.hid (fun w => put_any zeroR 4 v w zero_ok)
  generalize setReg zeroR 4 v = R at *
  have e1 : Alu.step R ⟨10, 0, 4, 0, 0, 0, by'⟩ = (R, by', true) := by
    have hin : inAlu ⟨10, 0, 4, 0, 0, 0, by'⟩ = true := by simp only [inAlu, right_jump 10 4 by' (by omega) ⟨g1, g2⟩]; simp
    have hj : jumps R ⟨10, 0, 4, 0, 0, 0, by'⟩ = true := by simp only [jumps, hr4]; simp [hv3]
    simp [Alu.step, hin, hj]
  have e2 : Alu.step R ⟨11, 0, 4, 0, 0, 0, by'⟩ = (R, 1, true) := by
    have hin : inAlu ⟨11, 0, 4, 0, 0, 0, by'⟩ = true := by simp only [inAlu, right_jump 11 4 by' (by omega) ⟨g1, g2⟩]; simp
    have hj : jumps R ⟨11, 0, 4, 0, 0, 0, by'⟩ = false := by simp only [jumps, hr4]; simp [hv3]
    simp [Alu.step, hin, hj]
  have e3 : Alu.step R ⟨8, 0, 0, 0, 0, 0, by'⟩ = (R, by', true) := by
    have hin : inAlu ⟨8, 0, 0, 0, 0, 0, by'⟩ = true := by simp only [inAlu, right_jump 8 0 by' (by omega) ⟨g1, g2⟩]; simp
    simp [Alu.step, hin, jumps]
  have CA := Lib.hid (fun w => step_at R ⟨10, 0, 4, 0, 0, 0, by'⟩ _ w okR1 (by unfold okIn i64b; simp only; omega) e1)
  have CB := Lib.hid (fun w => step_at R ⟨11, 0, 4, 0, 0, 0, by'⟩ _ w okR1 (by unfold okIn i64b; simp only; omega) e2)
  have CC := Lib.hid (fun w => step_at R ⟨8, 0, 0, 0, 0, 0, by'⟩ _ w okR1 (by unfold okIn i64b; simp only; omega) e3)
  have E1 := fun w => eq_regs R okR1 w
  have t1 : decide (by' < -1000) = false := by simp; omega
  have t2 : decide (1000 < by') = false := by simp; omega
  have t3 : (by' == 1) = false := by simpa using g3
  have t4 : ((1 : Int) == by') = false := by simp; omega
  have t5 : (1 + by' == by' + 1) = true := by simp; omega
  clear e1 e2 e3 hr4 hv3 g3
  go_enter Try.func11, Try.ntmps11
  go_wp2_with fail
  refine (AluL.alive_any _).mono ?_
  rintro e w1 ⟨rfl, hb1⟩
  have B1 := Lib.hid hb1
  clear hb1
  go_wp2_with fail
  refine (CP.out _).mono ?_
  rintro e w2 ⟨rfl, hb2⟩
  have B2 := Lib.hid (B1.out.trans (hb2.mono B1.out.size))
  clear hb2
  go_wp2_with (with_reducible refine wpList_store_rv rfl _ _ rfl _ zeroR R rfl rfl zero_ok okR1 (RV.new _ _) ?_; intro w3 hp3; have Y3v0 := Lib.hid hp3.has; have B3 := Lib.hid (hp3.below w.heap.size w B2.out.size (B2.out.alloc B2.out.size _)); clear hp3; obtain ⟨m0a, m0b⟩ := RV.hasV Y3v0.out okR1)
  refine (CA.out _).mono ?_
  rintro e w4 ⟨rfl, hb4⟩
  have B4 := Lib.hid (B3.out.trans (hb4.mono B3.out.size))
  have Y4v0 := Lib.hid (Y3v0.out.keep hb4)
  clear hb4 m0a m0b
  go_wp2_with (with_reducible refine wpList_store_rv rfl _ _ rfl _ zeroR R rfl rfl zero_ok okR1 (RV.new _ _) ?_; intro w5 hp5; have Y5v0 := Lib.hid (hp5.keep (Y4v0.out.keep (below_al _ _)) (Nat.ne_of_lt Y4v0.out.lt)); have Y5v1 := Lib.hid hp5.has; have B5 := Lib.hid (hp5.below w.heap.size w B4.out.size (B4.out.alloc B4.out.size _)); clear hp5; obtain ⟨m0a, m0b⟩ := RV.hasV Y5v0.out okR1; obtain ⟨m1a, m1b⟩ := RV.hasV Y5v1.out okR1)
  refine (CB.out _).mono ?_
  rintro e w6 ⟨rfl, hb6⟩
  have B6 := Lib.hid (B5.out.trans (hb6.mono B5.out.size))
  have Y6v0 := Lib.hid (Y5v0.out.keep hb6)
  have Y6v1 := Lib.hid (Y5v1.out.keep hb6)
  clear hb6 m0a m0b m1a m1b
  go_wp2_with (with_reducible refine wpList_store_rv rfl _ _ rfl _ zeroR R rfl rfl zero_ok okR1 (RV.new _ _) ?_; intro w7 hp7; have Y7v0 := Lib.hid (hp7.keep (Y6v0.out.keep (below_al _ _)) (Nat.ne_of_lt Y6v0.out.lt)); have Y7v1 := Lib.hid (hp7.keep (Y6v1.out.keep (below_al _ _)) (Nat.ne_of_lt Y6v1.out.lt)); have Y7v2 := Lib.hid hp7.has; have B7 := Lib.hid (hp7.below w.heap.size w B6.out.size (B6.out.alloc B6.out.size _)); clear hp7; obtain ⟨m0a, m0b⟩ := RV.hasV Y7v0.out okR1; obtain ⟨m1a, m1b⟩ := RV.hasV Y7v1.out okR1; obtain ⟨m2a, m2b⟩ := RV.hasV Y7v2.out okR1)
  refine (CC.out _).mono ?_
  rintro e w8 ⟨rfl, hb8⟩
  have B8 := Lib.hid (B7.out.trans (hb8.mono B7.out.size))
  have Y8v0 := Lib.hid (Y7v0.out.keep hb8)
  have Y8v1 := Lib.hid (Y7v1.out.keep hb8)
  have Y8v2 := Lib.hid (Y7v2.out.keep hb8)
  clear hb8 m0a m0b m1a m1b m2a m2b
  go_wp2_with (with_reducible refine wpList_store_rv rfl _ _ rfl _ zeroR R rfl rfl zero_ok okR1 (RV.new _ _) ?_; intro w9 hp9; have Y9v0 := Lib.hid (hp9.keep (Y8v0.out.keep (below_al _ _)) (Nat.ne_of_lt Y8v0.out.lt)); have Y9v1 := Lib.hid (hp9.keep (Y8v1.out.keep (below_al _ _)) (Nat.ne_of_lt Y8v1.out.lt)); have Y9v2 := Lib.hid (hp9.keep (Y8v2.out.keep (below_al _ _)) (Nat.ne_of_lt Y8v2.out.lt)); have Y9v3 := Lib.hid hp9.has; have B9 := Lib.hid (hp9.below w.heap.size w B8.out.size (B8.out.alloc B8.out.size _)); clear hp9; obtain ⟨m0a, m0b⟩ := RV.hasV Y9v0.out okR1; obtain ⟨m1a, m1b⟩ := RV.hasV Y9v1.out okR1; obtain ⟨m2a, m2b⟩ := RV.hasV Y9v2.out okR1; obtain ⟨m3a, m3b⟩ := RV.hasV Y9v3.out okR1)
  go_ret
  exact ⟨rfl, B9.out⟩
set_option maxRecDepth 20000 in
set_option maxHeartbeats 6400000 in
theorem branchesN (v : BitVec 64) (by' : Int) (w : World) (hv : (((v.toNat : Int)) == 0) = false) (hv2 : ((v.toNat : Int) != 0) = true) (hv3 : ¬ v = 0#64) (g1 : -1000 ≤ by') (g2 : by' ≤ 1000) (g3 : by' ≠ 1) :
    Calls Try.prog 11 #[.int .u64 (v.toNat : Int), .int .i64 by'] w fun e w' => e = .returned (.bool true) ∧ Below w.heap.size w w' := by
  have okR1 : okR (setReg zeroR 4 v) := setReg_ok zero_ok _ _
  have hr4 := reg_set zeroR 4 v zero_ok (by omega)
  have CP := Lib.hid (fun w => put_any zeroR 4 v w zero_ok)
  generalize setReg zeroR 4 v = R at *
  have e1 : Alu.step R ⟨10, 0, 4, 0, 0, 0, by'⟩ = (R, 1, true) := by
    have hin : inAlu ⟨10, 0, 4, 0, 0, 0, by'⟩ = true := by simp only [inAlu, right_jump 10 4 by' (by omega) ⟨g1, g2⟩]; simp
    have hj : jumps R ⟨10, 0, 4, 0, 0, 0, by'⟩ = false := by simp only [jumps, hr4]; simp [hv3]
    simp [Alu.step, hin, hj]
  have e2 : Alu.step R ⟨11, 0, 4, 0, 0, 0, by'⟩ = (R, by', true) := by
    have hin : inAlu ⟨11, 0, 4, 0, 0, 0, by'⟩ = true := by simp only [inAlu, right_jump 11 4 by' (by omega) ⟨g1, g2⟩]; simp
    have hj : jumps R ⟨11, 0, 4, 0, 0, 0, by'⟩ = true := by simp only [jumps, hr4]; simp [hv3]
    simp [Alu.step, hin, hj]
  have e3 : Alu.step R ⟨8, 0, 0, 0, 0, 0, by'⟩ = (R, by', true) := by
    have hin : inAlu ⟨8, 0, 0, 0, 0, 0, by'⟩ = true := by simp only [inAlu, right_jump 8 0 by' (by omega) ⟨g1, g2⟩]; simp
    simp [Alu.step, hin, jumps]
  have CA := Lib.hid (fun w => step_at R ⟨10, 0, 4, 0, 0, 0, by'⟩ _ w okR1 (by unfold okIn i64b; simp only; omega) e1)
  have CB := Lib.hid (fun w => step_at R ⟨11, 0, 4, 0, 0, 0, by'⟩ _ w okR1 (by unfold okIn i64b; simp only; omega) e2)
  have CC := Lib.hid (fun w => step_at R ⟨8, 0, 0, 0, 0, 0, by'⟩ _ w okR1 (by unfold okIn i64b; simp only; omega) e3)
  have E1 := fun w => eq_regs R okR1 w
  have t1 : decide (by' < -1000) = false := by simp; omega
  have t2 : decide (1000 < by') = false := by simp; omega
  have t3 : (by' == 1) = false := by simpa using g3
  have t4 : ((1 : Int) == by') = false := by simp; omega
  have t5 : (1 + by' == by' + 1) = true := by simp; omega
  clear e1 e2 e3 hr4 hv3 g3
  go_enter Try.func11, Try.ntmps11
  go_wp2_with fail
  refine (AluL.alive_any _).mono ?_
  rintro e w1 ⟨rfl, hb1⟩
  have B1 := Lib.hid hb1
  clear hb1
  go_wp2_with fail
  refine (CP.out _).mono ?_
  rintro e w2 ⟨rfl, hb2⟩
  have B2 := Lib.hid (B1.out.trans (hb2.mono B1.out.size))
  clear hb2
  go_wp2_with (with_reducible refine wpList_store_rv rfl _ _ rfl _ zeroR R rfl rfl zero_ok okR1 (RV.new _ _) ?_; intro w3 hp3; have Y3v0 := Lib.hid hp3.has; have B3 := Lib.hid (hp3.below w.heap.size w B2.out.size (B2.out.alloc B2.out.size _)); clear hp3; obtain ⟨m0a, m0b⟩ := RV.hasV Y3v0.out okR1)
  refine (CA.out _).mono ?_
  rintro e w4 ⟨rfl, hb4⟩
  have B4 := Lib.hid (B3.out.trans (hb4.mono B3.out.size))
  have Y4v0 := Lib.hid (Y3v0.out.keep hb4)
  clear hb4 m0a m0b
  go_wp2_with (with_reducible refine wpList_store_rv rfl _ _ rfl _ zeroR R rfl rfl zero_ok okR1 (RV.new _ _) ?_; intro w5 hp5; have Y5v0 := Lib.hid (hp5.keep (Y4v0.out.keep (below_al _ _)) (Nat.ne_of_lt Y4v0.out.lt)); have Y5v1 := Lib.hid hp5.has; have B5 := Lib.hid (hp5.below w.heap.size w B4.out.size (B4.out.alloc B4.out.size _)); clear hp5; obtain ⟨m0a, m0b⟩ := RV.hasV Y5v0.out okR1; obtain ⟨m1a, m1b⟩ := RV.hasV Y5v1.out okR1)
  refine (CB.out _).mono ?_
  rintro e w6 ⟨rfl, hb6⟩
  have B6 := Lib.hid (B5.out.trans (hb6.mono B5.out.size))
  have Y6v0 := Lib.hid (Y5v0.out.keep hb6)
  have Y6v1 := Lib.hid (Y5v1.out.keep hb6)
  clear hb6 m0a m0b m1a m1b
  go_wp2_with (with_reducible refine wpList_store_rv rfl _ _ rfl _ zeroR R rfl rfl zero_ok okR1 (RV.new _ _) ?_; intro w7 hp7; have Y7v0 := Lib.hid (hp7.keep (Y6v0.out.keep (below_al _ _)) (Nat.ne_of_lt Y6v0.out.lt)); have Y7v1 := Lib.hid (hp7.keep (Y6v1.out.keep (below_al _ _)) (Nat.ne_of_lt Y6v1.out.lt)); have Y7v2 := Lib.hid hp7.has; have B7 := Lib.hid (hp7.below w.heap.size w B6.out.size (B6.out.alloc B6.out.size _)); clear hp7; obtain ⟨m0a, m0b⟩ := RV.hasV Y7v0.out okR1; obtain ⟨m1a, m1b⟩ := RV.hasV Y7v1.out okR1; obtain ⟨m2a, m2b⟩ := RV.hasV Y7v2.out okR1)
  refine (CC.out _).mono ?_
  rintro e w8 ⟨rfl, hb8⟩
  have B8 := Lib.hid (B7.out.trans (hb8.mono B7.out.size))
  have Y8v0 := Lib.hid (Y7v0.out.keep hb8)
  have Y8v1 := Lib.hid (Y7v1.out.keep hb8)
  have Y8v2 := Lib.hid (Y7v2.out.keep hb8)
  clear hb8 m0a m0b m1a m1b m2a m2b
  go_wp2_with (with_reducible refine wpList_store_rv rfl _ _ rfl _ zeroR R rfl rfl zero_ok okR1 (RV.new _ _) ?_; intro w9 hp9; have Y9v0 := Lib.hid (hp9.keep (Y8v0.out.keep (below_al _ _)) (Nat.ne_of_lt Y8v0.out.lt)); have Y9v1 := Lib.hid (hp9.keep (Y8v1.out.keep (below_al _ _)) (Nat.ne_of_lt Y8v1.out.lt)); have Y9v2 := Lib.hid (hp9.keep (Y8v2.out.keep (below_al _ _)) (Nat.ne_of_lt Y8v2.out.lt)); have Y9v3 := Lib.hid hp9.has; have B9 := Lib.hid (hp9.below w.heap.size w B8.out.size (B8.out.alloc B8.out.size _)); clear hp9; obtain ⟨m0a, m0b⟩ := RV.hasV Y9v0.out okR1; obtain ⟨m1a, m1b⟩ := RV.hasV Y9v1.out okR1; obtain ⟨m2a, m2b⟩ := RV.hasV Y9v2.out okR1; obtain ⟨m3a, m3b⟩ := RV.hasV Y9v3.out okR1)
  go_ret
  exact ⟨rfl, B9.out⟩

set_option maxHeartbeats 3200000 in
theorem walk (u by' : Int) (w : World) (hu : (Lit.int .u64 u).wf = true) (hb : (Lit.int .i64 by').wf = true) :
    Calls Try.prog 11 #[.int .u64 u, .int .i64 by'] w fun e w' => e = .returned (.bool true) ∧ Below w.heap.size w w' := by
  obtain ⟨v, rfl⟩ := w64_word hu
  clear hu hb
  by_cases hin : -1000 ≤ by' ∧ by' ≤ 1000 ∧ by' ≠ 1
  · obtain ⟨g1, g2, g3⟩ := hin
    have hz : ((v.toNat : Int) == 0) = decide (v = 0#64) := w64_zero v
    by_cases hv : v = 0#64
    · rw [decide_eq_true hv] at hz
      exact branchesZ v by' w hz (by unfold bne; rw [hz]; rfl) hv g1 g2 g3
    · rw [decide_eq_false hv] at hz
      exact branchesN v by' w hz (by unfold bne; rw [hz]; rfl) hv g1 g2 g3
  · obtain h | ⟨h, h2⟩ | ⟨h, h2, h3⟩ : decide (by' < -1000) = true ∨ (decide (by' < -1000) = false ∧ decide (1000 < by') = true) ∨ (decide (by' < -1000) = false ∧ decide (1000 < by') = false ∧ (by' == 1) = true) := by simp; omega
    all_goals
      clear hin
      go_enter Try.func11, Try.ntmps11
      go_wp2_with fail
      refine (AluL.alive_any _).mono ?_
      rintro e w1 ⟨rfl, hb1⟩
      go_wp2_with fail
      go_ret
      exact ⟨rfl, hb1⟩
end Go.Proofs.Ytfbfoooligbcfaa.AluLB
