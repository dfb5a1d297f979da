/-
  WALKS: the laws AluOthers, AluNothing and AluBranches.
-/
import Derived.Test.YtfbfoooligbcfaaAluLaws
namespace Go.Proofs.Ytfbfoooligbcfaa.AluLO
set_option linter.unusedVariables false
set_option linter.unusedSimpArgs false
open Go.RowKit Go.WideShapes Go.ChangeShapes Cm Mm Ow A64 Fld FldW FldR A64W A64P A64C A64T A64R A64E A64F A64Q A64D A64L Alu AluG AluS AluO AluK AluP AluQ AluE AluA AluR AluR0 AluR1 AluRA AluV AluL
attribute [local go_sem ↓] Go.wp_at_zero Go.wp_at_succ exec_load_regs exec_store_regs
attribute [local go_sem] zeros_eq
attribute [-go_sem] run_equalIn_agg


theorem step_other (r : Rg) (k : Int) (h : 11 < k) (h' : k ≠ 21) : Alu.step r ⟨k, 0, 0, 0, 0, 0, 0⟩ = (r, 0, false) := by
  simp only [Alu.step, inAlu]
  rw [if_pos (by simp; intro; omega)]
theorem set31 (r : Rg) (v : BitVec 64) : setReg r 31 v = r := by unfold setReg; rw [if_neg (by omega)]
theorem reg31 (r : Rg) : reg r 31 = 0#64 := by unfold reg; rw [if_neg (by omega)]; rfl
set_option maxRecDepth 20000 in
set_option maxHeartbeats 6400000 in
theorem walkOthers {H : Type} {enc : TypeId × Value → H} {d0 : DataW H} {P0 : List MemPlace} {rc : Reach} {b0 : Nat} (v0 : Value) (k : Int) (w : World)
    (k0 : DataW.Trod enc Try.prog w 0 (fun _ => true) true 46 v0 d0 P0) (ok0 : Value.okWide Try.prog w rc b0 46 v0) (hk : (Lit.int .i64 k).wf = true) :
    Calls Try.prog 13 #[v0, .int .i64 k] w fun e w' => e = .returned (.bool true) ∧ Below w.heap.size w w' := by
  obtain ⟨r, rfl, ok⟩ := open_regs k0 ok0
  have hk := i64_bounds hk
  clear k0 ok0
  have HR := Lib.hid (RV.new w r)
  have HB := Lib.hid ((Below.refl w.heap.size w).alloc (Nat.le_refl _) (.cells (rgA r) 46))
  have E1 := fun w => eq_regs r ok w
  by_cases hin : 12 ≤ k ∧ k ≤ 23 ∧ k ≠ 21
  · obtain ⟨g1, g2, g3⟩ := hin
    have C1 := Lib.hid (fun w => step_at r ⟨k, 0, 0, 0, 0, 0, 0⟩ (r, 0, false) w ok (by unfold okIn i64b; simp only; omega) (step_other r k (by omega) g3))
    have t1 : decide (k < 12) = false := by simp; omega
    have t2 : decide (23 < k) = false := by simp; omega
    have t3 : (k == 21) = false := by simpa using g3
    clear g1 g2 g3 hk
    go_enter Try.func13, Try.ntmps13
    go_upto_region 1 with (fail)
    generalize w.alloc (.cells (rgA r) 46) = W at *
    go_wp2_with fail
    refine (AluL.alive_any _).mono ?_
    rintro e w1 ⟨rfl, hb1⟩
    have B1 := Lib.hid (HB.out.trans (hb1.mono HB.out.size))
    have R1 := Lib.hid (HR.out.keep hb1)
    clear hb1
    obtain ⟨m1, m2⟩ := RV.hasV R1.out ok
    go_wp2_with fail
    refine (C1.out _).mono ?_
    rintro e w2 ⟨rfl, hb2⟩
    have B2 := Lib.hid (B1.out.trans (hb2.mono B1.out.size))
    have R2 := Lib.hid (R1.out.keep hb2)
    clear hb2 m1 m2
    go_wp2_with (with_reducible refine wpList_store_rv rfl _ _ rfl _ zeroR r rfl rfl zero_ok ok (RV.new _ _) ?_; intro w3 hp3; have R3 := Lib.hid (hp3.keep (R2.out.keep (below_al _ _)) (Nat.ne_of_lt R2.out.lt)); have X3 := Lib.hid hp3.has; have B3 := Lib.hid (hp3.below w.heap.size w B2.out.size (B2.out.alloc B2.out.size _)); clear hp3; obtain ⟨m1, m2⟩ := RV.hasV R3.out ok; obtain ⟨n1, n2⟩ := RV.hasV X3.out ok)
    go_ret
    exact ⟨rfl, B3.out⟩
  · obtain h | ⟨h, h2⟩ | ⟨h, h2, h3⟩ : decide (k < 12) = true ∨ (decide (k < 12) = false ∧ decide (23 < k) = true) ∨ (decide (k < 12) = false ∧ decide (23 < k) = false ∧ (k == 21) = true) := by simp; omega
    all_goals
      clear hin hk
      go_enter Try.func13, Try.ntmps13
      go_upto_region 1 with (fail)
      generalize w.alloc (.cells (rgA r) 46) = W at *
      go_wp2_with fail
      refine (AluL.alive_any _).mono ?_
      rintro e w1 ⟨rfl, hb1⟩
      have B1 := Lib.hid (HB.out.trans (hb1.mono HB.out.size))
      go_wp2_with fail
      go_ret
      exact ⟨rfl, B1.out⟩

abbrev SN2 (w : World) (p x : Nat) (r : Rg) (w' : World) : Prop := (HasV w' (.pointer (some ⟨p, 0, none⟩)) ∧ cellsV w' (.pointer (some ⟨p, 0, none⟩)) = rgA r ∧ HasV w' (.pointer (some ⟨x, 0, none⟩)) ∧ cellsV w' (.pointer (some ⟨x, 0, none⟩)) = rgA r) ∧ RV w' p r ∧ RV w' x r ∧ Below w.heap.size w w'
theorem SN2.init {w w' : World} {p x : Nat} {r : Rg} (ok : okR r) (h : RV w' p r) (h1 : RV w' x r) (hb : Below w.heap.size w w') : SN2 w p x r w' := by
  obtain ⟨a1, a2⟩ := RV.hasV h ok
  obtain ⟨b1, b2⟩ := RV.hasV h1 ok
  exact ⟨⟨a1, a2, b1, b2⟩, h, h1, hb⟩
theorem SN2.keep {w w' w2 : World} {p x : Nat} {r : Rg} (ok : okR r) (h : SN2 w p x r w') (hb : Below w'.heap.size w' w2) : SN2 w p x r w2 := by
  obtain ⟨_, h1, h2, hz⟩ := h
  exact SN2.init ok (h1.keep hb) (h2.keep hb) (hz.trans (hb.mono hz.size))
theorem SN2.drew {w w' : World} {p x : Nat} {r : Rg} (ok : okR r) (h : SN2 w p x r w') : SN2 w p x r w'.drew := h.keep ok ((Below.refl _ _).drew)
theorem getN_31 (w : World) (x : Nat) (r : Rg) (w1 : World) (C : ∀ w, Calls Try.prog 25 #[.agg (rgA r), .int .i64 31] w fun e w' => e = .returned (.int .u64 ((0#64).toNat : Int)) ∧ Below w.heap.size w w') (ok : okR r) (h : SN2 w w.heap.size x r w1) :
    Calls Try.prog 25 #[.agg (rgA r), .int .i64 31] w1 fun e w' => e = .returned (.int .u64 0) ∧ SN2 w w.heap.size x r w' :=
  (C w1).mono fun e w' ⟨h1, h2⟩ => ⟨h1, h.keep ok h2⟩
theorem putN_31 (w : World) (x : Nat) (r : Rg) (w1 : World) (C : ∀ w, Calls Try.prog 27 #[.agg (rgA r), .int .i64 31, .int .u64 ((7#64).toNat : Int)] w fun e w' => e = .returned (.agg (rgA r)) ∧ Below w.heap.size w w') (ok : okR r) (h : SN2 w w.heap.size x r w1) :
    Calls Try.prog 27 #[.agg (rgA r), .int .i64 31, .int .u64 7] w1 fun e w' => e = .returned (.agg (rgA r)) ∧ SN2 w w.heap.size x r w' :=
  (C w1).mono fun e w' ⟨h1, h2⟩ => ⟨h1, h.keep ok h2⟩

theorem right_none (k a b n : Int) (hk : 0 ≤ k ∧ k ≤ 5) (ha : 0 ≤ a ∧ a ≤ 31) (hb : 0 ≤ b ∧ b ≤ 31) (hn : 0 ≤ n ∧ n ≤ 65535) : (k ≤ 1 → right ⟨k, 31, 0, 0, 0, 0, n⟩ = true) ∧ (2 ≤ k → right ⟨k, 31, a, b, 0, 0, 0⟩ = true) := by
  have hk : k = 0 ∨ k = 1 ∨ k = 2 ∨ k = 3 ∨ k = 4 ∨ k = 5 := by omega
  rcases hk with rfl | rfl | rfl | rfl | rfl | rfl
  all_goals
    refine ⟨fun h => ?_, fun h => ?_⟩
    all_goals first | omega | (simp [right, rightF, fitN, fitC, form, table, fits]; omega) | (simp [right, rightF, fitN, fitC, form, table, fits]; done)
theorem step_none (r : Rg) (i : In) (h : right i = true) (hk : i.kind ≤ 5) (hd : i.d = 31) : Alu.step r i = (r, 1, true) := by
  obtain ⟨k, d, a, b, s, c, n⟩ := i
  simp only at hd hk
  subst hd
  have hj : jumps r ⟨k, 31, a, b, s, c, n⟩ = false := by unfold jumps; simp only; rw [if_neg (by omega), if_neg (by omega), if_neg (by omega)]; simp; omega
  have hin : inAlu ⟨k, 31, a, b, s, c, n⟩ = true := by simp only [inAlu, h, Bool.true_and]; simp; omega
  simp only [Alu.step, hin, hj]
  rw [if_neg (by simp), if_neg (by omega), if_neg (by simp), if_neg (by omega), if_neg (by omega), set31]
set_option maxRecDepth 20000 in
set_option maxHeartbeats 12800000 in
theorem walkNothing {H : Type} {enc : TypeId × Value → H} {d0 : DataW H} {P0 : List MemPlace} {rc : Reach} {b0 : Nat} (v0 : Value) (k a b n : Int) (w : World)
    (k0 : DataW.Trod enc Try.prog w 0 (fun _ => true) true 46 v0 d0 P0) (ok0 : Value.okWide Try.prog w rc b0 46 v0) (hk : (Lit.int .i64 k).wf = true) (ha : (Lit.int .i64 a).wf = true) (hb : (Lit.int .i64 b).wf = true) (hn : (Lit.int .i64 n).wf = true) :
    Calls Try.prog 12 #[v0, .int .i64 k, .int .i64 a, .int .i64 b, .int .i64 n] w fun e w' => e = .returned (.bool true) ∧ Below w.heap.size w w' := by
  obtain ⟨r, rfl, ok⟩ := open_regs k0 ok0
  clear k0 ok0 hk ha hb hn
  have HR := Lib.hid (RV.new w r)
  have HB := Lib.hid ((Below.refl w.heap.size w).alloc (Nat.le_refl _) (.cells (rgA r) 46))
  have E1 := fun w => eq_regs r ok w
  by_cases hin : (0 ≤ k ∧ k ≤ 5) ∧ (0 ≤ a ∧ a ≤ 31) ∧ (0 ≤ b ∧ b ≤ 31) ∧ (0 ≤ n ∧ n ≤ 65535)
  · obtain ⟨g1, g2, g3, g4⟩ := hin
    obtain ⟨rt1, rt2⟩ := right_none k a b n g1 g2 g3 g4
    have hgt := fun w => get_any r 31 w ok
    rw [reg31] at hgt
    have hpt := fun w => put_any r 31 7#64 w ok
    rw [set31] at hpt
    have CG := Lib.hid hgt
    have CP := Lib.hid hpt
    clear hgt hpt
    have t1 : decide (k < 0) = false := by simp; omega
    have t2 : decide (5 < k) = false := by simp; omega
    have t3 : decide (a < 0) = false := by simp; omega
    have t4 : decide (31 < a) = false := by simp; omega
    have t5 : decide (b < 0) = false := by simp; omega
    have t6 : decide (31 < b) = false := by simp; omega
    have t7 : decide (n < 0) = false := by simp; omega
    have t8 : decide (65535 < n) = false := by simp; omega
    obtain ⟨i, hi, hC⟩ : ∃ i : In, okIn i ∧ (∀ w, Calls Try.prog 23 #[.agg (rgA r), .agg #[.int .i64 i.kind, .int .i64 i.d, .int .i64 i.a, .int .i64 i.b, .int .i64 i.s, .int .i64 i.c, .int .i64 i.n]] w fun e w' => e = .returned (.tuple #[.agg (rgA r), .int .i64 1, .bool true]) ∧ Below w.heap.size w w') ∧ i = (if k ≤ 1 then ⟨k, 31, 0, 0, 0, 0, n⟩ else ⟨k, 31, a, b, 0, 0, 0⟩) := by
      by_cases h1 : k ≤ 1
      · exact ⟨⟨k, 31, 0, 0, 0, 0, n⟩, by unfold okIn i64b; simp only; omega, fun w => step_at r ⟨k, 31, 0, 0, 0, 0, n⟩ (r, 1, true) w ok (by unfold okIn i64b; simp only; omega) (step_none r _ (rt1 h1) g1.2 rfl), by rw [if_pos h1]⟩
      · exact ⟨⟨k, 31, a, b, 0, 0, 0⟩, by unfold okIn i64b; simp only; omega, fun w => step_at r ⟨k, 31, a, b, 0, 0, 0⟩ (r, 1, true) w ok (by unfold okIn i64b; simp only; omega) (step_none r _ (rt2 (by omega)) g1.2 rfl), by rw [if_neg h1]⟩
    obtain ⟨hC, hi2⟩ := hC
    clear rt1 rt2 hi
    by_cases h1 : k ≤ 1
    all_goals
      first | rw [if_pos h1] at hi2 | rw [if_neg h1] at hi2
      subst hi2
      have CS := Lib.hid hC
      clear hC g1 g2 g3 g4
      have t9 : decide (k ≤ 1) = decide (k ≤ 1) := rfl
      go_enter Try.func12, Try.ntmps12
      go_upto_region 1 with (fail)
      generalize w.alloc (.cells (rgA r) 46) = W at *
      go_wp2_with fail
      refine (AluL.alive_any _).mono ?_
      rintro e w1 ⟨rfl, hb1⟩
      have B1 := Lib.hid (HB.out.trans (hb1.mono HB.out.size))
      have R1 := Lib.hid (HR.out.keep hb1)
      clear hb1
      have B1b := Lib.hid (B1.out.alloc B1.out.size (.cells #[.int .i64 k, .int .i64 31, .int .i64 0, .int .i64 0, .int .i64 0, .int .i64 0, .int .i64 n] 23))
      have R1b := Lib.hid (R1.out.keep (below_al _ (.cells #[.int .i64 k, .int .i64 31, .int .i64 0, .int .i64 0, .int .i64 0, .int .i64 0, .int .i64 n] 23)))
      have B1c := Lib.hid (B1.out.alloc B1.out.size (.cells #[.int .i64 k, .int .i64 31, .int .i64 a, .int .i64 b, .int .i64 0, .int .i64 0, .int .i64 0] 23))
      have R1c := Lib.hid (R1.out.keep (below_al _ (.cells #[.int .i64 k, .int .i64 31, .int .i64 a, .int .i64 b, .int .i64 0, .int .i64 0, .int .i64 0] 23)))
      obtain ⟨m1, m2⟩ := RV.hasV R1b.out ok
      obtain ⟨m3, m4⟩ := RV.hasV R1c.out ok
      go_wp2_with fail
      refine (CS.out _).mono ?_
      rintro e w2 ⟨rfl, hb2⟩
      clear m1 m2 m3 m4
      obtain ⟨R2, B2⟩ : RV w2 w.heap.size r ∧ Below w.heap.size w w2 := by
        first | exact ⟨R1b.out.keep hb2, B1b.out.trans (hb2.mono B1b.out.size)⟩ | exact ⟨R1c.out.keep hb2, B1c.out.trans (hb2.mono B1c.out.size)⟩
      have R2 := Lib.hid R2
      have B2 := Lib.hid B2
      clear hb2
      go_wp2_with (with_reducible refine wpList_store_rv rfl _ _ rfl _ zeroR r rfl rfl zero_ok ok (RV.new _ _) ?_; intro w3 hp3; have R3 := Lib.hid (hp3.keep (R2.out.keep (below_al _ _)) (Nat.ne_of_lt R2.out.lt)); have X3 := Lib.hid hp3.has; have B3 := Lib.hid (hp3.below w.heap.size w B2.out.size (B2.out.alloc B2.out.size _)); clear hp3)
      have S3 : SN2 w w.heap.size w2.heap.size r w3.drew := (SN2.init ok R3.out X3.out B3.out).drew ok
      generalize w2.heap.size = x at *
      go_region_held3 (fun w' => (HasV w' (.pointer (some ⟨w.heap.size, 0, none⟩)) ∧ cellsV w' (.pointer (some ⟨w.heap.size, 0, none⟩)) = rgA r ∧ HasV w' (.pointer (some ⟨x, 0, none⟩)) ∧ cellsV w' (.pointer (some ⟨x, 0, none⟩)) = rgA r) ∧ RV w' w.heap.size r ∧ RV w' x r ∧ Below w.heap.size w w') (with_reducible assumption)
        (first
          | (go_at_call 25; with_reducible refine (getN_31 w x r _ CG.out ok (by with_reducible assumption)).mono ?_; rintro e wx ⟨rfl, SC⟩)
          | (go_at_call 27; with_reducible refine (putN_31 w x r _ CP.out ok (by with_reducible assumption)).mono ?_; rintro e wx ⟨rfl, SC⟩))
      go_wp2_with fail
      go_ret
      exact ⟨rfl, SC.2.2.2⟩
  · obtain h0 | ⟨h0, h1⟩ | ⟨h0, h1, h2⟩ | ⟨h0, h1, h2, h3⟩ | ⟨h0, h1, h2, h3, h4⟩ | ⟨h0, h1, h2, h3, h4, h5⟩ | ⟨h0, h1, h2, h3, h4, h5, h6⟩ | ⟨h0, h1, h2, h3, h4, h5, h6, h7⟩ : (decide (k < 0) = true) ∨ (decide (k < 0) = false ∧ decide (5 < k) = true) ∨ (decide (k < 0) = false ∧ decide (5 < k) = false ∧ decide (a < 0) = true) ∨ (decide (k < 0) = false ∧ decide (5 < k) = false ∧ decide (a < 0) = false ∧ decide (31 < a) = true) ∨ (decide (k < 0) = false ∧ decide (5 < k) = false ∧ decide (a < 0) = false ∧ decide (31 < a) = false ∧ decide (b < 0) = true) ∨ (decide (k < 0) = false ∧ decide (5 < k) = false ∧ decide (a < 0) = false ∧ decide (31 < a) = false ∧ decide (b < 0) = false ∧ decide (31 < b) = true) ∨ (decide (k < 0) = false ∧ decide (5 < k) = false ∧ decide (a < 0) = false ∧ decide (31 < a) = false ∧ decide (b < 0) = false ∧ decide (31 < b) = false ∧ decide (n < 0) = true) ∨ (decide (k < 0) = false ∧ decide (5 < k) = false ∧ decide (a < 0) = false ∧ decide (31 < a) = false ∧ decide (b < 0) = false ∧ decide (31 < b) = false ∧ decide (n < 0) = false ∧ decide (65535 < n) = true) := by simp; omega
    all_goals
      clear hin
      go_enter Try.func12, Try.ntmps12
      go_upto_region 1 with (fail)
      generalize w.alloc (.cells (rgA r) 46) = W at *
      go_wp2_with fail
      refine (AluL.alive_any _).mono ?_
      rintro e w1 ⟨rfl, hb1⟩
      have B1 := Lib.hid (HB.out.trans (hb1.mono HB.out.size))
      go_wp2_with fail
      go_ret
      exact ⟨rfl, B1.out⟩
end Go.Proofs.Ytfbfoooligbcfaa.AluLO
