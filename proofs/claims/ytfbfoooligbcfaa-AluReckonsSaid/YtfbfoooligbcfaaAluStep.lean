/-
  WALKS: package alu: jumps and reckon.
-/
import Derived.Test.YtfbfoooligbcfaaAluRegs
import Derived.Test.YtfbfoooligbcfaaA64Enc
import Derived.Deep.DrawnRows
namespace Go.Proofs.Ytfbfoooligbcfaa.AluS
set_option linter.unusedVariables false
set_option linter.unusedSimpArgs false
open Go.RowKit Cm Mm Ow A64 Fld FldW A64W A64P A64C A64T A64R A64E Alu AluG
attribute [local go_sem ↓] Go.wp_at_zero Go.wp_at_succ

/-- the variables of registers and of an instruction -/
def duo (w : World) (r : Rg) (i : In) : World := (w.alloc (.cells (rgA r) 46)).alloc (.cells #[.int .i64 i.kind, .int .i64 i.d, .int .i64 i.a, .int .i64 i.b, .int .i64 i.s, .int .i64 i.c, .int .i64 i.n] 23)
theorem duo_has (w : World) (r : Rg) (i : In) : RV (duo w r i) w.heap.size r ∧ Vi (duo w r i) (w.heap.size + 1) i ∧ Below w.heap.size w (duo w r i) := by
  have e : (w.alloc (.cells (rgA r) 46)).heap.size = w.heap.size + 1 := by simp
  exact ⟨(RV.new w r).keep ((Below.refl _ _).alloc (Nat.le_refl _) _), vi_new _ _ _ _ e, ((Below.refl _ _).alloc (Nat.le_refl _) _).alloc (by simp) _⟩

set_option maxHeartbeats 1600000 in
theorem jumps_any (r : Rg) (kd d a b s c n : Int) (w : World) (ok : okR r) :
    Calls Try.prog 41 #[.agg (rgA r), .agg #[.int .i64 kd, .int .i64 d, .int .i64 a, .int .i64 b, .int .i64 s, .int .i64 c, .int .i64 n]] w fun e w' => e = .returned (.bool (jumps r ⟨kd, d, a, b, s, c, n⟩)) ∧ Below w.heap.size w w' := by
  obtain ⟨h1, h2, hb⟩ := duo_has w r ⟨kd, d, a, b, s, c, n⟩
  have HH := Lib.hid (fun w => holds_any r c w ok)
  have HG := Lib.hid (fun w => get_any r a w ok)
  by_cases hc : kd = 8 ∨ kd = 9 ∨ kd = 10 ∨ kd = 11
  · rcases hc with rfl | rfl | rfl | rfl
    all_goals
      obtain ⟨c0, c1, c2, c3, c4, c5, c6⟩ := h2.cells
      go_enter Try.func41, Try.ntmps41
      go_upto_region 1 with (fail)
      rw [show World.alloc (World.alloc w _) _ = duo w r ⟨_, d, a, b, s, c, n⟩ from rfl]
      generalize duo w r ⟨_, d, a, b, s, c, n⟩ = W at *
      go_wp2_with ((first
        | (with_reducible refine wpList_load_rv rfl _ rfl _ rfl _ ok h1 ?_)
        | ((with_reducible refine wpList_load_rvg ?_ _ rfl _ rfl _ ok h1 ?_); · rfl)
        | ((with_reducible refine (HH.out _).mono ?_); rintro e w' ⟨rfl, hb2⟩)
        | ((with_reducible refine (HG.out _).mono ?_); rintro e w' ⟨rfl, hb2⟩)))
      go_ret
      first
        | exact ⟨retb (by simp [jumps, w64_zero, bne]), hb.trans (hb2.mono hb.size)⟩
        | exact ⟨rfl, hb⟩
  · have hr : jumps r ⟨kd, d, a, b, s, c, n⟩ = false := by unfold jumps; simp only; rw [if_neg (by omega), if_neg (by omega), if_neg (by omega)]; simp; omega
    have HR := Lib.hid hr
    have d0 : (kd == 8) = false := by simp; omega
    have d1 : (kd == 9) = false := by simp; omega
    have d2 : (kd == 10) = false := by simp; omega
    have d3 : (kd == 11) = false := by simp; omega
    obtain ⟨c0, c1, c2, c3, c4, c5, c6⟩ := h2.cells
    clear hr hc
    go_enter Try.func41, Try.ntmps41
    go_wp2
    go_ret
    exact ⟨by rw [HR.out]; rfl, hb⟩
end Go.Proofs.Ytfbfoooligbcfaa.AluS
