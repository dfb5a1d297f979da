/-
  WALKS: registers are compared with themselves.
-/
import Derived.Test.YtfbfoooligbcfaaAluRegs
import Derived.DeepKeys
namespace Go.Proofs.Ytfbfoooligbcfaa.AluV
set_option linter.unusedVariables false
set_option linter.unusedSimpArgs false
open Go.RowKit Cm Mm Ow A64 Alu AluG

theorem cells43 : Try.prog.cellsOf 43 = 1 := by kernel_rfl
theorem key43 : Try.prog.plainKey 43 = true := by kernel_rfl
theorem cells44 : Try.prog.cellsOf 44 = 31 := by kernel_rfl
theorem held46 : Try.prog.stoodInHeld 46 = false := by kernel_rfl
theorem items_refl (d : Nat) (w : World) (xs : Array Value) : ∀ is : List Nat, (∀ i ∈ is, ∃ v : Int, xs[i]? = some (.int .u64 v)) → (Op.eqItems (d + 1) 43 1 xs xs is).run Try.prog w = .ok true w
  | [], _ => rfl
  | i :: is, h => by
    obtain ⟨v, hv⟩ := h i (by simp)
    have hp := run_part_plain w key43 (off := i * 1) (by rw [Nat.mul_one]; exact hv)
    simp only [Op.eqItems, Sem.run_bind, hp, Result.andThen_ok, run_equalIn_int w d 43 .u64 .u64 v v Try.underlying43, beq_self_eq_true, Bool.not_true, Bool.false_eq_true, if_false]
    exact items_refl d w xs is fun j hj => h j (by simp [hj])
theorem eq_regs_deep (d : Nat) (r : Rg) (ok : okR r) (w : World) : (Op.equalIn (d + 1 + 1 + 1) 46 (.agg (rgA r)) (.agg (rgA r))).run Try.prog w = .ok true w := by
  obtain ⟨i43, h43⟩ := info_of_underlying Try.underlying43
  obtain ⟨i44, h44⟩ := info_of_underlying Try.underlying44
  have hu := Try.underlying46
  have e := run_equalIn_struct w (d + 1 + 1) 46 (rgA r) (rgA r) (by simp only [Program.fieldsOf, hu]) held46
  rw [e]
  clear e
  simp only [Program.fieldsOf, hu]
  have p0 : (Go.part 44 (rgA r) 0).run Try.prog w = .ok (.agg ((rgA r).extract 0 31)) w := by
    simp [Go.part, isAgg, run_underlying Try.underlying44, run_sizeOf w h44, cells44]
  have p1 := run_part_plain w key43 (xs := rgA r) (off := 31) (v := .int .u64 (r.l.toNat : Int)) (by simpa [rgA] using rgL_l ok)
  have p2 := run_part_plain w key43 (xs := rgA r) (off := 32) (v := .int .u64 (r.r.toNat : Int)) (by simpa [rgA] using rgL_r ok)
  have hi : ∀ i ∈ List.range 31, ∃ v : Int, ((rgA r).extract 0 31)[i]? = some (.int .u64 v) := fun i hi => by
    have hi : i < 31 := List.mem_range.1 hi
    refine ⟨((reg r i).toNat : Int), ?_⟩
    have h := rgL_reg ok hi
    have hs := rgA_size ok
    have h' : (rgA r)[i]? = some (.int .u64 ((reg r i).toNat : Int)) := by unfold rgA; simpa using h
    rw [Array.getElem?_extract, if_pos (by omega), Nat.zero_add]
    exact h'
  have ei := items_refl d w ((rgA r).extract 0 31) (List.range 31) hi
  have ea := run_equalIn_array w (d + 1) (n := 31) (e := 43) ((rgA r).extract 0 31) ((rgA r).extract 0 31) Try.underlying44 h43
  rw [cells43, ei] at ea
  have q1 := run_equalIn_int w (d + 1) 43 .u64 .u64 (r.l.toNat : Int) (r.l.toNat : Int) Try.underlying43
  have q2 := run_equalIn_int w (d + 1) 43 .u64 .u64 (r.r.toNat : Int) (r.r.toNat : Int) Try.underlying43
  rw [beq_self_eq_true] at q1 q2
  generalize rgA r = A at *
  clear ei hi h43 h44
  show (Op.eqFields (d + 1 + 1) A A [_, _, _]).run _ _ = _
  have n1 : ¬ ("X" : String) = "_" := by decide
  have n2 : ¬ ("L" : String) = "_" := by decide
  have n3 : ¬ ("R" : String) = "_" := by decide
  rw [Op.eqFields, if_pos n1, Sem.run_bind, p0, Result.andThen_ok, Sem.run_bind, p0, Result.andThen_ok, Sem.run_bind, ea, Result.andThen_ok, if_neg (by decide)]
  rw [Op.eqFields, if_pos n2, Sem.run_bind, p1, Result.andThen_ok, Sem.run_bind, p1, Result.andThen_ok, Sem.run_bind, q1, Result.andThen_ok, if_neg (by decide)]
  rw [Op.eqFields, if_pos n3, Sem.run_bind, p2, Result.andThen_ok, Sem.run_bind, p2, Result.andThen_ok, Sem.run_bind, q2, Result.andThen_ok, if_neg (by decide)]
  rw [Op.eqFields, Sem.run_pure]
theorem eq_regs (r : Rg) (ok : okR r) (w : World) : (Op.equalIn 10000 46 (.agg (rgA r)) (.agg (rgA r))).run Try.prog w = .ok true w := eq_regs_deep 9997 r ok w
end Go.Proofs.Ytfbfoooligbcfaa.AluV
