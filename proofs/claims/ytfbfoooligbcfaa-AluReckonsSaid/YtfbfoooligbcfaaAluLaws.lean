/-
  WALKS: chapter 3: its example, and how the arguments are opened.
-/
import Derived.Test.YtfbfoooligbcfaaAluRefAll
import Derived.Test.YtfbfoooligbcfaaAluEq
import Derived.Test.YtfbfoooligbcfaaA64Laws
namespace Go.Proofs.Ytfbfoooligbcfaa.AluL
set_option linter.unusedVariables false
set_option linter.unusedSimpArgs false
open Go.RowKit Go.WideShapes Go.ChangeShapes Cm Mm Ow A64 Fld FldW FldR A64W A64P A64C A64T A64R A64E A64F A64Q A64D A64L Alu AluG AluS AluO AluK AluP AluQ AluE AluA AluR AluR0 AluR1 AluRA AluV
attribute [local go_sem ↓] Go.wp_at_zero Go.wp_at_succ exec_load_regs exec_store_regs
attribute [local go_sem] zeros_eq
attribute [-go_sem] run_equalIn_agg


theorem step_nop : Alu.step zeroR ⟨21, 0, 0, 0, 0, 0, 0⟩ = (zeroR, 1, true) := by
  have h : right ⟨21, 0, 0, 0, 0, 0, 0⟩ = true := by decide +kernel
  simp [Alu.step, inAlu, h]
theorem step_mov : Alu.step zeroR ⟨0, 2, 0, 0, 0, 0, 7⟩ = (setReg zeroR 2 7#64, 1, true) := by
  have h : right ⟨0, 2, 0, 0, 0, 0, 7⟩ = true := by decide +kernel
  have e : Alu.part ⟨0, 2, 0, 0, 0, 0, 7⟩ = 7#64 := by decide +kernel
  simp [Alu.step, inAlu, h, jumps, reckon, e]
theorem reg_mov : reg (setReg zeroR 2 7#64) 2 = 7#64 := by decide +kernel
theorem step_at (r : Rg) (i : In) (res : Rg × Int × Bool) (w : World) (ok : okR r) (hi : okIn i) (h : Alu.step r i = res) :
    Calls Try.prog 23 #[.agg (rgA r), .agg #[.int .i64 i.kind, .int .i64 i.d, .int .i64 i.a, .int .i64 i.b, .int .i64 i.s, .int .i64 i.c, .int .i64 i.n]] w fun e w' => e = .returned (.tuple #[.agg (rgA res.1), .int .i64 res.2.1, .bool res.2.2]) ∧ Below w.heap.size w w' := by
  subst h
  exact step_any r i w ok hi
theorem ralu_at (r : Rg) (i : In) (res : Rg × Int × Bool) (w : World) (ok : okR r) (hi : okIn i) (h : Alu.step r i = res) :
    Calls Try.prog 24 #[.agg (rgA r), .agg #[.int .i64 i.kind, .int .i64 i.d, .int .i64 i.a, .int .i64 i.b, .int .i64 i.s, .int .i64 i.c, .int .i64 i.n]] w fun e w' => e = .returned (.tuple #[.agg (rgA res.1), .int .i64 res.2.1, .bool res.2.2]) ∧ Below w.heap.size w w' := by
  subst h
  exact ralu_any r i w ok hi

set_option maxRecDepth 20000 in
set_option maxHeartbeats 3200000 in
theorem alive_any (w : World) : Calls Try.prog 22 #[] w fun e w' => e = .returned (.bool true) ∧ Below w.heap.size w w' := by
  have C1 := Lib.hid (fun w => step_at zeroR ⟨21, 0, 0, 0, 0, 0, 0⟩ (zeroR, 1, true) w zero_ok (by unfold okIn i64b; decide) step_nop)
  have ok1 : okR (setReg zeroR 2 7#64) := setReg_ok zero_ok _ _
  have C2 := Lib.hid (fun w => step_at zeroR ⟨0, 2, 0, 0, 0, 0, 7⟩ (setReg zeroR 2 7#64, 1, true) w zero_ok (by unfold okIn i64b; decide) step_mov)
  have hg := fun w => get_any (setReg zeroR 2 7#64) 2 w ok1
  rw [reg_mov] at hg
  have C3 := Lib.hid hg
  clear hg
  generalize setReg zeroR 2 7#64 = r2 at *
  go_enter Try.func22, Try.ntmps22
  go_wp2_with fail
  refine (C1.out _).mono ?_
  rintro e w1 ⟨rfl, hb1⟩
  have B1 := Lib.hid hb1
  clear hb1
  go_wp2_with (with_reducible refine wpList_store_rv rfl _ _ rfl _ zeroR zeroR rfl rfl zero_ok zero_ok (RV.new _ _) ?_; intro w2 hp2; have B2 := Lib.hid (hp2.below w.heap.size w B1.out.size (B1.out.alloc B1.out.size _)); clear hp2)
  refine (C2.out _).mono ?_
  rintro e w3 ⟨rfl, hb3⟩
  have B3 := Lib.hid (B2.out.trans (hb3.mono B2.out.size))
  clear hb3
  go_wp2_with (with_reducible refine wpList_store_rv rfl _ _ rfl _ zeroR r2 rfl rfl zero_ok ok1 (RV.new _ _) ?_; intro w4 hp4; have B4 := Lib.hid (hp4.below w.heap.size w B3.out.size (B3.out.alloc B3.out.size _)); obtain ⟨m1, m2⟩ := RV.hasV hp4.has ok1; clear hp4)
  refine (C3.out _).mono ?_
  rintro e w5 ⟨rfl, hb5⟩
  go_wp2_with fail
  go_ret
  exact ⟨rfl, B4.out.trans (hb5.mono B4.out.size)⟩

/-! the arguments -/
theorem drop_one {cs : List Value} {k : Nat} {v : Value} (h : (cs.drop k).take 1 = [v]) : cs[k]? = some v := by
  have h2 : ((cs.drop k).take 1)[0]? = some v := by rw [h]; rfl
  rw [List.getElem?_take] at h2
  simpa using h2
set_option maxRecDepth 100000 in
theorem open_regs {H : Type} {enc : TypeId × Value → H} {w : World} {v : Value} {d : DataW H} {p : List MemPlace} {r : Reach} {b0 : Nat}
    (h : DataW.Trod enc Try.prog w 0 (fun _ => true) true 46 v d p) (hok : Value.okWide Try.prog w r b0 46 v) :
    ∃ g : Rg, v = .agg (rgA g) ∧ okR g := by
  obtain ⟨l', rfl⟩ := agg_of Try.underlying46 hok
  obtain ⟨fuel, hf⟩ := h
  obtain ⟨xs, n, _, _, hlen, hxl, hg⟩ := DataW.trod_struct Try.underlying46 hf
  have hC : Try.prog.cellsOf 46 = 33 := by kernel_rfl
  rw [hC] at hlen
  have hxl : xs.length = 3 := hxl
  have hL : (Value.agg l'.toArray).cells.toList = l' := by simp [Value.cells]
  rw [hL] at hlen hg
  have h0 : DataW.trod enc Try.prog w 0 (fun _ => true) true n 44 ((l'.drop 0).take (Try.prog.cellsOf 44)) = xs[0]? := hg 0 _ rfl
  have h1 : DataW.trod enc Try.prog w 0 (fun _ => true) true n 43 ((l'.drop 31).take (Try.prog.cellsOf 43)) = xs[1]? := hg 1 _ rfl
  have h2 : DataW.trod enc Try.prog w 0 (fun _ => true) true n 43 ((l'.drop 32).take (Try.prog.cellsOf 43)) = xs[2]? := hg 2 _ rfl
  rw [cells44, List.drop_zero, List.getElem?_eq_getElem (by omega)] at h0
  rw [cells43, List.getElem?_eq_getElem (by omega)] at h1 h2
  obtain ⟨z1, e1, _, f1⟩ := DataW.trod_int Try.underlying43 h1
  obtain ⟨z2, e2, _, f2⟩ := DataW.trod_int Try.underlying43 h2
  obtain ⟨y1, rfl⟩ := w64_word f1
  obtain ⟨y2, rfl⟩ := w64_word f2
  have e1 := drop_one e1
  have e2 := drop_one e2
  obtain ⟨ys, m, _, _, hlen2, hyl, hy⟩ := DataW.trod_array Try.underlying44 h0
  have hx : ∀ i, i < 31 → ∃ x : BitVec 64, l'[i]? = some (.int .u64 (x.toNat : Int)) := fun i hi => by
    have h3 := hy i hi
    rw [cells43, Nat.mul_one, List.getElem?_eq_getElem (by omega)] at h3
    obtain ⟨z, e, _, f⟩ := DataW.trod_int Try.underlying43 h3
    obtain ⟨y, rfl⟩ := w64_word f
    have e := drop_one e
    rw [List.getElem?_take, if_pos hi] at e
    exact ⟨y, e⟩
  obtain ⟨xl, hxl2, hp⟩ := list_of 0#64 hx
  refine ⟨⟨xl, y1, y2⟩, ?_, hxl2⟩
  have hok : okR ⟨xl, y1, y2⟩ := hxl2
  congr 1
  unfold rgA
  congr 1
  apply List.ext_getElem?
  intro k
  by_cases hk : k < 31
  · have e3 : reg ⟨xl, y1, y2⟩ (k : Int) = xl.getD k 0#64 := by unfold reg; rw [if_pos (by omega)]; simp
    rw [hp k hk, rgL_reg hok hk, e3]
  · by_cases h31 : k = 31
    · subst h31; rw [rgL_l hok, e1]
    · by_cases h32 : k = 32
      · subst h32; rw [rgL_r hok, e2]
      · rw [List.getElem?_eq_none (by omega), List.getElem?_eq_none (by rw [rgL_len hok]; omega)]
end Go.Proofs.Ytfbfoooligbcfaa.AluL
