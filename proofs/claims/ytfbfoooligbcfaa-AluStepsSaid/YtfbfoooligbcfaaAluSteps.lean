/-
  WALK: the law AluSteps.
-/
import Derived.Test.YtfbfoooligbcfaaAluLaws
namespace Go.Proofs.Ytfbfoooligbcfaa.AluLS
set_option linter.unusedVariables false
set_option linter.unusedSimpArgs false
open Go.RowKit Go.WideShapes Go.ChangeShapes Cm Mm Ow A64 Fld FldW FldR A64W A64P A64C A64T A64R A64E A64F A64Q A64D A64L Alu AluG AluS AluO AluK AluP AluQ AluE AluA AluR AluR0 AluR1 AluRA AluV AluL
attribute [local go_sem ↓] Go.wp_at_zero Go.wp_at_succ exec_load_regs exec_store_regs
attribute [local go_sem] zeros_eq
attribute [-go_sem] run_equalIn_agg


/-- three variables of registers -/
abbrev S3 (B : Nat) (w0 : World) (p x y : Nat) (r g : Rg) (w' : World) : Prop := (HasV w' (.pointer (some ⟨p, 0, none⟩)) ∧ cellsV w' (.pointer (some ⟨p, 0, none⟩)) = rgA r ∧ HasV w' (.pointer (some ⟨x, 0, none⟩)) ∧ cellsV w' (.pointer (some ⟨x, 0, none⟩)) = rgA g ∧ HasV w' (.pointer (some ⟨y, 0, none⟩)) ∧ cellsV w' (.pointer (some ⟨y, 0, none⟩)) = rgA g) ∧ RV w' p r ∧ RV w' x g ∧ RV w' y g ∧ Below B w0 w'
theorem S3.init {B : Nat} {w0 w : World} {p x y : Nat} {r g : Rg} (ok : okR r) (ok' : okR g) (h : RV w p r) (h1 : RV w x g) (h2 : RV w y g) (hb : Below B w0 w) : S3 B w0 p x y r g w := by
  obtain ⟨a1, a2⟩ := RV.hasV h ok
  obtain ⟨b1, b2⟩ := RV.hasV h1 ok'
  obtain ⟨c1, c2⟩ := RV.hasV h2 ok'
  exact ⟨⟨a1, a2, b1, b2, c1, c2⟩, h, h1, h2, hb⟩
theorem S3.keep {B : Nat} {w0 w w' : World} {p x y : Nat} {r g : Rg} (ok : okR r) (ok' : okR g) (h : S3 B w0 p x y r g w) (hB : B ≤ p) (hb : Below w.heap.size w w') : S3 B w0 p x y r g w' := by
  obtain ⟨_, h1, h2, h3, hz⟩ := h
  exact S3.init ok ok' (h1.keep hb) (h2.keep hb) (h3.keep hb) (hz.trans (hb.mono (Nat.le_trans hB (Nat.le_of_lt h1.lt))))
theorem get_3 (B : Nat) (w0 : World) (p x y : Nat) (r g : Rg) (k : Int) (w : World) (ok : okR r) (ok' : okR g) (h : S3 B w0 p x y r g w) (hB : B ≤ p) :
    Calls Try.prog 25 #[.agg (rgA r), .int .i64 k] w fun e w' => e = .returned (.int .u64 ((reg r k).toNat : Int)) ∧ S3 B w0 p x y r g w' :=
  (get_any r k w ok).mono fun e w' ⟨h1, h2⟩ => ⟨h1, h.keep ok ok' hB h2⟩
theorem rget_3 (B : Nat) (w0 : World) (p x y : Nat) (r g : Rg) (k : Int) (w : World) (ok : okR r) (ok' : okR g) (h : S3 B w0 p x y r g w) (hB : B ≤ p) :
    Calls Try.prog 26 #[.agg (rgA r), .int .i64 k] w fun e w' => e = .returned (.int .u64 ((reg r k).toNat : Int)) ∧ S3 B w0 p x y r g w' :=
  (rget_any r k w ok).mono fun e w' ⟨h1, h2⟩ => ⟨h1, h.keep ok ok' hB h2⟩
theorem put_3 (B : Nat) (w0 : World) (p x y : Nat) (r g : Rg) (k : Int) (v : BitVec 64) (w : World) (ok : okR r) (ok' : okR g) (h : S3 B w0 p x y r g w) (hB : B ≤ p) :
    Calls Try.prog 27 #[.agg (rgA r), .int .i64 k, .int .u64 (v.toNat : Int)] w fun e w' => e = .returned (.agg (rgA (setReg r k v))) ∧ S3 B w0 p x y r g w' :=
  (put_any r k v w ok).mono fun e w' ⟨h1, h2⟩ => ⟨h1, h.keep ok ok' hB h2⟩
theorem rput_3 (B : Nat) (w0 : World) (p x y : Nat) (r g : Rg) (k : Int) (v : BitVec 64) (w : World) (ok : okR r) (ok' : okR g) (h : S3 B w0 p x y r g w) (hB : B ≤ p) :
    Calls Try.prog 28 #[.agg (rgA r), .int .i64 k, .int .u64 (v.toNat : Int)] w fun e w' => e = .returned (.agg (rgA (setReg r k v))) ∧ S3 B w0 p x y r g w' :=
  (rput_any r k v w ok).mono fun e w' ⟨h1, h2⟩ => ⟨h1, h.keep ok ok' hB h2⟩
theorem hol_3 (B : Nat) (w0 : World) (p x y : Nat) (r g : Rg) (k : Int) (w : World) (ok : okR r) (ok' : okR g) (h : S3 B w0 p x y r g w) (hB : B ≤ p) :
    Calls Try.prog 29 #[.agg (rgA r), .int .i64 k] w fun e w' => e = .returned (.bool (holds r k)) ∧ S3 B w0 p x y r g w' :=
  (holds_any r k w ok).mono fun e w' ⟨h1, h2⟩ => ⟨h1, h.keep ok ok' hB h2⟩
theorem rhol_3 (B : Nat) (w0 : World) (p x y : Nat) (r g : Rg) (k : Int) (w : World) (ok : okR r) (ok' : okR g) (h : S3 B w0 p x y r g w) (hB : B ≤ p) :
    Calls Try.prog 30 #[.agg (rgA r), .int .i64 k] w fun e w' => e = .returned (.bool (holds r k)) ∧ S3 B w0 p x y r g w' :=
  (rholds_any r k w ok).mono fun e w' ⟨h1, h2⟩ => ⟨h1, h.keep ok ok' hB h2⟩

set_option maxRecDepth 20000 in
set_option maxHeartbeats 6400000 in
theorem walk {H : Type} {enc : TypeId × Value → H} {d0 d1 : DataW H} {P0 P1 : List MemPlace} {rc : Reach} {b0 : Nat} (v0 v1 : Value) (n u : Int) (w : World)
    (k0 : DataW.Trod enc Try.prog w 0 (fun _ => true) true 46 v0 d0 P0) (ok0 : Value.okWide Try.prog w rc b0 46 v0)
    (k1 : DataW.Trod enc Try.prog w 0 (fun _ => true) true 23 v1 d1 P1) (ok1 : Value.okWide Try.prog w rc b0 23 v1) (hn : (Lit.int .i64 n).wf = true) (hu : (Lit.int .u64 u).wf = true) :
    Calls Try.prog 8 #[v0, v1, .int .i64 n, .int .u64 u] w fun e w' => e = .returned (.bool true) ∧ Below w.heap.size w w' := by
  obtain ⟨r, rfl, ok⟩ := open_regs k0 ok0
  obtain ⟨i, rfl, hi⟩ := open_ins k1 ok1
  obtain ⟨v, rfl⟩ := w64_word hu
  clear k0 ok0 k1 ok1 hu
  obtain ⟨g1, g2, hb⟩ := duo_has w r i
  obtain ⟨res, hres⟩ : ∃ res, Alu.step r i = res := ⟨_, rfl⟩
  have okg : okR res.1 := by rw [← hres]; exact step_ok ok i
  have C1 := Lib.hid (fun w => step_at r i res w ok hi hres)
  have C2 := Lib.hid (fun w => ralu_at r i res w ok hi hres)
  have E1 := fun w => eq_regs res.1 okg w
  have E2 := fun w => eq_regs (setReg r n v) (setReg_ok ok n v) w
  obtain ⟨g, num, okk⟩ := res
  have G1 := Lib.hid g1
  have G2 := Lib.hid g2
  have HB := Lib.hid hb
  clear hres hi g1 g2 hb
  simp only at C1 C2 okg E1
  go_enter Try.func8, Try.ntmps8
  go_upto_region 1 with (fail)
  rw [show World.alloc (World.alloc w _) _ = duo w r i from rfl]
  generalize duo w r i = W at *
  generalize w.heap.size + 1 = q at *
  have hpp : w.heap.size ≤ w.heap.size := Nat.le_refl _
  go_wp2_with fail
  refine (AluL.alive_any _).mono ?_
  rintro e w1 ⟨rfl, hb1⟩
  have B1 := Lib.hid (HB.out.trans (hb1.mono HB.out.size))
  have R1 := Lib.hid (G1.out.keep hb1)
  have V1 := Lib.hid (G2.out.keep hb1)
  clear hb1
  obtain ⟨m1, m2⟩ := RV.hasV R1.out ok
  obtain ⟨c0, c1, c2, c3, c4, c5, c6⟩ := V1.out.cells
  go_wp2_with fail
  refine (C1.out _).mono ?_
  rintro e w2 ⟨rfl, hb2⟩
  have B2 := Lib.hid (B1.out.trans (hb2.mono B1.out.size))
  have R2 := Lib.hid (R1.out.keep hb2)
  have V2 := Lib.hid (V1.out.keep hb2)
  clear hb2 m1 m2 c0 c1 c2 c3 c4 c5 c6
  go_wp2_with (with_reducible refine wpList_store_rv rfl _ _ rfl _ zeroR g rfl rfl zero_ok okg (RV.new _ _) ?_; intro w3 hp3; have R3 := Lib.hid (hp3.keep (R2.out.keep (below_al _ _)) (Nat.ne_of_lt R2.out.lt)); have X3 := Lib.hid hp3.has; have V3 := Lib.hid (Vi.other (V2.out.keep (below_al _ _)) (hp3.other _ (Nat.ne_of_lt V2.out.lt))); have B3 := Lib.hid (hp3.below w.heap.size w B2.out.size (B2.out.alloc B2.out.size _)); clear hp3; obtain ⟨m1, m2⟩ := RV.hasV R3.out ok; obtain ⟨c0, c1, c2, c3, c4, c5, c6⟩ := V3.out.cells)
  refine (C2.out _).mono ?_
  rintro e w4 ⟨rfl, hb4⟩
  have B4 := Lib.hid (B3.out.trans (hb4.mono B3.out.size))
  have R4 := Lib.hid (R3.out.keep hb4)
  have X4 := Lib.hid (X3.out.keep hb4)
  clear hb4 m1 m2 c0 c1 c2 c3 c4 c5 c6
  go_wp2_with (with_reducible refine wpList_store_rv rfl _ _ rfl _ zeroR g rfl rfl zero_ok okg (RV.new _ _) ?_; intro w5 hp5; have R5 := Lib.hid (hp5.keep (R4.out.keep (below_al _ _)) (Nat.ne_of_lt R4.out.lt)); have X5 := Lib.hid (hp5.keep (X4.out.keep (below_al _ _)) (Nat.ne_of_lt X4.out.lt)); have Y5 := Lib.hid hp5.has; have B5 := Lib.hid (hp5.below w.heap.size w B4.out.size (B4.out.alloc B4.out.size _)); clear hp5)
  have S5 := Lib.hid (S3.keep ok okg (S3.init ok okg R5.out X5.out Y5.out B5.out) hpp ((Below.refl _ _).drew))
  generalize w2.heap.size = x at *
  generalize w4.heap.size = y at *
  have SB := S5.out
  go_region_held3 (fun w' => (HasV w' (.pointer (some ⟨w.heap.size, 0, none⟩)) ∧ cellsV w' (.pointer (some ⟨w.heap.size, 0, none⟩)) = rgA r ∧ HasV w' (.pointer (some ⟨x, 0, none⟩)) ∧ cellsV w' (.pointer (some ⟨x, 0, none⟩)) = rgA g ∧ HasV w' (.pointer (some ⟨y, 0, none⟩)) ∧ cellsV w' (.pointer (some ⟨y, 0, none⟩)) = rgA g) ∧ RV w' w.heap.size r ∧ RV w' x g ∧ RV w' y g ∧ Below w.heap.size w w') (with_reducible assumption)
    (first
      | (go_at_call 25; with_reducible refine (get_3 w.heap.size w w.heap.size x y r g n _ ok okg (by with_reducible assumption) hpp).mono ?_; rintro e wx ⟨rfl, SC⟩)
      | (go_at_call 26; with_reducible refine (rget_3 w.heap.size w w.heap.size x y r g n _ ok okg (by with_reducible assumption) hpp).mono ?_; rintro e wx ⟨rfl, SC⟩)
      | (go_at_call 27; with_reducible refine (put_3 w.heap.size w w.heap.size x y r g n v _ ok okg (by with_reducible assumption) hpp).mono ?_; rintro e wx ⟨rfl, SC⟩)
      | (go_at_call 28; with_reducible refine (rput_3 w.heap.size w w.heap.size x y r g n v _ ok okg (by with_reducible assumption) hpp).mono ?_; rintro e wx ⟨rfl, SC⟩)
      | (go_at_call 29; with_reducible refine (hol_3 w.heap.size w w.heap.size x y r g n _ ok okg (by with_reducible assumption) hpp).mono ?_; rintro e wx ⟨rfl, SC⟩)
      | (go_at_call 30; with_reducible refine (rhol_3 w.heap.size w w.heap.size x y r g n _ ok okg (by with_reducible assumption) hpp).mono ?_; rintro e wx ⟨rfl, SC⟩))
  all_goals
    go_wp2_with fail
    go_ret
    exact ⟨rfl, SC.2.2.2.2⟩
end Go.Proofs.Ytfbfoooligbcfaa.AluLS
