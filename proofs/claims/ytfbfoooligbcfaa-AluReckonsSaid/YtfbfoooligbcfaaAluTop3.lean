/-
  WALK: package alu: Step, where two registers are compared.
-/
import Derived.Test.YtfbfoooligbcfaaAluTop2
import Derived.Deep.RegionWith
namespace Go.Proofs.Ytfbfoooligbcfaa.AluE
set_option linter.unusedVariables false
set_option linter.unusedSimpArgs false
open Go.RowKit Cm Mm Ow A64 Fld FldW A64W A64P A64C A64T A64R A64E Alu AluG AluS AluO AluK AluP AluQ
attribute [local go_sem ↓] Go.wp_at_zero Go.wp_at_succ exec_load_regs exec_store_regs

theorem ST.lr {B : Nat} {w0 w : World} {p q s : Nat} {r : Rg} {i : In} (ok : okR r) (h : ST B w0 p q s r i w) :
    w.cell? ⟨p, 31, none⟩ = some (.int .u64 (r.l.toNat : Int)) ∧ w.cell? ⟨p, 32, none⟩ = some (.int .u64 (r.r.toNat : Int)) ∧ (∀ k, w.frozen? ⟨p, k, none⟩ = false) :=
  ⟨by rw [h.2.1.cell, rgL_l ok], by rw [h.2.1.cell, rgL_r ok], h.2.1.free⟩
theorem get_T (B : Nat) (w0 : World) (p q s : Nat) (r : Rg) (i : In) (k : Int) (w : World) (ok : okR r) (h : ST B w0 p q s r i w) (hB : B ≤ p) :
    Calls Try.prog 25 #[.agg (rgA r), .int .i64 k] w fun e w' => e = .returned (.int .u64 ((reg r k).toNat : Int)) ∧ ST B w0 p q s r i w' :=
  (get_any r k w ok).mono fun e w' ⟨h1, h2⟩ => ⟨h1, h.keep ok h2 (Nat.le_trans hB (Nat.le_of_lt h.2.1.lt))⟩
/-- both are stored -/
theorem ST.both {B : Nat} {w0 w : World} {p q s : Nat} {r : Rg} {i : In} (ok : okR r) (h : ST B w0 p q s r i w) (hB : B ≤ p) (h1 : p ≠ s) (h2 : q ≠ p) (x y : BitVec 64) :
    ST B w0 p q s { r with l := x, r := y } i ((w.setCell ⟨p, 31, none⟩ (.int .u64 (x.toNat : Int))).setCell ⟨p, 32, none⟩ (.int .u64 (y.toNat : Int))) := by
  obtain ⟨_, hr, ⟨r0, ok0, hs⟩, hv, hz⟩ := h
  have ok1 : okR { r with l := x } := ok
  have ok2 : okR { r with l := x, r := y } := ok
  have a1 := hr.set { r with l := x } (k := 31) (rgL_setl ok x)
  have a2 := a1.set { r with l := x, r := y } (k := 32) (rgL_setr ok1 y)
  refine ST.init ok2 a2 ok0 ?_ ?_ ((hz.setCell hB _).setCell hB _)
  · exact (Below.heap_setCell _ _ _ _ (fun e => h1 e.symm)).trans ((Below.heap_setCell _ _ _ _ (fun e => h1 e.symm)).trans hs)
  · exact Vi.other hv ((Below.heap_setCell _ _ _ _ h2).trans (Below.heap_setCell _ _ _ _ h2))

set_option maxRecDepth 20000 in
set_option maxHeartbeats 3200000 in
theorem stepE (r : Rg) (d a b s c n : Int) (w : World) (ok : okR r) (hi : okIn ⟨6, d, a, b, s, c, n⟩) (hr : right ⟨6, d, a, b, s, c, n⟩ = true) :
    Calls Try.prog 23 #[.agg (rgA r), .agg #[.int .i64 6, .int .i64 d, .int .i64 a, .int .i64 b, .int .i64 s, .int .i64 c, .int .i64 n]] w fun e w' => e = .returned (.tuple #[.agg (rgA { r with l := reg r a, r := reg r b }), .int .i64 1, .bool true]) ∧ Below w.heap.size w w' := by
  have hj : jumps r ⟨6, d, a, b, s, c, n⟩ = false := rfl
  have JM := Lib.hid (fun w => jumps_any r 6 d a b s c n w ok)
  rw [hj] at JM
  have hgood := good ok
  have ok1 : okR { r with l := reg r a, r := reg r b } := ok
  have hgood1 := good ok1
  clear hj
  have S0 := Lib.hid (trio_has w r ⟨6, d, a, b, s, c, n⟩ ok)
  have GR := Lib.hid (fun w => right_at ⟨6, d, a, b, s, c, n⟩ w hi)
  rw [hr] at GR
  clear hi hr
  go_enter Try.func23, Try.ntmps23
  go_upto_region 1 with (fail)
  simp only [zeros_eq]
  rw [show World.alloc (World.alloc (World.alloc w _) _) _ = trio w r ⟨6, d, a, b, s, c, n⟩ from rfl]
  generalize trio w r ⟨6, d, a, b, s, c, n⟩ = W at *
  have hq : w.heap.size + 1 ≠ w.heap.size := by omega
  have hpt : w.heap.size ≤ w.heap.size + 1 + 1 := by omega
  have hqt : w.heap.size + 1 ≠ w.heap.size + 1 + 1 := by omega
  have hnt : w.heap.size ≠ w.heap.size + 1 + 1 := by omega
  generalize w.heap.size + 1 + 1 = t at *
  generalize w.heap.size + 1 = q at *
  generalize hp : w.heap.size = p at *
  have HQ := Lib.hid hp
  clear hp
  have SB := S0.out
  have hlt := (S0.out.2.1).lt
  obtain ⟨⟨l1, l2, l3, c0, c1, c2, c3, c4, c5, c6⟩, _⟩ := SB
  go_wp2_with fail
  refine (GR.out _).mono ?_
  rintro e w1 ⟨rfl, hb1⟩
  have S1 := Lib.hid (ST.keep ok S0.out hb1 (Nat.le_of_lt hlt))
  clear l1 l2 l3 c0 c1 c2 c3 c4 c5 c6
  obtain ⟨⟨l1, l2, l3, c0, c1, c2, c3, c4, c5, c6⟩, _⟩ := S1.out
  have hpp : p ≤ p := Nat.le_refl _
  go_wp2_with fail
  refine (JM.out _).mono ?_
  rintro e w2 ⟨rfl, hb2⟩
  have S2 := Lib.hid (ST.keep ok S1.out hb2 (Nat.le_trans (Nat.le_of_lt hlt) hb1.size))
  clear l1 l2 l3 c0 c1 c2 c3 c4 c5 c6
  obtain ⟨⟨l1, l2, l3, c0, c1, c2, c3, c4, c5, c6⟩, _⟩ := S2.out
  have S2d := Lib.hid (ST.drew ok S2.out)
  go_wp2_with fail
  clear l1 l2 l3 c0 c1 c2 c3 c4 c5 c6
  go_cut [] (fun wx => ∃ wy, ST p w p q t r ⟨6, d, a, b, s, c, n⟩ wy ∧ wx = (wy.setCell ⟨p, 31, none⟩ (.int .u64 ((reg r a).toNat : Int))).setCell ⟨p, 32, none⟩ (.int .u64 ((reg r b).toNat : Int)))
  case first =>
    have SB := S2d.out
    obtain ⟨⟨l1, l2, l3, c0, c1, c2, c3, c4, c5, c6⟩, _⟩ := S2d.out
    go_region_with ((first
      | (go_at_call 25; (first
        | (with_reducible refine (get_T p w p q t r ⟨6, d, a, b, s, c, n⟩ _ _ ok SC hpp).mono ?_)
        | (with_reducible refine (get_T p w p q t r ⟨6, d, a, b, s, c, n⟩ _ _ ok SB hpp).mono ?_)); rintro e wx ⟨rfl, SC⟩; clear l1 l2 l3 c0 c1 c2 c3 c4 c5 c6; obtain ⟨⟨l1, l2, l3, c0, c1, c2, c3, c4, c5, c6⟩, _⟩ := id SC; obtain ⟨z1, z2, z3⟩ := ST.lr ok SC)))
    all_goals (go_wp2_with fail; go_meet; exact ⟨_, by assumption, rfl⟩)
  case rest =>
    obtain ⟨wy, SY, hw⟩ := hcut
    have S3 := Lib.hid (ST.both ok SY hpp hnt hq (reg r a) (reg r b))
    rw [← hw] at S3
    clear hw
    obtain ⟨⟨l1, l2, l3, c0, c1, c2, c3, c4, c5, c6⟩, _⟩ := S3.out
    go_wp2_with fail
    have HP := Lib.hid (ST.put ok1 ok1 S3.out hnt hqt hpt)
    have hl := load_rv HP.out.2 ok1
    exact bodyPost_ret (v := .tuple #[.agg (rgA { r with l := reg r a, r := reg r b }), .int .i64 1, .bool true]) (results_cell3 Try.results23 rfl hl rfl rfl) rfl ⟨rfl, by rw [HQ.out]; exact HP.out.1.2.2.2.2⟩

end Go.Proofs.Ytfbfoooligbcfaa.AluE
