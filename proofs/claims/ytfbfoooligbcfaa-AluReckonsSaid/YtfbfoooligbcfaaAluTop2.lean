/-
  WALK: package alu: Step, where a register is written.
-/
import Derived.Test.YtfbfoooligbcfaaAluTop
namespace Go.Proofs.Ytfbfoooligbcfaa.AluQ
set_option linter.unusedVariables false
set_option linter.unusedSimpArgs false
open Go.RowKit Cm Mm Ow A64 Fld FldW A64W A64P A64C A64T A64R A64E Alu AluG AluS AluO AluK AluP
attribute [local go_sem ↓] Go.wp_at_zero Go.wp_at_succ exec_load_regs exec_store_regs

theorem reckon_S (B : Nat) (w0 : World) (p q s : Nat) (r : Rg) (i : In) (kd d a b t c n : Int) (w : World) (ok : okR r) (hs0 : 0 ≤ t) (hs1 : t < 4) (hn0 : 0 ≤ n) (hn1 : n < 65536) (h : ST B w0 p q s r i w) (hB : B ≤ p) :
    Calls Try.prog 42 #[.agg (rgA r), .agg #[.int .i64 kd, .int .i64 d, .int .i64 a, .int .i64 b, .int .i64 t, .int .i64 c, .int .i64 n]] w fun e w' => e = .returned (.int .u64 ((reckon r ⟨kd, d, a, b, t, c, n⟩).toNat : Int)) ∧ ST B w0 p q s r i w' :=
  (reckon_any r kd d a b t c n w ok hs0 hs1 hn0 hn1).mono fun e w' ⟨h1, h2⟩ => ⟨h1, h.keep ok h2 (Nat.le_trans hB (Nat.le_of_lt h.2.1.lt))⟩
theorem put_S (B : Nat) (w0 : World) (p q s : Nat) (r : Rg) (i : In) (k : Int) (v : BitVec 64) (w : World) (ok : okR r) (h : ST B w0 p q s r i w) (hB : B ≤ p) :
    Calls Try.prog 27 #[.agg (rgA r), .int .i64 k, .int .u64 (v.toNat : Int)] w fun e w' => e = .returned (.agg (rgA (setReg r k v))) ∧ ST B w0 p q s r i w' :=
  (put_any r k v w ok).mono fun e w' ⟨h1, h2⟩ => ⟨h1, h.keep ok h2 (Nat.le_trans hB (Nat.le_of_lt h.2.1.lt))⟩

set_option maxRecDepth 20000 in
set_option maxHeartbeats 3200000 in
theorem stepF (r : Rg) (kd d a b s c n : Int) (w : World) (ok : okR r) (hi : okIn ⟨kd, d, a, b, s, c, n⟩) (hr : right ⟨kd, d, a, b, s, c, n⟩ = true) (h1 : decide (11 < kd) = false) (h2 : (kd == 21) = false) (hj : jumps r ⟨kd, d, a, b, s, c, n⟩ = false) (h3 : decide (8 ≤ kd) = false) (h4 : (kd == 6) = false) (hs0 : 0 ≤ s) (hs1 : s < 4) (hn0 : 0 ≤ n) (hn1 : n < 65536) :
    Calls Try.prog 23 #[.agg (rgA r), .agg #[.int .i64 kd, .int .i64 d, .int .i64 a, .int .i64 b, .int .i64 s, .int .i64 c, .int .i64 n]] w fun e w' => e = .returned (.tuple #[.agg (rgA (setReg r d (reckon r ⟨kd, d, a, b, s, c, n⟩))), .int .i64 1, .bool true]) ∧ Below w.heap.size w w' := by
  have JM := Lib.hid (fun w => jumps_any r kd d a b s c n w ok)
  rw [hj] at JM
  have hgood := good ok
  have ok1 := setReg_ok ok d (reckon r ⟨kd, d, a, b, s, c, n⟩)
  have hgood1 := good ok1
  have S0 := Lib.hid (trio_has w r ⟨kd, d, a, b, s, c, n⟩ ok)
  have GR := Lib.hid (fun w => right_at ⟨kd, d, a, b, s, c, n⟩ w hi)
  rw [hr] at GR
  clear hi hr
  go_enter Try.func23, Try.ntmps23
  go_upto_region 1 with (fail)
  simp only [zeros_eq]
  rw [show World.alloc (World.alloc (World.alloc w _) _) _ = trio w r ⟨kd, d, a, b, s, c, n⟩ from rfl]
  generalize trio w r ⟨kd, d, a, b, s, c, n⟩ = W at *
  have hq : w.heap.size + 1 ≠ w.heap.size := by omega
  have hpt : w.heap.size ≤ w.heap.size + 1 + 1 := by omega
  have hqt : w.heap.size + 1 ≠ w.heap.size + 1 + 1 := by omega
  have hnt : w.heap.size ≠ w.heap.size + 1 + 1 := by omega
  generalize w.heap.size + 1 + 1 = t at *
  generalize w.heap.size + 1 = q at *
  generalize hp : w.heap.size = p at *
  have HQ := Lib.hid hp
  clear hp
  have SB := S0.out
  have hlt := (S0.out.2.1).lt
  obtain ⟨⟨l1, l2, l3, c0, c1, c2, c3, c4, c5, c6⟩, _⟩ := SB
  go_wp2_with fail
  refine (GR.out _).mono ?_
  rintro e w1 ⟨rfl, hb1⟩
  have S1 := Lib.hid (ST.keep ok S0.out hb1 (Nat.le_of_lt hlt))
  clear l1 l2 l3 c0 c1 c2 c3 c4 c5 c6
  obtain ⟨⟨l1, l2, l3, c0, c1, c2, c3, c4, c5, c6⟩, _⟩ := S1.out
  have hpp : p ≤ p := Nat.le_refl _
  go_wp2_with fail
  refine (JM.out _).mono ?_
  rintro e w2 ⟨rfl, hb2⟩
  have S2 := Lib.hid (ST.keep ok S1.out hb2 (Nat.le_trans (Nat.le_of_lt hlt) hb1.size))
  clear l1 l2 l3 c0 c1 c2 c3 c4 c5 c6
  obtain ⟨⟨l1, l2, l3, c0, c1, c2, c3, c4, c5, c6⟩, _⟩ := S2.out
  have S2d := Lib.hid (ST.drew ok S2.out)
  go_wp2_with fail
  clear l1 l2 l3 c0 c1 c2 c3 c4 c5 c6
  have SB := S2d.out
  go_region_held3 (fun w' => (HasV w' (.pointer (some ⟨p, 0, none⟩)) ∧ cellsV w' (.pointer (some ⟨p, 0, none⟩)) = rgA r ∧ ThereV w' (.pointer (some ⟨t, 0, none⟩)) ∧ w'.cell? ⟨q, 0, none⟩ = some (.int .i64 kd) ∧ w'.cell? ⟨q, 1, none⟩ = some (.int .i64 d) ∧ w'.cell? ⟨q, 2, none⟩ = some (.int .i64 a) ∧ w'.cell? ⟨q, 3, none⟩ = some (.int .i64 b) ∧ w'.cell? ⟨q, 4, none⟩ = some (.int .i64 s) ∧ w'.cell? ⟨q, 5, none⟩ = some (.int .i64 c) ∧ w'.cell? ⟨q, 6, none⟩ = some (.int .i64 n)) ∧ RV w' p r ∧ (∃ r0, okR r0 ∧ RV w' t r0) ∧ Vi w' q ⟨kd, d, a, b, s, c, n⟩ ∧ Below p w w') (first | with_reducible assumption | with_reducible exact (ST.put ok ok1 SD hnt hqt hpt).1)
    (first
      | (go_at_call 42; with_reducible refine (reckon_S p w p q t r ⟨kd, d, a, b, s, c, n⟩ kd d a b s c n _ ok hs0 hs1 hn0 hn1 SB hpp).mono ?_; rintro e wx ⟨rfl, SC⟩)
      | (go_at_call 27; with_reducible refine (put_S p w p q t r ⟨kd, d, a, b, s, c, n⟩ d (reckon r ⟨kd, d, a, b, s, c, n⟩) _ ok SC hpp).mono ?_; rintro e wy ⟨rfl, SD⟩))
  go_wp2_with fail
  have HP := Lib.hid (ST.put ok ok1 SD hnt hqt hpt)
  have hl := load_rv HP.out.2 ok1
  exact bodyPost_ret (v := .tuple #[.agg (rgA (setReg r d (reckon r ⟨kd, d, a, b, s, c, n⟩))), .int .i64 1, .bool true]) (results_cell3 Try.results23 rfl hl rfl rfl) rfl ⟨rfl, by rw [HQ.out]; exact HP.out.1.2.2.2.2⟩

end Go.Proofs.Ytfbfoooligbcfaa.AluQ
