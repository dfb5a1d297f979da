/-
  WALK: package alu: Step.
-/
import Derived.Test.YtfbfoooligbcfaaAluReckon
namespace Go.Proofs.Ytfbfoooligbcfaa.AluP
set_option linter.unusedVariables false
set_option linter.unusedSimpArgs false
open Go.RowKit Cm Mm Ow A64 Fld FldW A64W A64P A64C A64T A64R A64E Alu AluG AluS AluO AluK
attribute [local go_sem ↓] Go.wp_at_zero Go.wp_at_succ exec_load_regs exec_store_regs

/-- the variables of registers, of an instruction, and of the result */
-/
def trio (w : World) (r : Rg) (i : In) : World := (duo w r i).alloc (.cells (rgA zeroR) 46)
/-- what is kept in them; nothing elder has turned -/
abbrev ST (B : Nat) (w0 : World) (p q s : Nat) (r : Rg) (i : In) (w' : World) : Prop := (HasV w' (.pointer (some ⟨p, 0, none⟩)) ∧ cellsV w' (.pointer (some ⟨p, 0, none⟩)) = rgA r ∧ ThereV w' (.pointer (some ⟨s, 0, none⟩)) ∧ w'.cell? ⟨q, 0, none⟩ = some (.int .i64 i.kind) ∧ w'.cell? ⟨q, 1, none⟩ = some (.int .i64 i.d) ∧ w'.cell? ⟨q, 2, none⟩ = some (.int .i64 i.a) ∧ w'.cell? ⟨q, 3, none⟩ = some (.int .i64 i.b) ∧ w'.cell? ⟨q, 4, none⟩ = some (.int .i64 i.s) ∧ w'.cell? ⟨q, 5, none⟩ = some (.int .i64 i.c) ∧ w'.cell? ⟨q, 6, none⟩ = some (.int .i64 i.n)) ∧ RV w' p r ∧ (∃ r0, okR r0 ∧ RV w' s r0) ∧ Vi w' q i ∧ Below B w0 w'
theorem ST.init {B : Nat} {w0 w : World} {p q s : Nat} {r r0 : Rg} {i : In} (ok : okR r) (h : RV w p r) (ok0 : okR r0) (h' : RV w s r0) (hv : Vi w q i) (hb : Below B w0 w) : ST B w0 p q s r i w := by
  obtain ⟨c0, c1, c2, c3, c4, c5, c6⟩ := hv.cells
  obtain ⟨l1, l2⟩ := RV.hasV h ok
  exact ⟨⟨l1, l2, RV.thereV h' ok0, c0, c1, c2, c3, c4, c5, c6⟩, h, ⟨r0, ok0, h'⟩, hv, hb⟩
theorem ST.keep {B : Nat} {w0 w w' : World} {p q s : Nat} {r : Rg} {i : In} (ok : okR r) (h : ST B w0 p q s r i w) (hb : Below w.heap.size w w') (hB : B ≤ w.heap.size) : ST B w0 p q s r i w' := by
  obtain ⟨_, hr, ⟨r0, ok0, hs⟩, hv, hz⟩ := h
  exact ST.init ok (hr.keep hb) ok0 (hs.keep hb) (hv.keep hb) (hz.trans (hb.mono hB))
theorem ST.drew {B : Nat} {w0 w : World} {p q s : Nat} {r : Rg} {i : In} (ok : okR r) (h : ST B w0 p q s r i w) : ST B w0 p q s r i w.drew := by
  obtain ⟨_, hr, ⟨r0, ok0, hs⟩, hv, hz⟩ := h
  have hb : Below w.heap.size w w.drew := (Below.refl _ _).drew
  exact ST.init ok (hr.keep hb) ok0 (hs.keep hb) (hv.keep hb) hz.drew
theorem Vi.other {w w' : World} {q : Nat} {i : In} (h : Vi w q i) (e : w'.heap[q]? = w.heap[q]?) : Vi w' q i := fun j => by
  rw [← h j]
  simp only [World.cell?, e]
/-- the result is stored -/
theorem ST.put {B : Nat} {w0 w : World} {p q s : Nat} {r r' : Rg} {i : In} (ok : okR r) (ok' : okR r') (h : ST B w0 p q s r i w) (h1 : p ≠ s) (h2 : q ≠ s) (h3 : B ≤ s) :
    ST B w0 p q s r i (putV w (.pointer (some ⟨s, 0, none⟩)) (.agg (rgA r'))) ∧ RV (putV w (.pointer (some ⟨s, 0, none⟩)) (.agg (rgA r'))) s r' := by
  obtain ⟨_, hr, ⟨r0, ok0, hs⟩, hv, hz⟩ := h
  have hp := putV_put hs ok0 ok'
  exact ⟨ST.init ok (hp.keep hr h1) ok' hp.has (Vi.other hv (hp.other _ h2)) (hp.below _ _ h3 hz), hp.has⟩
theorem trio_has (w : World) (r : Rg) (i : In) (ok : okR r) : ST w.heap.size w w.heap.size (w.heap.size + 1) (w.heap.size + 1 + 1) r i (trio w r i) := by
  obtain ⟨h1, h2, hb⟩ := duo_has w r i
  have e : (duo w r i).heap.size = w.heap.size + 1 + 1 := by unfold duo; simp
  have h3 := RV.new (duo w r i) zeroR
  rw [e] at h3
  have hk : Below (duo w r i).heap.size (duo w r i) (trio w r i) := (Below.refl _ _).alloc (Nat.le_refl _) _
  exact ST.init ok (h1.keep hk) zero_ok h3 (h2.keep hk) (hb.trans (hk.mono hb.size))
set_option maxRecDepth 20000 in
set_option maxHeartbeats 3200000 in
theorem stepA (r : Rg) (kd d a b s c n : Int) (w : World) (ok : okR r) (hi : okIn ⟨kd, d, a, b, s, c, n⟩) (hr : right ⟨kd, d, a, b, s, c, n⟩ = false) :
    Calls Try.prog 23 #[.agg (rgA r), .agg #[.int .i64 kd, .int .i64 d, .int .i64 a, .int .i64 b, .int .i64 s, .int .i64 c, .int .i64 n]] w fun e w' => e = .returned (.tuple #[.agg (rgA r), .int .i64 0, .bool false]) ∧ Below w.heap.size w w' := by
  have S0 := Lib.hid (trio_has w r ⟨kd, d, a, b, s, c, n⟩ ok)
  have GR := Lib.hid (fun w => right_at ⟨kd, d, a, b, s, c, n⟩ w hi)
  rw [hr] at GR
  clear hi hr
  go_enter Try.func23, Try.ntmps23
  go_upto_region 1 with (fail)
  simp only [zeros_eq]
  rw [show World.alloc (World.alloc (World.alloc w _) _) _ = trio w r ⟨kd, d, a, b, s, c, n⟩ from rfl]
  generalize trio w r ⟨kd, d, a, b, s, c, n⟩ = W at *
  have hq : w.heap.size + 1 ≠ w.heap.size := by omega
  have hpt : w.heap.size ≤ w.heap.size + 1 + 1 := by omega
  have hqt : w.heap.size + 1 ≠ w.heap.size + 1 + 1 := by omega
  have hnt : w.heap.size ≠ w.heap.size + 1 + 1 := by omega
  generalize w.heap.size + 1 + 1 = t at *
  generalize w.heap.size + 1 = q at *
  generalize hp : w.heap.size = p at *
  have HQ := Lib.hid hp
  clear hp
  have SB := S0.out
  have hlt := (S0.out.2.1).lt
  obtain ⟨⟨l1, l2, l3, c0, c1, c2, c3, c4, c5, c6⟩, _⟩ := SB
  go_wp2_with fail
  refine (GR.out _).mono ?_
  rintro e w1 ⟨rfl, hb1⟩
  have S1 := Lib.hid (ST.keep ok S0.out hb1 (Nat.le_of_lt hlt))
  clear l1 l2 l3 c0 c1 c2 c3 c4 c5 c6
  obtain ⟨⟨l1, l2, l3, c0, c1, c2, c3, c4, c5, c6⟩, _⟩ := S1.out
  have hgood := good ok
  go_wp2_with fail
  have HP := Lib.hid (ST.put ok ok S1.out hnt hqt hpt)
  have hl := load_rv HP.out.2 ok
  exact bodyPost_ret (v := .tuple #[.agg (rgA r), .int .i64 0, .bool false]) (results_cell3 Try.results23 rfl hl rfl rfl) rfl ⟨rfl, by rw [HQ.out]; exact HP.out.1.2.2.2.2⟩

set_option maxRecDepth 20000 in
set_option maxHeartbeats 3200000 in
theorem stepA2 (r : Rg) (kd d a b s c n : Int) (w : World) (ok : okR r) (hi : okIn ⟨kd, d, a, b, s, c, n⟩) (hr : right ⟨kd, d, a, b, s, c, n⟩ = true) (h1 : decide (11 < kd) = true) (h2 : (kd == 21) = false) (h2b : (kd != 21) = true) :
    Calls Try.prog 23 #[.agg (rgA r), .agg #[.int .i64 kd, .int .i64 d, .int .i64 a, .int .i64 b, .int .i64 s, .int .i64 c, .int .i64 n]] w fun e w' => e = .returned (.tuple #[.agg (rgA r), .int .i64 0, .bool false]) ∧ Below w.heap.size w w' := by
  have S0 := Lib.hid (trio_has w r ⟨kd, d, a, b, s, c, n⟩ ok)
  have GR := Lib.hid (fun w => right_at ⟨kd, d, a, b, s, c, n⟩ w hi)
  rw [hr] at GR
  clear hi hr
  go_enter Try.func23, Try.ntmps23
  go_upto_region 1 with (fail)
  simp only [zeros_eq]
  rw [show World.alloc (World.alloc (World.alloc w _) _) _ = trio w r ⟨kd, d, a, b, s, c, n⟩ from rfl]
  generalize trio w r ⟨kd, d, a, b, s, c, n⟩ = W at *
  have hq : w.heap.size + 1 ≠ w.heap.size := by omega
  have hpt : w.heap.size ≤ w.heap.size + 1 + 1 := by omega
  have hqt : w.heap.size + 1 ≠ w.heap.size + 1 + 1 := by omega
  have hnt : w.heap.size ≠ w.heap.size + 1 + 1 := by omega
  generalize w.heap.size + 1 + 1 = t at *
  generalize w.heap.size + 1 = q at *
  generalize hp : w.heap.size = p at *
  have HQ := Lib.hid hp
  clear hp
  have SB := S0.out
  have hlt := (S0.out.2.1).lt
  obtain ⟨⟨l1, l2, l3, c0, c1, c2, c3, c4, c5, c6⟩, _⟩ := SB
  go_wp2_with fail
  refine (GR.out _).mono ?_
  rintro e w1 ⟨rfl, hb1⟩
  have S1 := Lib.hid (ST.keep ok S0.out hb1 (Nat.le_of_lt hlt))
  clear l1 l2 l3 c0 c1 c2 c3 c4 c5 c6
  obtain ⟨⟨l1, l2, l3, c0, c1, c2, c3, c4, c5, c6⟩, _⟩ := S1.out
  have hgood := good ok
  go_wp2_with fail
  have HP := Lib.hid (ST.put ok ok S1.out hnt hqt hpt)
  have hl := load_rv HP.out.2 ok
  exact bodyPost_ret (v := .tuple #[.agg (rgA r), .int .i64 0, .bool false]) (results_cell3 Try.results23 rfl hl rfl rfl) rfl ⟨rfl, by rw [HQ.out]; exact HP.out.1.2.2.2.2⟩

set_option maxRecDepth 20000 in
set_option maxHeartbeats 3200000 in
theorem stepB (r : Rg) (d a b s c n : Int) (w : World) (ok : okR r) (hi : okIn ⟨21, d, a, b, s, c, n⟩) (hr : right ⟨21, d, a, b, s, c, n⟩ = true) :
    Calls Try.prog 23 #[.agg (rgA r), .agg #[.int .i64 21, .int .i64 d, .int .i64 a, .int .i64 b, .int .i64 s, .int .i64 c, .int .i64 n]] w fun e w' => e = .returned (.tuple #[.agg (rgA r), .int .i64 1, .bool true]) ∧ Below w.heap.size w w' := by
  have S0 := Lib.hid (trio_has w r ⟨21, d, a, b, s, c, n⟩ ok)
  have GR := Lib.hid (fun w => right_at ⟨21, d, a, b, s, c, n⟩ w hi)
  rw [hr] at GR
  clear hi hr
  go_enter Try.func23, Try.ntmps23
  go_upto_region 1 with (fail)
  simp only [zeros_eq]
  rw [show World.alloc (World.alloc (World.alloc w _) _) _ = trio w r ⟨21, d, a, b, s, c, n⟩ from rfl]
  generalize trio w r ⟨21, d, a, b, s, c, n⟩ = W at *
  have hq : w.heap.size + 1 ≠ w.heap.size := by omega
  have hpt : w.heap.size ≤ w.heap.size + 1 + 1 := by omega
  have hqt : w.heap.size + 1 ≠ w.heap.size + 1 + 1 := by omega
  have hnt : w.heap.size ≠ w.heap.size + 1 + 1 := by omega
  generalize w.heap.size + 1 + 1 = t at *
  generalize w.heap.size + 1 = q at *
  generalize hp : w.heap.size = p at *
  have HQ := Lib.hid hp
  clear hp
  have SB := S0.out
  have hlt := (S0.out.2.1).lt
  obtain ⟨⟨l1, l2, l3, c0, c1, c2, c3, c4, c5, c6⟩, _⟩ := SB
  go_wp2_with fail
  refine (GR.out _).mono ?_
  rintro e w1 ⟨rfl, hb1⟩
  have S1 := Lib.hid (ST.keep ok S0.out hb1 (Nat.le_of_lt hlt))
  clear l1 l2 l3 c0 c1 c2 c3 c4 c5 c6
  obtain ⟨⟨l1, l2, l3, c0, c1, c2, c3, c4, c5, c6⟩, _⟩ := S1.out
  have hgood := good ok
  go_wp2_with fail
  have HP := Lib.hid (ST.put ok ok S1.out hnt hqt hpt)
  have hl := load_rv HP.out.2 ok
  exact bodyPost_ret (v := .tuple #[.agg (rgA r), .int .i64 1, .bool true]) (results_cell3 Try.results23 rfl hl rfl rfl) rfl ⟨rfl, by rw [HQ.out]; exact HP.out.1.2.2.2.2⟩

set_option maxRecDepth 20000 in
set_option maxHeartbeats 3200000 in
theorem stepC (r : Rg) (kd d a b s c n : Int) (w : World) (ok : okR r) (hi : okIn ⟨kd, d, a, b, s, c, n⟩) (hr : right ⟨kd, d, a, b, s, c, n⟩ = true) (h1 : decide (11 < kd) = false) (h2 : (kd == 21) = false) (hj : jumps r ⟨kd, d, a, b, s, c, n⟩ = true) :
    Calls Try.prog 23 #[.agg (rgA r), .agg #[.int .i64 kd, .int .i64 d, .int .i64 a, .int .i64 b, .int .i64 s, .int .i64 c, .int .i64 n]] w fun e w' => e = .returned (.tuple #[.agg (rgA r), .int .i64 n, .bool true]) ∧ Below w.heap.size w w' := by
  have JM := Lib.hid (fun w => jumps_any r kd d a b s c n w ok)
  rw [hj] at JM
  have hgood := good ok
  have S0 := Lib.hid (trio_has w r ⟨kd, d, a, b, s, c, n⟩ ok)
  have GR := Lib.hid (fun w => right_at ⟨kd, d, a, b, s, c, n⟩ w hi)
  rw [hr] at GR
  clear hi hr
  go_enter Try.func23, Try.ntmps23
  go_upto_region 1 with (fail)
  simp only [zeros_eq]
  rw [show World.alloc (World.alloc (World.alloc w _) _) _ = trio w r ⟨kd, d, a, b, s, c, n⟩ from rfl]
  generalize trio w r ⟨kd, d, a, b, s, c, n⟩ = W at *
  have hq : w.heap.size + 1 ≠ w.heap.size := by omega
  have hpt : w.heap.size ≤ w.heap.size + 1 + 1 := by omega
  have hqt : w.heap.size + 1 ≠ w.heap.size + 1 + 1 := by omega
  have hnt : w.heap.size ≠ w.heap.size + 1 + 1 := by omega
  generalize w.heap.size + 1 + 1 = t at *
  generalize w.heap.size + 1 = q at *
  generalize hp : w.heap.size = p at *
  have HQ := Lib.hid hp
  clear hp
  have SB := S0.out
  have hlt := (S0.out.2.1).lt
  obtain ⟨⟨l1, l2, l3, c0, c1, c2, c3, c4, c5, c6⟩, _⟩ := SB
  go_wp2_with fail
  refine (GR.out _).mono ?_
  rintro e w1 ⟨rfl, hb1⟩
  have S1 := Lib.hid (ST.keep ok S0.out hb1 (Nat.le_of_lt hlt))
  clear l1 l2 l3 c0 c1 c2 c3 c4 c5 c6
  obtain ⟨⟨l1, l2, l3, c0, c1, c2, c3, c4, c5, c6⟩, _⟩ := S1.out
  go_wp2_with fail
  refine (JM.out _).mono ?_
  rintro e w2 ⟨rfl, hb2⟩
  have S2 := Lib.hid (ST.keep ok S1.out hb2 (Nat.le_trans (Nat.le_of_lt hlt) hb1.size))
  clear l1 l2 l3 c0 c1 c2 c3 c4 c5 c6
  have S2d := Lib.hid (ST.drew ok S2.out)
  go_wp2_with fail
  have SB := S2d.out
  go_region_held3 (fun w' => (HasV w' (.pointer (some ⟨p, 0, none⟩)) ∧ cellsV w' (.pointer (some ⟨p, 0, none⟩)) = rgA r ∧ ThereV w' (.pointer (some ⟨t, 0, none⟩)) ∧ w'.cell? ⟨q, 0, none⟩ = some (.int .i64 kd) ∧ w'.cell? ⟨q, 1, none⟩ = some (.int .i64 d) ∧ w'.cell? ⟨q, 2, none⟩ = some (.int .i64 a) ∧ w'.cell? ⟨q, 3, none⟩ = some (.int .i64 b) ∧ w'.cell? ⟨q, 4, none⟩ = some (.int .i64 s) ∧ w'.cell? ⟨q, 5, none⟩ = some (.int .i64 c) ∧ w'.cell? ⟨q, 6, none⟩ = some (.int .i64 n)) ∧ RV w' p r ∧ (∃ r0, okR r0 ∧ RV w' t r0) ∧ Vi w' q ⟨kd, d, a, b, s, c, n⟩ ∧ Below p w w') (first | with_reducible assumption | with_reducible exact (ST.put ok ok S2d.out hnt hqt hpt).1)
    (fail)
  go_wp2_with fail
  have HP := Lib.hid (ST.put ok ok S2d.out hnt hqt hpt)
  have hl := load_rv HP.out.2 ok
  exact bodyPost_ret (v := .tuple #[.agg (rgA r), .int .i64 n, .bool true]) (results_cell3 Try.results23 rfl hl rfl rfl) rfl ⟨rfl, by rw [HQ.out]; exact HP.out.1.2.2.2.2⟩

set_option maxRecDepth 20000 in
set_option maxHeartbeats 3200000 in
theorem stepD (r : Rg) (kd d a b s c n : Int) (w : World) (ok : okR r) (hi : okIn ⟨kd, d, a, b, s, c, n⟩) (hr : right ⟨kd, d, a, b, s, c, n⟩ = true) (h1 : decide (11 < kd) = false) (h2 : (kd == 21) = false) (hj : jumps r ⟨kd, d, a, b, s, c, n⟩ = false) (h3 : decide (8 ≤ kd) = true) :
    Calls Try.prog 23 #[.agg (rgA r), .agg #[.int .i64 kd, .int .i64 d, .int .i64 a, .int .i64 b, .int .i64 s, .int .i64 c, .int .i64 n]] w fun e w' => e = .returned (.tuple #[.agg (rgA r), .int .i64 1, .bool true]) ∧ Below w.heap.size w w' := by
  have JM := Lib.hid (fun w => jumps_any r kd d a b s c n w ok)
  rw [hj] at JM
  have hgood := good ok
  have S0 := Lib.hid (trio_has w r ⟨kd, d, a, b, s, c, n⟩ ok)
  have GR := Lib.hid (fun w => right_at ⟨kd, d, a, b, s, c, n⟩ w hi)
  rw [hr] at GR
  clear hi hr
  go_enter Try.func23, Try.ntmps23
  go_upto_region 1 with (fail)
  simp only [zeros_eq]
  rw [show World.alloc (World.alloc (World.alloc w _) _) _ = trio w r ⟨kd, d, a, b, s, c, n⟩ from rfl]
  generalize trio w r ⟨kd, d, a, b, s, c, n⟩ = W at *
  have hq : w.heap.size + 1 ≠ w.heap.size := by omega
  have hpt : w.heap.size ≤ w.heap.size + 1 + 1 := by omega
  have hqt : w.heap.size + 1 ≠ w.heap.size + 1 + 1 := by omega
  have hnt : w.heap.size ≠ w.heap.size + 1 + 1 := by omega
  generalize w.heap.size + 1 + 1 = t at *
  generalize w.heap.size + 1 = q at *
  generalize hp : w.heap.size = p at *
  have HQ := Lib.hid hp
  clear hp
  have SB := S0.out
  have hlt := (S0.out.2.1).lt
  obtain ⟨⟨l1, l2, l3, c0, c1, c2, c3, c4, c5, c6⟩, _⟩ := SB
  go_wp2_with fail
  refine (GR.out _).mono ?_
  rintro e w1 ⟨rfl, hb1⟩
  have S1 := Lib.hid (ST.keep ok S0.out hb1 (Nat.le_of_lt hlt))
  clear l1 l2 l3 c0 c1 c2 c3 c4 c5 c6
  obtain ⟨⟨l1, l2, l3, c0, c1, c2, c3, c4, c5, c6⟩, _⟩ := S1.out
  go_wp2_with fail
  refine (JM.out _).mono ?_
  rintro e w2 ⟨rfl, hb2⟩
  have S2 := Lib.hid (ST.keep ok S1.out hb2 (Nat.le_trans (Nat.le_of_lt hlt) hb1.size))
  clear l1 l2 l3 c0 c1 c2 c3 c4 c5 c6
  obtain ⟨⟨l1, l2, l3, c0, c1, c2, c3, c4, c5, c6⟩, _⟩ := S2.out
  go_wp2_with fail
  have HP := Lib.hid (ST.put ok ok S2.out hnt hqt hpt)
  have hl := load_rv HP.out.2 ok
  exact bodyPost_ret (v := .tuple #[.agg (rgA r), .int .i64 1, .bool true]) (results_cell3 Try.results23 rfl hl rfl rfl) rfl ⟨rfl, by rw [HQ.out]; exact HP.out.1.2.2.2.2⟩

end Go.Proofs.Ytfbfoooligbcfaa.AluP
