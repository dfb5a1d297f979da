/-
  WALK: the document's Alu (plain kinds).
-/
import Derived.Test.YtfbfoooligbcfaaAluRefA
namespace Go.Proofs.Ytfbfoooligbcfaa.AluR0
set_option linter.unusedVariables false
set_option linter.unusedSimpArgs false
open Go.RowKit Cm Mm Ow A64 Fld FldW FldR A64W A64P A64C A64T A64R A64E A64F A64Q Alu AluG AluS AluO AluK AluP AluQ AluE AluA AluR
attribute [local go_sem ↓] Go.wp_at_zero Go.wp_at_succ exec_load_regs exec_store_regs

set_option maxRecDepth 20000 in
set_option maxHeartbeats 3200000 in
theorem ralu0 (r : Rg) (d a b s c n : Int) (w : World) (ok : okR r) (hi : okIn ⟨0, d, a, b, s, c, n⟩) (hr : right ⟨0, d, a, b, s, c, n⟩ = true) (hs0 : 0 ≤ s) (hs1 : s < 4) (hn0 : 0 ≤ n) (hn1 : n < 65536) :
    Calls Try.prog 24 #[.agg (rgA r), .agg #[.int .i64 0, .int .i64 d, .int .i64 a, .int .i64 b, .int .i64 s, .int .i64 c, .int .i64 n]] w fun e w' => e = .returned (.tuple #[.agg (rgA (setReg r d (Alu.part ⟨0, d, a, b, s, c, n⟩))), .int .i64 1, .bool true]) ∧ Below w.heap.size w w' := by
  have HR := Lib.hid (part_eq hn0 ⟨0, d, a, b, s, c, n⟩ rfl rfl)
  have S0 := Lib.hid (trio_has w r ⟨0, d, a, b, s, c, n⟩ ok)
  have GR := Lib.hid (fun w => rright_any ⟨0, d, a, b, s, c, n⟩ w hi)
  rw [hr] at GR
  clear hi hr
  go_enter Try.func24, Try.ntmps24
  go_upto_region 1 with (fail)
  simp only [zeros_eq]
  rw [show World.alloc (World.alloc (World.alloc w _) _) _ = trio w r ⟨0, d, a, b, s, c, n⟩ from rfl]
  generalize trio w r ⟨0, d, a, b, s, c, n⟩ = W at *
  have hq : w.heap.size + 1 ≠ w.heap.size := by omega
  have hpt : w.heap.size ≤ w.heap.size + 1 + 1 := by omega
  have hqt : w.heap.size + 1 ≠ w.heap.size + 1 + 1 := by omega
  have hnt : w.heap.size ≠ w.heap.size + 1 + 1 := by omega
  generalize w.heap.size + 1 + 1 = t at *
  generalize w.heap.size + 1 = q at *
  generalize hp : w.heap.size = p at *
  have HQ := Lib.hid hp
  clear hp
  have SB := S0.out
  have hlt := (S0.out.2.1).lt
  obtain ⟨⟨l1, l2, l3, c0, c1, c2, c3, c4, c5, c6⟩, _⟩ := SB
  go_wp2_with fail
  refine (GR.out _).mono ?_
  rintro e w1 ⟨rfl, hb1⟩
  have S1 := Lib.hid (ST.keep ok S0.out hb1 (Nat.le_of_lt hlt))
  clear l1 l2 l3 c0 c1 c2 c3 c4 c5 c6
  obtain ⟨⟨l1, l2, l3, c0, c1, c2, c3, c4, c5, c6⟩, _⟩ := S1.out
  have hpp : p ≤ p := Nat.le_refl _
  go_wp2_with fail
  refine (rget_S p w p q t r ⟨0, d, a, b, s, c, n⟩ a _ ok S1.out hpp).mono ?_
  rintro e w2 ⟨rfl, h2⟩
  have S2 := Lib.hid h2
  clear h2
  clear l1 l2 l3 c0 c1 c2 c3 c4 c5 c6
  obtain ⟨⟨l1, l2, l3, c0, c1, c2, c3, c4, c5, c6⟩, _⟩ := S2.out
  go_wp2_with fail
  refine (rget_S p w p q t r ⟨0, d, a, b, s, c, n⟩ b _ ok S2.out hpp).mono ?_
  rintro e w3 ⟨rfl, h3⟩
  have S3 := Lib.hid h3
  clear h3
  clear l1 l2 l3 c0 c1 c2 c3 c4 c5 c6
  obtain ⟨⟨l1, l2, l3, c0, c1, c2, c3, c4, c5, c6⟩, _⟩ := S3.out
  go_wp2_with fail
  rw [HR.out]
  refine (rput_S p w p q t r ⟨0, d, a, b, s, c, n⟩ d (Alu.part ⟨0, d, a, b, s, c, n⟩) _ ok S3.out hpp).mono ?_
  rintro e w4 ⟨rfl, h4⟩
  have S4 := Lib.hid h4
  clear h4
  clear l1 l2 l3 c0 c1 c2 c3 c4 c5 c6
  obtain ⟨⟨l1, l2, l3, c0, c1, c2, c3, c4, c5, c6⟩, _⟩ := S4.out
  have hrv := S4.out.2.1
  have ok1 := setReg_ok ok d (Alu.part ⟨0, d, a, b, s, c, n⟩)
  go_wp2_with (with_reducible refine wpList_store_rv rfl _ _ rfl p r (setReg r d (Alu.part ⟨0, d, a, b, s, c, n⟩)) rfl rfl ok ok1 hrv ?_; intro w5 hp5; have S5 := Lib.hid (ST.again S4.out hp5 ok1 hpp hnt hq); clear l1 l2 l3 c0 c1 c2 c3 c4 c5 c6; clear hp5 hrv; obtain ⟨⟨l1, l2, l3, c0, c1, c2, c3, c4, c5, c6⟩, _⟩ := S5.out; have hgood := good ok1)
  have HP := Lib.hid (ST.put ok1 ok1 S5.out hnt hqt hpt)
  have hl := load_rv HP.out.2 ok1
  exact bodyPost_ret (v := .tuple #[.agg (rgA (setReg r d (Alu.part ⟨0, d, a, b, s, c, n⟩))), .int .i64 1, .bool true]) (results_cell3 Try.results24 rfl hl rfl rfl) rfl ⟨rfl, by rw [HQ.out]; exact HP.out.1.2.2.2.2⟩

set_option maxRecDepth 20000 in
set_option maxHeartbeats 3200000 in
theorem ralu2 (r : Rg) (d a b s c n : Int) (w : World) (ok : okR r) (hi : okIn ⟨2, d, a, b, s, c, n⟩) (hr : right ⟨2, d, a, b, s, c, n⟩ = true) (hs0 : 0 ≤ s) (hs1 : s < 4) (hn0 : 0 ≤ n) (hn1 : n < 65536) :
    Calls Try.prog 24 #[.agg (rgA r), .agg #[.int .i64 2, .int .i64 d, .int .i64 a, .int .i64 b, .int .i64 s, .int .i64 c, .int .i64 n]] w fun e w' => e = .returned (.tuple #[.agg (rgA (setReg r d (reg r a + reg r b))), .int .i64 1, .bool true]) ∧ Below w.heap.size w w' := by
  have S0 := Lib.hid (trio_has w r ⟨2, d, a, b, s, c, n⟩ ok)
  have GR := Lib.hid (fun w => rright_any ⟨2, d, a, b, s, c, n⟩ w hi)
  rw [hr] at GR
  clear hi hr
  go_enter Try.func24, Try.ntmps24
  go_upto_region 1 with (fail)
  simp only [zeros_eq]
  rw [show World.alloc (World.alloc (World.alloc w _) _) _ = trio w r ⟨2, d, a, b, s, c, n⟩ from rfl]
  generalize trio w r ⟨2, d, a, b, s, c, n⟩ = W at *
  have hq : w.heap.size + 1 ≠ w.heap.size := by omega
  have hpt : w.heap.size ≤ w.heap.size + 1 + 1 := by omega
  have hqt : w.heap.size + 1 ≠ w.heap.size + 1 + 1 := by omega
  have hnt : w.heap.size ≠ w.heap.size + 1 + 1 := by omega
  generalize w.heap.size + 1 + 1 = t at *
  generalize w.heap.size + 1 = q at *
  generalize hp : w.heap.size = p at *
  have HQ := Lib.hid hp
  clear hp
  have SB := S0.out
  have hlt := (S0.out.2.1).lt
  obtain ⟨⟨l1, l2, l3, c0, c1, c2, c3, c4, c5, c6⟩, _⟩ := SB
  go_wp2_with fail
  refine (GR.out _).mono ?_
  rintro e w1 ⟨rfl, hb1⟩
  have S1 := Lib.hid (ST.keep ok S0.out hb1 (Nat.le_of_lt hlt))
  clear l1 l2 l3 c0 c1 c2 c3 c4 c5 c6
  obtain ⟨⟨l1, l2, l3, c0, c1, c2, c3, c4, c5, c6⟩, _⟩ := S1.out
  have hpp : p ≤ p := Nat.le_refl _
  go_wp2_with fail
  refine (rget_S p w p q t r ⟨2, d, a, b, s, c, n⟩ a _ ok S1.out hpp).mono ?_
  rintro e w2 ⟨rfl, h2⟩
  have S2 := Lib.hid h2
  clear h2
  clear l1 l2 l3 c0 c1 c2 c3 c4 c5 c6
  obtain ⟨⟨l1, l2, l3, c0, c1, c2, c3, c4, c5, c6⟩, _⟩ := S2.out
  go_wp2_with fail
  refine (rget_S p w p q t r ⟨2, d, a, b, s, c, n⟩ b _ ok S2.out hpp).mono ?_
  rintro e w3 ⟨rfl, h3⟩
  have S3 := Lib.hid h3
  clear h3
  clear l1 l2 l3 c0 c1 c2 c3 c4 c5 c6
  obtain ⟨⟨l1, l2, l3, c0, c1, c2, c3, c4, c5, c6⟩, _⟩ := S3.out
  go_wp2_with fail
  rw [IntKind.wrap_u64, w64_add]
  refine (rput_S p w p q t r ⟨2, d, a, b, s, c, n⟩ d (reg r a + reg r b) _ ok S3.out hpp).mono ?_
  rintro e w4 ⟨rfl, h4⟩
  have S4 := Lib.hid h4
  clear h4
  clear l1 l2 l3 c0 c1 c2 c3 c4 c5 c6
  obtain ⟨⟨l1, l2, l3, c0, c1, c2, c3, c4, c5, c6⟩, _⟩ := S4.out
  have hrv := S4.out.2.1
  have ok1 := setReg_ok ok d (reg r a + reg r b)
  go_wp2_with (with_reducible refine wpList_store_rv rfl _ _ rfl p r (setReg r d (reg r a + reg r b)) rfl rfl ok ok1 hrv ?_; intro w5 hp5; have S5 := Lib.hid (ST.again S4.out hp5 ok1 hpp hnt hq); clear l1 l2 l3 c0 c1 c2 c3 c4 c5 c6; clear hp5 hrv; obtain ⟨⟨l1, l2, l3, c0, c1, c2, c3, c4, c5, c6⟩, _⟩ := S5.out; have hgood := good ok1)
  have HP := Lib.hid (ST.put ok1 ok1 S5.out hnt hqt hpt)
  have hl := load_rv HP.out.2 ok1
  exact bodyPost_ret (v := .tuple #[.agg (rgA (setReg r d (reg r a + reg r b))), .int .i64 1, .bool true]) (results_cell3 Try.results24 rfl hl rfl rfl) rfl ⟨rfl, by rw [HQ.out]; exact HP.out.1.2.2.2.2⟩

set_option maxRecDepth 20000 in
set_option maxHeartbeats 3200000 in
theorem ralu3 (r : Rg) (d a b s c n : Int) (w : World) (ok : okR r) (hi : okIn ⟨3, d, a, b, s, c, n⟩) (hr : right ⟨3, d, a, b, s, c, n⟩ = true) (hs0 : 0 ≤ s) (hs1 : s < 4) (hn0 : 0 ≤ n) (hn1 : n < 65536) :
    Calls Try.prog 24 #[.agg (rgA r), .agg #[.int .i64 3, .int .i64 d, .int .i64 a, .int .i64 b, .int .i64 s, .int .i64 c, .int .i64 n]] w fun e w' => e = .returned (.tuple #[.agg (rgA (setReg r d (reg r a - reg r b))), .int .i64 1, .bool true]) ∧ Below w.heap.size w w' := by
  have S0 := Lib.hid (trio_has w r ⟨3, d, a, b, s, c, n⟩ ok)
  have GR := Lib.hid (fun w => rright_any ⟨3, d, a, b, s, c, n⟩ w hi)
  rw [hr] at GR
  clear hi hr
  go_enter Try.func24, Try.ntmps24
  go_upto_region 1 with (fail)
  simp only [zeros_eq]
  rw [show World.alloc (World.alloc (World.alloc w _) _) _ = trio w r ⟨3, d, a, b, s, c, n⟩ from rfl]
  generalize trio w r ⟨3, d, a, b, s, c, n⟩ = W at *
  have hq : w.heap.size + 1 ≠ w.heap.size := by omega
  have hpt : w.heap.size ≤ w.heap.size + 1 + 1 := by omega
  have hqt : w.heap.size + 1 ≠ w.heap.size + 1 + 1 := by omega
  have hnt : w.heap.size ≠ w.heap.size + 1 + 1 := by omega
  generalize w.heap.size + 1 + 1 = t at *
  generalize w.heap.size + 1 = q at *
  generalize hp : w.heap.size = p at *
  have HQ := Lib.hid hp
  clear hp
  have SB := S0.out
  have hlt := (S0.out.2.1).lt
  obtain ⟨⟨l1, l2, l3, c0, c1, c2, c3, c4, c5, c6⟩, _⟩ := SB
  go_wp2_with fail
  refine (GR.out _).mono ?_
  rintro e w1 ⟨rfl, hb1⟩
  have S1 := Lib.hid (ST.keep ok S0.out hb1 (Nat.le_of_lt hlt))
  clear l1 l2 l3 c0 c1 c2 c3 c4 c5 c6
  obtain ⟨⟨l1, l2, l3, c0, c1, c2, c3, c4, c5, c6⟩, _⟩ := S1.out
  have hpp : p ≤ p := Nat.le_refl _
  go_wp2_with fail
  refine (rget_S p w p q t r ⟨3, d, a, b, s, c, n⟩ a _ ok S1.out hpp).mono ?_
  rintro e w2 ⟨rfl, h2⟩
  have S2 := Lib.hid h2
  clear h2
  clear l1 l2 l3 c0 c1 c2 c3 c4 c5 c6
  obtain ⟨⟨l1, l2, l3, c0, c1, c2, c3, c4, c5, c6⟩, _⟩ := S2.out
  go_wp2_with fail
  refine (rget_S p w p q t r ⟨3, d, a, b, s, c, n⟩ b _ ok S2.out hpp).mono ?_
  rintro e w3 ⟨rfl, h3⟩
  have S3 := Lib.hid h3
  clear h3
  clear l1 l2 l3 c0 c1 c2 c3 c4 c5 c6
  obtain ⟨⟨l1, l2, l3, c0, c1, c2, c3, c4, c5, c6⟩, _⟩ := S3.out
  go_wp2_with fail
  rw [IntKind.wrap_u64, w64_sub]
  refine (rput_S p w p q t r ⟨3, d, a, b, s, c, n⟩ d (reg r a - reg r b) _ ok S3.out hpp).mono ?_
  rintro e w4 ⟨rfl, h4⟩
  have S4 := Lib.hid h4
  clear h4
  clear l1 l2 l3 c0 c1 c2 c3 c4 c5 c6
  obtain ⟨⟨l1, l2, l3, c0, c1, c2, c3, c4, c5, c6⟩, _⟩ := S4.out
  have hrv := S4.out.2.1
  have ok1 := setReg_ok ok d (reg r a - reg r b)
  go_wp2_with (with_reducible refine wpList_store_rv rfl _ _ rfl p r (setReg r d (reg r a - reg r b)) rfl rfl ok ok1 hrv ?_; intro w5 hp5; have S5 := Lib.hid (ST.again S4.out hp5 ok1 hpp hnt hq); clear l1 l2 l3 c0 c1 c2 c3 c4 c5 c6; clear hp5 hrv; obtain ⟨⟨l1, l2, l3, c0, c1, c2, c3, c4, c5, c6⟩, _⟩ := S5.out; have hgood := good ok1)
  have HP := Lib.hid (ST.put ok1 ok1 S5.out hnt hqt hpt)
  have hl := load_rv HP.out.2 ok1
  exact bodyPost_ret (v := .tuple #[.agg (rgA (setReg r d (reg r a - reg r b))), .int .i64 1, .bool true]) (results_cell3 Try.results24 rfl hl rfl rfl) rfl ⟨rfl, by rw [HQ.out]; exact HP.out.1.2.2.2.2⟩

set_option maxRecDepth 20000 in
set_option maxHeartbeats 3200000 in
theorem ralu4 (r : Rg) (d a b s c n : Int) (w : World) (ok : okR r) (hi : okIn ⟨4, d, a, b, s, c, n⟩) (hr : right ⟨4, d, a, b, s, c, n⟩ = true) (hs0 : 0 ≤ s) (hs1 : s < 4) (hn0 : 0 ≤ n) (hn1 : n < 65536) :
    Calls Try.prog 24 #[.agg (rgA r), .agg #[.int .i64 4, .int .i64 d, .int .i64 a, .int .i64 b, .int .i64 s, .int .i64 c, .int .i64 n]] w fun e w' => e = .returned (.tuple #[.agg (rgA (setReg r d (reg r a * reg r b))), .int .i64 1, .bool true]) ∧ Below w.heap.size w w' := by
  have S0 := Lib.hid (trio_has w r ⟨4, d, a, b, s, c, n⟩ ok)
  have GR := Lib.hid (fun w => rright_any ⟨4, d, a, b, s, c, n⟩ w hi)
  rw [hr] at GR
  clear hi hr
  go_enter Try.func24, Try.ntmps24
  go_upto_region 1 with (fail)
  simp only [zeros_eq]
  rw [show World.alloc (World.alloc (World.alloc w _) _) _ = trio w r ⟨4, d, a, b, s, c, n⟩ from rfl]
  generalize trio w r ⟨4, d, a, b, s, c, n⟩ = W at *
  have hq : w.heap.size + 1 ≠ w.heap.size := by omega
  have hpt : w.heap.size ≤ w.heap.size + 1 + 1 := by omega
  have hqt : w.heap.size + 1 ≠ w.heap.size + 1 + 1 := by omega
  have hnt : w.heap.size ≠ w.heap.size + 1 + 1 := by omega
  generalize w.heap.size + 1 + 1 = t at *
  generalize w.heap.size + 1 = q at *
  generalize hp : w.heap.size = p at *
  have HQ := Lib.hid hp
  clear hp
  have SB := S0.out
  have hlt := (S0.out.2.1).lt
  obtain ⟨⟨l1, l2, l3, c0, c1, c2, c3, c4, c5, c6⟩, _⟩ := SB
  go_wp2_with fail
  refine (GR.out _).mono ?_
  rintro e w1 ⟨rfl, hb1⟩
  have S1 := Lib.hid (ST.keep ok S0.out hb1 (Nat.le_of_lt hlt))
  clear l1 l2 l3 c0 c1 c2 c3 c4 c5 c6
  obtain ⟨⟨l1, l2, l3, c0, c1, c2, c3, c4, c5, c6⟩, _⟩ := S1.out
  have hpp : p ≤ p := Nat.le_refl _
  go_wp2_with fail
  refine (rget_S p w p q t r ⟨4, d, a, b, s, c, n⟩ a _ ok S1.out hpp).mono ?_
  rintro e w2 ⟨rfl, h2⟩
  have S2 := Lib.hid h2
  clear h2
  clear l1 l2 l3 c0 c1 c2 c3 c4 c5 c6
  obtain ⟨⟨l1, l2, l3, c0, c1, c2, c3, c4, c5, c6⟩, _⟩ := S2.out
  go_wp2_with fail
  refine (rget_S p w p q t r ⟨4, d, a, b, s, c, n⟩ b _ ok S2.out hpp).mono ?_
  rintro e w3 ⟨rfl, h3⟩
  have S3 := Lib.hid h3
  clear h3
  clear l1 l2 l3 c0 c1 c2 c3 c4 c5 c6
  obtain ⟨⟨l1, l2, l3, c0, c1, c2, c3, c4, c5, c6⟩, _⟩ := S3.out
  go_wp2_with fail
  rw [IntKind.wrap_u64, w64_mul]
  refine (rput_S p w p q t r ⟨4, d, a, b, s, c, n⟩ d (reg r a * reg r b) _ ok S3.out hpp).mono ?_
  rintro e w4 ⟨rfl, h4⟩
  have S4 := Lib.hid h4
  clear h4
  clear l1 l2 l3 c0 c1 c2 c3 c4 c5 c6
  obtain ⟨⟨l1, l2, l3, c0, c1, c2, c3, c4, c5, c6⟩, _⟩ := S4.out
  have hrv := S4.out.2.1
  have ok1 := setReg_ok ok d (reg r a * reg r b)
  go_wp2_with (with_reducible refine wpList_store_rv rfl _ _ rfl p r (setReg r d (reg r a * reg r b)) rfl rfl ok ok1 hrv ?_; intro w5 hp5; have S5 := Lib.hid (ST.again S4.out hp5 ok1 hpp hnt hq); clear l1 l2 l3 c0 c1 c2 c3 c4 c5 c6; clear hp5 hrv; obtain ⟨⟨l1, l2, l3, c0, c1, c2, c3, c4, c5, c6⟩, _⟩ := S5.out; have hgood := good ok1)
  have HP := Lib.hid (ST.put ok1 ok1 S5.out hnt hqt hpt)
  have hl := load_rv HP.out.2 ok1
  exact bodyPost_ret (v := .tuple #[.agg (rgA (setReg r d (reg r a * reg r b))), .int .i64 1, .bool true]) (results_cell3 Try.results24 rfl hl rfl rfl) rfl ⟨rfl, by rw [HQ.out]; exact HP.out.1.2.2.2.2⟩

set_option maxRecDepth 20000 in
set_option maxHeartbeats 3200000 in
theorem ralu5 (r : Rg) (d a b s c n : Int) (w : World) (ok : okR r) (hi : okIn ⟨5, d, a, b, s, c, n⟩) (hr : right ⟨5, d, a, b, s, c, n⟩ = true) (hs0 : 0 ≤ s) (hs1 : s < 4) (hn0 : 0 ≤ n) (hn1 : n < 65536) :
    Calls Try.prog 24 #[.agg (rgA r), .agg #[.int .i64 5, .int .i64 d, .int .i64 a, .int .i64 b, .int .i64 s, .int .i64 c, .int .i64 n]] w fun e w' => e = .returned (.tuple #[.agg (rgA (setReg r d (reg r a &&& reg r b))), .int .i64 1, .bool true]) ∧ Below w.heap.size w w' := by
  have S0 := Lib.hid (trio_has w r ⟨5, d, a, b, s, c, n⟩ ok)
  have GR := Lib.hid (fun w => rright_any ⟨5, d, a, b, s, c, n⟩ w hi)
  rw [hr] at GR
  clear hi hr
  go_enter Try.func24, Try.ntmps24
  go_upto_region 1 with (fail)
  simp only [zeros_eq]
  rw [show World.alloc (World.alloc (World.alloc w _) _) _ = trio w r ⟨5, d, a, b, s, c, n⟩ from rfl]
  generalize trio w r ⟨5, d, a, b, s, c, n⟩ = W at *
  have hq : w.heap.size + 1 ≠ w.heap.size := by omega
  have hpt : w.heap.size ≤ w.heap.size + 1 + 1 := by omega
  have hqt : w.heap.size + 1 ≠ w.heap.size + 1 + 1 := by omega
  have hnt : w.heap.size ≠ w.heap.size + 1 + 1 := by omega
  generalize w.heap.size + 1 + 1 = t at *
  generalize w.heap.size + 1 = q at *
  generalize hp : w.heap.size = p at *
  have HQ := Lib.hid hp
  clear hp
  have SB := S0.out
  have hlt := (S0.out.2.1).lt
  obtain ⟨⟨l1, l2, l3, c0, c1, c2, c3, c4, c5, c6⟩, _⟩ := SB
  go_wp2_with fail
  refine (GR.out _).mono ?_
  rintro e w1 ⟨rfl, hb1⟩
  have S1 := Lib.hid (ST.keep ok S0.out hb1 (Nat.le_of_lt hlt))
  clear l1 l2 l3 c0 c1 c2 c3 c4 c5 c6
  obtain ⟨⟨l1, l2, l3, c0, c1, c2, c3, c4, c5, c6⟩, _⟩ := S1.out
  have hpp : p ≤ p := Nat.le_refl _
  go_wp2_with fail
  refine (rget_S p w p q t r ⟨5, d, a, b, s, c, n⟩ a _ ok S1.out hpp).mono ?_
  rintro e w2 ⟨rfl, h2⟩
  have S2 := Lib.hid h2
  clear h2
  clear l1 l2 l3 c0 c1 c2 c3 c4 c5 c6
  obtain ⟨⟨l1, l2, l3, c0, c1, c2, c3, c4, c5, c6⟩, _⟩ := S2.out
  go_wp2_with fail
  refine (rget_S p w p q t r ⟨5, d, a, b, s, c, n⟩ b _ ok S2.out hpp).mono ?_
  rintro e w3 ⟨rfl, h3⟩
  have S3 := Lib.hid h3
  clear h3
  clear l1 l2 l3 c0 c1 c2 c3 c4 c5 c6
  obtain ⟨⟨l1, l2, l3, c0, c1, c2, c3, c4, c5, c6⟩, _⟩ := S3.out
  go_wp2_with fail
  rw [w64_and]
  refine (rput_S p w p q t r ⟨5, d, a, b, s, c, n⟩ d (reg r a &&& reg r b) _ ok S3.out hpp).mono ?_
  rintro e w4 ⟨rfl, h4⟩
  have S4 := Lib.hid h4
  clear h4
  clear l1 l2 l3 c0 c1 c2 c3 c4 c5 c6
  obtain ⟨⟨l1, l2, l3, c0, c1, c2, c3, c4, c5, c6⟩, _⟩ := S4.out
  have hrv := S4.out.2.1
  have ok1 := setReg_ok ok d (reg r a &&& reg r b)
  go_wp2_with (with_reducible refine wpList_store_rv rfl _ _ rfl p r (setReg r d (reg r a &&& reg r b)) rfl rfl ok ok1 hrv ?_; intro w5 hp5; have S5 := Lib.hid (ST.again S4.out hp5 ok1 hpp hnt hq); clear l1 l2 l3 c0 c1 c2 c3 c4 c5 c6; clear hp5 hrv; obtain ⟨⟨l1, l2, l3, c0, c1, c2, c3, c4, c5, c6⟩, _⟩ := S5.out; have hgood := good ok1)
  have HP := Lib.hid (ST.put ok1 ok1 S5.out hnt hqt hpt)
  have hl := load_rv HP.out.2 ok1
  exact bodyPost_ret (v := .tuple #[.agg (rgA (setReg r d (reg r a &&& reg r b))), .int .i64 1, .bool true]) (results_cell3 Try.results24 rfl hl rfl rfl) rfl ⟨rfl, by rw [HQ.out]; exact HP.out.1.2.2.2.2⟩

set_option maxRecDepth 20000 in
set_option maxHeartbeats 3200000 in
theorem ralu6 (r : Rg) (d a b s c n : Int) (w : World) (ok : okR r) (hi : okIn ⟨6, d, a, b, s, c, n⟩) (hr : right ⟨6, d, a, b, s, c, n⟩ = true) (hs0 : 0 ≤ s) (hs1 : s < 4) :
    Calls Try.prog 24 #[.agg (rgA r), .agg #[.int .i64 6, .int .i64 d, .int .i64 a, .int .i64 b, .int .i64 s, .int .i64 c, .int .i64 n]] w fun e w' => e = .returned (.tuple #[.agg (rgA { r with l := reg r a, r := reg r b }), .int .i64 1, .bool true]) ∧ Below w.heap.size w w' := by
  have S0 := Lib.hid (trio_has w r ⟨6, d, a, b, s, c, n⟩ ok)
  have GR := Lib.hid (fun w => rright_any ⟨6, d, a, b, s, c, n⟩ w hi)
  rw [hr] at GR
  clear hi hr
  go_enter Try.func24, Try.ntmps24
  go_upto_region 1 with (fail)
  simp only [zeros_eq]
  rw [show World.alloc (World.alloc (World.alloc w _) _) _ = trio w r ⟨6, d, a, b, s, c, n⟩ from rfl]
  generalize trio w r ⟨6, d, a, b, s, c, n⟩ = W at *
  have hq : w.heap.size + 1 ≠ w.heap.size := by omega
  have hpt : w.heap.size ≤ w.heap.size + 1 + 1 := by omega
  have hqt : w.heap.size + 1 ≠ w.heap.size + 1 + 1 := by omega
  have hnt : w.heap.size ≠ w.heap.size + 1 + 1 := by omega
  generalize w.heap.size + 1 + 1 = t at *
  generalize w.heap.size + 1 = q at *
  generalize hp : w.heap.size = p at *
  have HQ := Lib.hid hp
  clear hp
  have SB := S0.out
  have hlt := (S0.out.2.1).lt
  obtain ⟨⟨l1, l2, l3, c0, c1, c2, c3, c4, c5, c6⟩, _⟩ := SB
  go_wp2_with fail
  refine (GR.out _).mono ?_
  rintro e w1 ⟨rfl, hb1⟩
  have S1 := Lib.hid (ST.keep ok S0.out hb1 (Nat.le_of_lt hlt))
  clear l1 l2 l3 c0 c1 c2 c3 c4 c5 c6
  obtain ⟨⟨l1, l2, l3, c0, c1, c2, c3, c4, c5, c6⟩, _⟩ := S1.out
  have hpp : p ≤ p := Nat.le_refl _
  go_wp2_with fail
  refine (rget_S p w p q t r ⟨6, d, a, b, s, c, n⟩ a _ ok S1.out hpp).mono ?_
  rintro e w2 ⟨rfl, h2⟩
  have S2 := Lib.hid h2
  clear h2
  clear l1 l2 l3 c0 c1 c2 c3 c4 c5 c6
  obtain ⟨⟨l1, l2, l3, c0, c1, c2, c3, c4, c5, c6⟩, _⟩ := S2.out
  go_wp2_with fail
  refine (rget_S p w p q t r ⟨6, d, a, b, s, c, n⟩ b _ ok S2.out hpp).mono ?_
  rintro e w3 ⟨rfl, h3⟩
  have S3 := Lib.hid h3
  clear h3
  clear l1 l2 l3 c0 c1 c2 c3 c4 c5 c6
  obtain ⟨⟨l1, l2, l3, c0, c1, c2, c3, c4, c5, c6⟩, _⟩ := S3.out
  obtain ⟨z1, z2, z3⟩ := ST.lr ok S3.out
  have ok1 : okR { r with l := reg r a, r := reg r b } := ok
  have S4 := Lib.hid (ST.both ok S3.out hpp hnt hq (reg r a) (reg r b))
  obtain ⟨⟨m1, m2, m3, _, _, _, _, _, _, _⟩, _⟩ := S4.out
  have hgood := good ok1
  go_wp2_with fail
  have HP := Lib.hid (ST.put ok1 ok1 S4.out hnt hqt hpt)
  have hl := load_rv HP.out.2 ok1
  exact bodyPost_ret (v := .tuple #[.agg (rgA { r with l := reg r a, r := reg r b }), .int .i64 1, .bool true]) (results_cell3 Try.results24 rfl hl rfl rfl) rfl ⟨rfl, by rw [HQ.out]; exact HP.out.1.2.2.2.2⟩

set_option maxRecDepth 20000 in
set_option maxHeartbeats 3200000 in
theorem ralu8 (r : Rg) (d a b s c n : Int) (w : World) (ok : okR r) (hi : okIn ⟨8, d, a, b, s, c, n⟩) (hr : right ⟨8, d, a, b, s, c, n⟩ = true) (hs0 : 0 ≤ s) (hs1 : s < 4) :
    Calls Try.prog 24 #[.agg (rgA r), .agg #[.int .i64 8, .int .i64 d, .int .i64 a, .int .i64 b, .int .i64 s, .int .i64 c, .int .i64 n]] w fun e w' => e = .returned (.tuple #[.agg (rgA r), .int .i64 n, .bool true]) ∧ Below w.heap.size w w' := by
  have S0 := Lib.hid (trio_has w r ⟨8, d, a, b, s, c, n⟩ ok)
  have GR := Lib.hid (fun w => rright_any ⟨8, d, a, b, s, c, n⟩ w hi)
  rw [hr] at GR
  clear hi hr
  go_enter Try.func24, Try.ntmps24
  go_upto_region 1 with (fail)
  simp only [zeros_eq]
  rw [show World.alloc (World.alloc (World.alloc w _) _) _ = trio w r ⟨8, d, a, b, s, c, n⟩ from rfl]
  generalize trio w r ⟨8, d, a, b, s, c, n⟩ = W at *
  have hq : w.heap.size + 1 ≠ w.heap.size := by omega
  have hpt : w.heap.size ≤ w.heap.size + 1 + 1 := by omega
  have hqt : w.heap.size + 1 ≠ w.heap.size + 1 + 1 := by omega
  have hnt : w.heap.size ≠ w.heap.size + 1 + 1 := by omega
  generalize w.heap.size + 1 + 1 = t at *
  generalize w.heap.size + 1 = q at *
  generalize hp : w.heap.size = p at *
  have HQ := Lib.hid hp
  clear hp
  have SB := S0.out
  have hlt := (S0.out.2.1).lt
  obtain ⟨⟨l1, l2, l3, c0, c1, c2, c3, c4, c5, c6⟩, _⟩ := SB
  go_wp2_with fail
  refine (GR.out _).mono ?_
  rintro e w1 ⟨rfl, hb1⟩
  have S1 := Lib.hid (ST.keep ok S0.out hb1 (Nat.le_of_lt hlt))
  clear l1 l2 l3 c0 c1 c2 c3 c4 c5 c6
  obtain ⟨⟨l1, l2, l3, c0, c1, c2, c3, c4, c5, c6⟩, _⟩ := S1.out
  have hpp : p ≤ p := Nat.le_refl _
  go_wp2_with fail
  refine (rget_S p w p q t r ⟨8, d, a, b, s, c, n⟩ a _ ok S1.out hpp).mono ?_
  rintro e w2 ⟨rfl, h2⟩
  have S2 := Lib.hid h2
  clear h2
  clear l1 l2 l3 c0 c1 c2 c3 c4 c5 c6
  obtain ⟨⟨l1, l2, l3, c0, c1, c2, c3, c4, c5, c6⟩, _⟩ := S2.out
  go_wp2_with fail
  refine (rget_S p w p q t r ⟨8, d, a, b, s, c, n⟩ b _ ok S2.out hpp).mono ?_
  rintro e w3 ⟨rfl, h3⟩
  have S3 := Lib.hid h3
  clear h3
  clear l1 l2 l3 c0 c1 c2 c3 c4 c5 c6
  obtain ⟨⟨l1, l2, l3, c0, c1, c2, c3, c4, c5, c6⟩, _⟩ := S3.out
  have S3d := Lib.hid (ST.drew ok S3.out)
  have hgood := good ok
  go_wp2_with fail
  clear l1 l2 l3 c0 c1 c2 c3 c4 c5 c6
  have SB := S3d.out
  go_region_held3 (fun w' => (HasV w' (.pointer (some ⟨p, 0, none⟩)) ∧ cellsV w' (.pointer (some ⟨p, 0, none⟩)) = rgA r ∧ ThereV w' (.pointer (some ⟨t, 0, none⟩)) ∧ w'.cell? ⟨q, 0, none⟩ = some (.int .i64 8) ∧ w'.cell? ⟨q, 1, none⟩ = some (.int .i64 d) ∧ w'.cell? ⟨q, 2, none⟩ = some (.int .i64 a) ∧ w'.cell? ⟨q, 3, none⟩ = some (.int .i64 b) ∧ w'.cell? ⟨q, 4, none⟩ = some (.int .i64 s) ∧ w'.cell? ⟨q, 5, none⟩ = some (.int .i64 c) ∧ w'.cell? ⟨q, 6, none⟩ = some (.int .i64 n)) ∧ RV w' p r ∧ (∃ r0, okR r0 ∧ RV w' t r0) ∧ Vi w' q ⟨8, d, a, b, s, c, n⟩ ∧ Below p w w') (first | with_reducible assumption | with_reducible exact (ST.put ok ok S3d.out hnt hqt hpt).1)
    (fail)
  go_wp2_with fail
  have HP := Lib.hid (ST.put ok ok S3d.out hnt hqt hpt)
  have hl := load_rv HP.out.2 ok
  exact bodyPost_ret (v := .tuple #[.agg (rgA r), .int .i64 n, .bool true]) (results_cell3 Try.results24 rfl hl rfl rfl) rfl ⟨rfl, by rw [HQ.out]; exact HP.out.1.2.2.2.2⟩

set_option maxRecDepth 20000 in
set_option maxHeartbeats 3200000 in
theorem ralu9true (r : Rg) (d a b s c n : Int) (w : World) (ok : okR r) (hi : okIn ⟨9, d, a, b, s, c, n⟩) (hr : right ⟨9, d, a, b, s, c, n⟩ = true) (hs0 : 0 ≤ s) (hs1 : s < 4) (hh : holds r c = true) :
    Calls Try.prog 24 #[.agg (rgA r), .agg #[.int .i64 9, .int .i64 d, .int .i64 a, .int .i64 b, .int .i64 s, .int .i64 c, .int .i64 n]] w fun e w' => e = .returned (.tuple #[.agg (rgA r), .int .i64 n, .bool true]) ∧ Below w.heap.size w w' := by
  have S0 := Lib.hid (trio_has w r ⟨9, d, a, b, s, c, n⟩ ok)
  have GR := Lib.hid (fun w => rright_any ⟨9, d, a, b, s, c, n⟩ w hi)
  rw [hr] at GR
  clear hi hr
  go_enter Try.func24, Try.ntmps24
  go_upto_region 1 with (fail)
  simp only [zeros_eq]
  rw [show World.alloc (World.alloc (World.alloc w _) _) _ = trio w r ⟨9, d, a, b, s, c, n⟩ from rfl]
  generalize trio w r ⟨9, d, a, b, s, c, n⟩ = W at *
  have hq : w.heap.size + 1 ≠ w.heap.size := by omega
  have hpt : w.heap.size ≤ w.heap.size + 1 + 1 := by omega
  have hqt : w.heap.size + 1 ≠ w.heap.size + 1 + 1 := by omega
  have hnt : w.heap.size ≠ w.heap.size + 1 + 1 := by omega
  generalize w.heap.size + 1 + 1 = t at *
  generalize w.heap.size + 1 = q at *
  generalize hp : w.heap.size = p at *
  have HQ := Lib.hid hp
  clear hp
  have SB := S0.out
  have hlt := (S0.out.2.1).lt
  obtain ⟨⟨l1, l2, l3, c0, c1, c2, c3, c4, c5, c6⟩, _⟩ := SB
  go_wp2_with fail
  refine (GR.out _).mono ?_
  rintro e w1 ⟨rfl, hb1⟩
  have S1 := Lib.hid (ST.keep ok S0.out hb1 (Nat.le_of_lt hlt))
  clear l1 l2 l3 c0 c1 c2 c3 c4 c5 c6
  obtain ⟨⟨l1, l2, l3, c0, c1, c2, c3, c4, c5, c6⟩, _⟩ := S1.out
  have hpp : p ≤ p := Nat.le_refl _
  go_wp2_with fail
  refine (rget_S p w p q t r ⟨9, d, a, b, s, c, n⟩ a _ ok S1.out hpp).mono ?_
  rintro e w2 ⟨rfl, h2⟩
  have S2 := Lib.hid h2
  clear h2
  clear l1 l2 l3 c0 c1 c2 c3 c4 c5 c6
  obtain ⟨⟨l1, l2, l3, c0, c1, c2, c3, c4, c5, c6⟩, _⟩ := S2.out
  go_wp2_with fail
  refine (rget_S p w p q t r ⟨9, d, a, b, s, c, n⟩ b _ ok S2.out hpp).mono ?_
  rintro e w3 ⟨rfl, h3⟩
  have S3 := Lib.hid h3
  clear h3
  clear l1 l2 l3 c0 c1 c2 c3 c4 c5 c6
  obtain ⟨⟨l1, l2, l3, c0, c1, c2, c3, c4, c5, c6⟩, _⟩ := S3.out
  go_wp2_with fail
  refine (rholds_S p w p q t r ⟨9, d, a, b, s, c, n⟩ c _ ok S3.out hpp).mono ?_
  rintro e w4 ⟨rfl, h4⟩
  rw [hh]
  have S4 := Lib.hid h4
  clear h4 hh
  clear l1 l2 l3 c0 c1 c2 c3 c4 c5 c6
  obtain ⟨⟨l1, l2, l3, c0, c1, c2, c3, c4, c5, c6⟩, _⟩ := S4.out
  have S3d := Lib.hid (ST.drew ok S4.out)
  have hgood := good ok
  go_wp2_with fail
  clear l1 l2 l3 c0 c1 c2 c3 c4 c5 c6
  have SB := S3d.out
  go_region_held3 (fun w' => (HasV w' (.pointer (some ⟨p, 0, none⟩)) ∧ cellsV w' (.pointer (some ⟨p, 0, none⟩)) = rgA r ∧ ThereV w' (.pointer (some ⟨t, 0, none⟩)) ∧ w'.cell? ⟨q, 0, none⟩ = some (.int .i64 9) ∧ w'.cell? ⟨q, 1, none⟩ = some (.int .i64 d) ∧ w'.cell? ⟨q, 2, none⟩ = some (.int .i64 a) ∧ w'.cell? ⟨q, 3, none⟩ = some (.int .i64 b) ∧ w'.cell? ⟨q, 4, none⟩ = some (.int .i64 s) ∧ w'.cell? ⟨q, 5, none⟩ = some (.int .i64 c) ∧ w'.cell? ⟨q, 6, none⟩ = some (.int .i64 n)) ∧ RV w' p r ∧ (∃ r0, okR r0 ∧ RV w' t r0) ∧ Vi w' q ⟨9, d, a, b, s, c, n⟩ ∧ Below p w w') (first | with_reducible assumption | with_reducible exact (ST.put ok ok S3d.out hnt hqt hpt).1)
    (fail)
  go_wp2_with fail
  have HP := Lib.hid (ST.put ok ok S3d.out hnt hqt hpt)
  have hl := load_rv HP.out.2 ok
  exact bodyPost_ret (v := .tuple #[.agg (rgA r), .int .i64 n, .bool true]) (results_cell3 Try.results24 rfl hl rfl rfl) rfl ⟨rfl, by rw [HQ.out]; exact HP.out.1.2.2.2.2⟩

set_option maxRecDepth 20000 in
set_option maxHeartbeats 3200000 in
theorem ralu9false (r : Rg) (d a b s c n : Int) (w : World) (ok : okR r) (hi : okIn ⟨9, d, a, b, s, c, n⟩) (hr : right ⟨9, d, a, b, s, c, n⟩ = true) (hs0 : 0 ≤ s) (hs1 : s < 4) (hh : holds r c = false) :
    Calls Try.prog 24 #[.agg (rgA r), .agg #[.int .i64 9, .int .i64 d, .int .i64 a, .int .i64 b, .int .i64 s, .int .i64 c, .int .i64 n]] w fun e w' => e = .returned (.tuple #[.agg (rgA r), .int .i64 1, .bool true]) ∧ Below w.heap.size w w' := by
  have S0 := Lib.hid (trio_has w r ⟨9, d, a, b, s, c, n⟩ ok)
  have GR := Lib.hid (fun w => rright_any ⟨9, d, a, b, s, c, n⟩ w hi)
  rw [hr] at GR
  clear hi hr
  go_enter Try.func24, Try.ntmps24
  go_upto_region 1 with (fail)
  simp only [zeros_eq]
  rw [show World.alloc (World.alloc (World.alloc w _) _) _ = trio w r ⟨9, d, a, b, s, c, n⟩ from rfl]
  generalize trio w r ⟨9, d, a, b, s, c, n⟩ = W at *
  have hq : w.heap.size + 1 ≠ w.heap.size := by omega
  have hpt : w.heap.size ≤ w.heap.size + 1 + 1 := by omega
  have hqt : w.heap.size + 1 ≠ w.heap.size + 1 + 1 := by omega
  have hnt : w.heap.size ≠ w.heap.size + 1 + 1 := by omega
  generalize w.heap.size + 1 + 1 = t at *
  generalize w.heap.size + 1 = q at *
  generalize hp : w.heap.size = p at *
  have HQ := Lib.hid hp
  clear hp
  have SB := S0.out
  have hlt := (S0.out.2.1).lt
  obtain ⟨⟨l1, l2, l3, c0, c1, c2, c3, c4, c5, c6⟩, _⟩ := SB
  go_wp2_with fail
  refine (GR.out _).mono ?_
  rintro e w1 ⟨rfl, hb1⟩
  have S1 := Lib.hid (ST.keep ok S0.out hb1 (Nat.le_of_lt hlt))
  clear l1 l2 l3 c0 c1 c2 c3 c4 c5 c6
  obtain ⟨⟨l1, l2, l3, c0, c1, c2, c3, c4, c5, c6⟩, _⟩ := S1.out
  have hpp : p ≤ p := Nat.le_refl _
  go_wp2_with fail
  refine (rget_S p w p q t r ⟨9, d, a, b, s, c, n⟩ a _ ok S1.out hpp).mono ?_
  rintro e w2 ⟨rfl, h2⟩
  have S2 := Lib.hid h2
  clear h2
  clear l1 l2 l3 c0 c1 c2 c3 c4 c5 c6
  obtain ⟨⟨l1, l2, l3, c0, c1, c2, c3, c4, c5, c6⟩, _⟩ := S2.out
  go_wp2_with fail
  refine (rget_S p w p q t r ⟨9, d, a, b, s, c, n⟩ b _ ok S2.out hpp).mono ?_
  rintro e w3 ⟨rfl, h3⟩
  have S3 := Lib.hid h3
  clear h3
  clear l1 l2 l3 c0 c1 c2 c3 c4 c5 c6
  obtain ⟨⟨l1, l2, l3, c0, c1, c2, c3, c4, c5, c6⟩, _⟩ := S3.out
  go_wp2_with fail
  refine (rholds_S p w p q t r ⟨9, d, a, b, s, c, n⟩ c _ ok S3.out hpp).mono ?_
  rintro e w4 ⟨rfl, h4⟩
  rw [hh]
  have S4 := Lib.hid h4
  clear h4 hh
  clear l1 l2 l3 c0 c1 c2 c3 c4 c5 c6
  obtain ⟨⟨l1, l2, l3, c0, c1, c2, c3, c4, c5, c6⟩, _⟩ := S4.out
  have hgood := good ok
  go_wp2_with fail
  have HP := Lib.hid (ST.put ok ok S4.out hnt hqt hpt)
  have hl := load_rv HP.out.2 ok
  exact bodyPost_ret (v := .tuple #[.agg (rgA r), .int .i64 1, .bool true]) (results_cell3 Try.results24 rfl hl rfl rfl) rfl ⟨rfl, by rw [HQ.out]; exact HP.out.1.2.2.2.2⟩

set_option maxRecDepth 20000 in
set_option maxHeartbeats 3200000 in
theorem ralu10true (r : Rg) (d a b s c n : Int) (w : World) (ok : okR r) (hi : okIn ⟨10, d, a, b, s, c, n⟩) (hr : right ⟨10, d, a, b, s, c, n⟩ = true) (hs0 : 0 ≤ s) (hs1 : s < 4) (hz : (((reg r a).toNat : Int) == 0) = true) (hz2 : (((reg r a).toNat : Int) != 0) = false) :
    Calls Try.prog 24 #[.agg (rgA r), .agg #[.int .i64 10, .int .i64 d, .int .i64 a, .int .i64 b, .int .i64 s, .int .i64 c, .int .i64 n]] w fun e w' => e = .returned (.tuple #[.agg (rgA r), .int .i64 n, .bool true]) ∧ Below w.heap.size w w' := by
  have S0 := Lib.hid (trio_has w r ⟨10, d, a, b, s, c, n⟩ ok)
  have GR := Lib.hid (fun w => rright_any ⟨10, d, a, b, s, c, n⟩ w hi)
  rw [hr] at GR
  clear hi hr
  go_enter Try.func24, Try.ntmps24
  go_upto_region 1 with (fail)
  simp only [zeros_eq]
  rw [show World.alloc (World.alloc (World.alloc w _) _) _ = trio w r ⟨10, d, a, b, s, c, n⟩ from rfl]
  generalize trio w r ⟨10, d, a, b, s, c, n⟩ = W at *
  have hq : w.heap.size + 1 ≠ w.heap.size := by omega
  have hpt : w.heap.size ≤ w.heap.size + 1 + 1 := by omega
  have hqt : w.heap.size + 1 ≠ w.heap.size + 1 + 1 := by omega
  have hnt : w.heap.size ≠ w.heap.size + 1 + 1 := by omega
  generalize w.heap.size + 1 + 1 = t at *
  generalize w.heap.size + 1 = q at *
  generalize hp : w.heap.size = p at *
  have HQ := Lib.hid hp
  clear hp
  have SB := S0.out
  have hlt := (S0.out.2.1).lt
  obtain ⟨⟨l1, l2, l3, c0, c1, c2, c3, c4, c5, c6⟩, _⟩ := SB
  go_wp2_with fail
  refine (GR.out _).mono ?_
  rintro e w1 ⟨rfl, hb1⟩
  have S1 := Lib.hid (ST.keep ok S0.out hb1 (Nat.le_of_lt hlt))
  clear l1 l2 l3 c0 c1 c2 c3 c4 c5 c6
  obtain ⟨⟨l1, l2, l3, c0, c1, c2, c3, c4, c5, c6⟩, _⟩ := S1.out
  have hpp : p ≤ p := Nat.le_refl _
  go_wp2_with fail
  refine (rget_S p w p q t r ⟨10, d, a, b, s, c, n⟩ a _ ok S1.out hpp).mono ?_
  rintro e w2 ⟨rfl, h2⟩
  have S2 := Lib.hid h2
  clear h2
  clear l1 l2 l3 c0 c1 c2 c3 c4 c5 c6
  obtain ⟨⟨l1, l2, l3, c0, c1, c2, c3, c4, c5, c6⟩, _⟩ := S2.out
  go_wp2_with fail
  refine (rget_S p w p q t r ⟨10, d, a, b, s, c, n⟩ b _ ok S2.out hpp).mono ?_
  rintro e w3 ⟨rfl, h3⟩
  have S3 := Lib.hid h3
  clear h3
  clear l1 l2 l3 c0 c1 c2 c3 c4 c5 c6
  obtain ⟨⟨l1, l2, l3, c0, c1, c2, c3, c4, c5, c6⟩, _⟩ := S3.out
  have S3d := Lib.hid (ST.drew ok S3.out)
  have hgood := good ok
  go_wp2_with fail
  clear l1 l2 l3 c0 c1 c2 c3 c4 c5 c6
  have SB := S3d.out
  go_region_held3 (fun w' => (HasV w' (.pointer (some ⟨p, 0, none⟩)) ∧ cellsV w' (.pointer (some ⟨p, 0, none⟩)) = rgA r ∧ ThereV w' (.pointer (some ⟨t, 0, none⟩)) ∧ w'.cell? ⟨q, 0, none⟩ = some (.int .i64 10) ∧ w'.cell? ⟨q, 1, none⟩ = some (.int .i64 d) ∧ w'.cell? ⟨q, 2, none⟩ = some (.int .i64 a) ∧ w'.cell? ⟨q, 3, none⟩ = some (.int .i64 b) ∧ w'.cell? ⟨q, 4, none⟩ = some (.int .i64 s) ∧ w'.cell? ⟨q, 5, none⟩ = some (.int .i64 c) ∧ w'.cell? ⟨q, 6, none⟩ = some (.int .i64 n)) ∧ RV w' p r ∧ (∃ r0, okR r0 ∧ RV w' t r0) ∧ Vi w' q ⟨10, d, a, b, s, c, n⟩ ∧ Below p w w') (first | with_reducible assumption | with_reducible exact (ST.put ok ok S3d.out hnt hqt hpt).1)
    (fail)
  go_wp2_with fail
  have HP := Lib.hid (ST.put ok ok S3d.out hnt hqt hpt)
  have hl := load_rv HP.out.2 ok
  exact bodyPost_ret (v := .tuple #[.agg (rgA r), .int .i64 n, .bool true]) (results_cell3 Try.results24 rfl hl rfl rfl) rfl ⟨rfl, by rw [HQ.out]; exact HP.out.1.2.2.2.2⟩

set_option maxRecDepth 20000 in
set_option maxHeartbeats 3200000 in
theorem ralu10false (r : Rg) (d a b s c n : Int) (w : World) (ok : okR r) (hi : okIn ⟨10, d, a, b, s, c, n⟩) (hr : right ⟨10, d, a, b, s, c, n⟩ = true) (hs0 : 0 ≤ s) (hs1 : s < 4) (hz : (((reg r a).toNat : Int) == 0) = false) (hz2 : (((reg r a).toNat : Int) != 0) = true) :
    Calls Try.prog 24 #[.agg (rgA r), .agg #[.int .i64 10, .int .i64 d, .int .i64 a, .int .i64 b, .int .i64 s, .int .i64 c, .int .i64 n]] w fun e w' => e = .returned (.tuple #[.agg (rgA r), .int .i64 1, .bool true]) ∧ Below w.heap.size w w' := by
  have S0 := Lib.hid (trio_has w r ⟨10, d, a, b, s, c, n⟩ ok)
  have GR := Lib.hid (fun w => rright_any ⟨10, d, a, b, s, c, n⟩ w hi)
  rw [hr] at GR
  clear hi hr
  go_enter Try.func24, Try.ntmps24
  go_upto_region 1 with (fail)
  simp only [zeros_eq]
  rw [show World.alloc (World.alloc (World.alloc w _) _) _ = trio w r ⟨10, d, a, b, s, c, n⟩ from rfl]
  generalize trio w r ⟨10, d, a, b, s, c, n⟩ = W at *
  have hq : w.heap.size + 1 ≠ w.heap.size := by omega
  have hpt : w.heap.size ≤ w.heap.size + 1 + 1 := by omega
  have hqt : w.heap.size + 1 ≠ w.heap.size + 1 + 1 := by omega
  have hnt : w.heap.size ≠ w.heap.size + 1 + 1 := by omega
  generalize w.heap.size + 1 + 1 = t at *
  generalize w.heap.size + 1 = q at *
  generalize hp : w.heap.size = p at *
  have HQ := Lib.hid hp
  clear hp
  have SB := S0.out
  have hlt := (S0.out.2.1).lt
  obtain ⟨⟨l1, l2, l3, c0, c1, c2, c3, c4, c5, c6⟩, _⟩ := SB
  go_wp2_with fail
  refine (GR.out _).mono ?_
  rintro e w1 ⟨rfl, hb1⟩
  have S1 := Lib.hid (ST.keep ok S0.out hb1 (Nat.le_of_lt hlt))
  clear l1 l2 l3 c0 c1 c2 c3 c4 c5 c6
  obtain ⟨⟨l1, l2, l3, c0, c1, c2, c3, c4, c5, c6⟩, _⟩ := S1.out
  have hpp : p ≤ p := Nat.le_refl _
  go_wp2_with fail
  refine (rget_S p w p q t r ⟨10, d, a, b, s, c, n⟩ a _ ok S1.out hpp).mono ?_
  rintro e w2 ⟨rfl, h2⟩
  have S2 := Lib.hid h2
  clear h2
  clear l1 l2 l3 c0 c1 c2 c3 c4 c5 c6
  obtain ⟨⟨l1, l2, l3, c0, c1, c2, c3, c4, c5, c6⟩, _⟩ := S2.out
  go_wp2_with fail
  refine (rget_S p w p q t r ⟨10, d, a, b, s, c, n⟩ b _ ok S2.out hpp).mono ?_
  rintro e w3 ⟨rfl, h3⟩
  have S3 := Lib.hid h3
  clear h3
  clear l1 l2 l3 c0 c1 c2 c3 c4 c5 c6
  obtain ⟨⟨l1, l2, l3, c0, c1, c2, c3, c4, c5, c6⟩, _⟩ := S3.out
  have hgood := good ok
  go_wp2_with fail
  have HP := Lib.hid (ST.put ok ok S3.out hnt hqt hpt)
  have hl := load_rv HP.out.2 ok
  exact bodyPost_ret (v := .tuple #[.agg (rgA r), .int .i64 1, .bool true]) (results_cell3 Try.results24 rfl hl rfl rfl) rfl ⟨rfl, by rw [HQ.out]; exact HP.out.1.2.2.2.2⟩

set_option maxRecDepth 20000 in
set_option maxHeartbeats 3200000 in
theorem ralu11true (r : Rg) (d a b s c n : Int) (w : World) (ok : okR r) (hi : okIn ⟨11, d, a, b, s, c, n⟩) (hr : right ⟨11, d, a, b, s, c, n⟩ = true) (hs0 : 0 ≤ s) (hs1 : s < 4) (hz : (((reg r a).toNat : Int) == 0) = true) (hz2 : (((reg r a).toNat : Int) != 0) = false) :
    Calls Try.prog 24 #[.agg (rgA r), .agg #[.int .i64 11, .int .i64 d, .int .i64 a, .int .i64 b, .int .i64 s, .int .i64 c, .int .i64 n]] w fun e w' => e = .returned (.tuple #[.agg (rgA r), .int .i64 1, .bool true]) ∧ Below w.heap.size w w' := by
  have S0 := Lib.hid (trio_has w r ⟨11, d, a, b, s, c, n⟩ ok)
  have GR := Lib.hid (fun w => rright_any ⟨11, d, a, b, s, c, n⟩ w hi)
  rw [hr] at GR
  clear hi hr
  go_enter Try.func24, Try.ntmps24
  go_upto_region 1 with (fail)
  simp only [zeros_eq]
  rw [show World.alloc (World.alloc (World.alloc w _) _) _ = trio w r ⟨11, d, a, b, s, c, n⟩ from rfl]
  generalize trio w r ⟨11, d, a, b, s, c, n⟩ = W at *
  have hq : w.heap.size + 1 ≠ w.heap.size := by omega
  have hpt : w.heap.size ≤ w.heap.size + 1 + 1 := by omega
  have hqt : w.heap.size + 1 ≠ w.heap.size + 1 + 1 := by omega
  have hnt : w.heap.size ≠ w.heap.size + 1 + 1 := by omega
  generalize w.heap.size + 1 + 1 = t at *
  generalize w.heap.size + 1 = q at *
  generalize hp : w.heap.size = p at *
  have HQ := Lib.hid hp
  clear hp
  have SB := S0.out
  have hlt := (S0.out.2.1).lt
  obtain ⟨⟨l1, l2, l3, c0, c1, c2, c3, c4, c5, c6⟩, _⟩ := SB
  go_wp2_with fail
  refine (GR.out _).mono ?_
  rintro e w1 ⟨rfl, hb1⟩
  have S1 := Lib.hid (ST.keep ok S0.out hb1 (Nat.le_of_lt hlt))
  clear l1 l2 l3 c0 c1 c2 c3 c4 c5 c6
  obtain ⟨⟨l1, l2, l3, c0, c1, c2, c3, c4, c5, c6⟩, _⟩ := S1.out
  have hpp : p ≤ p := Nat.le_refl _
  go_wp2_with fail
  refine (rget_S p w p q t r ⟨11, d, a, b, s, c, n⟩ a _ ok S1.out hpp).mono ?_
  rintro e w2 ⟨rfl, h2⟩
  have S2 := Lib.hid h2
  clear h2
  clear l1 l2 l3 c0 c1 c2 c3 c4 c5 c6
  obtain ⟨⟨l1, l2, l3, c0, c1, c2, c3, c4, c5, c6⟩, _⟩ := S2.out
  go_wp2_with fail
  refine (rget_S p w p q t r ⟨11, d, a, b, s, c, n⟩ b _ ok S2.out hpp).mono ?_
  rintro e w3 ⟨rfl, h3⟩
  have S3 := Lib.hid h3
  clear h3
  clear l1 l2 l3 c0 c1 c2 c3 c4 c5 c6
  obtain ⟨⟨l1, l2, l3, c0, c1, c2, c3, c4, c5, c6⟩, _⟩ := S3.out
  have hgood := good ok
  go_wp2_with fail
  have HP := Lib.hid (ST.put ok ok S3.out hnt hqt hpt)
  have hl := load_rv HP.out.2 ok
  exact bodyPost_ret (v := .tuple #[.agg (rgA r), .int .i64 1, .bool true]) (results_cell3 Try.results24 rfl hl rfl rfl) rfl ⟨rfl, by rw [HQ.out]; exact HP.out.1.2.2.2.2⟩

set_option maxRecDepth 20000 in
set_option maxHeartbeats 3200000 in
theorem ralu11false (r : Rg) (d a b s c n : Int) (w : World) (ok : okR r) (hi : okIn ⟨11, d, a, b, s, c, n⟩) (hr : right ⟨11, d, a, b, s, c, n⟩ = true) (hs0 : 0 ≤ s) (hs1 : s < 4) (hz : (((reg r a).toNat : Int) == 0) = false) (hz2 : (((reg r a).toNat : Int) != 0) = true) :
    Calls Try.prog 24 #[.agg (rgA r), .agg #[.int .i64 11, .int .i64 d, .int .i64 a, .int .i64 b, .int .i64 s, .int .i64 c, .int .i64 n]] w fun e w' => e = .returned (.tuple #[.agg (rgA r), .int .i64 n, .bool true]) ∧ Below w.heap.size w w' := by
  have S0 := Lib.hid (trio_has w r ⟨11, d, a, b, s, c, n⟩ ok)
  have GR := Lib.hid (fun w => rright_any ⟨11, d, a, b, s, c, n⟩ w hi)
  rw [hr] at GR
  clear hi hr
  go_enter Try.func24, Try.ntmps24
  go_upto_region 1 with (fail)
  simp only [zeros_eq]
  rw [show World.alloc (World.alloc (World.alloc w _) _) _ = trio w r ⟨11, d, a, b, s, c, n⟩ from rfl]
  generalize trio w r ⟨11, d, a, b, s, c, n⟩ = W at *
  have hq : w.heap.size + 1 ≠ w.heap.size := by omega
  have hpt : w.heap.size ≤ w.heap.size + 1 + 1 := by omega
  have hqt : w.heap.size + 1 ≠ w.heap.size + 1 + 1 := by omega
  have hnt : w.heap.size ≠ w.heap.size + 1 + 1 := by omega
  generalize w.heap.size + 1 + 1 = t at *
  generalize w.heap.size + 1 = q at *
  generalize hp : w.heap.size = p at *
  have HQ := Lib.hid hp
  clear hp
  have SB := S0.out
  have hlt := (S0.out.2.1).lt
  obtain ⟨⟨l1, l2, l3, c0, c1, c2, c3, c4, c5, c6⟩, _⟩ := SB
  go_wp2_with fail
  refine (GR.out _).mono ?_
  rintro e w1 ⟨rfl, hb1⟩
  have S1 := Lib.hid (ST.keep ok S0.out hb1 (Nat.le_of_lt hlt))
  clear l1 l2 l3 c0 c1 c2 c3 c4 c5 c6
  obtain ⟨⟨l1, l2, l3, c0, c1, c2, c3, c4, c5, c6⟩, _⟩ := S1.out
  have hpp : p ≤ p := Nat.le_refl _
  go_wp2_with fail
  refine (rget_S p w p q t r ⟨11, d, a, b, s, c, n⟩ a _ ok S1.out hpp).mono ?_
  rintro e w2 ⟨rfl, h2⟩
  have S2 := Lib.hid h2
  clear h2
  clear l1 l2 l3 c0 c1 c2 c3 c4 c5 c6
  obtain ⟨⟨l1, l2, l3, c0, c1, c2, c3, c4, c5, c6⟩, _⟩ := S2.out
  go_wp2_with fail
  refine (rget_S p w p q t r ⟨11, d, a, b, s, c, n⟩ b _ ok S2.out hpp).mono ?_
  rintro e w3 ⟨rfl, h3⟩
  have S3 := Lib.hid h3
  clear h3
  clear l1 l2 l3 c0 c1 c2 c3 c4 c5 c6
  obtain ⟨⟨l1, l2, l3, c0, c1, c2, c3, c4, c5, c6⟩, _⟩ := S3.out
  have S3d := Lib.hid (ST.drew ok S3.out)
  have hgood := good ok
  go_wp2_with fail
  clear l1 l2 l3 c0 c1 c2 c3 c4 c5 c6
  have SB := S3d.out
  go_region_held3 (fun w' => (HasV w' (.pointer (some ⟨p, 0, none⟩)) ∧ cellsV w' (.pointer (some ⟨p, 0, none⟩)) = rgA r ∧ ThereV w' (.pointer (some ⟨t, 0, none⟩)) ∧ w'.cell? ⟨q, 0, none⟩ = some (.int .i64 11) ∧ w'.cell? ⟨q, 1, none⟩ = some (.int .i64 d) ∧ w'.cell? ⟨q, 2, none⟩ = some (.int .i64 a) ∧ w'.cell? ⟨q, 3, none⟩ = some (.int .i64 b) ∧ w'.cell? ⟨q, 4, none⟩ = some (.int .i64 s) ∧ w'.cell? ⟨q, 5, none⟩ = some (.int .i64 c) ∧ w'.cell? ⟨q, 6, none⟩ = some (.int .i64 n)) ∧ RV w' p r ∧ (∃ r0, okR r0 ∧ RV w' t r0) ∧ Vi w' q ⟨11, d, a, b, s, c, n⟩ ∧ Below p w w') (first | with_reducible assumption | with_reducible exact (ST.put ok ok S3d.out hnt hqt hpt).1)
    (fail)
  go_wp2_with fail
  have HP := Lib.hid (ST.put ok ok S3d.out hnt hqt hpt)
  have hl := load_rv HP.out.2 ok
  exact bodyPost_ret (v := .tuple #[.agg (rgA r), .int .i64 n, .bool true]) (results_cell3 Try.results24 rfl hl rfl rfl) rfl ⟨rfl, by rw [HQ.out]; exact HP.out.1.2.2.2.2⟩

set_option maxRecDepth 20000 in
set_option maxHeartbeats 3200000 in
theorem ralu21 (r : Rg) (d a b s c n : Int) (w : World) (ok : okR r) (hi : okIn ⟨21, d, a, b, s, c, n⟩) (hr : right ⟨21, d, a, b, s, c, n⟩ = true) (hs0 : 0 ≤ s) (hs1 : s < 4) :
    Calls Try.prog 24 #[.agg (rgA r), .agg #[.int .i64 21, .int .i64 d, .int .i64 a, .int .i64 b, .int .i64 s, .int .i64 c, .int .i64 n]] w fun e w' => e = .returned (.tuple #[.agg (rgA r), .int .i64 1, .bool true]) ∧ Below w.heap.size w w' := by
  have S0 := Lib.hid (trio_has w r ⟨21, d, a, b, s, c, n⟩ ok)
  have GR := Lib.hid (fun w => rright_any ⟨21, d, a, b, s, c, n⟩ w hi)
  rw [hr] at GR
  clear hi hr
  go_enter Try.func24, Try.ntmps24
  go_upto_region 1 with (fail)
  simp only [zeros_eq]
  rw [show World.alloc (World.alloc (World.alloc w _) _) _ = trio w r ⟨21, d, a, b, s, c, n⟩ from rfl]
  generalize trio w r ⟨21, d, a, b, s, c, n⟩ = W at *
  have hq : w.heap.size + 1 ≠ w.heap.size := by omega
  have hpt : w.heap.size ≤ w.heap.size + 1 + 1 := by omega
  have hqt : w.heap.size + 1 ≠ w.heap.size + 1 + 1 := by omega
  have hnt : w.heap.size ≠ w.heap.size + 1 + 1 := by omega
  generalize w.heap.size + 1 + 1 = t at *
  generalize w.heap.size + 1 = q at *
  generalize hp : w.heap.size = p at *
  have HQ := Lib.hid hp
  clear hp
  have SB := S0.out
  have hlt := (S0.out.2.1).lt
  obtain ⟨⟨l1, l2, l3, c0, c1, c2, c3, c4, c5, c6⟩, _⟩ := SB
  go_wp2_with fail
  refine (GR.out _).mono ?_
  rintro e w1 ⟨rfl, hb1⟩
  have S1 := Lib.hid (ST.keep ok S0.out hb1 (Nat.le_of_lt hlt))
  clear l1 l2 l3 c0 c1 c2 c3 c4 c5 c6
  obtain ⟨⟨l1, l2, l3, c0, c1, c2, c3, c4, c5, c6⟩, _⟩ := S1.out
  have hpp : p ≤ p := Nat.le_refl _
  go_wp2_with fail
  refine (rget_S p w p q t r ⟨21, d, a, b, s, c, n⟩ a _ ok S1.out hpp).mono ?_
  rintro e w2 ⟨rfl, h2⟩
  have S2 := Lib.hid h2
  clear h2
  clear l1 l2 l3 c0 c1 c2 c3 c4 c5 c6
  obtain ⟨⟨l1, l2, l3, c0, c1, c2, c3, c4, c5, c6⟩, _⟩ := S2.out
  go_wp2_with fail
  refine (rget_S p w p q t r ⟨21, d, a, b, s, c, n⟩ b _ ok S2.out hpp).mono ?_
  rintro e w3 ⟨rfl, h3⟩
  have S3 := Lib.hid h3
  clear h3
  clear l1 l2 l3 c0 c1 c2 c3 c4 c5 c6
  obtain ⟨⟨l1, l2, l3, c0, c1, c2, c3, c4, c5, c6⟩, _⟩ := S3.out
  have hgood := good ok
  go_wp2_with fail
  have HP := Lib.hid (ST.put ok ok S3.out hnt hqt hpt)
  have hl := load_rv HP.out.2 ok
  exact bodyPost_ret (v := .tuple #[.agg (rgA r), .int .i64 1, .bool true]) (results_cell3 Try.results24 rfl hl rfl rfl) rfl ⟨rfl, by rw [HQ.out]; exact HP.out.1.2.2.2.2⟩

end Go.Proofs.Ytfbfoooligbcfaa.AluR0
