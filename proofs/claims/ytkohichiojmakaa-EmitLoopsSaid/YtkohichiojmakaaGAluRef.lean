/-
  WALK: the document's Alu (what is none of its, and the start).
-/
import Derived.Test.YtkohichiojmakaaGAlu
import Derived.Test.YtkohichiojmakaaA64RefTop
import Derived.Test.YtkohichiojmakaaGHeld
namespace Go.Proofs.Ytkohichiojmakaa.AluR
set_option linter.unusedVariables false
set_option linter.unusedSimpArgs false
open Go.RowKit Cm Mm Ow A64 Fld FldW FldR A64W A64P A64C A64T A64R A64E A64F A64Q Alu AluG AluS AluO AluK AluP AluQ AluE AluA
attribute [local go_sem ↓] Go.wp_at_zero Go.wp_at_succ exec_load_regs exec_store_regs

theorem right_s {i : In} (h : right i = true) (hk : i.kind ≤ 11 ∨ i.kind = 21) : 0 ≤ i.s ∧ i.s < 4 := by
  obtain ⟨k, hk24, hkk, hf⟩ := right_kind h
  simp only [rightF, Bool.and_eq_true] at hf
  obtain ⟨⟨⟨⟨⟨_, _⟩, _⟩, hs⟩, hn⟩, _⟩ := hf
  have hs := fits_bd hs
  have e : k = 0 ∨ k = 1 ∨ k = 2 ∨ k = 3 ∨ k = 4 ∨ k = 5 ∨ k = 6 ∨ k = 7 ∨ k = 8 ∨ k = 9 ∨ k = 10 ∨ k = 11 ∨ k = 21 := by omega
  rcases e with rfl | rfl | rfl | rfl | rfl | rfl | rfl | rfl | rfl | rfl | rfl | rfl | rfl
  all_goals
    simp [form, table] at hs
    omega
theorem rget_S (B : Nat) (w0 : World) (p q s : Nat) (r : Rg) (i : In) (k : Int) (w : World) (ok : okR r) (h : ST B w0 p q s r i w) (hB : B ≤ p) :
    Calls Try.prog 81 #[.agg (rgA r), .int .i64 k] w fun e w' => e = .returned (.int .u64 ((reg r k).toNat : Int)) ∧ ST B w0 p q s r i w' :=
  (rget_any r k w ok).mono fun e w' ⟨h1, h2⟩ => ⟨h1, h.keep ok h2 (Nat.le_trans hB (Nat.le_of_lt h.2.1.lt))⟩
theorem rput_S (B : Nat) (w0 : World) (p q s : Nat) (r : Rg) (i : In) (k : Int) (v : BitVec 64) (w : World) (ok : okR r) (h : ST B w0 p q s r i w) (hB : B ≤ p) :
    Calls Try.prog 82 #[.agg (rgA r), .int .i64 k, .int .u64 (v.toNat : Int)] w fun e w' => e = .returned (.agg (rgA (setReg r k v))) ∧ ST B w0 p q s r i w' :=
  (rput_any r k v w ok).mono fun e w' ⟨h1, h2⟩ => ⟨h1, h.keep ok h2 (Nat.le_trans hB (Nat.le_of_lt h.2.1.lt))⟩
theorem rholds_S (B : Nat) (w0 : World) (p q s : Nat) (r : Rg) (i : In) (k : Int) (w : World) (ok : okR r) (h : ST B w0 p q s r i w) (hB : B ≤ p) :
    Calls Try.prog 84 #[.agg (rgA r), .int .i64 k] w fun e w' => e = .returned (.bool (holds r k)) ∧ ST B w0 p q s r i w' :=
  (rholds_any r k w ok).mono fun e w' ⟨h1, h2⟩ => ⟨h1, h.keep ok h2 (Nat.le_trans hB (Nat.le_of_lt h.2.1.lt))⟩
/-- the registers are stored anew -/
theorem ST.again {B : Nat} {w0 w w' : World} {p q s : Nat} {r r' : Rg} {i : In} (h : ST B w0 p q s r i w) (hp : Put w p r' w') (ok' : okR r') (hB : B ≤ p) (h1 : p ≠ s) (h2 : q ≠ p) : ST B w0 p q s r' i w' := by
  obtain ⟨_, hr, ⟨r0, ok0, hs⟩, hv, hz⟩ := h
  exact ST.init ok' hp.has ok0 (hp.keep hs (fun e => h1 e.symm)) (Vi.other hv (hp.other _ h2)) (hp.below _ _ hB hz)

set_option maxRecDepth 20000 in
set_option maxHeartbeats 3200000 in
theorem raluA (r : Rg) (kd d a b s c n : Int) (w : World) (ok : okR r) (hi : okIn ⟨kd, d, a, b, s, c, n⟩) (hr : right ⟨kd, d, a, b, s, c, n⟩ = false) :
    Calls Try.prog 58 #[.agg (rgA r), .agg #[.int .i64 kd, .int .i64 d, .int .i64 a, .int .i64 b, .int .i64 s, .int .i64 c, .int .i64 n]] w fun e w' => e = .returned (.tuple #[.agg (rgA r), .int .i64 0, .bool false]) ∧ Below w.heap.size w w' := by
  have S0 := Lib.hid (trio_has w r ⟨kd, d, a, b, s, c, n⟩ ok)
  have GR := Lib.hid (fun w => rright_any ⟨kd, d, a, b, s, c, n⟩ w hi)
  rw [hr] at GR
  clear hi hr
  go_enter Try.func58, Try.ntmps58
  go_upto_region 1 with (fail)
  simp only [zeros_eq]
  rw [show World.alloc (World.alloc (World.alloc w _) _) _ = trio w r ⟨kd, d, a, b, s, c, n⟩ from rfl]
  generalize trio w r ⟨kd, d, a, b, s, c, n⟩ = W at *
  have hq : w.heap.size + 1 ≠ w.heap.size := by omega
  have hpt : w.heap.size ≤ w.heap.size + 1 + 1 := by omega
  have hqt : w.heap.size + 1 ≠ w.heap.size + 1 + 1 := by omega
  have hnt : w.heap.size ≠ w.heap.size + 1 + 1 := by omega
  generalize w.heap.size + 1 + 1 = t at *
  generalize w.heap.size + 1 = q at *
  generalize hp : w.heap.size = p at *
  have HQ := Lib.hid hp
  clear hp
  have SB := S0.out
  have hlt := (S0.out.2.1).lt
  obtain ⟨⟨l1, l2, l3, c0, c1, c2, c3, c4, c5, c6⟩, _⟩ := SB
  go_wp2_with fail
  refine (GR.out _).mono ?_
  rintro e w1 ⟨rfl, hb1⟩
  have S1 := Lib.hid (ST.keep ok S0.out hb1 (Nat.le_of_lt hlt))
  clear l1 l2 l3 c0 c1 c2 c3 c4 c5 c6
  obtain ⟨⟨l1, l2, l3, c0, c1, c2, c3, c4, c5, c6⟩, _⟩ := S1.out
  have hgood := good ok
  go_wp2_with fail
  have HP := Lib.hid (ST.put ok ok S1.out hnt hqt hpt)
  have hl := load_rv HP.out.2 ok
  exact bodyPost_ret (v := .tuple #[.agg (rgA r), .int .i64 0, .bool false]) (results_cell3 Try.results58 rfl hl rfl rfl) rfl ⟨rfl, by rw [HQ.out]; exact HP.out.1.2.2.2.2⟩

set_option maxRecDepth 20000 in
set_option maxHeartbeats 3200000 in
theorem raluA2 (r : Rg) (kd d a b s c n : Int) (w : World) (ok : okR r) (hi : okIn ⟨kd, d, a, b, s, c, n⟩) (hr : right ⟨kd, d, a, b, s, c, n⟩ = true) (h1 : decide (11 < kd) = true) (h2 : (kd == 21) = false) (h2b : (kd != 21) = true) :
    Calls Try.prog 58 #[.agg (rgA r), .agg #[.int .i64 kd, .int .i64 d, .int .i64 a, .int .i64 b, .int .i64 s, .int .i64 c, .int .i64 n]] w fun e w' => e = .returned (.tuple #[.agg (rgA r), .int .i64 0, .bool false]) ∧ Below w.heap.size w w' := by
  have S0 := Lib.hid (trio_has w r ⟨kd, d, a, b, s, c, n⟩ ok)
  have GR := Lib.hid (fun w => rright_any ⟨kd, d, a, b, s, c, n⟩ w hi)
  rw [hr] at GR
  clear hi hr
  go_enter Try.func58, Try.ntmps58
  go_upto_region 1 with (fail)
  simp only [zeros_eq]
  rw [show World.alloc (World.alloc (World.alloc w _) _) _ = trio w r ⟨kd, d, a, b, s, c, n⟩ from rfl]
  generalize trio w r ⟨kd, d, a, b, s, c, n⟩ = W at *
  have hq : w.heap.size + 1 ≠ w.heap.size := by omega
  have hpt : w.heap.size ≤ w.heap.size + 1 + 1 := by omega
  have hqt : w.heap.size + 1 ≠ w.heap.size + 1 + 1 := by omega
  have hnt : w.heap.size ≠ w.heap.size + 1 + 1 := by omega
  generalize w.heap.size + 1 + 1 = t at *
  generalize w.heap.size + 1 = q at *
  generalize hp : w.heap.size = p at *
  have HQ := Lib.hid hp
  clear hp
  have SB := S0.out
  have hlt := (S0.out.2.1).lt
  obtain ⟨⟨l1, l2, l3, c0, c1, c2, c3, c4, c5, c6⟩, _⟩ := SB
  go_wp2_with fail
  refine (GR.out _).mono ?_
  rintro e w1 ⟨rfl, hb1⟩
  have S1 := Lib.hid (ST.keep ok S0.out hb1 (Nat.le_of_lt hlt))
  clear l1 l2 l3 c0 c1 c2 c3 c4 c5 c6
  obtain ⟨⟨l1, l2, l3, c0, c1, c2, c3, c4, c5, c6⟩, _⟩ := S1.out
  have hgood := good ok
  go_wp2_with fail
  have HP := Lib.hid (ST.put ok ok S1.out hnt hqt hpt)
  have hl := load_rv HP.out.2 ok
  exact bodyPost_ret (v := .tuple #[.agg (rgA r), .int .i64 0, .bool false]) (results_cell3 Try.results58 rfl hl rfl rfl) rfl ⟨rfl, by rw [HQ.out]; exact HP.out.1.2.2.2.2⟩

end Go.Proofs.Ytkohichiojmakaa.AluR
/-
  WALK: the document's Alu (plain kinds).
-/
namespace Go.Proofs.Ytkohichiojmakaa.AluR0
set_option linter.unusedVariables false
set_option linter.unusedSimpArgs false
open Go.RowKit Cm Mm Ow A64 Fld FldW FldR A64W A64P A64C A64T A64R A64E A64F A64Q Alu AluG AluS AluO AluK AluP AluQ AluE AluA AluR
attribute [local go_sem ↓] Go.wp_at_zero Go.wp_at_succ exec_load_regs exec_store_regs

set_option maxRecDepth 20000 in
set_option maxHeartbeats 3200000 in
theorem ralu0 (r : Rg) (d a b s c n : Int) (w : World) (ok : okR r) (hi : okIn ⟨0, d, a, b, s, c, n⟩) (hr : right ⟨0, d, a, b, s, c, n⟩ = true) (hs0 : 0 ≤ s) (hs1 : s < 4) (hn0 : 0 ≤ n) (hn1 : n < 65536) :
    Calls Try.prog 58 #[.agg (rgA r), .agg #[.int .i64 0, .int .i64 d, .int .i64 a, .int .i64 b, .int .i64 s, .int .i64 c, .int .i64 n]] w fun e w' => e = .returned (.tuple #[.agg (rgA (setReg r d (Alu.part ⟨0, d, a, b, s, c, n⟩))), .int .i64 1, .bool true]) ∧ Below w.heap.size w w' := by
  have HR := Lib.hid (part_eq hn0 ⟨0, d, a, b, s, c, n⟩ rfl rfl)
  have S0 := Lib.hid (trio_has w r ⟨0, d, a, b, s, c, n⟩ ok)
  have GR := Lib.hid (fun w => rright_any ⟨0, d, a, b, s, c, n⟩ w hi)
  rw [hr] at GR
  clear hi hr
  go_enter Try.func58, Try.ntmps58
  go_upto_region 1 with (fail)
  simp only [zeros_eq]
  rw [show World.alloc (World.alloc (World.alloc w _) _) _ = trio w r ⟨0, d, a, b, s, c, n⟩ from rfl]
  generalize trio w r ⟨0, d, a, b, s, c, n⟩ = W at *
  have hq : w.heap.size + 1 ≠ w.heap.size := by omega
  have hpt : w.heap.size ≤ w.heap.size + 1 + 1 := by omega
  have hqt : w.heap.size + 1 ≠ w.heap.size + 1 + 1 := by omega
  have hnt : w.heap.size ≠ w.heap.size + 1 + 1 := by omega
  generalize w.heap.size + 1 + 1 = t at *
  generalize w.heap.size + 1 = q at *
  generalize hp : w.heap.size = p at *
  have HQ := Lib.hid hp
  clear hp
  have SB := S0.out
  have hlt := (S0.out.2.1).lt
  obtain ⟨⟨l1, l2, l3, c0, c1, c2, c3, c4, c5, c6⟩, _⟩ := SB
  go_wp2_with fail
  refine (GR.out _).mono ?_
  rintro e w1 ⟨rfl, hb1⟩
  have S1 := Lib.hid (ST.keep ok S0.out hb1 (Nat.le_of_lt hlt))
  clear l1 l2 l3 c0 c1 c2 c3 c4 c5 c6
  obtain ⟨⟨l1, l2, l3, c0, c1, c2, c3, c4, c5, c6⟩, _⟩ := S1.out
  have hpp : p ≤ p := Nat.le_refl _
  go_wp2_with fail
  refine (rget_S p w p q t r ⟨0, d, a, b, s, c, n⟩ a _ ok S1.out hpp).mono ?_
  rintro e w2 ⟨rfl, h2⟩
  have S2 := Lib.hid h2
  clear h2
  clear l1 l2 l3 c0 c1 c2 c3 c4 c5 c6
  obtain ⟨⟨l1, l2, l3, c0, c1, c2, c3, c4, c5, c6⟩, _⟩ := S2.out
  go_wp2_with fail
  refine (rget_S p w p q t r ⟨0, d, a, b, s, c, n⟩ b _ ok S2.out hpp).mono ?_
  rintro e w3 ⟨rfl, h3⟩
  have S3 := Lib.hid h3
  clear h3
  clear l1 l2 l3 c0 c1 c2 c3 c4 c5 c6
  obtain ⟨⟨l1, l2, l3, c0, c1, c2, c3, c4, c5, c6⟩, _⟩ := S3.out
  go_wp2_with fail
  rw [HR.out]
  refine (rput_S p w p q t r ⟨0, d, a, b, s, c, n⟩ d (Alu.part ⟨0, d, a, b, s, c, n⟩) _ ok S3.out hpp).mono ?_
  rintro e w4 ⟨rfl, h4⟩
  have S4 := Lib.hid h4
  clear h4
  clear l1 l2 l3 c0 c1 c2 c3 c4 c5 c6
  obtain ⟨⟨l1, l2, l3, c0, c1, c2, c3, c4, c5, c6⟩, _⟩ := S4.out
  have hrv := S4.out.2.1
  have ok1 := setReg_ok ok d (Alu.part ⟨0, d, a, b, s, c, n⟩)
  go_wp2_with (with_reducible refine wpList_store_rv rfl _ _ rfl p r (setReg r d (Alu.part ⟨0, d, a, b, s, c, n⟩)) rfl rfl ok ok1 hrv ?_; intro w5 hp5; have S5 := Lib.hid (ST.again S4.out hp5 ok1 hpp hnt hq); clear l1 l2 l3 c0 c1 c2 c3 c4 c5 c6; clear hp5 hrv; obtain ⟨⟨l1, l2, l3, c0, c1, c2, c3, c4, c5, c6⟩, _⟩ := S5.out; have hgood := good ok1)
  have HP := Lib.hid (ST.put ok1 ok1 S5.out hnt hqt hpt)
  have hl := load_rv HP.out.2 ok1
  exact bodyPost_ret (v := .tuple #[.agg (rgA (setReg r d (Alu.part ⟨0, d, a, b, s, c, n⟩))), .int .i64 1, .bool true]) (results_cell3 Try.results58 rfl hl rfl rfl) rfl ⟨rfl, by rw [HQ.out]; exact HP.out.1.2.2.2.2⟩

set_option maxRecDepth 20000 in
set_option maxHeartbeats 3200000 in
theorem ralu2 (r : Rg) (d a b s c n : Int) (w : World) (ok : okR r) (hi : okIn ⟨2, d, a, b, s, c, n⟩) (hr : right ⟨2, d, a, b, s, c, n⟩ = true) (hs0 : 0 ≤ s) (hs1 : s < 4) (hn0 : 0 ≤ n) (hn1 : n < 65536) :
    Calls Try.prog 58 #[.agg (rgA r), .agg #[.int .i64 2, .int .i64 d, .int .i64 a, .int .i64 b, .int .i64 s, .int .i64 c, .int .i64 n]] w fun e w' => e = .returned (.tuple #[.agg (rgA (setReg r d (reg r a + reg r b))), .int .i64 1, .bool true]) ∧ Below w.heap.size w w' := by
  have S0 := Lib.hid (trio_has w r ⟨2, d, a, b, s, c, n⟩ ok)
  have GR := Lib.hid (fun w => rright_any ⟨2, d, a, b, s, c, n⟩ w hi)
  rw [hr] at GR
  clear hi hr
  go_enter Try.func58, Try.ntmps58
  go_upto_region 1 with (fail)
  simp only [zeros_eq]
  rw [show World.alloc (World.alloc (World.alloc w _) _) _ = trio w r ⟨2, d, a, b, s, c, n⟩ from rfl]
  generalize trio w r ⟨2, d, a, b, s, c, n⟩ = W at *
  have hq : w.heap.size + 1 ≠ w.heap.size := by omega
  have hpt : w.heap.size ≤ w.heap.size + 1 + 1 := by omega
  have hqt : w.heap.size + 1 ≠ w.heap.size + 1 + 1 := by omega
  have hnt : w.heap.size ≠ w.heap.size + 1 + 1 := by omega
  generalize w.heap.size + 1 + 1 = t at *
  generalize w.heap.size + 1 = q at *
  generalize hp : w.heap.size = p at *
  have HQ := Lib.hid hp
  clear hp
  have SB := S0.out
  have hlt := (S0.out.2.1).lt
  obtain ⟨⟨l1, l2, l3, c0, c1, c2, c3, c4, c5, c6⟩, _⟩ := SB
  go_wp2_with fail
  refine (GR.out _).mono ?_
  rintro e w1 ⟨rfl, hb1⟩
  have S1 := Lib.hid (ST.keep ok S0.out hb1 (Nat.le_of_lt hlt))
  clear l1 l2 l3 c0 c1 c2 c3 c4 c5 c6
  obtain ⟨⟨l1, l2, l3, c0, c1, c2, c3, c4, c5, c6⟩, _⟩ := S1.out
  have hpp : p ≤ p := Nat.le_refl _
  go_wp2_with fail
  refine (rget_S p w p q t r ⟨2, d, a, b, s, c, n⟩ a _ ok S1.out hpp).mono ?_
  rintro e w2 ⟨rfl, h2⟩
  have S2 := Lib.hid h2
  clear h2
  clear l1 l2 l3 c0 c1 c2 c3 c4 c5 c6
  obtain ⟨⟨l1, l2, l3, c0, c1, c2, c3, c4, c5, c6⟩, _⟩ := S2.out
  go_wp2_with fail
  refine (rget_S p w p q t r ⟨2, d, a, b, s, c, n⟩ b _ ok S2.out hpp).mono ?_
  rintro e w3 ⟨rfl, h3⟩
  have S3 := Lib.hid h3
  clear h3
  clear l1 l2 l3 c0 c1 c2 c3 c4 c5 c6
  obtain ⟨⟨l1, l2, l3, c0, c1, c2, c3, c4, c5, c6⟩, _⟩ := S3.out
  go_wp2_with fail
  rw [IntKind.wrap_u64, w64_add]
  refine (rput_S p w p q t r ⟨2, d, a, b, s, c, n⟩ d (reg r a + reg r b) _ ok S3.out hpp).mono ?_
  rintro e w4 ⟨rfl, h4⟩
  have S4 := Lib.hid h4
  clear h4
  clear l1 l2 l3 c0 c1 c2 c3 c4 c5 c6
  obtain ⟨⟨l1, l2, l3, c0, c1, c2, c3, c4, c5, c6⟩, _⟩ := S4.out
  have hrv := S4.out.2.1
  have ok1 := setReg_ok ok d (reg r a + reg r b)
  go_wp2_with (with_reducible refine wpList_store_rv rfl _ _ rfl p r (setReg r d (reg r a + reg r b)) rfl rfl ok ok1 hrv ?_; intro w5 hp5; have S5 := Lib.hid (ST.again S4.out hp5 ok1 hpp hnt hq); clear l1 l2 l3 c0 c1 c2 c3 c4 c5 c6; clear hp5 hrv; obtain ⟨⟨l1, l2, l3, c0, c1, c2, c3, c4, c5, c6⟩, _⟩ := S5.out; have hgood := good ok1)
  have HP := Lib.hid (ST.put ok1 ok1 S5.out hnt hqt hpt)
  have hl := load_rv HP.out.2 ok1
  exact bodyPost_ret (v := .tuple #[.agg (rgA (setReg r d (reg r a + reg r b))), .int .i64 1, .bool true]) (results_cell3 Try.results58 rfl hl rfl rfl) rfl ⟨rfl, by rw [HQ.out]; exact HP.out.1.2.2.2.2⟩

set_option maxRecDepth 20000 in
set_option maxHeartbeats 3200000 in
theorem ralu3 (r : Rg) (d a b s c n : Int) (w : World) (ok : okR r) (hi : okIn ⟨3, d, a, b, s, c, n⟩) (hr : right ⟨3, d, a, b, s, c, n⟩ = true) (hs0 : 0 ≤ s) (hs1 : s < 4) (hn0 : 0 ≤ n) (hn1 : n < 65536) :
    Calls Try.prog 58 #[.agg (rgA r), .agg #[.int .i64 3, .int .i64 d, .int .i64 a, .int .i64 b, .int .i64 s, .int .i64 c, .int .i64 n]] w fun e w' => e = .returned (.tuple #[.agg (rgA (setReg r d (reg r a - reg r b))), .int .i64 1, .bool true]) ∧ Below w.heap.size w w' := by
  have S0 := Lib.hid (trio_has w r ⟨3, d, a, b, s, c, n⟩ ok)
  have GR := Lib.hid (fun w => rright_any ⟨3, d, a, b, s, c, n⟩ w hi)
  rw [hr] at GR
  clear hi hr
  go_enter Try.func58, Try.ntmps58
  go_upto_region 1 with (fail)
  simp only [zeros_eq]
  rw [show World.alloc (World.alloc (World.alloc w _) _) _ = trio w r ⟨3, d, a, b, s, c, n⟩ from rfl]
  generalize trio w r ⟨3, d, a, b, s, c, n⟩ = W at *
  have hq : w.heap.size + 1 ≠ w.heap.size := by omega
  have hpt : w.heap.size ≤ w.heap.size + 1 + 1 := by omega
  have hqt : w.heap.size + 1 ≠ w.heap.size + 1 + 1 := by omega
  have hnt : w.heap.size ≠ w.heap.size + 1 + 1 := by omega
  generalize w.heap.size + 1 + 1 = t at *
  generalize w.heap.size + 1 = q at *
  generalize hp : w.heap.size = p at *
  have HQ := Lib.hid hp
  clear hp
  have SB := S0.out
  have hlt := (S0.out.2.1).lt
  obtain ⟨⟨l1, l2, l3, c0, c1, c2, c3, c4, c5, c6⟩, _⟩ := SB
  go_wp2_with fail
  refine (GR.out _).mono ?_
  rintro e w1 ⟨rfl, hb1⟩
  have S1 := Lib.hid (ST.keep ok S0.out hb1 (Nat.le_of_lt hlt))
  clear l1 l2 l3 c0 c1 c2 c3 c4 c5 c6
  obtain ⟨⟨l1, l2, l3, c0, c1, c2, c3, c4, c5, c6⟩, _⟩ := S1.out
  have hpp : p ≤ p := Nat.le_refl _
  go_wp2_with fail
  refine (rget_S p w p q t r ⟨3, d, a, b, s, c, n⟩ a _ ok S1.out hpp).mono ?_
  rintro e w2 ⟨rfl, h2⟩
  have S2 := Lib.hid h2
  clear h2
  clear l1 l2 l3 c0 c1 c2 c3 c4 c5 c6
  obtain ⟨⟨l1, l2, l3, c0, c1, c2, c3, c4, c5, c6⟩, _⟩ := S2.out
  go_wp2_with fail
  refine (rget_S p w p q t r ⟨3, d, a, b, s, c, n⟩ b _ ok S2.out hpp).mono ?_
  rintro e w3 ⟨rfl, h3⟩
  have S3 := Lib.hid h3
  clear h3
  clear l1 l2 l3 c0 c1 c2 c3 c4 c5 c6
  obtain ⟨⟨l1, l2, l3, c0, c1, c2, c3, c4, c5, c6⟩, _⟩ := S3.out
  go_wp2_with fail
  rw [IntKind.wrap_u64, w64_sub]
  refine (rput_S p w p q t r ⟨3, d, a, b, s, c, n⟩ d (reg r a - reg r b) _ ok S3.out hpp).mono ?_
  rintro e w4 ⟨rfl, h4⟩
  have S4 := Lib.hid h4
  clear h4
  clear l1 l2 l3 c0 c1 c2 c3 c4 c5 c6
  obtain ⟨⟨l1, l2, l3, c0, c1, c2, c3, c4, c5, c6⟩, _⟩ := S4.out
  have hrv := S4.out.2.1
  have ok1 := setReg_ok ok d (reg r a - reg r b)
  go_wp2_with (with_reducible refine wpList_store_rv rfl _ _ rfl p r (setReg r d (reg r a - reg r b)) rfl rfl ok ok1 hrv ?_; intro w5 hp5; have S5 := Lib.hid (ST.again S4.out hp5 ok1 hpp hnt hq); clear l1 l2 l3 c0 c1 c2 c3 c4 c5 c6; clear hp5 hrv; obtain ⟨⟨l1, l2, l3, c0, c1, c2, c3, c4, c5, c6⟩, _⟩ := S5.out; have hgood := good ok1)
  have HP := Lib.hid (ST.put ok1 ok1 S5.out hnt hqt hpt)
  have hl := load_rv HP.out.2 ok1
  exact bodyPost_ret (v := .tuple #[.agg (rgA (setReg r d (reg r a - reg r b))), .int .i64 1, .bool true]) (results_cell3 Try.results58 rfl hl rfl rfl) rfl ⟨rfl, by rw [HQ.out]; exact HP.out.1.2.2.2.2⟩

set_option maxRecDepth 20000 in
set_option maxHeartbeats 3200000 in
theorem ralu4 (r : Rg) (d a b s c n : Int) (w : World) (ok : okR r) (hi : okIn ⟨4, d, a, b, s, c, n⟩) (hr : right ⟨4, d, a, b, s, c, n⟩ = true) (hs0 : 0 ≤ s) (hs1 : s < 4) (hn0 : 0 ≤ n) (hn1 : n < 65536) :
    Calls Try.prog 58 #[.agg (rgA r), .agg #[.int .i64 4, .int .i64 d, .int .i64 a, .int .i64 b, .int .i64 s, .int .i64 c, .int .i64 n]] w fun e w' => e = .returned (.tuple #[.agg (rgA (setReg r d (reg r a * reg r b))), .int .i64 1, .bool true]) ∧ Below w.heap.size w w' := by
  have S0 := Lib.hid (trio_has w r ⟨4, d, a, b, s, c, n⟩ ok)
  have GR := Lib.hid (fun w => rright_any ⟨4, d, a, b, s, c, n⟩ w hi)
  rw [hr] at GR
  clear hi hr
  go_enter Try.func58, Try.ntmps58
  go_upto_region 1 with (fail)
  simp only [zeros_eq]
  rw [show World.alloc (World.alloc (World.alloc w _) _) _ = trio w r ⟨4, d, a, b, s, c, n⟩ from rfl]
  generalize trio w r ⟨4, d, a, b, s, c, n⟩ = W at *
  have hq : w.heap.size + 1 ≠ w.heap.size := by omega
  have hpt : w.heap.size ≤ w.heap.size + 1 + 1 := by omega
  have hqt : w.heap.size + 1 ≠ w.heap.size + 1 + 1 := by omega
  have hnt : w.heap.size ≠ w.heap.size + 1 + 1 := by omega
  generalize w.heap.size + 1 + 1 = t at *
  generalize w.heap.size + 1 = q at *
  generalize hp : w.heap.size = p at *
  have HQ := Lib.hid hp
  clear hp
  have SB := S0.out
  have hlt := (S0.out.2.1).lt
  obtain ⟨⟨l1, l2, l3, c0, c1, c2, c3, c4, c5, c6⟩, _⟩ := SB
  go_wp2_with fail
  refine (GR.out _).mono ?_
  rintro e w1 ⟨rfl, hb1⟩
  have S1 := Lib.hid (ST.keep ok S0.out hb1 (Nat.le_of_lt hlt))
  clear l1 l2 l3 c0 c1 c2 c3 c4 c5 c6
  obtain ⟨⟨l1, l2, l3, c0, c1, c2, c3, c4, c5, c6⟩, _⟩ := S1.out
  have hpp : p ≤ p := Nat.le_refl _
  go_wp2_with fail
  refine (rget_S p w p q t r ⟨4, d, a, b, s, c, n⟩ a _ ok S1.out hpp).mono ?_
  rintro e w2 ⟨rfl, h2⟩
  have S2 := Lib.hid h2
  clear h2
  clear l1 l2 l3 c0 c1 c2 c3 c4 c5 c6
  obtain ⟨⟨l1, l2, l3, c0, c1, c2, c3, c4, c5, c6⟩, _⟩ := S2.out
  go_wp2_with fail
  refine (rget_S p w p q t r ⟨4, d, a, b, s, c, n⟩ b _ ok S2.out hpp).mono ?_
  rintro e w3 ⟨rfl, h3⟩
  have S3 := Lib.hid h3
  clear h3
  clear l1 l2 l3 c0 c1 c2 c3 c4 c5 c6
  obtain ⟨⟨l1, l2, l3, c0, c1, c2, c3, c4, c5, c6⟩, _⟩ := S3.out
  go_wp2_with fail
  rw [IntKind.wrap_u64, w64_mul]
  refine (rput_S p w p q t r ⟨4, d, a, b, s, c, n⟩ d (reg r a * reg r b) _ ok S3.out hpp).mono ?_
  rintro e w4 ⟨rfl, h4⟩
  have S4 := Lib.hid h4
  clear h4
  clear l1 l2 l3 c0 c1 c2 c3 c4 c5 c6
  obtain ⟨⟨l1, l2, l3, c0, c1, c2, c3, c4, c5, c6⟩, _⟩ := S4.out
  have hrv := S4.out.2.1
  have ok1 := setReg_ok ok d (reg r a * reg r b)
  go_wp2_with (with_reducible refine wpList_store_rv rfl _ _ rfl p r (setReg r d (reg r a * reg r b)) rfl rfl ok ok1 hrv ?_; intro w5 hp5; have S5 := Lib.hid (ST.again S4.out hp5 ok1 hpp hnt hq); clear l1 l2 l3 c0 c1 c2 c3 c4 c5 c6; clear hp5 hrv; obtain ⟨⟨l1, l2, l3, c0, c1, c2, c3, c4, c5, c6⟩, _⟩ := S5.out; have hgood := good ok1)
  have HP := Lib.hid (ST.put ok1 ok1 S5.out hnt hqt hpt)
  have hl := load_rv HP.out.2 ok1
  exact bodyPost_ret (v := .tuple #[.agg (rgA (setReg r d (reg r a * reg r b))), .int .i64 1, .bool true]) (results_cell3 Try.results58 rfl hl rfl rfl) rfl ⟨rfl, by rw [HQ.out]; exact HP.out.1.2.2.2.2⟩

set_option maxRecDepth 20000 in
set_option maxHeartbeats 3200000 in
theorem ralu5 (r : Rg) (d a b s c n : Int) (w : World) (ok : okR r) (hi : okIn ⟨5, d, a, b, s, c, n⟩) (hr : right ⟨5, d, a, b, s, c, n⟩ = true) (hs0 : 0 ≤ s) (hs1 : s < 4) (hn0 : 0 ≤ n) (hn1 : n < 65536) :
    Calls Try.prog 58 #[.agg (rgA r), .agg #[.int .i64 5, .int .i64 d, .int .i64 a, .int .i64 b, .int .i64 s, .int .i64 c, .int .i64 n]] w fun e w' => e = .returned (.tuple #[.agg (rgA (setReg r d (reg r a &&& reg r b))), .int .i64 1, .bool true]) ∧ Below w.heap.size w w' := by
  have S0 := Lib.hid (trio_has w r ⟨5, d, a, b, s, c, n⟩ ok)
  have GR := Lib.hid (fun w => rright_any ⟨5, d, a, b, s, c, n⟩ w hi)
  rw [hr] at GR
  clear hi hr
  go_enter Try.func58, Try.ntmps58
  go_upto_region 1 with (fail)
  simp only [zeros_eq]
  rw [show World.alloc (World.alloc (World.alloc w _) _) _ = trio w r ⟨5, d, a, b, s, c, n⟩ from rfl]
  generalize trio w r ⟨5, d, a, b, s, c, n⟩ = W at *
  have hq : w.heap.size + 1 ≠ w.heap.size := by omega
  have hpt : w.heap.size ≤ w.heap.size + 1 + 1 := by omega
  have hqt : w.heap.size + 1 ≠ w.heap.size + 1 + 1 := by omega
  have hnt : w.heap.size ≠ w.heap.size + 1 + 1 := by omega
  generalize w.heap.size + 1 + 1 = t at *
  generalize w.heap.size + 1 = q at *
  generalize hp : w.heap.size = p at *
  have HQ := Lib.hid hp
  clear hp
  have SB := S0.out
  have hlt := (S0.out.2.1).lt
  obtain ⟨⟨l1, l2, l3, c0, c1, c2, c3, c4, c5, c6⟩, _⟩ := SB
  go_wp2_with fail
  refine (GR.out _).mono ?_
  rintro e w1 ⟨rfl, hb1⟩
  have S1 := Lib.hid (ST.keep ok S0.out hb1 (Nat.le_of_lt hlt))
  clear l1 l2 l3 c0 c1 c2 c3 c4 c5 c6
  obtain ⟨⟨l1, l2, l3, c0, c1, c2, c3, c4, c5, c6⟩, _⟩ := S1.out
  have hpp : p ≤ p := Nat.le_refl _
  go_wp2_with fail
  refine (rget_S p w p q t r ⟨5, d, a, b, s, c, n⟩ a _ ok S1.out hpp).mono ?_
  rintro e w2 ⟨rfl, h2⟩
  have S2 := Lib.hid h2
  clear h2
  clear l1 l2 l3 c0 c1 c2 c3 c4 c5 c6
  obtain ⟨⟨l1, l2, l3, c0, c1, c2, c3, c4, c5, c6⟩, _⟩ := S2.out
  go_wp2_with fail
  refine (rget_S p w p q t r ⟨5, d, a, b, s, c, n⟩ b _ ok S2.out hpp).mono ?_
  rintro e w3 ⟨rfl, h3⟩
  have S3 := Lib.hid h3
  clear h3
  clear l1 l2 l3 c0 c1 c2 c3 c4 c5 c6
  obtain ⟨⟨l1, l2, l3, c0, c1, c2, c3, c4, c5, c6⟩, _⟩ := S3.out
  go_wp2_with fail
  rw [w64_and]
  refine (rput_S p w p q t r ⟨5, d, a, b, s, c, n⟩ d (reg r a &&& reg r b) _ ok S3.out hpp).mono ?_
  rintro e w4 ⟨rfl, h4⟩
  have S4 := Lib.hid h4
  clear h4
  clear l1 l2 l3 c0 c1 c2 c3 c4 c5 c6
  obtain ⟨⟨l1, l2, l3, c0, c1, c2, c3, c4, c5, c6⟩, _⟩ := S4.out
  have hrv := S4.out.2.1
  have ok1 := setReg_ok ok d (reg r a &&& reg r b)
  go_wp2_with (with_reducible refine wpList_store_rv rfl _ _ rfl p r (setReg r d (reg r a &&& reg r b)) rfl rfl ok ok1 hrv ?_; intro w5 hp5; have S5 := Lib.hid (ST.again S4.out hp5 ok1 hpp hnt hq); clear l1 l2 l3 c0 c1 c2 c3 c4 c5 c6; clear hp5 hrv; obtain ⟨⟨l1, l2, l3, c0, c1, c2, c3, c4, c5, c6⟩, _⟩ := S5.out; have hgood := good ok1)
  have HP := Lib.hid (ST.put ok1 ok1 S5.out hnt hqt hpt)
  have hl := load_rv HP.out.2 ok1
  exact bodyPost_ret (v := .tuple #[.agg (rgA (setReg r d (reg r a &&& reg r b))), .int .i64 1, .bool true]) (results_cell3 Try.results58 rfl hl rfl rfl) rfl ⟨rfl, by rw [HQ.out]; exact HP.out.1.2.2.2.2⟩

set_option maxRecDepth 20000 in
set_option maxHeartbeats 3200000 in
theorem ralu6 (r : Rg) (d a b s c n : Int) (w : World) (ok : okR r) (hi : okIn ⟨6, d, a, b, s, c, n⟩) (hr : right ⟨6, d, a, b, s, c, n⟩ = true) (hs0 : 0 ≤ s) (hs1 : s < 4) :
    Calls Try.prog 58 #[.agg (rgA r), .agg #[.int .i64 6, .int .i64 d, .int .i64 a, .int .i64 b, .int .i64 s, .int .i64 c, .int .i64 n]] w fun e w' => e = .returned (.tuple #[.agg (rgA { r with l := reg r a, r := reg r b }), .int .i64 1, .bool true]) ∧ Below w.heap.size w w' := by
  have S0 := Lib.hid (trio_has w r ⟨6, d, a, b, s, c, n⟩ ok)
  have GR := Lib.hid (fun w => rright_any ⟨6, d, a, b, s, c, n⟩ w hi)
  rw [hr] at GR
  clear hi hr
  go_enter Try.func58, Try.ntmps58
  go_upto_region 1 with (fail)
  simp only [zeros_eq]
  rw [show World.alloc (World.alloc (World.alloc w _) _) _ = trio w r ⟨6, d, a, b, s, c, n⟩ from rfl]
  generalize trio w r ⟨6, d, a, b, s, c, n⟩ = W at *
  have hq : w.heap.size + 1 ≠ w.heap.size := by omega
  have hpt : w.heap.size ≤ w.heap.size + 1 + 1 := by omega
  have hqt : w.heap.size + 1 ≠ w.heap.size + 1 + 1 := by omega
  have hnt : w.heap.size ≠ w.heap.size + 1 + 1 := by omega
  generalize w.heap.size + 1 + 1 = t at *
  generalize w.heap.size + 1 = q at *
  generalize hp : w.heap.size = p at *
  have HQ := Lib.hid hp
  clear hp
  have SB := S0.out
  have hlt := (S0.out.2.1).lt
  obtain ⟨⟨l1, l2, l3, c0, c1, c2, c3, c4, c5, c6⟩, _⟩ := SB
  go_wp2_with fail
  refine (GR.out _).mono ?_
  rintro e w1 ⟨rfl, hb1⟩
  have S1 := Lib.hid (ST.keep ok S0.out hb1 (Nat.le_of_lt hlt))
  clear l1 l2 l3 c0 c1 c2 c3 c4 c5 c6
  obtain ⟨⟨l1, l2, l3, c0, c1, c2, c3, c4, c5, c6⟩, _⟩ := S1.out
  have hpp : p ≤ p := Nat.le_refl _
  go_wp2_with fail
  refine (rget_S p w p q t r ⟨6, d, a, b, s, c, n⟩ a _ ok S1.out hpp).mono ?_
  rintro e w2 ⟨rfl, h2⟩
  have S2 := Lib.hid h2
  clear h2
  clear l1 l2 l3 c0 c1 c2 c3 c4 c5 c6
  obtain ⟨⟨l1, l2, l3, c0, c1, c2, c3, c4, c5, c6⟩, _⟩ := S2.out
  go_wp2_with fail
  refine (rget_S p w p q t r ⟨6, d, a, b, s, c, n⟩ b _ ok S2.out hpp).mono ?_
  rintro e w3 ⟨rfl, h3⟩
  have S3 := Lib.hid h3
  clear h3
  clear l1 l2 l3 c0 c1 c2 c3 c4 c5 c6
  obtain ⟨⟨l1, l2, l3, c0, c1, c2, c3, c4, c5, c6⟩, _⟩ := S3.out
  obtain ⟨z1, z2, z3⟩ := ST.lr ok S3.out
  have ok1 : okR { r with l := reg r a, r := reg r b } := ok
  have S4 := Lib.hid (ST.both ok S3.out hpp hnt hq (reg r a) (reg r b))
  obtain ⟨⟨m1, m2, m3, _, _, _, _, _, _, _⟩, _⟩ := S4.out
  have hgood := good ok1
  go_wp2_with fail
  have HP := Lib.hid (ST.put ok1 ok1 S4.out hnt hqt hpt)
  have hl := load_rv HP.out.2 ok1
  exact bodyPost_ret (v := .tuple #[.agg (rgA { r with l := reg r a, r := reg r b }), .int .i64 1, .bool true]) (results_cell3 Try.results58 rfl hl rfl rfl) rfl ⟨rfl, by rw [HQ.out]; exact HP.out.1.2.2.2.2⟩

set_option maxRecDepth 20000 in
set_option maxHeartbeats 3200000 in
theorem ralu8 (r : Rg) (d a b s c n : Int) (w : World) (ok : okR r) (hi : okIn ⟨8, d, a, b, s, c, n⟩) (hr : right ⟨8, d, a, b, s, c, n⟩ = true) (hs0 : 0 ≤ s) (hs1 : s < 4) :
    Calls Try.prog 58 #[.agg (rgA r), .agg #[.int .i64 8, .int .i64 d, .int .i64 a, .int .i64 b, .int .i64 s, .int .i64 c, .int .i64 n]] w fun e w' => e = .returned (.tuple #[.agg (rgA r), .int .i64 n, .bool true]) ∧ Below w.heap.size w w' := by
  have S0 := Lib.hid (trio_has w r ⟨8, d, a, b, s, c, n⟩ ok)
  have GR := Lib.hid (fun w => rright_any ⟨8, d, a, b, s, c, n⟩ w hi)
  rw [hr] at GR
  clear hi hr
  go_enter Try.func58, Try.ntmps58
  go_upto_region 1 with (fail)
  simp only [zeros_eq]
  rw [show World.alloc (World.alloc (World.alloc w _) _) _ = trio w r ⟨8, d, a, b, s, c, n⟩ from rfl]
  generalize trio w r ⟨8, d, a, b, s, c, n⟩ = W at *
  have hq : w.heap.size + 1 ≠ w.heap.size := by omega
  have hpt : w.heap.size ≤ w.heap.size + 1 + 1 := by omega
  have hqt : w.heap.size + 1 ≠ w.heap.size + 1 + 1 := by omega
  have hnt : w.heap.size ≠ w.heap.size + 1 + 1 := by omega
  generalize w.heap.size + 1 + 1 = t at *
  generalize w.heap.size + 1 = q at *
  generalize hp : w.heap.size = p at *
  have HQ := Lib.hid hp
  clear hp
  have SB := S0.out
  have hlt := (S0.out.2.1).lt
  obtain ⟨⟨l1, l2, l3, c0, c1, c2, c3, c4, c5, c6⟩, _⟩ := SB
  go_wp2_with fail
  refine (GR.out _).mono ?_
  rintro e w1 ⟨rfl, hb1⟩
  have S1 := Lib.hid (ST.keep ok S0.out hb1 (Nat.le_of_lt hlt))
  clear l1 l2 l3 c0 c1 c2 c3 c4 c5 c6
  obtain ⟨⟨l1, l2, l3, c0, c1, c2, c3, c4, c5, c6⟩, _⟩ := S1.out
  have hpp : p ≤ p := Nat.le_refl _
  go_wp2_with fail
  refine (rget_S p w p q t r ⟨8, d, a, b, s, c, n⟩ a _ ok S1.out hpp).mono ?_
  rintro e w2 ⟨rfl, h2⟩
  have S2 := Lib.hid h2
  clear h2
  clear l1 l2 l3 c0 c1 c2 c3 c4 c5 c6
  obtain ⟨⟨l1, l2, l3, c0, c1, c2, c3, c4, c5, c6⟩, _⟩ := S2.out
  go_wp2_with fail
  refine (rget_S p w p q t r ⟨8, d, a, b, s, c, n⟩ b _ ok S2.out hpp).mono ?_
  rintro e w3 ⟨rfl, h3⟩
  have S3 := Lib.hid h3
  clear h3
  clear l1 l2 l3 c0 c1 c2 c3 c4 c5 c6
  obtain ⟨⟨l1, l2, l3, c0, c1, c2, c3, c4, c5, c6⟩, _⟩ := S3.out
  have S3d := Lib.hid (ST.drew ok S3.out)
  have hgood := good ok
  go_wp2_with fail
  clear l1 l2 l3 c0 c1 c2 c3 c4 c5 c6
  have SB := S3d.out
  go_region_held3 (fun w' => (HasV w' (.pointer (some ⟨p, 0, none⟩)) ∧ cellsV w' (.pointer (some ⟨p, 0, none⟩)) = rgA r ∧ ThereV w' (.pointer (some ⟨t, 0, none⟩)) ∧ w'.cell? ⟨q, 0, none⟩ = some (.int .i64 8) ∧ w'.cell? ⟨q, 1, none⟩ = some (.int .i64 d) ∧ w'.cell? ⟨q, 2, none⟩ = some (.int .i64 a) ∧ w'.cell? ⟨q, 3, none⟩ = some (.int .i64 b) ∧ w'.cell? ⟨q, 4, none⟩ = some (.int .i64 s) ∧ w'.cell? ⟨q, 5, none⟩ = some (.int .i64 c) ∧ w'.cell? ⟨q, 6, none⟩ = some (.int .i64 n)) ∧ RV w' p r ∧ (∃ r0, okR r0 ∧ RV w' t r0) ∧ Vi w' q ⟨8, d, a, b, s, c, n⟩ ∧ Below p w w') (first | with_reducible assumption | with_reducible exact (ST.put ok ok S3d.out hnt hqt hpt).1)
    (fail)
  go_wp2_with fail
  have HP := Lib.hid (ST.put ok ok S3d.out hnt hqt hpt)
  have hl := load_rv HP.out.2 ok
  exact bodyPost_ret (v := .tuple #[.agg (rgA r), .int .i64 n, .bool true]) (results_cell3 Try.results58 rfl hl rfl rfl) rfl ⟨rfl, by rw [HQ.out]; exact HP.out.1.2.2.2.2⟩

set_option maxRecDepth 20000 in
set_option maxHeartbeats 3200000 in
theorem ralu9true (r : Rg) (d a b s c n : Int) (w : World) (ok : okR r) (hi : okIn ⟨9, d, a, b, s, c, n⟩) (hr : right ⟨9, d, a, b, s, c, n⟩ = true) (hs0 : 0 ≤ s) (hs1 : s < 4) (hh : holds r c = true) :
    Calls Try.prog 58 #[.agg (rgA r), .agg #[.int .i64 9, .int .i64 d, .int .i64 a, .int .i64 b, .int .i64 s, .int .i64 c, .int .i64 n]] w fun e w' => e = .returned (.tuple #[.agg (rgA r), .int .i64 n, .bool true]) ∧ Below w.heap.size w w' := by
  have S0 := Lib.hid (trio_has w r ⟨9, d, a, b, s, c, n⟩ ok)
  have GR := Lib.hid (fun w => rright_any ⟨9, d, a, b, s, c, n⟩ w hi)
  rw [hr] at GR
  clear hi hr
  go_enter Try.func58, Try.ntmps58
  go_upto_region 1 with (fail)
  simp only [zeros_eq]
  rw [show World.alloc (World.alloc (World.alloc w _) _) _ = trio w r ⟨9, d, a, b, s, c, n⟩ from rfl]
  generalize trio w r ⟨9, d, a, b, s, c, n⟩ = W at *
  have hq : w.heap.size + 1 ≠ w.heap.size := by omega
  have hpt : w.heap.size ≤ w.heap.size + 1 + 1 := by omega
  have hqt : w.heap.size + 1 ≠ w.heap.size + 1 + 1 := by omega
  have hnt : w.heap.size ≠ w.heap.size + 1 + 1 := by omega
  generalize w.heap.size + 1 + 1 = t at *
  generalize w.heap.size + 1 = q at *
  generalize hp : w.heap.size = p at *
  have HQ := Lib.hid hp
  clear hp
  have SB := S0.out
  have hlt := (S0.out.2.1).lt
  obtain ⟨⟨l1, l2, l3, c0, c1, c2, c3, c4, c5, c6⟩, _⟩ := SB
  go_wp2_with fail
  refine (GR.out _).mono ?_
  rintro e w1 ⟨rfl, hb1⟩
  have S1 := Lib.hid (ST.keep ok S0.out hb1 (Nat.le_of_lt hlt))
  clear l1 l2 l3 c0 c1 c2 c3 c4 c5 c6
  obtain ⟨⟨l1, l2, l3, c0, c1, c2, c3, c4, c5, c6⟩, _⟩ := S1.out
  have hpp : p ≤ p := Nat.le_refl _
  go_wp2_with fail
  refine (rget_S p w p q t r ⟨9, d, a, b, s, c, n⟩ a _ ok S1.out hpp).mono ?_
  rintro e w2 ⟨rfl, h2⟩
  have S2 := Lib.hid h2
  clear h2
  clear l1 l2 l3 c0 c1 c2 c3 c4 c5 c6
  obtain ⟨⟨l1, l2, l3, c0, c1, c2, c3, c4, c5, c6⟩, _⟩ := S2.out
  go_wp2_with fail
  refine (rget_S p w p q t r ⟨9, d, a, b, s, c, n⟩ b _ ok S2.out hpp).mono ?_
  rintro e w3 ⟨rfl, h3⟩
  have S3 := Lib.hid h3
  clear h3
  clear l1 l2 l3 c0 c1 c2 c3 c4 c5 c6
  obtain ⟨⟨l1, l2, l3, c0, c1, c2, c3, c4, c5, c6⟩, _⟩ := S3.out
  go_wp2_with fail
  refine (rholds_S p w p q t r ⟨9, d, a, b, s, c, n⟩ c _ ok S3.out hpp).mono ?_
  rintro e w4 ⟨rfl, h4⟩
  rw [hh]
  have S4 := Lib.hid h4
  clear h4 hh
  clear l1 l2 l3 c0 c1 c2 c3 c4 c5 c6
  obtain ⟨⟨l1, l2, l3, c0, c1, c2, c3, c4, c5, c6⟩, _⟩ := S4.out
  have S3d := Lib.hid (ST.drew ok S4.out)
  have hgood := good ok
  go_wp2_with fail
  clear l1 l2 l3 c0 c1 c2 c3 c4 c5 c6
  have SB := S3d.out
  go_region_held3 (fun w' => (HasV w' (.pointer (some ⟨p, 0, none⟩)) ∧ cellsV w' (.pointer (some ⟨p, 0, none⟩)) = rgA r ∧ ThereV w' (.pointer (some ⟨t, 0, none⟩)) ∧ w'.cell? ⟨q, 0, none⟩ = some (.int .i64 9) ∧ w'.cell? ⟨q, 1, none⟩ = some (.int .i64 d) ∧ w'.cell? ⟨q, 2, none⟩ = some (.int .i64 a) ∧ w'.cell? ⟨q, 3, none⟩ = some (.int .i64 b) ∧ w'.cell? ⟨q, 4, none⟩ = some (.int .i64 s) ∧ w'.cell? ⟨q, 5, none⟩ = some (.int .i64 c) ∧ w'.cell? ⟨q, 6, none⟩ = some (.int .i64 n)) ∧ RV w' p r ∧ (∃ r0, okR r0 ∧ RV w' t r0) ∧ Vi w' q ⟨9, d, a, b, s, c, n⟩ ∧ Below p w w') (first | with_reducible assumption | with_reducible exact (ST.put ok ok S3d.out hnt hqt hpt).1)
    (fail)
  go_wp2_with fail
  have HP := Lib.hid (ST.put ok ok S3d.out hnt hqt hpt)
  have hl := load_rv HP.out.2 ok
  exact bodyPost_ret (v := .tuple #[.agg (rgA r), .int .i64 n, .bool true]) (results_cell3 Try.results58 rfl hl rfl rfl) rfl ⟨rfl, by rw [HQ.out]; exact HP.out.1.2.2.2.2⟩

set_option maxRecDepth 20000 in
set_option maxHeartbeats 3200000 in
theorem ralu9false (r : Rg) (d a b s c n : Int) (w : World) (ok : okR r) (hi : okIn ⟨9, d, a, b, s, c, n⟩) (hr : right ⟨9, d, a, b, s, c, n⟩ = true) (hs0 : 0 ≤ s) (hs1 : s < 4) (hh : holds r c = false) :
    Calls Try.prog 58 #[.agg (rgA r), .agg #[.int .i64 9, .int .i64 d, .int .i64 a, .int .i64 b, .int .i64 s, .int .i64 c, .int .i64 n]] w fun e w' => e = .returned (.tuple #[.agg (rgA r), .int .i64 1, .bool true]) ∧ Below w.heap.size w w' := by
  have S0 := Lib.hid (trio_has w r ⟨9, d, a, b, s, c, n⟩ ok)
  have GR := Lib.hid (fun w => rright_any ⟨9, d, a, b, s, c, n⟩ w hi)
  rw [hr] at GR
  clear hi hr
  go_enter Try.func58, Try.ntmps58
  go_upto_region 1 with (fail)
  simp only [zeros_eq]
  rw [show World.alloc (World.alloc (World.alloc w _) _) _ = trio w r ⟨9, d, a, b, s, c, n⟩ from rfl]
  generalize trio w r ⟨9, d, a, b, s, c, n⟩ = W at *
  have hq : w.heap.size + 1 ≠ w.heap.size := by omega
  have hpt : w.heap.size ≤ w.heap.size + 1 + 1 := by omega
  have hqt : w.heap.size + 1 ≠ w.heap.size + 1 + 1 := by omega
  have hnt : w.heap.size ≠ w.heap.size + 1 + 1 := by omega
  generalize w.heap.size + 1 + 1 = t at *
  generalize w.heap.size + 1 = q at *
  generalize hp : w.heap.size = p at *
  have HQ := Lib.hid hp
  clear hp
  have SB := S0.out
  have hlt := (S0.out.2.1).lt
  obtain ⟨⟨l1, l2, l3, c0, c1, c2, c3, c4, c5, c6⟩, _⟩ := SB
  go_wp2_with fail
  refine (GR.out _).mono ?_
  rintro e w1 ⟨rfl, hb1⟩
  have S1 := Lib.hid (ST.keep ok S0.out hb1 (Nat.le_of_lt hlt))
  clear l1 l2 l3 c0 c1 c2 c3 c4 c5 c6
  obtain ⟨⟨l1, l2, l3, c0, c1, c2, c3, c4, c5, c6⟩, _⟩ := S1.out
  have hpp : p ≤ p := Nat.le_refl _
  go_wp2_with fail
  refine (rget_S p w p q t r ⟨9, d, a, b, s, c, n⟩ a _ ok S1.out hpp).mono ?_
  rintro e w2 ⟨rfl, h2⟩
  have S2 := Lib.hid h2
  clear h2
  clear l1 l2 l3 c0 c1 c2 c3 c4 c5 c6
  obtain ⟨⟨l1, l2, l3, c0, c1, c2, c3, c4, c5, c6⟩, _⟩ := S2.out
  go_wp2_with fail
  refine (rget_S p w p q t r ⟨9, d, a, b, s, c, n⟩ b _ ok S2.out hpp).mono ?_
  rintro e w3 ⟨rfl, h3⟩
  have S3 := Lib.hid h3
  clear h3
  clear l1 l2 l3 c0 c1 c2 c3 c4 c5 c6
  obtain ⟨⟨l1, l2, l3, c0, c1, c2, c3, c4, c5, c6⟩, _⟩ := S3.out
  go_wp2_with fail
  refine (rholds_S p w p q t r ⟨9, d, a, b, s, c, n⟩ c _ ok S3.out hpp).mono ?_
  rintro e w4 ⟨rfl, h4⟩
  rw [hh]
  have S4 := Lib.hid h4
  clear h4 hh
  clear l1 l2 l3 c0 c1 c2 c3 c4 c5 c6
  obtain ⟨⟨l1, l2, l3, c0, c1, c2, c3, c4, c5, c6⟩, _⟩ := S4.out
  have hgood := good ok
  go_wp2_with fail
  have HP := Lib.hid (ST.put ok ok S4.out hnt hqt hpt)
  have hl := load_rv HP.out.2 ok
  exact bodyPost_ret (v := .tuple #[.agg (rgA r), .int .i64 1, .bool true]) (results_cell3 Try.results58 rfl hl rfl rfl) rfl ⟨rfl, by rw [HQ.out]; exact HP.out.1.2.2.2.2⟩

set_option maxRecDepth 20000 in
set_option maxHeartbeats 3200000 in
theorem ralu10true (r : Rg) (d a b s c n : Int) (w : World) (ok : okR r) (hi : okIn ⟨10, d, a, b, s, c, n⟩) (hr : right ⟨10, d, a, b, s, c, n⟩ = true) (hs0 : 0 ≤ s) (hs1 : s < 4) (hz : (((reg r a).toNat : Int) == 0) = true) (hz2 : (((reg r a).toNat : Int) != 0) = false) :
    Calls Try.prog 58 #[.agg (rgA r), .agg #[.int .i64 10, .int .i64 d, .int .i64 a, .int .i64 b, .int .i64 s, .int .i64 c, .int .i64 n]] w fun e w' => e = .returned (.tuple #[.agg (rgA r), .int .i64 n, .bool true]) ∧ Below w.heap.size w w' := by
  have S0 := Lib.hid (trio_has w r ⟨10, d, a, b, s, c, n⟩ ok)
  have GR := Lib.hid (fun w => rright_any ⟨10, d, a, b, s, c, n⟩ w hi)
  rw [hr] at GR
  clear hi hr
  go_enter Try.func58, Try.ntmps58
  go_upto_region 1 with (fail)
  simp only [zeros_eq]
  rw [show World.alloc (World.alloc (World.alloc w _) _) _ = trio w r ⟨10, d, a, b, s, c, n⟩ from rfl]
  generalize trio w r ⟨10, d, a, b, s, c, n⟩ = W at *
  have hq : w.heap.size + 1 ≠ w.heap.size := by omega
  have hpt : w.heap.size ≤ w.heap.size + 1 + 1 := by omega
  have hqt : w.heap.size + 1 ≠ w.heap.size + 1 + 1 := by omega
  have hnt : w.heap.size ≠ w.heap.size + 1 + 1 := by omega
  generalize w.heap.size + 1 + 1 = t at *
  generalize w.heap.size + 1 = q at *
  generalize hp : w.heap.size = p at *
  have HQ := Lib.hid hp
  clear hp
  have SB := S0.out
  have hlt := (S0.out.2.1).lt
  obtain ⟨⟨l1, l2, l3, c0, c1, c2, c3, c4, c5, c6⟩, _⟩ := SB
  go_wp2_with fail
  refine (GR.out _).mono ?_
  rintro e w1 ⟨rfl, hb1⟩
  have S1 := Lib.hid (ST.keep ok S0.out hb1 (Nat.le_of_lt hlt))
  clear l1 l2 l3 c0 c1 c2 c3 c4 c5 c6
  obtain ⟨⟨l1, l2, l3, c0, c1, c2, c3, c4, c5, c6⟩, _⟩ := S1.out
  have hpp : p ≤ p := Nat.le_refl _
  go_wp2_with fail
  refine (rget_S p w p q t r ⟨10, d, a, b, s, c, n⟩ a _ ok S1.out hpp).mono ?_
  rintro e w2 ⟨rfl, h2⟩
  have S2 := Lib.hid h2
  clear h2
  clear l1 l2 l3 c0 c1 c2 c3 c4 c5 c6
  obtain ⟨⟨l1, l2, l3, c0, c1, c2, c3, c4, c5, c6⟩, _⟩ := S2.out
  go_wp2_with fail
  refine (rget_S p w p q t r ⟨10, d, a, b, s, c, n⟩ b _ ok S2.out hpp).mono ?_
  rintro e w3 ⟨rfl, h3⟩
  have S3 := Lib.hid h3
  clear h3
  clear l1 l2 l3 c0 c1 c2 c3 c4 c5 c6
  obtain ⟨⟨l1, l2, l3, c0, c1, c2, c3, c4, c5, c6⟩, _⟩ := S3.out
  have S3d := Lib.hid (ST.drew ok S3.out)
  have hgood := good ok
  go_wp2_with fail
  clear l1 l2 l3 c0 c1 c2 c3 c4 c5 c6
  have SB := S3d.out
  go_region_held3 (fun w' => (HasV w' (.pointer (some ⟨p, 0, none⟩)) ∧ cellsV w' (.pointer (some ⟨p, 0, none⟩)) = rgA r ∧ ThereV w' (.pointer (some ⟨t, 0, none⟩)) ∧ w'.cell? ⟨q, 0, none⟩ = some (.int .i64 10) ∧ w'.cell? ⟨q, 1, none⟩ = some (.int .i64 d) ∧ w'.cell? ⟨q, 2, none⟩ = some (.int .i64 a) ∧ w'.cell? ⟨q, 3, none⟩ = some (.int .i64 b) ∧ w'.cell? ⟨q, 4, none⟩ = some (.int .i64 s) ∧ w'.cell? ⟨q, 5, none⟩ = some (.int .i64 c) ∧ w'.cell? ⟨q, 6, none⟩ = some (.int .i64 n)) ∧ RV w' p r ∧ (∃ r0, okR r0 ∧ RV w' t r0) ∧ Vi w' q ⟨10, d, a, b, s, c, n⟩ ∧ Below p w w') (first | with_reducible assumption | with_reducible exact (ST.put ok ok S3d.out hnt hqt hpt).1)
    (fail)
  go_wp2_with fail
  have HP := Lib.hid (ST.put ok ok S3d.out hnt hqt hpt)
  have hl := load_rv HP.out.2 ok
  exact bodyPost_ret (v := .tuple #[.agg (rgA r), .int .i64 n, .bool true]) (results_cell3 Try.results58 rfl hl rfl rfl) rfl ⟨rfl, by rw [HQ.out]; exact HP.out.1.2.2.2.2⟩

set_option maxRecDepth 20000 in
set_option maxHeartbeats 3200000 in
theorem ralu10false (r : Rg) (d a b s c n : Int) (w : World) (ok : okR r) (hi : okIn ⟨10, d, a, b, s, c, n⟩) (hr : right ⟨10, d, a, b, s, c, n⟩ = true) (hs0 : 0 ≤ s) (hs1 : s < 4) (hz : (((reg r a).toNat : Int) == 0) = false) (hz2 : (((reg r a).toNat : Int) != 0) = true) :
    Calls Try.prog 58 #[.agg (rgA r), .agg #[.int .i64 10, .int .i64 d, .int .i64 a, .int .i64 b, .int .i64 s, .int .i64 c, .int .i64 n]] w fun e w' => e = .returned (.tuple #[.agg (rgA r), .int .i64 1, .bool true]) ∧ Below w.heap.size w w' := by
  have S0 := Lib.hid (trio_has w r ⟨10, d, a, b, s, c, n⟩ ok)
  have GR := Lib.hid (fun w => rright_any ⟨10, d, a, b, s, c, n⟩ w hi)
  rw [hr] at GR
  clear hi hr
  go_enter Try.func58, Try.ntmps58
  go_upto_region 1 with (fail)
  simp only [zeros_eq]
  rw [show World.alloc (World.alloc (World.alloc w _) _) _ = trio w r ⟨10, d, a, b, s, c, n⟩ from rfl]
  generalize trio w r ⟨10, d, a, b, s, c, n⟩ = W at *
  have hq : w.heap.size + 1 ≠ w.heap.size := by omega
  have hpt : w.heap.size ≤ w.heap.size + 1 + 1 := by omega
  have hqt : w.heap.size + 1 ≠ w.heap.size + 1 + 1 := by omega
  have hnt : w.heap.size ≠ w.heap.size + 1 + 1 := by omega
  generalize w.heap.size + 1 + 1 = t at *
  generalize w.heap.size + 1 = q at *
  generalize hp : w.heap.size = p at *
  have HQ := Lib.hid hp
  clear hp
  have SB := S0.out
  have hlt := (S0.out.2.1).lt
  obtain ⟨⟨l1, l2, l3, c0, c1, c2, c3, c4, c5, c6⟩, _⟩ := SB
  go_wp2_with fail
  refine (GR.out _).mono ?_
  rintro e w1 ⟨rfl, hb1⟩
  have S1 := Lib.hid (ST.keep ok S0.out hb1 (Nat.le_of_lt hlt))
  clear l1 l2 l3 c0 c1 c2 c3 c4 c5 c6
  obtain ⟨⟨l1, l2, l3, c0, c1, c2, c3, c4, c5, c6⟩, _⟩ := S1.out
  have hpp : p ≤ p := Nat.le_refl _
  go_wp2_with fail
  refine (rget_S p w p q t r ⟨10, d, a, b, s, c, n⟩ a _ ok S1.out hpp).mono ?_
  rintro e w2 ⟨rfl, h2⟩
  have S2 := Lib.hid h2
  clear h2
  clear l1 l2 l3 c0 c1 c2 c3 c4 c5 c6
  obtain ⟨⟨l1, l2, l3, c0, c1, c2, c3, c4, c5, c6⟩, _⟩ := S2.out
  go_wp2_with fail
  refine (rget_S p w p q t r ⟨10, d, a, b, s, c, n⟩ b _ ok S2.out hpp).mono ?_
  rintro e w3 ⟨rfl, h3⟩
  have S3 := Lib.hid h3
  clear h3
  clear l1 l2 l3 c0 c1 c2 c3 c4 c5 c6
  obtain ⟨⟨l1, l2, l3, c0, c1, c2, c3, c4, c5, c6⟩, _⟩ := S3.out
  have hgood := good ok
  go_wp2_with fail
  have HP := Lib.hid (ST.put ok ok S3.out hnt hqt hpt)
  have hl := load_rv HP.out.2 ok
  exact bodyPost_ret (v := .tuple #[.agg (rgA r), .int .i64 1, .bool true]) (results_cell3 Try.results58 rfl hl rfl rfl) rfl ⟨rfl, by rw [HQ.out]; exact HP.out.1.2.2.2.2⟩

set_option maxRecDepth 20000 in
set_option maxHeartbeats 3200000 in
theorem ralu11true (r : Rg) (d a b s c n : Int) (w : World) (ok : okR r) (hi : okIn ⟨11, d, a, b, s, c, n⟩) (hr : right ⟨11, d, a, b, s, c, n⟩ = true) (hs0 : 0 ≤ s) (hs1 : s < 4) (hz : (((reg r a).toNat : Int) == 0) = true) (hz2 : (((reg r a).toNat : Int) != 0) = false) :
    Calls Try.prog 58 #[.agg (rgA r), .agg #[.int .i64 11, .int .i64 d, .int .i64 a, .int .i64 b, .int .i64 s, .int .i64 c, .int .i64 n]] w fun e w' => e = .returned (.tuple #[.agg (rgA r), .int .i64 1, .bool true]) ∧ Below w.heap.size w w' := by
  have S0 := Lib.hid (trio_has w r ⟨11, d, a, b, s, c, n⟩ ok)
  have GR := Lib.hid (fun w => rright_any ⟨11, d, a, b, s, c, n⟩ w hi)
  rw [hr] at GR
  clear hi hr
  go_enter Try.func58, Try.ntmps58
  go_upto_region 1 with (fail)
  simp only [zeros_eq]
  rw [show World.alloc (World.alloc (World.alloc w _) _) _ = trio w r ⟨11, d, a, b, s, c, n⟩ from rfl]
  generalize trio w r ⟨11, d, a, b, s, c, n⟩ = W at *
  have hq : w.heap.size + 1 ≠ w.heap.size := by omega
  have hpt : w.heap.size ≤ w.heap.size + 1 + 1 := by omega
  have hqt : w.heap.size + 1 ≠ w.heap.size + 1 + 1 := by omega
  have hnt : w.heap.size ≠ w.heap.size + 1 + 1 := by omega
  generalize w.heap.size + 1 + 1 = t at *
  generalize w.heap.size + 1 = q at *
  generalize hp : w.heap.size = p at *
  have HQ := Lib.hid hp
  clear hp
  have SB := S0.out
  have hlt := (S0.out.2.1).lt
  obtain ⟨⟨l1, l2, l3, c0, c1, c2, c3, c4, c5, c6⟩, _⟩ := SB
  go_wp2_with fail
  refine (GR.out _).mono ?_
  rintro e w1 ⟨rfl, hb1⟩
  have S1 := Lib.hid (ST.keep ok S0.out hb1 (Nat.le_of_lt hlt))
  clear l1 l2 l3 c0 c1 c2 c3 c4 c5 c6
  obtain ⟨⟨l1, l2, l3, c0, c1, c2, c3, c4, c5, c6⟩, _⟩ := S1.out
  have hpp : p ≤ p := Nat.le_refl _
  go_wp2_with fail
  refine (rget_S p w p q t r ⟨11, d, a, b, s, c, n⟩ a _ ok S1.out hpp).mono ?_
  rintro e w2 ⟨rfl, h2⟩
  have S2 := Lib.hid h2
  clear h2
  clear l1 l2 l3 c0 c1 c2 c3 c4 c5 c6
  obtain ⟨⟨l1, l2, l3, c0, c1, c2, c3, c4, c5, c6⟩, _⟩ := S2.out
  go_wp2_with fail
  refine (rget_S p w p q t r ⟨11, d, a, b, s, c, n⟩ b _ ok S2.out hpp).mono ?_
  rintro e w3 ⟨rfl, h3⟩
  have S3 := Lib.hid h3
  clear h3
  clear l1 l2 l3 c0 c1 c2 c3 c4 c5 c6
  obtain ⟨⟨l1, l2, l3, c0, c1, c2, c3, c4, c5, c6⟩, _⟩ := S3.out
  have hgood := good ok
  go_wp2_with fail
  have HP := Lib.hid (ST.put ok ok S3.out hnt hqt hpt)
  have hl := load_rv HP.out.2 ok
  exact bodyPost_ret (v := .tuple #[.agg (rgA r), .int .i64 1, .bool true]) (results_cell3 Try.results58 rfl hl rfl rfl) rfl ⟨rfl, by rw [HQ.out]; exact HP.out.1.2.2.2.2⟩

set_option maxRecDepth 20000 in
set_option maxHeartbeats 3200000 in
theorem ralu11false (r : Rg) (d a b s c n : Int) (w : World) (ok : okR r) (hi : okIn ⟨11, d, a, b, s, c, n⟩) (hr : right ⟨11, d, a, b, s, c, n⟩ = true) (hs0 : 0 ≤ s) (hs1 : s < 4) (hz : (((reg r a).toNat : Int) == 0) = false) (hz2 : (((reg r a).toNat : Int) != 0) = true) :
    Calls Try.prog 58 #[.agg (rgA r), .agg #[.int .i64 11, .int .i64 d, .int .i64 a, .int .i64 b, .int .i64 s, .int .i64 c, .int .i64 n]] w fun e w' => e = .returned (.tuple #[.agg (rgA r), .int .i64 n, .bool true]) ∧ Below w.heap.size w w' := by
  have S0 := Lib.hid (trio_has w r ⟨11, d, a, b, s, c, n⟩ ok)
  have GR := Lib.hid (fun w => rright_any ⟨11, d, a, b, s, c, n⟩ w hi)
  rw [hr] at GR
  clear hi hr
  go_enter Try.func58, Try.ntmps58
  go_upto_region 1 with (fail)
  simp only [zeros_eq]
  rw [show World.alloc (World.alloc (World.alloc w _) _) _ = trio w r ⟨11, d, a, b, s, c, n⟩ from rfl]
  generalize trio w r ⟨11, d, a, b, s, c, n⟩ = W at *
  have hq : w.heap.size + 1 ≠ w.heap.size := by omega
  have hpt : w.heap.size ≤ w.heap.size + 1 + 1 := by omega
  have hqt : w.heap.size + 1 ≠ w.heap.size + 1 + 1 := by omega
  have hnt : w.heap.size ≠ w.heap.size + 1 + 1 := by omega
  generalize w.heap.size + 1 + 1 = t at *
  generalize w.heap.size + 1 = q at *
  generalize hp : w.heap.size = p at *
  have HQ := Lib.hid hp
  clear hp
  have SB := S0.out
  have hlt := (S0.out.2.1).lt
  obtain ⟨⟨l1, l2, l3, c0, c1, c2, c3, c4, c5, c6⟩, _⟩ := SB
  go_wp2_with fail
  refine (GR.out _).mono ?_
  rintro e w1 ⟨rfl, hb1⟩
  have S1 := Lib.hid (ST.keep ok S0.out hb1 (Nat.le_of_lt hlt))
  clear l1 l2 l3 c0 c1 c2 c3 c4 c5 c6
  obtain ⟨⟨l1, l2, l3, c0, c1, c2, c3, c4, c5, c6⟩, _⟩ := S1.out
  have hpp : p ≤ p := Nat.le_refl _
  go_wp2_with fail
  refine (rget_S p w p q t r ⟨11, d, a, b, s, c, n⟩ a _ ok S1.out hpp).mono ?_
  rintro e w2 ⟨rfl, h2⟩
  have S2 := Lib.hid h2
  clear h2
  clear l1 l2 l3 c0 c1 c2 c3 c4 c5 c6
  obtain ⟨⟨l1, l2, l3, c0, c1, c2, c3, c4, c5, c6⟩, _⟩ := S2.out
  go_wp2_with fail
  refine (rget_S p w p q t r ⟨11, d, a, b, s, c, n⟩ b _ ok S2.out hpp).mono ?_
  rintro e w3 ⟨rfl, h3⟩
  have S3 := Lib.hid h3
  clear h3
  clear l1 l2 l3 c0 c1 c2 c3 c4 c5 c6
  obtain ⟨⟨l1, l2, l3, c0, c1, c2, c3, c4, c5, c6⟩, _⟩ := S3.out
  have S3d := Lib.hid (ST.drew ok S3.out)
  have hgood := good ok
  go_wp2_with fail
  clear l1 l2 l3 c0 c1 c2 c3 c4 c5 c6
  have SB := S3d.out
  go_region_held3 (fun w' => (HasV w' (.pointer (some ⟨p, 0, none⟩)) ∧ cellsV w' (.pointer (some ⟨p, 0, none⟩)) = rgA r ∧ ThereV w' (.pointer (some ⟨t, 0, none⟩)) ∧ w'.cell? ⟨q, 0, none⟩ = some (.int .i64 11) ∧ w'.cell? ⟨q, 1, none⟩ = some (.int .i64 d) ∧ w'.cell? ⟨q, 2, none⟩ = some (.int .i64 a) ∧ w'.cell? ⟨q, 3, none⟩ = some (.int .i64 b) ∧ w'.cell? ⟨q, 4, none⟩ = some (.int .i64 s) ∧ w'.cell? ⟨q, 5, none⟩ = some (.int .i64 c) ∧ w'.cell? ⟨q, 6, none⟩ = some (.int .i64 n)) ∧ RV w' p r ∧ (∃ r0, okR r0 ∧ RV w' t r0) ∧ Vi w' q ⟨11, d, a, b, s, c, n⟩ ∧ Below p w w') (first | with_reducible assumption | with_reducible exact (ST.put ok ok S3d.out hnt hqt hpt).1)
    (fail)
  go_wp2_with fail
  have HP := Lib.hid (ST.put ok ok S3d.out hnt hqt hpt)
  have hl := load_rv HP.out.2 ok
  exact bodyPost_ret (v := .tuple #[.agg (rgA r), .int .i64 n, .bool true]) (results_cell3 Try.results58 rfl hl rfl rfl) rfl ⟨rfl, by rw [HQ.out]; exact HP.out.1.2.2.2.2⟩

set_option maxRecDepth 20000 in
set_option maxHeartbeats 3200000 in
theorem ralu21 (r : Rg) (d a b s c n : Int) (w : World) (ok : okR r) (hi : okIn ⟨21, d, a, b, s, c, n⟩) (hr : right ⟨21, d, a, b, s, c, n⟩ = true) (hs0 : 0 ≤ s) (hs1 : s < 4) :
    Calls Try.prog 58 #[.agg (rgA r), .agg #[.int .i64 21, .int .i64 d, .int .i64 a, .int .i64 b, .int .i64 s, .int .i64 c, .int .i64 n]] w fun e w' => e = .returned (.tuple #[.agg (rgA r), .int .i64 1, .bool true]) ∧ Below w.heap.size w w' := by
  have S0 := Lib.hid (trio_has w r ⟨21, d, a, b, s, c, n⟩ ok)
  have GR := Lib.hid (fun w => rright_any ⟨21, d, a, b, s, c, n⟩ w hi)
  rw [hr] at GR
  clear hi hr
  go_enter Try.func58, Try.ntmps58
  go_upto_region 1 with (fail)
  simp only [zeros_eq]
  rw [show World.alloc (World.alloc (World.alloc w _) _) _ = trio w r ⟨21, d, a, b, s, c, n⟩ from rfl]
  generalize trio w r ⟨21, d, a, b, s, c, n⟩ = W at *
  have hq : w.heap.size + 1 ≠ w.heap.size := by omega
  have hpt : w.heap.size ≤ w.heap.size + 1 + 1 := by omega
  have hqt : w.heap.size + 1 ≠ w.heap.size + 1 + 1 := by omega
  have hnt : w.heap.size ≠ w.heap.size + 1 + 1 := by omega
  generalize w.heap.size + 1 + 1 = t at *
  generalize w.heap.size + 1 = q at *
  generalize hp : w.heap.size = p at *
  have HQ := Lib.hid hp
  clear hp
  have SB := S0.out
  have hlt := (S0.out.2.1).lt
  obtain ⟨⟨l1, l2, l3, c0, c1, c2, c3, c4, c5, c6⟩, _⟩ := SB
  go_wp2_with fail
  refine (GR.out _).mono ?_
  rintro e w1 ⟨rfl, hb1⟩
  have S1 := Lib.hid (ST.keep ok S0.out hb1 (Nat.le_of_lt hlt))
  clear l1 l2 l3 c0 c1 c2 c3 c4 c5 c6
  obtain ⟨⟨l1, l2, l3, c0, c1, c2, c3, c4, c5, c6⟩, _⟩ := S1.out
  have hpp : p ≤ p := Nat.le_refl _
  go_wp2_with fail
  refine (rget_S p w p q t r ⟨21, d, a, b, s, c, n⟩ a _ ok S1.out hpp).mono ?_
  rintro e w2 ⟨rfl, h2⟩
  have S2 := Lib.hid h2
  clear h2
  clear l1 l2 l3 c0 c1 c2 c3 c4 c5 c6
  obtain ⟨⟨l1, l2, l3, c0, c1, c2, c3, c4, c5, c6⟩, _⟩ := S2.out
  go_wp2_with fail
  refine (rget_S p w p q t r ⟨21, d, a, b, s, c, n⟩ b _ ok S2.out hpp).mono ?_
  rintro e w3 ⟨rfl, h3⟩
  have S3 := Lib.hid h3
  clear h3
  clear l1 l2 l3 c0 c1 c2 c3 c4 c5 c6
  obtain ⟨⟨l1, l2, l3, c0, c1, c2, c3, c4, c5, c6⟩, _⟩ := S3.out
  have hgood := good ok
  go_wp2_with fail
  have HP := Lib.hid (ST.put ok ok S3.out hnt hqt hpt)
  have hl := load_rv HP.out.2 ok
  exact bodyPost_ret (v := .tuple #[.agg (rgA r), .int .i64 1, .bool true]) (results_cell3 Try.results58 rfl hl rfl rfl) rfl ⟨rfl, by rw [HQ.out]; exact HP.out.1.2.2.2.2⟩

end Go.Proofs.Ytkohichiojmakaa.AluR0
/-
  WALK: the document's Alu (a move that keeps, and a condition).
-/
namespace Go.Proofs.Ytkohichiojmakaa.AluR1
set_option linter.unusedVariables false
set_option linter.unusedSimpArgs false
open Go.RowKit Cm Mm Ow A64 Fld FldW FldR A64W A64P A64C A64T A64R A64E A64F A64Q Alu AluG AluS AluO AluK AluP AluQ AluE AluA AluR
attribute [local go_sem ↓] Go.wp_at_zero Go.wp_at_succ exec_load_regs exec_store_regs

set_option maxRecDepth 20000 in
set_option maxHeartbeats 3200000 in
theorem ralu1 (r : Rg) (d a b s c n : Int) (w : World) (ok : okR r) (hi : okIn ⟨1, d, a, b, s, c, n⟩) (hr : right ⟨1, d, a, b, s, c, n⟩ = true) (hs0 : 0 ≤ s) (hs1 : s < 4) (hn0 : 0 ≤ n) (hn1 : n < 65536) (V : BitVec 64) (hV : V = (reg r d &&& ~~~ hole ⟨1, d, a, b, s, c, n⟩) ||| Alu.part ⟨1, d, a, b, s, c, n⟩) :
    Calls Try.prog 58 #[.agg (rgA r), .agg #[.int .i64 1, .int .i64 d, .int .i64 a, .int .i64 b, .int .i64 s, .int .i64 c, .int .i64 n]] w fun e w' => e = .returned (.tuple #[.agg (rgA (setReg r d V)), .int .i64 1, .bool true]) ∧ Below w.heap.size w w' := by
  have HR := Lib.hid (part_eq hn0 ⟨1, d, a, b, s, c, n⟩ rfl rfl)
  have HO := Lib.hid (hole_eq ⟨1, d, a, b, s, c, n⟩ (s := s) rfl)
  have ok1 := setReg_ok ok d V
  have HV := Lib.hid hV
  clear hV
  have hwn : IntKind.u64.wrap n = n := by rw [IntKind.wrap_u64]; omega
  have S0 := Lib.hid (trio_has w r ⟨1, d, a, b, s, c, n⟩ ok)
  have GR := Lib.hid (fun w => rright_any ⟨1, d, a, b, s, c, n⟩ w hi)
  rw [hr] at GR
  clear hi hr
  go_enter Try.func58, Try.ntmps58
  go_upto_region 1 with (fail)
  simp only [zeros_eq]
  rw [show World.alloc (World.alloc (World.alloc w _) _) _ = trio w r ⟨1, d, a, b, s, c, n⟩ from rfl]
  generalize trio w r ⟨1, d, a, b, s, c, n⟩ = W at *
  have hq : w.heap.size + 1 ≠ w.heap.size := by omega
  have hpt : w.heap.size ≤ w.heap.size + 1 + 1 := by omega
  have hqt : w.heap.size + 1 ≠ w.heap.size + 1 + 1 := by omega
  have hnt : w.heap.size ≠ w.heap.size + 1 + 1 := by omega
  generalize w.heap.size + 1 + 1 = t at *
  generalize w.heap.size + 1 = q at *
  generalize hp : w.heap.size = p at *
  have HQ := Lib.hid hp
  clear hp
  have SB := S0.out
  have hlt := (S0.out.2.1).lt
  obtain ⟨⟨l1, l2, l3, c0, c1, c2, c3, c4, c5, c6⟩, _⟩ := SB
  go_wp2_with fail
  refine (GR.out _).mono ?_
  rintro e w1 ⟨rfl, hb1⟩
  have S1 := Lib.hid (ST.keep ok S0.out hb1 (Nat.le_of_lt hlt))
  clear l1 l2 l3 c0 c1 c2 c3 c4 c5 c6
  obtain ⟨⟨l1, l2, l3, c0, c1, c2, c3, c4, c5, c6⟩, _⟩ := S1.out
  have hpp : p ≤ p := Nat.le_refl _
  go_wp2_with fail
  refine (rget_S p w p q t r ⟨1, d, a, b, s, c, n⟩ a _ ok S1.out hpp).mono ?_
  rintro e w2 ⟨rfl, h2⟩
  have S2 := Lib.hid h2
  clear h2
  clear l1 l2 l3 c0 c1 c2 c3 c4 c5 c6
  obtain ⟨⟨l1, l2, l3, c0, c1, c2, c3, c4, c5, c6⟩, _⟩ := S2.out
  go_wp2_with fail
  refine (rget_S p w p q t r ⟨1, d, a, b, s, c, n⟩ b _ ok S2.out hpp).mono ?_
  rintro e w3 ⟨rfl, h3⟩
  have S3 := Lib.hid h3
  clear h3
  clear l1 l2 l3 c0 c1 c2 c3 c4 c5 c6
  obtain ⟨⟨l1, l2, l3, c0, c1, c2, c3, c4, c5, c6⟩, _⟩ := S3.out
  have S3d := Lib.hid (ST.drew ok S3.out)
  go_wp2_with fail
  clear l1 l2 l3 c0 c1 c2 c3 c4 c5 c6
  have SB := S3d.out
  refine Hd.start 16 (fun w' => (HasV w' (.pointer (some ⟨p, 0, none⟩)) ∧ cellsV w' (.pointer (some ⟨p, 0, none⟩)) = rgA r ∧ ThereV w' (.pointer (some ⟨t, 0, none⟩)) ∧ w'.cell? ⟨q, 0, none⟩ = some (.int .i64 1) ∧ w'.cell? ⟨q, 1, none⟩ = some (.int .i64 d) ∧ w'.cell? ⟨q, 2, none⟩ = some (.int .i64 a) ∧ w'.cell? ⟨q, 3, none⟩ = some (.int .i64 b) ∧ w'.cell? ⟨q, 4, none⟩ = some (.int .i64 s) ∧ w'.cell? ⟨q, 5, none⟩ = some (.int .i64 c) ∧ w'.cell? ⟨q, 6, none⟩ = some (.int .i64 n)) ∧ RV w' p r ∧ (∃ r0, okR r0 ∧ RV w' t r0) ∧ Vi w' q ⟨1, d, a, b, s, c, n⟩ ∧ Below p w w') (by kernel_rfl) ?_
  refine Hd.take (i := 0) (v := ?v1) rfl (by kernel_rfl) (by kernel_rfl) (fun _ _ _ h => h) rfl ?hy1 SB ?rest1
  case hy1 =>
    intro wq hSw
    try dsimp only at hSw
    go_simp
    try with_reducible rfl
  try simp only [Act.put, List.setIfInBounds_toArray, List.set_cons_zero, List.set_cons_succ]
  refine Hd.take (i := 1) (v := ?v2) rfl (by kernel_rfl) (by kernel_rfl) (fun _ _ _ h => h) rfl ?hy2 SB ?rest2
  case hy2 =>
    intro wq hSw
    try dsimp only at hSw
    go_simp
    try with_reducible rfl
  try simp only [Act.put, List.setIfInBounds_toArray, List.set_cons_zero, List.set_cons_succ]
  refine Hd.take (i := 2) (v := ?v3) rfl (by kernel_rfl) (by kernel_rfl) (fun _ _ _ h => h) rfl ?hy3 SB ?rest3
  case hy3 =>
    intro wq hSw
    try dsimp only at hSw
    go_simp
    try with_reducible rfl
  try simp only [Act.put, List.setIfInBounds_toArray, List.set_cons_zero, List.set_cons_succ]
  refine Hd.take (i := 3) (v := ?v4) rfl (by kernel_rfl) (by kernel_rfl) (fun _ _ _ h => h) rfl ?hy4 SB ?rest4
  case hy4 =>
    intro wq hSw
    try dsimp only at hSw
    go_simp
    try with_reducible rfl
  try simp only [Act.put, List.setIfInBounds_toArray, List.set_cons_zero, List.set_cons_succ]
  refine Hd.take (i := 4) (v := ?v5) rfl (by kernel_rfl) (by kernel_rfl) (fun _ _ _ h => h) rfl ?hy5 SB ?rest5
  case hy5 =>
    intro wq hSw
    try dsimp only at hSw
    go_simp
    try with_reducible rfl
  try simp only [Act.put, List.setIfInBounds_toArray, List.set_cons_zero, List.set_cons_succ]
  refine Hd.take (i := 5) (v := ?v6) rfl (by kernel_rfl) (by kernel_rfl) (fun _ _ _ h => h) rfl ?hy6 SB ?rest6
  case hy6 =>
    intro wq hSw
    try dsimp only at hSw
    go_simp
    try with_reducible rfl
  try simp only [Act.put, List.setIfInBounds_toArray, List.set_cons_zero, List.set_cons_succ]
  refine Hd.take (i := 7) (v := ?v7) rfl (by kernel_rfl) (by kernel_rfl) (fun _ _ _ h => h) rfl ?hy7 SB ?rest7
  case hy7 =>
    intro wq hSw
    try dsimp only at hSw
    go_simp
    try with_reducible rfl
  try simp only [Act.put, List.setIfInBounds_toArray, List.set_cons_zero, List.set_cons_succ]
  refine Hd.take (i := 8) (v := ?v8) rfl (by kernel_rfl) (by kernel_rfl) (fun _ _ _ h => h) rfl ?hy8 SB ?rest8
  case hy8 =>
    intro wq hSw
    try dsimp only at hSw
    go_simp
    try with_reducible rfl
  try simp only [Act.put, List.setIfInBounds_toArray, List.set_cons_zero, List.set_cons_succ]
  refine Hd.take (i := 10) (v := ?v9) rfl (by kernel_rfl) (by kernel_rfl) (fun _ _ _ h => h) rfl ?hy9 SB ?rest9
  case hy9 =>
    intro wq hSw
    try dsimp only at hSw
    go_simp
    try with_reducible rfl
  try simp only [Act.put, List.setIfInBounds_toArray, List.set_cons_zero, List.set_cons_succ]
  refine Hd.take (i := 11) (v := ?v10) rfl (by kernel_rfl) (by kernel_rfl) (fun _ _ _ h => h) rfl ?hy10 SB ?rest10
  case hy10 =>
    intro wq hSw
    try dsimp only at hSw
    go_simp
    try with_reducible rfl
  try simp only [Act.put, List.setIfInBounds_toArray, List.set_cons_zero, List.set_cons_succ]
  refine Hd.take (i := 12) (v := ?v11) rfl (by kernel_rfl) (by kernel_rfl) (fun _ _ _ h => h) rfl ?hy11 SB ?rest11
  case hy11 =>
    intro wq hSw
    try dsimp only at hSw
    go_simp
    try with_reducible rfl
  try simp only [Act.put, List.setIfInBounds_toArray, List.set_cons_zero, List.set_cons_succ]
  refine Hd.take (i := 13) (v := ?v12) rfl (by kernel_rfl) (by kernel_rfl) (fun _ _ _ h => h) rfl ?hy12 SB ?rest12
  case hy12 =>
    intro wq hSw
    try dsimp only at hSw
    go_simp
    try with_reducible rfl
  try simp only [Act.put, List.setIfInBounds_toArray, List.set_cons_zero, List.set_cons_succ]
  refine Hd.take (i := 14) (v := ?v13) rfl (by kernel_rfl) (by kernel_rfl) (fun _ _ _ h => h) rfl ?hy13 SB ?rest13
  case hy13 =>
    intro wq hSw
    try dsimp only at hSw
    go_simp
    try with_reducible rfl
  try simp only [Act.put, List.setIfInBounds_toArray, List.set_cons_zero, List.set_cons_succ]
  refine Hd.one (i := 6) rfl (by kernel_rfl) rfl (fun K hK => ?_)
  go_simp
  refine (rget_S p w p q t r ⟨1, d, a, b, s, c, n⟩ d _ ok SB hpp).mono ?_
  rintro e w4 ⟨rfl, SC⟩
  refine hK _ _ (fun _ => SC) ?_
  clear hK K
  try simp only [Act.put, List.setIfInBounds_toArray, List.set_cons_zero, List.set_cons_succ]
  refine Hd.take (i := 9) (v := ?v14) rfl (by kernel_rfl) (by kernel_rfl) (fun _ _ _ h => h) rfl ?hy14 SC ?rest14
  case hy14 =>
    intro wq hSw
    try dsimp only at hSw
    go_simp
    try with_reducible rfl
  try simp only [Act.put, List.setIfInBounds_toArray, List.set_cons_zero, List.set_cons_succ]
  refine Hd.take (i := 15) (v := ?v15) rfl (by kernel_rfl) (by kernel_rfl) (fun _ _ _ h => h) rfl ?hy15 SC ?rest15
  case hy15 =>
    intro wq hSw
    try dsimp only at hSw
    go_simp
    try with_reducible rfl
  try simp only [Act.put, List.setIfInBounds_toArray, List.set_cons_zero, List.set_cons_succ]
  rw [HR.out, HO.out, w64_andNot, w64_or, ← HV.out]
  refine Hd.one (i := 16) rfl (by kernel_rfl) rfl (fun K hK => ?_)
  go_simp
  refine (rput_S p w p q t r ⟨1, d, a, b, s, c, n⟩ d (V) _ ok SC hpp).mono ?_
  rintro e w5 ⟨rfl, SD⟩
  refine hK _ _ (fun h => absurd h (by omega)) ?_
  clear hK K
  try simp only [Act.put, List.setIfInBounds_toArray, List.set_cons_zero, List.set_cons_succ]
  have tv := RV.thereV SD.2.1 ok
  have hgood := good ok1
  refine Hd.one (i := 17) rfl (by kernel_rfl) rfl (fun K hK => ?_)
  go_simp
  refine hK _ _ (fun h => absurd h (by omega)) ?_
  clear hK K
  try simp only [Act.put, List.setIfInBounds_toArray, List.set_cons_zero, List.set_cons_succ]
  refine Hd.done (by kernel_rfl) ?_ _
  have hP := putV_put SD.2.1 ok ok1
  have S5 := Lib.hid (ST.again SD hP ok1 hpp hnt hq)
  clear tv hP
  obtain ⟨⟨l1, l2, l3, c0, c1, c2, c3, c4, c5, c6⟩, _⟩ := S5.out
  go_wp2_with fail
  have HP := Lib.hid (ST.put ok1 ok1 S5.out hnt hqt hpt)
  have hl := load_rv HP.out.2 ok1
  exact bodyPost_ret (v := .tuple #[.agg (rgA (setReg r d V)), .int .i64 1, .bool true]) (results_cell3 Try.results58 rfl hl rfl rfl) rfl ⟨rfl, by rw [HQ.out]; exact HP.out.1.2.2.2.2⟩

set_option maxRecDepth 20000 in
set_option maxHeartbeats 3200000 in
theorem ralu7true (r : Rg) (d a b s c n : Int) (w : World) (ok : okR r) (hi : okIn ⟨7, d, a, b, s, c, n⟩) (hr : right ⟨7, d, a, b, s, c, n⟩ = true) (hs0 : 0 ≤ s) (hs1 : s < 4) (hh : holds r c = true) :
    Calls Try.prog 58 #[.agg (rgA r), .agg #[.int .i64 7, .int .i64 d, .int .i64 a, .int .i64 b, .int .i64 s, .int .i64 c, .int .i64 n]] w fun e w' => e = .returned (.tuple #[.agg (rgA (setReg r d 1#64)), .int .i64 1, .bool true]) ∧ Below w.heap.size w w' := by
  have HB := Lib.hid (fun w => bit_any true w)
  have ok1 := setReg_ok ok d (1#64)
  have S0 := Lib.hid (trio_has w r ⟨7, d, a, b, s, c, n⟩ ok)
  have GR := Lib.hid (fun w => rright_any ⟨7, d, a, b, s, c, n⟩ w hi)
  rw [hr] at GR
  clear hi hr
  go_enter Try.func58, Try.ntmps58
  go_upto_region 1 with (fail)
  simp only [zeros_eq]
  rw [show World.alloc (World.alloc (World.alloc w _) _) _ = trio w r ⟨7, d, a, b, s, c, n⟩ from rfl]
  generalize trio w r ⟨7, d, a, b, s, c, n⟩ = W at *
  have hq : w.heap.size + 1 ≠ w.heap.size := by omega
  have hpt : w.heap.size ≤ w.heap.size + 1 + 1 := by omega
  have hqt : w.heap.size + 1 ≠ w.heap.size + 1 + 1 := by omega
  have hnt : w.heap.size ≠ w.heap.size + 1 + 1 := by omega
  generalize w.heap.size + 1 + 1 = t at *
  generalize w.heap.size + 1 = q at *
  generalize hp : w.heap.size = p at *
  have HQ := Lib.hid hp
  clear hp
  have SB := S0.out
  have hlt := (S0.out.2.1).lt
  obtain ⟨⟨l1, l2, l3, c0, c1, c2, c3, c4, c5, c6⟩, _⟩ := SB
  go_wp2_with fail
  refine (GR.out _).mono ?_
  rintro e w1 ⟨rfl, hb1⟩
  have S1 := Lib.hid (ST.keep ok S0.out hb1 (Nat.le_of_lt hlt))
  clear l1 l2 l3 c0 c1 c2 c3 c4 c5 c6
  obtain ⟨⟨l1, l2, l3, c0, c1, c2, c3, c4, c5, c6⟩, _⟩ := S1.out
  have hpp : p ≤ p := Nat.le_refl _
  go_wp2_with fail
  refine (rget_S p w p q t r ⟨7, d, a, b, s, c, n⟩ a _ ok S1.out hpp).mono ?_
  rintro e w2 ⟨rfl, h2⟩
  have S2 := Lib.hid h2
  clear h2
  clear l1 l2 l3 c0 c1 c2 c3 c4 c5 c6
  obtain ⟨⟨l1, l2, l3, c0, c1, c2, c3, c4, c5, c6⟩, _⟩ := S2.out
  go_wp2_with fail
  refine (rget_S p w p q t r ⟨7, d, a, b, s, c, n⟩ b _ ok S2.out hpp).mono ?_
  rintro e w3 ⟨rfl, h3⟩
  have S3 := Lib.hid h3
  clear h3
  clear l1 l2 l3 c0 c1 c2 c3 c4 c5 c6
  obtain ⟨⟨l1, l2, l3, c0, c1, c2, c3, c4, c5, c6⟩, _⟩ := S3.out
  have S3d := Lib.hid (ST.drew ok S3.out)
  go_wp2_with fail
  clear l1 l2 l3 c0 c1 c2 c3 c4 c5 c6
  have SB := S3d.out
  refine Hd.start 8 (fun w' => (HasV w' (.pointer (some ⟨p, 0, none⟩)) ∧ cellsV w' (.pointer (some ⟨p, 0, none⟩)) = rgA r ∧ ThereV w' (.pointer (some ⟨t, 0, none⟩)) ∧ w'.cell? ⟨q, 0, none⟩ = some (.int .i64 7) ∧ w'.cell? ⟨q, 1, none⟩ = some (.int .i64 d) ∧ w'.cell? ⟨q, 2, none⟩ = some (.int .i64 a) ∧ w'.cell? ⟨q, 3, none⟩ = some (.int .i64 b) ∧ w'.cell? ⟨q, 4, none⟩ = some (.int .i64 s) ∧ w'.cell? ⟨q, 5, none⟩ = some (.int .i64 c) ∧ w'.cell? ⟨q, 6, none⟩ = some (.int .i64 n)) ∧ RV w' p r ∧ (∃ r0, okR r0 ∧ RV w' t r0) ∧ Vi w' q ⟨7, d, a, b, s, c, n⟩ ∧ Below p w w') (by kernel_rfl) ?_
  refine Hd.take (i := 0) (v := ?v16) rfl (by kernel_rfl) (by kernel_rfl) (fun _ _ _ h => h) rfl ?hy16 SB ?rest16
  case hy16 =>
    intro wq hSw
    try dsimp only at hSw
    go_simp
    try with_reducible rfl
  try simp only [Act.put, List.setIfInBounds_toArray, List.set_cons_zero, List.set_cons_succ]
  refine Hd.take (i := 1) (v := ?v17) rfl (by kernel_rfl) (by kernel_rfl) (fun _ _ _ h => h) rfl ?hy17 SB ?rest17
  case hy17 =>
    intro wq hSw
    try dsimp only at hSw
    go_simp
    try with_reducible rfl
  try simp only [Act.put, List.setIfInBounds_toArray, List.set_cons_zero, List.set_cons_succ]
  refine Hd.take (i := 2) (v := ?v18) rfl (by kernel_rfl) (by kernel_rfl) (fun _ _ _ h => h) rfl ?hy18 SB ?rest18
  case hy18 =>
    intro wq hSw
    try dsimp only at hSw
    go_simp
    try with_reducible rfl
  try simp only [Act.put, List.setIfInBounds_toArray, List.set_cons_zero, List.set_cons_succ]
  refine Hd.take (i := 3) (v := ?v19) rfl (by kernel_rfl) (by kernel_rfl) (fun _ _ _ h => h) rfl ?hy19 SB ?rest19
  case hy19 =>
    intro wq hSw
    try dsimp only at hSw
    go_simp
    try with_reducible rfl
  try simp only [Act.put, List.setIfInBounds_toArray, List.set_cons_zero, List.set_cons_succ]
  refine Hd.take (i := 4) (v := ?v20) rfl (by kernel_rfl) (by kernel_rfl) (fun _ _ _ h => h) rfl ?hy20 SB ?rest20
  case hy20 =>
    intro wq hSw
    try dsimp only at hSw
    go_simp
    try with_reducible rfl
  try simp only [Act.put, List.setIfInBounds_toArray, List.set_cons_zero, List.set_cons_succ]
  refine Hd.take (i := 5) (v := ?v21) rfl (by kernel_rfl) (by kernel_rfl) (fun _ _ _ h => h) rfl ?hy21 SB ?rest21
  case hy21 =>
    intro wq hSw
    try dsimp only at hSw
    go_simp
    try with_reducible rfl
  try simp only [Act.put, List.setIfInBounds_toArray, List.set_cons_zero, List.set_cons_succ]
  refine Hd.one (i := 6) rfl (by kernel_rfl) rfl (fun K hK => ?_)
  go_simp
  refine (rholds_S p w p q t r ⟨7, d, a, b, s, c, n⟩ c _ ok SB hpp).mono ?_
  rintro e w4 ⟨rfl, SC⟩
  refine hK _ _ (fun _ => SC) ?_
  clear hK K
  try simp only [Act.put, List.setIfInBounds_toArray, List.set_cons_zero, List.set_cons_succ]
  rw [hh]
  refine Hd.one (i := 7) rfl (by kernel_rfl) rfl (fun K hK => ?_)
  go_simp
  refine (HB.out _).mono ?_
  rintro e w4b ⟨rfl, rfl⟩
  refine hK _ _ (fun _ => SC) ?_
  clear hK K
  try simp only [Act.put, List.setIfInBounds_toArray, List.set_cons_zero, List.set_cons_succ]
  refine Hd.one (i := 8) rfl (by kernel_rfl) rfl (fun K hK => ?_)
  go_simp
  refine (rput_S p w p q t r ⟨7, d, a, b, s, c, n⟩ d (1#64) _ ok SC hpp).mono ?_
  rintro e w5 ⟨rfl, SD⟩
  refine hK _ _ (fun h => absurd h (by omega)) ?_
  clear hK K
  try simp only [Act.put, List.setIfInBounds_toArray, List.set_cons_zero, List.set_cons_succ]
  have tv := RV.thereV SD.2.1 ok
  have hgood := good ok1
  refine Hd.one (i := 9) rfl (by kernel_rfl) rfl (fun K hK => ?_)
  go_simp
  refine hK _ _ (fun h => absurd h (by omega)) ?_
  clear hK K
  try simp only [Act.put, List.setIfInBounds_toArray, List.set_cons_zero, List.set_cons_succ]
  refine Hd.done (by kernel_rfl) ?_ _
  have hP := putV_put SD.2.1 ok ok1
  have S5 := Lib.hid (ST.again SD hP ok1 hpp hnt hq)
  clear tv hP
  obtain ⟨⟨l1, l2, l3, c0, c1, c2, c3, c4, c5, c6⟩, _⟩ := S5.out
  go_wp2_with fail
  have HP := Lib.hid (ST.put ok1 ok1 S5.out hnt hqt hpt)
  have hl := load_rv HP.out.2 ok1
  exact bodyPost_ret (v := .tuple #[.agg (rgA (setReg r d 1#64)), .int .i64 1, .bool true]) (results_cell3 Try.results58 rfl hl rfl rfl) rfl ⟨rfl, by rw [HQ.out]; exact HP.out.1.2.2.2.2⟩

set_option maxRecDepth 20000 in
set_option maxHeartbeats 3200000 in
theorem ralu7false (r : Rg) (d a b s c n : Int) (w : World) (ok : okR r) (hi : okIn ⟨7, d, a, b, s, c, n⟩) (hr : right ⟨7, d, a, b, s, c, n⟩ = true) (hs0 : 0 ≤ s) (hs1 : s < 4) (hh : holds r c = false) :
    Calls Try.prog 58 #[.agg (rgA r), .agg #[.int .i64 7, .int .i64 d, .int .i64 a, .int .i64 b, .int .i64 s, .int .i64 c, .int .i64 n]] w fun e w' => e = .returned (.tuple #[.agg (rgA (setReg r d 0#64)), .int .i64 1, .bool true]) ∧ Below w.heap.size w w' := by
  have HB := Lib.hid (fun w => bit_any false w)
  have ok1 := setReg_ok ok d (0#64)
  have S0 := Lib.hid (trio_has w r ⟨7, d, a, b, s, c, n⟩ ok)
  have GR := Lib.hid (fun w => rright_any ⟨7, d, a, b, s, c, n⟩ w hi)
  rw [hr] at GR
  clear hi hr
  go_enter Try.func58, Try.ntmps58
  go_upto_region 1 with (fail)
  simp only [zeros_eq]
  rw [show World.alloc (World.alloc (World.alloc w _) _) _ = trio w r ⟨7, d, a, b, s, c, n⟩ from rfl]
  generalize trio w r ⟨7, d, a, b, s, c, n⟩ = W at *
  have hq : w.heap.size + 1 ≠ w.heap.size := by omega
  have hpt : w.heap.size ≤ w.heap.size + 1 + 1 := by omega
  have hqt : w.heap.size + 1 ≠ w.heap.size + 1 + 1 := by omega
  have hnt : w.heap.size ≠ w.heap.size + 1 + 1 := by omega
  generalize w.heap.size + 1 + 1 = t at *
  generalize w.heap.size + 1 = q at *
  generalize hp : w.heap.size = p at *
  have HQ := Lib.hid hp
  clear hp
  have SB := S0.out
  have hlt := (S0.out.2.1).lt
  obtain ⟨⟨l1, l2, l3, c0, c1, c2, c3, c4, c5, c6⟩, _⟩ := SB
  go_wp2_with fail
  refine (GR.out _).mono ?_
  rintro e w1 ⟨rfl, hb1⟩
  have S1 := Lib.hid (ST.keep ok S0.out hb1 (Nat.le_of_lt hlt))
  clear l1 l2 l3 c0 c1 c2 c3 c4 c5 c6
  obtain ⟨⟨l1, l2, l3, c0, c1, c2, c3, c4, c5, c6⟩, _⟩ := S1.out
  have hpp : p ≤ p := Nat.le_refl _
  go_wp2_with fail
  refine (rget_S p w p q t r ⟨7, d, a, b, s, c, n⟩ a _ ok S1.out hpp).mono ?_
  rintro e w2 ⟨rfl, h2⟩
  have S2 := Lib.hid h2
  clear h2
  clear l1 l2 l3 c0 c1 c2 c3 c4 c5 c6
  obtain ⟨⟨l1, l2, l3, c0, c1, c2, c3, c4, c5, c6⟩, _⟩ := S2.out
  go_wp2_with fail
  refine (rget_S p w p q t r ⟨7, d, a, b, s, c, n⟩ b _ ok S2.out hpp).mono ?_
  rintro e w3 ⟨rfl, h3⟩
  have S3 := Lib.hid h3
  clear h3
  clear l1 l2 l3 c0 c1 c2 c3 c4 c5 c6
  obtain ⟨⟨l1, l2, l3, c0, c1, c2, c3, c4, c5, c6⟩, _⟩ := S3.out
  have S3d := Lib.hid (ST.drew ok S3.out)
  go_wp2_with fail
  clear l1 l2 l3 c0 c1 c2 c3 c4 c5 c6
  have SB := S3d.out
  refine Hd.start 8 (fun w' => (HasV w' (.pointer (some ⟨p, 0, none⟩)) ∧ cellsV w' (.pointer (some ⟨p, 0, none⟩)) = rgA r ∧ ThereV w' (.pointer (some ⟨t, 0, none⟩)) ∧ w'.cell? ⟨q, 0, none⟩ = some (.int .i64 7) ∧ w'.cell? ⟨q, 1, none⟩ = some (.int .i64 d) ∧ w'.cell? ⟨q, 2, none⟩ = some (.int .i64 a) ∧ w'.cell? ⟨q, 3, none⟩ = some (.int .i64 b) ∧ w'.cell? ⟨q, 4, none⟩ = some (.int .i64 s) ∧ w'.cell? ⟨q, 5, none⟩ = some (.int .i64 c) ∧ w'.cell? ⟨q, 6, none⟩ = some (.int .i64 n)) ∧ RV w' p r ∧ (∃ r0, okR r0 ∧ RV w' t r0) ∧ Vi w' q ⟨7, d, a, b, s, c, n⟩ ∧ Below p w w') (by kernel_rfl) ?_
  refine Hd.take (i := 0) (v := ?v22) rfl (by kernel_rfl) (by kernel_rfl) (fun _ _ _ h => h) rfl ?hy22 SB ?rest22
  case hy22 =>
    intro wq hSw
    try dsimp only at hSw
    go_simp
    try with_reducible rfl
  try simp only [Act.put, List.setIfInBounds_toArray, List.set_cons_zero, List.set_cons_succ]
  refine Hd.take (i := 1) (v := ?v23) rfl (by kernel_rfl) (by kernel_rfl) (fun _ _ _ h => h) rfl ?hy23 SB ?rest23
  case hy23 =>
    intro wq hSw
    try dsimp only at hSw
    go_simp
    try with_reducible rfl
  try simp only [Act.put, List.setIfInBounds_toArray, List.set_cons_zero, List.set_cons_succ]
  refine Hd.take (i := 2) (v := ?v24) rfl (by kernel_rfl) (by kernel_rfl) (fun _ _ _ h => h) rfl ?hy24 SB ?rest24
  case hy24 =>
    intro wq hSw
    try dsimp only at hSw
    go_simp
    try with_reducible rfl
  try simp only [Act.put, List.setIfInBounds_toArray, List.set_cons_zero, List.set_cons_succ]
  refine Hd.take (i := 3) (v := ?v25) rfl (by kernel_rfl) (by kernel_rfl) (fun _ _ _ h => h) rfl ?hy25 SB ?rest25
  case hy25 =>
    intro wq hSw
    try dsimp only at hSw
    go_simp
    try with_reducible rfl
  try simp only [Act.put, List.setIfInBounds_toArray, List.set_cons_zero, List.set_cons_succ]
  refine Hd.take (i := 4) (v := ?v26) rfl (by kernel_rfl) (by kernel_rfl) (fun _ _ _ h => h) rfl ?hy26 SB ?rest26
  case hy26 =>
    intro wq hSw
    try dsimp only at hSw
    go_simp
    try with_reducible rfl
  try simp only [Act.put, List.setIfInBounds_toArray, List.set_cons_zero, List.set_cons_succ]
  refine Hd.take (i := 5) (v := ?v27) rfl (by kernel_rfl) (by kernel_rfl) (fun _ _ _ h => h) rfl ?hy27 SB ?rest27
  case hy27 =>
    intro wq hSw
    try dsimp only at hSw
    go_simp
    try with_reducible rfl
  try simp only [Act.put, List.setIfInBounds_toArray, List.set_cons_zero, List.set_cons_succ]
  refine Hd.one (i := 6) rfl (by kernel_rfl) rfl (fun K hK => ?_)
  go_simp
  refine (rholds_S p w p q t r ⟨7, d, a, b, s, c, n⟩ c _ ok SB hpp).mono ?_
  rintro e w4 ⟨rfl, SC⟩
  refine hK _ _ (fun _ => SC) ?_
  clear hK K
  try simp only [Act.put, List.setIfInBounds_toArray, List.set_cons_zero, List.set_cons_succ]
  rw [hh]
  refine Hd.one (i := 7) rfl (by kernel_rfl) rfl (fun K hK => ?_)
  go_simp
  refine (HB.out _).mono ?_
  rintro e w4b ⟨rfl, rfl⟩
  refine hK _ _ (fun _ => SC) ?_
  clear hK K
  try simp only [Act.put, List.setIfInBounds_toArray, List.set_cons_zero, List.set_cons_succ]
  refine Hd.one (i := 8) rfl (by kernel_rfl) rfl (fun K hK => ?_)
  go_simp
  refine (rput_S p w p q t r ⟨7, d, a, b, s, c, n⟩ d (0#64) _ ok SC hpp).mono ?_
  rintro e w5 ⟨rfl, SD⟩
  refine hK _ _ (fun h => absurd h (by omega)) ?_
  clear hK K
  try simp only [Act.put, List.setIfInBounds_toArray, List.set_cons_zero, List.set_cons_succ]
  have tv := RV.thereV SD.2.1 ok
  have hgood := good ok1
  refine Hd.one (i := 9) rfl (by kernel_rfl) rfl (fun K hK => ?_)
  go_simp
  refine hK _ _ (fun h => absurd h (by omega)) ?_
  clear hK K
  try simp only [Act.put, List.setIfInBounds_toArray, List.set_cons_zero, List.set_cons_succ]
  refine Hd.done (by kernel_rfl) ?_ _
  have hP := putV_put SD.2.1 ok ok1
  have S5 := Lib.hid (ST.again SD hP ok1 hpp hnt hq)
  clear tv hP
  obtain ⟨⟨l1, l2, l3, c0, c1, c2, c3, c4, c5, c6⟩, _⟩ := S5.out
  go_wp2_with fail
  have HP := Lib.hid (ST.put ok1 ok1 S5.out hnt hqt hpt)
  have hl := load_rv HP.out.2 ok1
  exact bodyPost_ret (v := .tuple #[.agg (rgA (setReg r d 0#64)), .int .i64 1, .bool true]) (results_cell3 Try.results58 rfl hl rfl rfl) rfl ⟨rfl, by rw [HQ.out]; exact HP.out.1.2.2.2.2⟩

end Go.Proofs.Ytkohichiojmakaa.AluR1
/-
  WALK: the document's Alu (of any instruction).
-/
namespace Go.Proofs.Ytkohichiojmakaa.AluRA
set_option linter.unusedVariables false
set_option linter.unusedSimpArgs false
open Go.RowKit Cm Mm Ow A64 Fld FldW FldR A64W A64P A64C A64T A64R A64E A64F A64Q Alu AluG AluS AluO AluK AluP AluQ AluE AluA AluR AluR0 AluR1
attribute [local go_sem ↓] Go.wp_at_zero Go.wp_at_succ exec_load_regs exec_store_regs


theorem ralu_any (r : Rg) (i : In) (w : World) (ok : okR r) (hi : okIn i) :
    Calls Try.prog 58 #[.agg (rgA r), .agg #[.int .i64 i.kind, .int .i64 i.d, .int .i64 i.a, .int .i64 i.b, .int .i64 i.s, .int .i64 i.c, .int .i64 i.n]] w fun e w' => e = .returned (.tuple #[.agg (rgA (Alu.step r i).1), .int .i64 (Alu.step r i).2.1, .bool (Alu.step r i).2.2]) ∧ Below w.heap.size w w' := by
  obtain ⟨kd, d, a, b, s, c, n⟩ := i
  cases hr : right ⟨kd, d, a, b, s, c, n⟩
  · have e : Alu.step r ⟨kd, d, a, b, s, c, n⟩ = (r, 0, false) := by simp [Alu.step, inAlu, hr]
    rw [e]
    exact raluA r kd d a b s c n w ok hi hr
  by_cases hin : kd ≤ 11 ∨ kd = 21
  · have h0 : 0 ≤ kd := by
      have := hr
      unfold right at this
      simp only [Bool.and_eq_true, decide_eq_true_eq] at this
      exact this.1.1
    obtain ⟨s0, s1⟩ := right_s hr hin
    have hn : kd ≤ 7 → 0 ≤ n ∧ n < 65536 := fun h => ⟨(right_low hr h).2.2.1, (right_low hr h).2.2.2⟩
    have hk : kd = 0 ∨ kd = 1 ∨ kd = 2 ∨ kd = 3 ∨ kd = 4 ∨ kd = 5 ∨ kd = 6 ∨ kd = 7 ∨ kd = 8 ∨ kd = 9 ∨ kd = 10 ∨ kd = 11 ∨ kd = 21 := by omega
    rcases hk with h | h | h | h | h | h | h | h | h | h | h | h | h
    · subst h
      have e : Alu.step r ⟨0, d, a, b, s, c, n⟩ = (setReg r d (Alu.part ⟨0, d, a, b, s, c, n⟩), 1, true) := by simp [Alu.step, inAlu, hr, jumps, reckon]
      rw [e]
      exact ralu0 r d a b s c n w ok hi hr s0 s1 (hn (by omega)).1 (hn (by omega)).2
    · subst h
      have e : Alu.step r ⟨1, d, a, b, s, c, n⟩ = (setReg r d ((reg r d &&& ~~~ hole ⟨1, d, a, b, s, c, n⟩) ||| Alu.part ⟨1, d, a, b, s, c, n⟩), 1, true) := by simp [Alu.step, inAlu, hr, jumps, reckon]
      rw [e]
      exact ralu1 r d a b s c n w ok hi hr s0 s1 (hn (by omega)).1 (hn (by omega)).2 _ rfl
    · subst h
      have e : Alu.step r ⟨2, d, a, b, s, c, n⟩ = (setReg r d (reg r a + reg r b), 1, true) := by simp [Alu.step, inAlu, hr, jumps, reckon]
      rw [e]
      exact ralu2 r d a b s c n w ok hi hr s0 s1 (hn (by omega)).1 (hn (by omega)).2
    · subst h
      have e : Alu.step r ⟨3, d, a, b, s, c, n⟩ = (setReg r d (reg r a - reg r b), 1, true) := by simp [Alu.step, inAlu, hr, jumps, reckon]
      rw [e]
      exact ralu3 r d a b s c n w ok hi hr s0 s1 (hn (by omega)).1 (hn (by omega)).2
    · subst h
      have e : Alu.step r ⟨4, d, a, b, s, c, n⟩ = (setReg r d (reg r a * reg r b), 1, true) := by simp [Alu.step, inAlu, hr, jumps, reckon]
      rw [e]
      exact ralu4 r d a b s c n w ok hi hr s0 s1 (hn (by omega)).1 (hn (by omega)).2
    · subst h
      have e : Alu.step r ⟨5, d, a, b, s, c, n⟩ = (setReg r d (reg r a &&& reg r b), 1, true) := by simp [Alu.step, inAlu, hr, jumps, reckon]
      rw [e]
      exact ralu5 r d a b s c n w ok hi hr s0 s1 (hn (by omega)).1 (hn (by omega)).2
    · subst h
      have e : Alu.step r ⟨6, d, a, b, s, c, n⟩ = ({ r with l := reg r a, r := reg r b }, 1, true) := by simp [Alu.step, inAlu, hr, jumps, reckon]
      rw [e]
      exact ralu6 r d a b s c n w ok hi hr s0 s1
    · subst h
      cases hh : holds r c
      · have e : Alu.step r ⟨7, d, a, b, s, c, n⟩ = (setReg r d 0#64, 1, true) := by simp [Alu.step, inAlu, hr, jumps, reckon, hh]
        rw [e]
        exact ralu7false r d a b s c n w ok hi hr s0 s1 hh
      · have e : Alu.step r ⟨7, d, a, b, s, c, n⟩ = (setReg r d 1#64, 1, true) := by simp [Alu.step, inAlu, hr, jumps, reckon, hh]
        rw [e]
        exact ralu7true r d a b s c n w ok hi hr s0 s1 hh
    · subst h
      have e : Alu.step r ⟨8, d, a, b, s, c, n⟩ = (r, n, true) := by simp [Alu.step, inAlu, hr, jumps, reckon]
      rw [e]
      exact ralu8 r d a b s c n w ok hi hr s0 s1
    · subst h
      cases hh : holds r c
      · have e : Alu.step r ⟨9, d, a, b, s, c, n⟩ = (r, 1, true) := by simp [Alu.step, inAlu, hr, jumps, hh]
        rw [e]
        exact ralu9false r d a b s c n w ok hi hr s0 s1 hh
      · have e : Alu.step r ⟨9, d, a, b, s, c, n⟩ = (r, n, true) := by simp [Alu.step, inAlu, hr, jumps, hh]
        rw [e]
        exact ralu9true r d a b s c n w ok hi hr s0 s1 hh
    · subst h
      have hz := w64_zero (reg r a)
      by_cases hh : reg r a = 0
      · rw [decide_eq_true hh] at hz
        have e : Alu.step r ⟨10, d, a, b, s, c, n⟩ = (r, n, true) := by simp [Alu.step, inAlu, hr, jumps, hh]
        rw [e]
        exact ralu10true r d a b s c n w ok hi hr s0 s1 hz (by unfold bne; rw [hz]; rfl)
      · rw [decide_eq_false hh] at hz
        have e : Alu.step r ⟨10, d, a, b, s, c, n⟩ = (r, 1, true) := by simp [Alu.step, inAlu, hr, jumps, hh]; intro h; exact absurd h hh
        rw [e]
        exact ralu10false r d a b s c n w ok hi hr s0 s1 hz (by unfold bne; rw [hz]; rfl)
    · subst h
      have hz := w64_zero (reg r a)
      by_cases hh : reg r a = 0
      · rw [decide_eq_true hh] at hz
        have e : Alu.step r ⟨11, d, a, b, s, c, n⟩ = (r, 1, true) := by simp [Alu.step, inAlu, hr, jumps, hh]
        rw [e]
        exact ralu11true r d a b s c n w ok hi hr s0 s1 hz (by unfold bne; rw [hz]; rfl)
      · rw [decide_eq_false hh] at hz
        have e : Alu.step r ⟨11, d, a, b, s, c, n⟩ = (r, n, true) := by simp [Alu.step, inAlu, hr, jumps, hh]; intro h; exact absurd h hh
        rw [e]
        exact ralu11false r d a b s c n w ok hi hr s0 s1 hz (by unfold bne; rw [hz]; rfl)
    · subst h
      have e : Alu.step r ⟨21, d, a, b, s, c, n⟩ = (r, 1, true) := by simp [Alu.step, inAlu, hr, jumps, reckon]
      rw [e]
      exact ralu21 r d a b s c n w ok hi hr s0 s1
  · have e : Alu.step r ⟨kd, d, a, b, s, c, n⟩ = (r, 0, false) := by
      simp only [Alu.step, inAlu, hr, Bool.true_and]
      rw [if_pos (by simp; omega)]
    rw [e]
    have h21 : kd ≠ 21 := by omega
    exact raluA2 r kd d a b s c n w ok hi hr (by simp; omega) (by simpa using h21) (by simpa using h21)
end Go.Proofs.Ytkohichiojmakaa.AluRA
