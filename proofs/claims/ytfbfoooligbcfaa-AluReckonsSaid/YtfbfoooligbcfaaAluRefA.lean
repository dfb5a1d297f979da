/-
  WALK: the document's Alu (what is none of its, and the start).
-/
import Derived.Test.YtfbfoooligbcfaaAluAll
import Derived.Test.YtfbfoooligbcfaaA64RefTop
import Derived.Test.YtfbfoooligbcfaaHeld
namespace Go.Proofs.Ytfbfoooligbcfaa.AluR
set_option linter.unusedVariables false
set_option linter.unusedSimpArgs false
open Go.RowKit Cm Mm Ow A64 Fld FldW FldR A64W A64P A64C A64T A64R A64E A64F A64Q Alu AluG AluS AluO AluK AluP AluQ AluE AluA
attribute [local go_sem ↓] Go.wp_at_zero Go.wp_at_succ exec_load_regs exec_store_regs

theorem right_s {i : In} (h : right i = true) (hk : i.kind ≤ 11 ∨ i.kind = 21) : 0 ≤ i.s ∧ i.s < 4 := by
  obtain ⟨k, hk24, hkk, hf⟩ := right_kind h
  simp only [rightF, Bool.and_eq_true] at hf
  obtain ⟨⟨⟨⟨⟨_, _⟩, _⟩, hs⟩, hn⟩, _⟩ := hf
  have hs := fits_bd hs
  have e : k = 0 ∨ k = 1 ∨ k = 2 ∨ k = 3 ∨ k = 4 ∨ k = 5 ∨ k = 6 ∨ k = 7 ∨ k = 8 ∨ k = 9 ∨ k = 10 ∨ k = 11 ∨ k = 21 := by omega
  rcases e with rfl | rfl | rfl | rfl | rfl | rfl | rfl | rfl | rfl | rfl | rfl | rfl | rfl
  all_goals
    simp [form, table] at hs
    omega
theorem rget_S (B : Nat) (w0 : World) (p q s : Nat) (r : Rg) (i : In) (k : Int) (w : World) (ok : okR r) (h : ST B w0 p q s r i w) (hB : B ≤ p) :
    Calls Try.prog 26 #[.agg (rgA r), .int .i64 k] w fun e w' => e = .returned (.int .u64 ((reg r k).toNat : Int)) ∧ ST B w0 p q s r i w' :=
  (rget_any r k w ok).mono fun e w' ⟨h1, h2⟩ => ⟨h1, h.keep ok h2 (Nat.le_trans hB (Nat.le_of_lt h.2.1.lt))⟩
theorem rput_S (B : Nat) (w0 : World) (p q s : Nat) (r : Rg) (i : In) (k : Int) (v : BitVec 64) (w : World) (ok : okR r) (h : ST B w0 p q s r i w) (hB : B ≤ p) :
    Calls Try.prog 28 #[.agg (rgA r), .int .i64 k, .int .u64 (v.toNat : Int)] w fun e w' => e = .returned (.agg (rgA (setReg r k v))) ∧ ST B w0 p q s r i w' :=
  (rput_any r k v w ok).mono fun e w' ⟨h1, h2⟩ => ⟨h1, h.keep ok h2 (Nat.le_trans hB (Nat.le_of_lt h.2.1.lt))⟩
theorem rholds_S (B : Nat) (w0 : World) (p q s : Nat) (r : Rg) (i : In) (k : Int) (w : World) (ok : okR r) (h : ST B w0 p q s r i w) (hB : B ≤ p) :
    Calls Try.prog 30 #[.agg (rgA r), .int .i64 k] w fun e w' => e = .returned (.bool (holds r k)) ∧ ST B w0 p q s r i w' :=
  (rholds_any r k w ok).mono fun e w' ⟨h1, h2⟩ => ⟨h1, h.keep ok h2 (Nat.le_trans hB (Nat.le_of_lt h.2.1.lt))⟩
/-- the registers are stored anew -/
theorem ST.again {B : Nat} {w0 w w' : World} {p q s : Nat} {r r' : Rg} {i : In} (h : ST B w0 p q s r i w) (hp : Put w p r' w') (ok' : okR r') (hB : B ≤ p) (h1 : p ≠ s) (h2 : q ≠ p) : ST B w0 p q s r' i w' := by
  obtain ⟨_, hr, ⟨r0, ok0, hs⟩, hv, hz⟩ := h
  exact ST.init ok' hp.has ok0 (hp.keep hs (fun e => h1 e.symm)) (Vi.other hv (hp.other _ h2)) (hp.below _ _ hB hz)

set_option maxRecDepth 20000 in
set_option maxHeartbeats 3200000 in
theorem raluA (r : Rg) (kd d a b s c n : Int) (w : World) (ok : okR r) (hi : okIn ⟨kd, d, a, b, s, c, n⟩) (hr : right ⟨kd, d, a, b, s, c, n⟩ = false) :
    Calls Try.prog 24 #[.agg (rgA r), .agg #[.int .i64 kd, .int .i64 d, .int .i64 a, .int .i64 b, .int .i64 s, .int .i64 c, .int .i64 n]] w fun e w' => e = .returned (.tuple #[.agg (rgA r), .int .i64 0, .bool false]) ∧ Below w.heap.size w w' := by
  have S0 := Lib.hid (trio_has w r ⟨kd, d, a, b, s, c, n⟩ ok)
  have GR := Lib.hid (fun w => rright_any ⟨kd, d, a, b, s, c, n⟩ w hi)
  rw [hr] at GR
  clear hi hr
  go_enter Try.func24, Try.ntmps24
  go_upto_region 1 with (fail)
  simp only [zeros_eq]
  rw [show World.alloc (World.alloc (World.alloc w _) _) _ = trio w r ⟨kd, d, a, b, s, c, n⟩ from rfl]
  generalize trio w r ⟨kd, d, a, b, s, c, n⟩ = W at *
  have hq : w.heap.size + 1 ≠ w.heap.size := by omega
  have hpt : w.heap.size ≤ w.heap.size + 1 + 1 := by omega
  have hqt : w.heap.size + 1 ≠ w.heap.size + 1 + 1 := by omega
  have hnt : w.heap.size ≠ w.heap.size + 1 + 1 := by omega
  generalize w.heap.size + 1 + 1 = t at *
  generalize w.heap.size + 1 = q at *
  generalize hp : w.heap.size = p at *
  have HQ := Lib.hid hp
  clear hp
  have SB := S0.out
  have hlt := (S0.out.2.1).lt
  obtain ⟨⟨l1, l2, l3, c0, c1, c2, c3, c4, c5, c6⟩, _⟩ := SB
  go_wp2_with fail
  refine (GR.out _).mono ?_
  rintro e w1 ⟨rfl, hb1⟩
  have S1 := Lib.hid (ST.keep ok S0.out hb1 (Nat.le_of_lt hlt))
  clear l1 l2 l3 c0 c1 c2 c3 c4 c5 c6
  obtain ⟨⟨l1, l2, l3, c0, c1, c2, c3, c4, c5, c6⟩, _⟩ := S1.out
  have hgood := good ok
  go_wp2_with fail
  have HP := Lib.hid (ST.put ok ok S1.out hnt hqt hpt)
  have hl := load_rv HP.out.2 ok
  exact bodyPost_ret (v := .tuple #[.agg (rgA r), .int .i64 0, .bool false]) (results_cell3 Try.results24 rfl hl rfl rfl) rfl ⟨rfl, by rw [HQ.out]; exact HP.out.1.2.2.2.2⟩

set_option maxRecDepth 20000 in
set_option maxHeartbeats 3200000 in
theorem raluA2 (r : Rg) (kd d a b s c n : Int) (w : World) (ok : okR r) (hi : okIn ⟨kd, d, a, b, s, c, n⟩) (hr : right ⟨kd, d, a, b, s, c, n⟩ = true) (h1 : decide (11 < kd) = true) (h2 : (kd == 21) = false) (h2b : (kd != 21) = true) :
    Calls Try.prog 24 #[.agg (rgA r), .agg #[.int .i64 kd, .int .i64 d, .int .i64 a, .int .i64 b, .int .i64 s, .int .i64 c, .int .i64 n]] w fun e w' => e = .returned (.tuple #[.agg (rgA r), .int .i64 0, .bool false]) ∧ Below w.heap.size w w' := by
  have S0 := Lib.hid (trio_has w r ⟨kd, d, a, b, s, c, n⟩ ok)
  have GR := Lib.hid (fun w => rright_any ⟨kd, d, a, b, s, c, n⟩ w hi)
  rw [hr] at GR
  clear hi hr
  go_enter Try.func24, Try.ntmps24
  go_upto_region 1 with (fail)
  simp only [zeros_eq]
  rw [show World.alloc (World.alloc (World.alloc w _) _) _ = trio w r ⟨kd, d, a, b, s, c, n⟩ from rfl]
  generalize trio w r ⟨kd, d, a, b, s, c, n⟩ = W at *
  have hq : w.heap.size + 1 ≠ w.heap.size := by omega
  have hpt : w.heap.size ≤ w.heap.size + 1 + 1 := by omega
  have hqt : w.heap.size + 1 ≠ w.heap.size + 1 + 1 := by omega
  have hnt : w.heap.size ≠ w.heap.size + 1 + 1 := by omega
  generalize w.heap.size + 1 + 1 = t at *
  generalize w.heap.size + 1 = q at *
  generalize hp : w.heap.size = p at *
  have HQ := Lib.hid hp
  clear hp
  have SB := S0.out
  have hlt := (S0.out.2.1).lt
  obtain ⟨⟨l1, l2, l3, c0, c1, c2, c3, c4, c5, c6⟩, _⟩ := SB
  go_wp2_with fail
  refine (GR.out _).mono ?_
  rintro e w1 ⟨rfl, hb1⟩
  have S1 := Lib.hid (ST.keep ok S0.out hb1 (Nat.le_of_lt hlt))
  clear l1 l2 l3 c0 c1 c2 c3 c4 c5 c6
  obtain ⟨⟨l1, l2, l3, c0, c1, c2, c3, c4, c5, c6⟩, _⟩ := S1.out
  have hgood := good ok
  go_wp2_with fail
  have HP := Lib.hid (ST.put ok ok S1.out hnt hqt hpt)
  have hl := load_rv HP.out.2 ok
  exact bodyPost_ret (v := .tuple #[.agg (rgA r), .int .i64 0, .bool false]) (results_cell3 Try.results24 rfl hl rfl rfl) rfl ⟨rfl, by rw [HQ.out]; exact HP.out.1.2.2.2.2⟩

end Go.Proofs.Ytfbfoooligbcfaa.AluR
