/-
  PLAIN AND WALK: the law AluMoves.
-/
import Derived.Test.YtfbfoooligbcfaaAluLaws
namespace Go.Proofs.Ytfbfoooligbcfaa.AluLM
set_option linter.unusedVariables false
set_option linter.unusedSimpArgs false
open Go.RowKit Go.WideShapes Go.ChangeShapes Cm Mm Ow A64 Fld FldW FldR A64W A64P A64C A64T A64R A64E A64F A64Q A64D A64L Alu AluG AluS AluO AluK AluP AluQ AluE AluA AluR AluR0 AluR1 AluRA AluV AluL
attribute [local go_sem ↓] Go.wp_at_zero Go.wp_at_succ exec_load_regs exec_store_regs
attribute [local go_sem] zeros_eq
attribute [-go_sem] run_equalIn_agg


def mask (n : Nat) : BitVec 64 := BitVec.ofNat 64 (2 ^ n - 1)
theorem mask_get (n i : Nat) : (mask n).getLsbD i = (decide (i < 64) && decide (i < n)) := by
  unfold mask
  rw [BitVec.getLsbD_ofNat, Nat.testBit_two_pow_sub_one]
theorem piece (v : BitVec 64) (k : Nat) : ((v &&& mask k) &&& ~~~ (mask 16 <<< k)) ||| (((v >>> k) &&& mask 16) <<< k) = v &&& mask (k + 16) := by
  apply BitVec.eq_of_getLsbD_eq
  intro i hi
  simp only [BitVec.getLsbD_or, BitVec.getLsbD_and, BitVec.getLsbD_not, BitVec.getLsbD_shiftLeft, BitVec.getLsbD_ushiftRight, mask_get]
  by_cases h1 : i < k
  · simp [hi, h1, show i < k + 16 by omega]
  · by_cases h2 : i < k + 16
    · have e : k + (i - k) = i := by omega
      simp [hi, h1, h2, e, show i - k < 64 by omega, show i - k < 16 by omega]
    · simp [hi, h1, h2, show ¬ i - k < 16 by omega]
theorem mask_all (v : BitVec 64) : v &&& mask 64 = v := by
  apply BitVec.eq_of_getLsbD_eq
  intro i hi
  simp [mask_get, hi]
theorem mask_zero (v : BitVec 64) : v &&& mask 0 = 0#64 := by
  apply BitVec.eq_of_getLsbD_eq
  intro i hi
  simp [mask_get]
theorem mask16 : mask 16 = 65535#64 := by decide

/-- what the k-th move moves, and what the register has behind k moves -/
def chunk (v : BitVec 64) (k : Nat) : BitVec 64 := (v >>> (16 * k)) &&& mask 16
def ins (v : BitVec 64) (d : Int) (k : Nat) : In := ⟨if k = 0 then 0 else 1, d, 0, 0, k, 0, (chunk v k).toNat⟩
def regs (v : BitVec 64) (d : Int) (k : Nat) : Rg := setReg zeroR d (v &&& mask (16 * k))
theorem chunk_lt (v : BitVec 64) (k : Nat) : (chunk v k).toNat < 65536 := by
  unfold chunk
  rw [mask16, BitVec.toNat_and]
  exact Nat.lt_of_le_of_lt Nat.and_le_right (by decide)
theorem regs_zero (v : BitVec 64) (d : Int) : regs v d 0 = zeroR := by
  unfold regs setReg
  rw [mask_zero]
  split
  · unfold zeroR
    congr 1
    apply List.ext_getElem?
    intro i
    rw [List.getElem?_set]
    split
    · rename_i h
      subst h
      split
      · rename_i h2
        rw [List.getElem?_replicate, if_pos (by simpa using h2)]
        rfl
      · rename_i h2
        rw [List.getElem?_replicate, if_neg (by simpa using h2)]
    · rfl
  · rfl
theorem regs_ok (v : BitVec 64) (d : Int) (k : Nat) : okR (regs v d k) := setReg_ok zero_ok _ _
theorem set_set (r : Rg) (d : Int) (a b : BitVec 64) : setReg (setReg r d a) d b = setReg r d b := by
  unfold setReg
  split <;> simp_all
theorem reg_set (r : Rg) (n : Int) (v : BitVec 64) (ok : okR r) (h : 0 ≤ n ∧ n < 31) : reg (setReg r n v) n = v := by
  unfold setReg reg okR at *
  rw [if_pos h, if_pos h]
  have : n.toNat < r.x.length := by omega
  simp [List.getD, List.getElem?_set, this]
theorem set_out (r : Rg) (v : BitVec 64) : setReg r 31 v = r := by unfold setReg; rw [if_neg (by omega)]
theorem ins_ok (v : BitVec 64) (d : Int) (k : Nat) (hd : 0 ≤ d ∧ d ≤ 31) (hk : k < 4) : okIn (ins v d k) := by
  have := chunk_lt v k
  unfold okIn i64b ins
  simp only
  split <;> omega
theorem ins_right (v : BitVec 64) (d : Int) (k : Nat) (hd : 0 ≤ d ∧ d ≤ 31) (hk : k < 4) : right (ins v d k) = true := by
  have hc := chunk_lt v k
  unfold ins
  generalize (chunk v k).toNat = c at *
  by_cases h0 : k = 0
  · subst h0
    simp [right, rightF, fitN, fitC, form, table, fits]
    omega
  · rw [if_neg h0]
    simp [right, rightF, fitN, fitC, form, table, fits]
    omega
theorem part_ins (v : BitVec 64) (d : Int) (k : Nat) : Alu.part (ins v d k) = chunk v k <<< (16 * k) := by
  unfold Alu.part ins
  simp
theorem hole_ins (v : BitVec 64) (d : Int) (k : Nat) : hole (ins v d k) = mask 16 <<< (16 * k) := by
  unfold hole ins
  rw [mask16]
  simp
theorem step_ins (v : BitVec 64) (d : Int) (k : Nat) (hd : 0 ≤ d ∧ d ≤ 31) (hk : k < 4) : Alu.step (regs v d k) (ins v d k) = (regs v d (k + 1), 1, true) := by
  have hr := ins_right v d k hd hk
  have hkind : (ins v d k).kind ≤ 1 ∧ 0 ≤ (ins v d k).kind := by unfold ins; simp only; split <;> omega
  have hin : inAlu (ins v d k) = true := by unfold inAlu; rw [hr]; simp; omega
  have hj : jumps (regs v d k) (ins v d k) = false := by unfold jumps; rw [if_neg (by omega), if_neg (by omega), if_neg (by omega)]; simp; omega
  have e : Alu.step (regs v d k) (ins v d k) = (setReg (regs v d k) d (reckon (regs v d k) (ins v d k)), 1, true) := by
    unfold Alu.step
    rw [if_neg (by simp [hin]), if_neg (by omega), if_neg (by simp [hj]), if_neg (by omega), if_neg (by omega)]
    rfl
  rw [e]
  congr 1
  by_cases h31 : d = 31
  · subst h31
    unfold regs
    rw [set_out, set_out, set_out]
  · have hd' : 0 ≤ d ∧ d < 31 := by omega
    unfold regs
    rw [set_set]
    congr 1
    unfold reckon
    by_cases h0 : k = 0
    · subst h0
      rw [if_pos (by unfold ins; simp), part_ins]
      unfold chunk
      simp
    · rw [if_neg (by unfold ins; simp [h0]), if_pos (by unfold ins; simp [h0]), part_ins, hole_ins]
      have hdd : (ins v d k).d = d := rfl
      rw [hdd, reg_set zeroR d _ zero_ok hd']
      have := piece v (16 * k)
      rw [show 16 * (k + 1) = 16 * k + 16 by omega, ← this]
      rfl
theorem last_reg (v : BitVec 64) (d : Int) (hd : 0 ≤ d ∧ d < 31) : reg (regs v d 4) d = v := by
  unfold regs
  rw [reg_set zeroR d _ zero_ok hd]
  exact mask_all v
theorem last_out (v : BitVec 64) : regs v 31 4 = zeroR := set_out _ _

set_option maxRecDepth 20000 in
set_option maxHeartbeats 6400000 in
theorem moves (v : BitVec 64) (d : Int) (w : World) (hd0 : 0 ≤ d) (hd1 : d ≤ 31) :
    Calls Try.prog 9 #[.int .i64 d, .int .u64 (v.toNat : Int)] w fun e w' => e = .returned (.bool true) ∧ Below w.heap.size w w' := by
  have t1 : decide (d < 0) = false := by simp; omega
  have t2 : decide (31 < d) = false := by simp; omega
  go_enter Try.func9, Try.ntmps9
  go_wp2_with fail
  refine (AluL.alive_any _).mono ?_
  rintro e w1 ⟨rfl, hb1⟩
  have B1 := Lib.hid hb1
  clear hb1
  go_wp2_with (with_reducible refine wpList_store_rv rfl _ _ rfl _ zeroR zeroR rfl rfl zero_ok zero_ok (RV.new _ _) ?_; intro w2 hp2; have R2 := Lib.hid hp2.has; have B2 := Lib.hid (hp2.below w.heap.size w B1.out.size (B1.out.alloc B1.out.size _)); have Z2 := Lib.hid B1.out.size; clear hp2)
  generalize w1.heap.size = b at *
  go_loopw [7] (fun i wr => ∃ k : Nat, k ≤ 4 ∧ i = .int .i64 k ∧ RV wr b (regs v d k) ∧ Below w.heap.size w wr) (fun i _ => 4 - (intOf i).toNat)
  case atStart => exact ⟨0, by omega, rfl, by rw [regs_zero]; exact R2.out, B2.out⟩
  case round =>
    obtain ⟨k, hk, rfl, hR, hB⟩ := hrel
    have HR := Lib.hid hR
    have HB := Lib.hid hB
    clear hR hB
    by_cases hlt : k < 4
    · have hx : ∃ x : Int, (((k : Int) == 0) = true ∧ x = 0 ∨ ((k : Int) == 0) = false ∧ x = 1) ∧ ins v d k = ⟨x, d, 0, 0, k, 0, ((chunk v k).toNat : Int)⟩ := by
        by_cases h : k = 0
        · exact ⟨0, .inl ⟨by simp [h], rfl⟩, by simp [ins, h]⟩
        · exact ⟨1, .inr ⟨by simp [h], rfl⟩, by simp [ins, h]⟩
      obtain ⟨x, hx, hins⟩ := hx
      have C0 := fun w => step_at (regs v d k) (ins v d k) _ w (regs_ok v d k) (ins_ok v d k ⟨hd0, hd1⟩ hlt) (step_ins v d k ⟨hd0, hd1⟩ hlt)
      rw [hins] at C0
      have hbits : bits BinOp.and IntKind.u64 ((v.toNat : Int) / 2 ^ (16 * k)) 65535 = ((chunk v k).toNat : Int) := by
        rw [w64_shr]
        have := w64_and (v >>> (16 * k)) (mask 16)
        rw [mask16] at this
        exact this
      have hc := chunk_lt v k
      generalize (chunk v k).toNat = c at *
      have hw : wrap64 (c : Int) = (c : Int) := by unfold wrap64; omega
      have C1 := Lib.hid C0
      have okk := regs_ok v d k
      have okk1 := regs_ok v d (k + 1)
      clear C0 hins
      generalize hg : regs v d k = g at *
      generalize hg1 : regs v d (k + 1) = g1 at *
      have HG1 := Lib.hid hg1
      clear hg hg1
      have Ra := Lib.hid (HR.out.keep (below_al wr (.cells #[.int .i64 x, .int .i64 d, .int .i64 0, .int .i64 0, .int .i64 k, .int .i64 0, .int .i64 c] 23)))
      have Ba := Lib.hid (HB.out.alloc HB.out.size (.cells #[.int .i64 x, .int .i64 d, .int .i64 0, .int .i64 0, .int .i64 k, .int .i64 0, .int .i64 c] 23))
      obtain ⟨m1, m2⟩ := RV.hasV Ra.out okk
      rcases hx with ⟨h0, rfl⟩ | ⟨h0, rfl⟩
      all_goals
        go_wp2_with fail
        refine (C1.out _).mono ?_
        rintro e w3 ⟨rfl, hb3⟩
        have R3 := Lib.hid (Ra.out.keep hb3)
        have B3 := Lib.hid (Ba.out.trans (hb3.mono Ba.out.size))
        clear hb3 m1 m2
        go_wp2_with (first
          | (with_reducible refine wpList_store_rv rfl _ _ rfl _ zeroR g1 rfl rfl zero_ok okk1 (RV.new _ _) ?_; intro w4 hp4; have R4 := Lib.hid (hp4.keep (R3.out.keep (below_al _ _)) (Nat.ne_of_lt R3.out.lt)); have X4 := Lib.hid hp4.has; have B4 := Lib.hid (hp4.below w.heap.size w B3.out.size (B3.out.alloc B3.out.size _)); clear hp4; obtain ⟨n1, n2⟩ := RV.hasV X4.out okk1)
          | (with_reducible refine wpList_store_rv rfl _ _ rfl _ g g1 rfl rfl okk okk1 R4.out ?_; intro w5 hp5; have R5 := Lib.hid hp5.has; have B5 := Lib.hid (hp5.below w.heap.size w Z2.out B4.out); clear hp5 n1 n2))
        go_roundw
        case rel => exact ⟨k + 1, by omega, by go_num, by rw [HG1.out]; exact R5.out, B5.out⟩
        case measure => simp [intOf]; omega
    · obtain rfl : k = 4 := by omega
      by_cases h31 : d = 31
      · subst h31
        have hR := HR.out
        rw [last_out] at hR
        obtain ⟨m1, m2⟩ := RV.hasV hR zero_ok
        have E1 := fun w => eq_regs zeroR zero_ok w
        clear hR
        go_wp2_with fail
        go_ret
        exact ⟨rfl, HB.out⟩
      · obtain ⟨m1, m2⟩ := RV.hasV HR.out (regs_ok v d 4)
        have hg := fun w => get_any (regs v d 4) d w (regs_ok v d 4)
        rw [last_reg v d (by omega)] at hg
        have HGt := Lib.hid hg
        have t3 : (d == 31) = false := by simpa using h31
        clear hg h31
        generalize regs v d 4 = g at *
        go_wp2_with fail
        refine (HGt.out _).mono ?_
        rintro e w3 ⟨rfl, hb3⟩
        go_wp2_with fail
        go_ret
        exact ⟨retb (by simp), HB.out.trans (hb3.mono HB.out.size)⟩
theorem walk (d u : Int) (w : World) (hd : (Lit.int .i64 d).wf = true) (hu : (Lit.int .u64 u).wf = true) :
    Calls Try.prog 9 #[.int .i64 d, .int .u64 u] w fun e w' => e = .returned (.bool true) ∧ Below w.heap.size w w' := by
  obtain ⟨v, rfl⟩ := w64_word hu
  clear hu hd
  by_cases hin : 0 ≤ d ∧ d ≤ 31
  · exact moves v d w hin.1 hin.2
  · obtain h | ⟨h, h2⟩ : decide (d < 0) = true ∨ (decide (d < 0) = false ∧ decide (31 < d) = true) := by simp; omega
    all_goals
      clear hin
      go_enter Try.func9, Try.ntmps9
      go_wp2_with fail
      refine (AluL.alive_any _).mono ?_
      rintro e w1 ⟨rfl, hb1⟩
      go_wp2_with fail
      go_ret
      exact ⟨rfl, hb1⟩
end Go.Proofs.Ytfbfoooligbcfaa.AluLM
