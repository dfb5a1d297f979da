/-
  PLAIN AND WALK: the law AluReckons.
-/
import Derived.Test.YtfbfoooligbcfaaAluLaws
import Derived.Test.YtfbfoooligbcfaaHeld3
namespace Go.Proofs.Ytfbfoooligbcfaa.AluLR
set_option linter.unusedVariables false
set_option linter.unusedSimpArgs false
open Go.RowKit Go.WideShapes Go.ChangeShapes Cm Mm Ow A64 Fld FldW FldR A64W A64P A64C A64T A64R A64E A64F A64Q A64D A64L Alu AluG AluS AluO AluK AluP AluQ AluE AluA AluR AluR0 AluR1 AluRA AluV AluL
attribute [local go_sem ↓] Go.wp_at_zero Go.wp_at_succ exec_load_regs exec_store_regs
attribute [local go_sem] zeros_eq
attribute [-go_sem] run_equalIn_agg


theorem below_keep {wl w w' : World} (h : Below wl.heap.size wl w) (hb : Below w.heap.size w w') : Below wl.heap.size wl w' := h.trans (hb.mono h.size)
/-- what a statement of the first loop reads -/
abbrev S1 (wl : World) (b bk k : Nat) (R : Rg) (kd : Int) (w' : World) : Prop := (HasV w' (.pointer (some ⟨b, 0, none⟩)) ∧ cellsV w' (.pointer (some ⟨b, 0, none⟩)) = rgA R ∧ w'.cell? ⟨bk, k, none⟩ = some (.int .i64 kd)) ∧ Below wl.heap.size wl w'
theorem cell_keep {w w' : World} {a : Addr} {v : Value} (h : w.cell? a = some v) (hb : Below w.heap.size w w') : w'.cell? a = some v := by
  rw [World.cell?_of_block (hb.block _ (World.block_lt_of_cell? w _ h))]; exact h
theorem has_keep {w w' : World} {b : Nat} {R : Rg} (h1 : HasV w (.pointer (some ⟨b, 0, none⟩))) (h2 : cellsV w (.pointer (some ⟨b, 0, none⟩)) = rgA R) (hb : Below w.heap.size w w') :
    HasV w' (.pointer (some ⟨b, 0, none⟩)) ∧ cellsV w' (.pointer (some ⟨b, 0, none⟩)) = rgA R := by
  obtain ⟨b', r', e, hr, ok⟩ := h1
  injection e with e; injection e with e; injection e with e e'
  subst e
  have hr' : w'.rangeAt b 0 (rgL r') := fun j v hv => cell_keep (hr j v hv) hb
  rw [cells_of hr ok] at h2
  exact ⟨⟨b, r', rfl, hr', ok⟩, by rw [cells_of hr' ok, h2]⟩
theorem S1.keep {wl w w' : World} {b bk k : Nat} {R : Rg} {kd : Int} (h : S1 wl b bk k R kd w) (hb : Below w.heap.size w w') : S1 wl b bk k R kd w' := by
  obtain ⟨⟨h1, h2, h3⟩, hz⟩ := h
  obtain ⟨g1, g2⟩ := has_keep h1 h2 hb
  exact ⟨⟨g1, g2, cell_keep h3 hb⟩, below_keep hz hb⟩
theorem S1.init {wl w : World} {b bk k : Nat} {R : Rg} {kd : Int} (ok : okR R) (h1 : RV wl b R) (h2 : wl.cell? ⟨bk, k, none⟩ = some (.int .i64 kd)) (hb : Below wl.heap.size wl w) : S1 wl b bk k R kd w := by
  obtain ⟨g1, g2⟩ := RV.hasV (h1.keep hb) ok
  exact ⟨⟨g1, g2, cell_keep h2 hb⟩, hb⟩
/-- what the test of the first loop reads -/
abbrev S2 (wl : World) (x bw k : Nat) (g : Rg) (V : BitVec 64) (w' : World) : Prop := (HasV w' (.pointer (some ⟨x, 0, none⟩)) ∧ cellsV w' (.pointer (some ⟨x, 0, none⟩)) = rgA g ∧ w'.cell? ⟨bw, k, none⟩ = some (.int .u64 (V.toNat : Int))) ∧ RV w' x g ∧ Below wl.heap.size wl w'
theorem S2.init {wl w : World} {x bw k : Nat} {g : Rg} {V : BitVec 64} (ok : okR g) (h1 : RV w x g) (h2 : w.cell? ⟨bw, k, none⟩ = some (.int .u64 (V.toNat : Int))) (hb : Below wl.heap.size wl w) : S2 wl x bw k g V w := by
  obtain ⟨g1, g2⟩ := RV.hasV h1 ok
  exact ⟨⟨g1, g2, h2⟩, h1, hb⟩
theorem S2.keep {wl w w' : World} {x bw k : Nat} {g : Rg} {V : BitVec 64} (ok : okR g) (h : S2 wl x bw k g V w) (hb : Below w.heap.size w w') : S2 wl x bw k g V w' := by
  obtain ⟨⟨h1, h2, h3⟩, h4, hz⟩ := h
  exact S2.init ok (h4.keep hb) (cell_keep h3 hb) (below_keep hz hb)
theorem get_S2 (wl : World) (x bw k : Nat) (g : Rg) (V U : BitVec 64) (n : Int) (w1 : World) (ok : okR g) (hU : reg g n = U) (h : S2 wl x bw k g V w1) :
    Calls Try.prog 25 #[.agg (rgA g), .int .i64 n] w1 fun e w' => e = .returned (.int .u64 (U.toNat : Int)) ∧ S2 wl x bw k g V w' := by
  subst hU
  exact (get_any g n w1 ok).mono fun e w' ⟨h1, h2⟩ => ⟨h1, h.keep ok h2⟩
/-- what the test of the second loop reads -/
abbrev S3 (wl2 : World) (b' bc bh k : Nat) (R2 : Rg) (cd : Int) (hd : Bool) (w' : World) : Prop := (HasV w' (.pointer (some ⟨b', 0, none⟩)) ∧ cellsV w' (.pointer (some ⟨b', 0, none⟩)) = rgA R2 ∧ w'.cell? ⟨bc, k, none⟩ = some (.int .i64 cd) ∧ w'.cell? ⟨bh, k, none⟩ = some (.bool hd)) ∧ RV w' b' R2 ∧ Below wl2.heap.size wl2 w'
theorem S3.init {wl2 w : World} {b' bc bh k : Nat} {R2 : Rg} {cd : Int} {hd : Bool} (ok : okR R2) (h1 : RV w b' R2) (h2 : w.cell? ⟨bc, k, none⟩ = some (.int .i64 cd)) (h3 : w.cell? ⟨bh, k, none⟩ = some (.bool hd)) (hb : Below wl2.heap.size wl2 w) : S3 wl2 b' bc bh k R2 cd hd w := by
  obtain ⟨g1, g2⟩ := RV.hasV h1 ok
  exact ⟨⟨g1, g2, h2, h3⟩, h1, hb⟩
theorem S3.keep {wl2 w w' : World} {b' bc bh k : Nat} {R2 : Rg} {cd : Int} {hd : Bool} (ok : okR R2) (h : S3 wl2 b' bc bh k R2 cd hd w) (hb : Below w.heap.size w w') : S3 wl2 b' bc bh k R2 cd hd w' := by
  obtain ⟨⟨h1, h2, h3, h3'⟩, h4, hz⟩ := h
  exact S3.init ok (h4.keep hb) (cell_keep h3 hb) (cell_keep h3' hb) (below_keep hz hb)
theorem holds_S3 (wl2 : World) (b' bc bh k : Nat) (R2 : Rg) (cd : Int) (hd : Bool) (w1 : World) (ok : okR R2) (hh : holds R2 cd = hd) (h : S3 wl2 b' bc bh k R2 cd hd w1) :
    Calls Try.prog 29 #[.agg (rgA R2), .int .i64 cd] w1 fun e w' => e = .returned (.bool hd) ∧ S3 wl2 b' bc bh k R2 cd hd w' := by
  subst hh
  exact (holds_any R2 cd w1 ok).mono fun e w' ⟨h1, h2⟩ => ⟨h1, h.keep ok h2⟩
def op4 (a b : BitVec 64) (k : Nat) : BitVec 64 := if k = 0 then a + b else if k = 1 then a - b else if k = 2 then a * b else a &&& b
def two (a b : BitVec 64) : Rg := setReg (setReg zeroR 1 a) 2 b
theorem two_ok (a b : BitVec 64) : okR (two a b) := setReg_ok (setReg_ok zero_ok _ _) _ _
theorem reg_set (r : Rg) (n : Int) (v : BitVec 64) (ok : okR r) (h : 0 ≤ n ∧ n < 31) : reg (setReg r n v) n = v := by
  unfold setReg reg okR at *
  rw [if_pos h, if_pos h]
  have : n.toNat < r.x.length := by omega
  simp [List.getD, List.getElem?_set, this]
theorem reg_other (r : Rg) (n m : Int) (v : BitVec 64) (h : n ≠ m) (hn : 0 ≤ n) (hm : 0 ≤ m) : reg (setReg r n v) m = reg r m := by
  unfold setReg
  split
  · unfold reg
    simp only
    split
    · have : n.toNat ≠ m.toNat := by omega
      simp [List.getD, List.getElem?_set, this]
    · rfl
  · rfl
theorem two_1 (a b : BitVec 64) : reg (two a b) 1 = a := by
  unfold two
  rw [reg_other _ _ _ _ (by decide) (by decide) (by decide), reg_set _ _ _ zero_ok (by decide)]
theorem two_2 (a b : BitVec 64) : reg (two a b) 2 = b := by
  unfold two
  rw [reg_set _ _ _ (setReg_ok zero_ok _ _) (by decide)]
theorem step4 (a b : BitVec 64) (k : Nat) (hk : k < 4) : Alu.step (two a b) ⟨(k : Int) + 2, 3, 1, 2, 0, 0, 0⟩ = (setReg (two a b) 3 (op4 a b k), 1, true) := by
  have r2 : right ⟨2, 3, 1, 2, 0, 0, 0⟩ = true := by decide +kernel
  have r3 : right ⟨3, 3, 1, 2, 0, 0, 0⟩ = true := by decide +kernel
  have r4 : right ⟨4, 3, 1, 2, 0, 0, 0⟩ = true := by decide +kernel
  have r5 : right ⟨5, 3, 1, 2, 0, 0, 0⟩ = true := by decide +kernel
  have hk : k = 0 ∨ k = 1 ∨ k = 2 ∨ k = 3 := by omega
  rcases hk with rfl | rfl | rfl | rfl
  all_goals simp [Alu.step, inAlu, r2, r3, r4, r5, jumps, reckon, two_1, two_2, op4]

theorem step_cmp (a b : BitVec 64) : Alu.step (two a b) ⟨6, 0, 1, 2, 0, 0, 0⟩ = ({ two a b with l := a, r := b }, 1, true) := by
  have r6 : right ⟨6, 0, 1, 2, 0, 0, 0⟩ = true := by decide +kernel
  simp [Alu.step, inAlu, r6, jumps, two_1, two_2]
theorem step_cond (R : Rg) (cd : Int) (h : cd = 0 ∨ cd = 1 ∨ cd = 11 ∨ cd = 10) : Alu.step R ⟨7, 3, 0, 0, 0, cd, 0⟩ = (setReg R 3 (if holds R cd then 1 else 0), 1, true) ∧ Alu.step R ⟨9, 0, 0, 0, 0, cd, 9⟩ = (R, (if holds R cd then 9 else 1), true) := by
  have a0 : right ⟨7, 3, 0, 0, 0, 0, 0⟩ = true := by decide +kernel
  have a1 : right ⟨7, 3, 0, 0, 0, 1, 0⟩ = true := by decide +kernel
  have a2 : right ⟨7, 3, 0, 0, 0, 11, 0⟩ = true := by decide +kernel
  have a3 : right ⟨7, 3, 0, 0, 0, 10, 0⟩ = true := by decide +kernel
  have b0 : right ⟨9, 0, 0, 0, 0, 0, 9⟩ = true := by decide +kernel
  have b1 : right ⟨9, 0, 0, 0, 0, 1, 9⟩ = true := by decide +kernel
  have b2 : right ⟨9, 0, 0, 0, 0, 11, 9⟩ = true := by decide +kernel
  have b3 : right ⟨9, 0, 0, 0, 0, 10, 9⟩ = true := by decide +kernel
  have hr : right ⟨7, 3, 0, 0, 0, cd, 0⟩ = true ∧ right ⟨9, 0, 0, 0, 0, cd, 9⟩ = true := by
    rcases h with rfl | rfl | rfl | rfl
    · exact ⟨a0, b0⟩
    · exact ⟨a1, b1⟩
    · exact ⟨a2, b2⟩
    · exact ⟨a3, b3⟩
  refine ⟨by simp [Alu.step, inAlu, hr.1, jumps, reckon], ?_⟩
  cases hh : holds R cd
  · simp [Alu.step, inAlu, hr.2, jumps, hh]
  · simp [Alu.step, inAlu, hr.2, jumps, hh]

set_option maxRecDepth 20000 in
set_option maxHeartbeats 6400000 in
theorem reckons (a b : BitVec 64) (w : World) :
    Calls Try.prog 10 #[.int .u64 (a.toNat : Int), .int .u64 (b.toNat : Int)] w fun e w' => e = .returned (.bool true) ∧ Below w.heap.size w w' := by
  have P1 := Lib.hid (fun w => put_any zeroR 1 a w zero_ok)
  have P2 := Lib.hid (fun w => put_any (setReg zeroR 1 a) 2 b w (setReg_ok zero_ok _ _))
  have okR0 : okR (setReg (setReg zeroR 1 a) 2 b) := two_ok a b
  obtain ⟨s1, hs1⟩ : ∃ s, s = a + b := ⟨_, rfl⟩
  obtain ⟨s2, hs2⟩ : ∃ s, s = a - b := ⟨_, rfl⟩
  obtain ⟨s3, hs3⟩ : ∃ s, s = a * b := ⟨_, rfl⟩
  obtain ⟨s4, hs4⟩ : ∃ s, s = a &&& b := ⟨_, rfl⟩
  have q1 : IntKind.u64.wrap ((a.toNat : Int) + (b.toNat : Int)) = (s1.toNat : Int) := by rw [IntKind.wrap_u64, w64_add, hs1]
  have q2 : IntKind.u64.wrap ((a.toNat : Int) - (b.toNat : Int)) = (s2.toNat : Int) := by rw [IntKind.wrap_u64, w64_sub, hs2]
  have q3 : IntKind.u64.wrap ((a.toNat : Int) * (b.toNat : Int)) = (s3.toNat : Int) := by rw [IntKind.wrap_u64, w64_mul, hs3]
  have q4 : bits .and .u64 (a.toNat : Int) (b.toNat : Int) = (s4.toNat : Int) := by rw [w64_and, hs4]
  have HS : Hid (∀ k : Nat, k < 4 → ∃ (kd : Int) (V : BitVec 64), (#[.int .i64 2, .int .i64 3, .int .i64 4, .int .i64 5] : Array Value)[k]? = some (.int .i64 kd) ∧ (#[.int .u64 (s1.toNat : Int), .int .u64 (s2.toNat : Int), .int .u64 (s3.toNat : Int), .int .u64 (s4.toNat : Int)] : Array Value)[k]? = some (.int .u64 (V.toNat : Int)) ∧ (2 ≤ kd ∧ kd ≤ 5) ∧ Alu.step (two a b) ⟨kd, 3, 1, 2, 0, 0, 0⟩ = (setReg (two a b) 3 V, 1, true)) := Lib.hid (fun k hk => by
    have hk : k = 0 ∨ k = 1 ∨ k = 2 ∨ k = 3 := by omega
    rcases hk with rfl | rfl | rfl | rfl
    · exact ⟨2, s1, rfl, rfl, by omega, by rw [hs1]; exact step4 a b 0 (by omega)⟩
    · exact ⟨3, s2, rfl, rfl, by omega, by rw [hs2]; exact step4 a b 1 (by omega)⟩
    · exact ⟨4, s3, rfl, rfl, by omega, by rw [hs3]; exact step4 a b 2 (by omega)⟩
    · exact ⟨5, s4, rfl, rfl, by omega, by rw [hs4]; exact step4 a b 3 (by omega)⟩)
  clear hs1 hs2 hs3 hs4
  go_enter Try.func10, Try.ntmps10
  go_wp2_with fail
  refine (AluL.alive_any _).mono ?_
  rintro e w1 ⟨rfl, hb1⟩
  have B1 := Lib.hid hb1
  clear hb1
  go_wp2_with fail
  refine (P1.out _).mono ?_
  rintro e w2 ⟨rfl, hb2⟩
  have B2 := Lib.hid (B1.out.trans (hb2.mono B1.out.size))
  clear hb2
  go_wp2_with fail
  refine (P2.out _).mono ?_
  rintro e w3 ⟨rfl, hb3⟩
  have B3 := Lib.hid (B2.out.trans (hb3.mono B2.out.size))
  clear hb3
  have hR : setReg (setReg zeroR 1 a) 2 b = two a b := rfl
  rw [hR] at okR0 ⊢
  clear hR
  go_wp2_with (with_reducible refine wpList_store_rv rfl _ _ rfl _ zeroR (two a b) rfl rfl zero_ok okR0 (RV.new _ _) ?_; intro w4 hp4; have R4 := Lib.hid hp4.has; have B4 := Lib.hid (hp4.below w.heap.size w B3.out.size (B3.out.alloc B3.out.size _)); clear hp4)
  have C1 : Hid (∀ j, ((w4.alloc (.cells #[.int .i64 2, .int .i64 3, .int .i64 4, .int .i64 5] 3)).alloc (.cells #[.int .u64 (s1.toNat : Int), .int .u64 (s2.toNat : Int), .int .u64 (s3.toNat : Int), .int .u64 (s4.toNat : Int)] 43)).cell? ⟨w4.heap.size, j, none⟩ = (#[.int .i64 2, .int .i64 3, .int .i64 4, .int .i64 5] : Array Value)[j]?) := Lib.hid (fun j => by
    rw [World.cell?_alloc_lt _ _ _ (by simp)]
    exact World.cell?_alloc_new _ _ _ j)
  have C2 : Hid (∀ j, ((w4.alloc (.cells #[.int .i64 2, .int .i64 3, .int .i64 4, .int .i64 5] 3)).alloc (.cells #[.int .u64 (s1.toNat : Int), .int .u64 (s2.toNat : Int), .int .u64 (s3.toNat : Int), .int .u64 (s4.toNat : Int)] 43)).cell? ⟨w4.heap.size + 1, j, none⟩ = (#[.int .u64 (s1.toNat : Int), .int .u64 (s2.toNat : Int), .int .u64 (s3.toNat : Int), .int .u64 (s4.toNat : Int)] : Array Value)[j]?) := Lib.hid (fun j => by
    have e : (w4.alloc (.cells #[.int .i64 2, .int .i64 3, .int .i64 4, .int .i64 5] 3)).heap.size = w4.heap.size + 1 := by simp
    rw [← e]
    exact World.cell?_alloc_new _ _ _ j)
  have R5 := Lib.hid ((R4.out.keep (below_al w4 (.cells #[.int .i64 2, .int .i64 3, .int .i64 4, .int .i64 5] 3))).keep (below_al _ (.cells #[.int .u64 (s1.toNat : Int), .int .u64 (s2.toNat : Int), .int .u64 (s3.toNat : Int), .int .u64 (s4.toNat : Int)] 43)))
  have B5 := Lib.hid ((B4.out.alloc B4.out.size (.cells #[.int .i64 2, .int .i64 3, .int .i64 4, .int .i64 5] 3)).alloc (Nat.le_trans B4.out.size (by simp)) (.cells #[.int .u64 (s1.toNat : Int), .int .u64 (s2.toNat : Int), .int .u64 (s3.toNat : Int), .int .u64 (s4.toNat : Int)] 43))
  go_wp2_with fail
  generalize (w4.alloc (.cells #[.int .i64 2, .int .i64 3, .int .i64 4, .int .i64 5] 3)).alloc (.cells #[.int .u64 (s1.toNat : Int), .int .u64 (s2.toNat : Int), .int .u64 (s3.toNat : Int), .int .u64 (s4.toNat : Int)] 43) = wl at *
  generalize w4.heap.size + 1 = bw at *
  generalize w4.heap.size = bk at *
  have HX := Lib.hid B3.out.size
  generalize w3.heap.size = b' at *
  have hR := two_1 a b
  have hR2 := two_2 a b
  have R0 := Lib.hid hR
  have R02 := Lib.hid hR2
  clear hR hR2 q1 q2 q3 q4
  generalize hRR : two a b = R at *
  have HRR := Lib.hid hRR
  clear hRR
  go_loopw [9] (fun i wr => ∃ k : Nat, k ≤ 4 ∧ i = .int .i64 k ∧ Below wl.heap.size wl wr) (fun i _ => 4 - (intOf i).toNat)
  case atStart => exact ⟨0, by omega, rfl, Below.refl _ _⟩
  case round =>
    obtain ⟨k, hk, rfl, hB⟩ := hrel
    have HB := Lib.hid hB
    clear hB
    by_cases hlt : k < 4
    · obtain ⟨kd, V, hc1, hc2, hkd, hst⟩ := HS.out k hlt
      have CS := Lib.hid (fun w => step_at R ⟨kd, 3, 1, 2, 0, 0, 0⟩ _ w okR0 (by unfold okIn i64b; simp only; omega) hst)
      have okx : okR (setReg R 3 V) := setReg_ok okR0 _ _
      have MK : Hid (∀ w', Below wl.heap.size wl w' → S1 wl b' bk k R kd w') := Lib.hid (fun w' hb => S1.init (bk := bk) (k := k) (kd := kd) okR0 R5.out ((C1.out k).trans hc1) hb)
      have SA := Lib.hid (S1.init (bk := bk) (k := k) (kd := kd) okR0 R5.out ((C1.out k).trans hc1) HB.out)
      have SB := Lib.hid (S1.init (bk := bk) (k := k) (kd := kd) okR0 R5.out ((C1.out k).trans hc1) (HB.out.trans ((Below.refl wr.heap.size wr).drew.mono HB.out.size)))
      have CW := Lib.hid ((C2.out k).trans hc2)
      have f1 : (0 : Int) ≤ (k : Int) := by omega
      have f2 : (k : Int) < 4 := by omega
      clear hc1 hc2 hkd hst
      go_wp2_with fail
      go_cut [10] (fun s10 wx => ∃ x : Nat, s10 = .pointer (some ⟨x, 0, none⟩) ∧ RV wx x (setReg R 3 V) ∧ Below wl.heap.size wl wx ∧ wl.heap.size ≤ x)
      case first =>
        have SA := SA.out
        have SB := SB.out
        refine Hh.start (fun w' => (HasV w' (.pointer (some ⟨b', 0, none⟩)) ∧ cellsV w' (.pointer (some ⟨b', 0, none⟩)) = rgA R ∧ w'.cell? ⟨bk, k, none⟩ = some (.int .i64 kd)) ∧ Below wl.heap.size wl w') (by kernel_rfl) ?_
        refine Hh.take (i := 0) (v := ?v1) rfl (by decide +kernel) (by decide +kernel) (fun _ _ _ h => h) rfl ?hy1 SB ?rest1
        case hy1 =>
          intro wq hSw
          try dsimp only at hSw
          go_simp
          try with_reducible rfl
        try simp only [Act.put, List.setIfInBounds_toArray, List.set_cons_zero, List.set_cons_succ]
        refine Hh.take (i := 1) (v := ?v2) rfl (by decide +kernel) (by decide +kernel) (fun _ _ _ h => h) rfl ?hy2 SB ?rest2
        case hy2 =>
          intro wq hSw
          try dsimp only at hSw
          go_simp
          try with_reducible rfl
        try simp only [Act.put, List.setIfInBounds_toArray, List.set_cons_zero, List.set_cons_succ]
        refine Hh.take (i := 2) (v := ?v3) rfl (by decide +kernel) (by decide +kernel) (fun _ _ _ h => h) rfl ?hy3 SB ?rest3
        case hy3 =>
          intro wq hSw
          try dsimp only at hSw
          go_simp
          try with_reducible rfl
        try simp only [Act.put, List.setIfInBounds_toArray, List.set_cons_zero, List.set_cons_succ]
        refine Hh.take (i := 3) (v := ?v4) rfl (by decide +kernel) (by decide +kernel) (fun _ _ _ h => h) rfl ?hy4 SB ?rest4
        case hy4 =>
          intro wq hSw
          try dsimp only at hSw
          go_simp
          try with_reducible rfl
        try simp only [Act.put, List.setIfInBounds_toArray, List.set_cons_zero, List.set_cons_succ]
        refine Hh.take (i := 4) (v := ?v5) rfl (by decide +kernel) (by decide +kernel) (fun _ _ _ h => h) rfl ?hy5 SB ?rest5
        case hy5 =>
          intro wq hSw
          try dsimp only at hSw
          go_simp
          try with_reducible rfl
        try simp only [Act.put, List.setIfInBounds_toArray, List.set_cons_zero, List.set_cons_succ]
        refine Hh.take (i := 5) (v := ?v6) rfl (by decide +kernel) (by decide +kernel) (fun _ _ _ h => h) rfl ?hy6 SB ?rest6
        case hy6 =>
          intro wq hSw
          try dsimp only at hSw
          go_simp
          try with_reducible rfl
        try simp only [Act.put, List.setIfInBounds_toArray, List.set_cons_zero, List.set_cons_succ]
        refine Hh.two (i := 6) (j := 11) rfl rfl (by decide +kernel) rfl rfl (fun K hK => ?_) (fun K hK => ?_)
        · go_simp
          refine (CS.out _).mono ?_
          rintro e w3 ⟨rfl, hb3⟩
          have SC := S1.keep SB hb3
          refine hK _ _ SC ?_
          clear hK K hb3
          try simp only [Act.put, List.setIfInBounds_toArray, List.set_cons_zero, List.set_cons_succ]
          refine Hh.take (i := 7) (v := ?v7) rfl (by decide +kernel) (by decide +kernel) (fun _ _ _ h => h) rfl ?hy7 SC ?rest7
          case hy7 =>
            intro wq hSw
            try dsimp only at hSw
            go_simp
            try with_reducible rfl
          try simp only [Act.put, List.setIfInBounds_toArray, List.set_cons_zero, List.set_cons_succ]
          refine Hh.take (i := 8) (v := ?v8) rfl (by decide +kernel) (by decide +kernel) (fun _ _ _ h => h) rfl ?hy8 SC ?rest8
          case hy8 =>
            intro wq hSw
            try dsimp only at hSw
            go_simp
            try with_reducible rfl
          try simp only [Act.put, List.setIfInBounds_toArray, List.set_cons_zero, List.set_cons_succ]
          refine Hh.take (i := 9) (v := ?v9) rfl (by decide +kernel) (by decide +kernel) (fun _ _ _ h => h) rfl ?hy9 SC ?rest9
          case hy9 =>
            intro wq hSw
            try dsimp only at hSw
            go_simp
            try with_reducible rfl
          try simp only [Act.put, List.setIfInBounds_toArray, List.set_cons_zero, List.set_cons_succ]
          refine Hh.take (i := 10) (v := ?v10) rfl (by decide +kernel) (by decide +kernel) (fun _ _ _ h => h) rfl ?hy10 SC ?rest10
          case hy10 =>
            intro wq hSw
            try dsimp only at hSw
            go_simp
            try with_reducible rfl
          try simp only [Act.put, List.setIfInBounds_toArray, List.set_cons_zero, List.set_cons_succ]
          refine Hh.one (i := 11) rfl (by decide +kernel) rfl (fun K hK => ?_)
          go_simp
          refine hK _ _ (S1.keep SC (below_al _ _)) ?_
          clear hK K
          try simp only [Act.put, List.setIfInBounds_toArray, List.set_cons_zero, List.set_cons_succ]
          have rv := RV.new w3 zeroR
          have SD := S1.keep SC (below_al w3 (.cells (rgA zeroR) 46))
          have hge := SC.2.size
          have tv := RV.thereV rv zero_ok
          have hg := good okx
          have hp := putV_put rv zero_ok okx
          have SE := MK.out _ (hp.below _ _ hge SD.2)
          refine Hh.one (i := 12) rfl (by decide +kernel) rfl (fun K hK => ?_)
          go_simp
          refine hK _ _ (SE) ?_
          clear hK K
          try simp only [Act.put, List.setIfInBounds_toArray, List.set_cons_zero, List.set_cons_succ]
          refine Hh.take (i := 13) (v := ?v11) rfl (by decide +kernel) (by decide +kernel) (fun _ _ _ h => h) rfl ?hy11 SE ?rest11
          case hy11 =>
            intro wq hSw
            try dsimp only at hSw
            go_simp
            try with_reducible rfl
          try simp only [Act.put, List.setIfInBounds_toArray, List.set_cons_zero, List.set_cons_succ]
          refine Hh.take (i := 14) (v := ?v12) rfl (by decide +kernel) (by decide +kernel) (fun _ _ _ h => h) rfl ?hy12 SE ?rest12
          case hy12 =>
            intro wq hSw
            try dsimp only at hSw
            go_simp
            try with_reducible rfl
          try simp only [Act.put, List.setIfInBounds_toArray, List.set_cons_zero, List.set_cons_succ]
          refine Hh.done (by decide +kernel) ?_ _
          go_wp2_with fail
          go_meet
          exact ⟨_, rfl, hp.has, SE.2, hge⟩
        · go_simp
          have SC0 := S1.keep SA ((below_al wr (.cells (rgA zeroR) 46)).drew)
          have rv0 : RV (wr.alloc (.cells (rgA zeroR) 46)).drew wr.heap.size zeroR := RV.new wr zeroR
          have hge := SA.2.size
          refine hK _ _ SC0 ?_
          clear hK K
          try simp only [Act.put, List.setIfInBounds_toArray, List.set_cons_zero, List.set_cons_succ]
          refine Hh.one (i := 6) rfl (by decide +kernel) rfl (fun K hK => ?_)
          go_simp
          refine (CS.out _).mono ?_
          rintro e w3 ⟨rfl, hb3⟩
          have SD := S1.keep SC0 hb3
          have rv := rv0.keep hb3
          refine hK _ _ SD ?_
          clear hK K hb3 rv0
          try simp only [Act.put, List.setIfInBounds_toArray, List.set_cons_zero, List.set_cons_succ]
          refine Hh.take (i := 7) (v := ?v13) rfl (by decide +kernel) (by decide +kernel) (fun _ _ _ h => h) rfl ?hy13 SD ?rest13
          case hy13 =>
            intro wq hSw
            try dsimp only at hSw
            go_simp
            try with_reducible rfl
          try simp only [Act.put, List.setIfInBounds_toArray, List.set_cons_zero, List.set_cons_succ]
          refine Hh.take (i := 8) (v := ?v14) rfl (by decide +kernel) (by decide +kernel) (fun _ _ _ h => h) rfl ?hy14 SD ?rest14
          case hy14 =>
            intro wq hSw
            try dsimp only at hSw
            go_simp
            try with_reducible rfl
          try simp only [Act.put, List.setIfInBounds_toArray, List.set_cons_zero, List.set_cons_succ]
          refine Hh.take (i := 9) (v := ?v15) rfl (by decide +kernel) (by decide +kernel) (fun _ _ _ h => h) rfl ?hy15 SD ?rest15
          case hy15 =>
            intro wq hSw
            try dsimp only at hSw
            go_simp
            try with_reducible rfl
          try simp only [Act.put, List.setIfInBounds_toArray, List.set_cons_zero, List.set_cons_succ]
          refine Hh.take (i := 10) (v := ?v16) rfl (by decide +kernel) (by decide +kernel) (fun _ _ _ h => h) rfl ?hy16 SD ?rest16
          case hy16 =>
            intro wq hSw
            try dsimp only at hSw
            go_simp
            try with_reducible rfl
          try simp only [Act.put, List.setIfInBounds_toArray, List.set_cons_zero, List.set_cons_succ]
          have tv := RV.thereV rv zero_ok
          have hg := good okx
          have hp := putV_put rv zero_ok okx
          have SE := MK.out _ (hp.below _ _ hge SD.2)
          refine Hh.one (i := 12) rfl (by decide +kernel) rfl (fun K hK => ?_)
          go_simp
          refine hK _ _ (SE) ?_
          clear hK K
          try simp only [Act.put, List.setIfInBounds_toArray, List.set_cons_zero, List.set_cons_succ]
          refine Hh.take (i := 13) (v := ?v17) rfl (by decide +kernel) (by decide +kernel) (fun _ _ _ h => h) rfl ?hy17 SE ?rest17
          case hy17 =>
            intro wq hSw
            try dsimp only at hSw
            go_simp
            try with_reducible rfl
          try simp only [Act.put, List.setIfInBounds_toArray, List.set_cons_zero, List.set_cons_succ]
          refine Hh.take (i := 14) (v := ?v18) rfl (by decide +kernel) (by decide +kernel) (fun _ _ _ h => h) rfl ?hy18 SE ?rest18
          case hy18 =>
            intro wq hSw
            try dsimp only at hSw
            go_simp
            try with_reducible rfl
          try simp only [Act.put, List.setIfInBounds_toArray, List.set_cons_zero, List.set_cons_succ]
          refine Hh.done (by decide +kernel) ?_ _
          go_wp2_with fail
          go_meet
          exact ⟨_, rfl, hp.has, SE.2, hge⟩

      case rest =>
        obtain ⟨x, rfl, rv, hb, hge⟩ := hcut
        have e3 : reg (setReg R 3 V) 3 = V := reg_set R 3 V okR0 (by decide)
        have e1 : reg (setReg R 3 V) 1 = a := (reg_other R 3 1 V (by decide) (by decide) (by decide)).trans R0.out
        have e2 : reg (setReg R 3 V) 2 = b := (reg_other R 3 2 V (by decide) (by decide) (by decide)).trans R02.out
        generalize setReg R 3 V = g at *
        have E1 := Lib.hid e1
        have E2 := Lib.hid e2
        have E3 := Lib.hid e3
        clear e1 e2 e3 CS
        have SW := Lib.hid (S2.keep okx (S2.init okx rv (cell_keep CW.out hb) hb) ((Below.refl _ _).drew))
        clear rv hb SA SB MK
        go_wp2_with fail
        have SB := SW.out
        go_region_held3 (fun w' => (HasV w' (.pointer (some ⟨x, 0, none⟩)) ∧ cellsV w' (.pointer (some ⟨x, 0, none⟩)) = rgA g ∧ w'.cell? ⟨bw, k, none⟩ = some (.int .u64 (V.toNat : Int))) ∧ RV w' x g ∧ Below wl.heap.size wl w') (with_reducible assumption)
          (first
            | (go_at_call 25; with_reducible refine (get_S2 wl x bw k g V V 3 _ okx E3.out (by with_reducible assumption)).mono ?_; rintro e wx ⟨rfl, SC⟩)
            | (go_at_call 25; with_reducible refine (get_S2 wl x bw k g V a 1 _ okx E1.out (by with_reducible assumption)).mono ?_; rintro e wx ⟨rfl, SC⟩)
            | (go_at_call 25; with_reducible refine (get_S2 wl x bw k g V b 2 _ okx E2.out (by with_reducible assumption)).mono ?_; rintro e wx ⟨rfl, SC⟩))
        all_goals
          go_wp2_with fail
          go_roundw
          case rel => exact ⟨k + 1, by omega, by go_num, SC.2.2⟩
          case measure => simp [intOf]; omega
    · obtain rfl : k = 4 := by omega
      have RR := Lib.hid (R5.out.keep HB.out)
      have BB := Lib.hid (B5.out.trans (HB.out.mono B5.out.size))
      obtain ⟨R2, hR2⟩ : ∃ R2 : Rg, R2 = { R with l := a, r := b } := ⟨_, rfl⟩
      have okR2 : okR R2 := by rw [hR2]; exact okR0
      have CC := Lib.hid (fun w => step_at R ⟨6, 0, 1, 2, 0, 0, 0⟩ (R2, 1, true) w okR0 (by unfold okIn i64b; decide) (by rw [hR2, ← HRR.out]; exact step_cmp a b))
      have hl : R2.l = a := by rw [hR2]
      have hr : R2.r = b := by rw [hR2]
      obtain ⟨c1, hc1⟩ : ∃ c, c = decide (a = b) := ⟨_, rfl⟩
      obtain ⟨c2, hc2⟩ : ∃ c, c = !decide (a = b) := ⟨_, rfl⟩
      obtain ⟨c3, hc3⟩ : ∃ c, c = decide (a.toInt < b.toInt) := ⟨_, rfl⟩
      obtain ⟨c4, hc4⟩ : ∃ c, c = decide (b.toInt ≤ a.toInt) := ⟨_, rfl⟩
      have HS2 : Hid (∀ k : Nat, k < 4 → ∃ (cd : Int) (hd : Bool), (#[.int .i64 0, .int .i64 1, .int .i64 11, .int .i64 10] : Array Value)[k]? = some (.int .i64 cd) ∧ (#[.bool c1, .bool c2, .bool c3, .bool c4] : Array Value)[k]? = some (.bool hd) ∧ (cd = 0 ∨ cd = 1 ∨ cd = 11 ∨ cd = 10) ∧ holds R2 cd = hd) := Lib.hid (fun k hk => by
        have hk : k = 0 ∨ k = 1 ∨ k = 2 ∨ k = 3 := by omega
        rcases hk with rfl | rfl | rfl | rfl
        · exact ⟨0, c1, rfl, rfl, by simp, by simp [holds, hl, hr, hc1]⟩
        · exact ⟨1, c2, rfl, rfl, by simp, by simp [holds, hl, hr, hc2]⟩
        · exact ⟨11, c3, rfl, rfl, by simp, by simp [holds, hl, hr, hc3]⟩
        · exact ⟨10, c4, rfl, rfl, by simp, by simp [holds, hl, hr, hc4]⟩)
      have z1 : ((a.toNat : Int) == (b.toNat : Int)) = c1 := by rw [w64_eq, hc1]
      have z2 : ((a.toNat : Int) != (b.toNat : Int)) = c2 := by unfold bne; rw [w64_eq, hc2]
      have z3 : IntKind.i64.wrap (a.toNat : Int) = a.toInt := w64_sgn a
      have z4 : IntKind.i64.wrap (b.toNat : Int) = b.toInt := w64_sgn b
      have z5 : decide (a.toInt < b.toInt) = c3 := hc3.symm
      have z6 : decide (b.toInt ≤ a.toInt) = c4 := hc4.symm
      clear hc1 hc2 hc3 hc4 hl hr hR2 hlt hk
      obtain ⟨m1, m2⟩ := RV.hasV RR.out okR0
      go_wp2_with fail
      refine (CC.out _).mono ?_
      rintro e w6 ⟨rfl, hb6⟩
      have R6 := Lib.hid (RR.out.keep hb6)
      have B6 := Lib.hid (BB.out.trans (hb6.mono BB.out.size))
      clear hb6 m1 m2
      go_wp2_with (with_reducible refine wpList_store_rv rfl _ _ rfl _ R R2 rfl rfl okR0 okR2 R6.out ?_; intro w7 hp7; have R7 := Lib.hid hp7.has; have B7 := Lib.hid (hp7.below w.heap.size w HX.out B6.out); clear hp7)
      have D1 : Hid (∀ j, ((w7.alloc (.cells #[.int .i64 0, .int .i64 1, .int .i64 11, .int .i64 10] 3)).alloc (.cells #[.bool c1, .bool c2, .bool c3, .bool c4] 4)).cell? ⟨w7.heap.size, j, none⟩ = (#[.int .i64 0, .int .i64 1, .int .i64 11, .int .i64 10] : Array Value)[j]?) := Lib.hid (fun j => by
        rw [World.cell?_alloc_lt _ _ _ (by simp)]
        exact World.cell?_alloc_new _ _ _ j)
      have D2 : Hid (∀ j, ((w7.alloc (.cells #[.int .i64 0, .int .i64 1, .int .i64 11, .int .i64 10] 3)).alloc (.cells #[.bool c1, .bool c2, .bool c3, .bool c4] 4)).cell? ⟨w7.heap.size + 1, j, none⟩ = (#[.bool c1, .bool c2, .bool c3, .bool c4] : Array Value)[j]?) := Lib.hid (fun j => by
        have e : (w7.alloc (.cells #[.int .i64 0, .int .i64 1, .int .i64 11, .int .i64 10] 3)).heap.size = w7.heap.size + 1 := by simp
        rw [← e]
        exact World.cell?_alloc_new _ _ _ j)
      have R8 := Lib.hid ((R7.out.keep (below_al w7 (.cells #[.int .i64 0, .int .i64 1, .int .i64 11, .int .i64 10] 3))).keep (below_al _ (.cells #[.bool c1, .bool c2, .bool c3, .bool c4] 4)))
      have B8 := Lib.hid ((B7.out.alloc B7.out.size (.cells #[.int .i64 0, .int .i64 1, .int .i64 11, .int .i64 10] 3)).alloc (Nat.le_trans B7.out.size (by simp)) (.cells #[.bool c1, .bool c2, .bool c3, .bool c4] 4))
      go_wp2_with fail
      generalize (w7.alloc (.cells #[.int .i64 0, .int .i64 1, .int .i64 11, .int .i64 10] 3)).alloc (.cells #[.bool c1, .bool c2, .bool c3, .bool c4] 4) = wl2 at *
      generalize w7.heap.size + 1 = bh at *
      generalize w7.heap.size = bc at *
      clear z1 z2 z3 z4 z5 z6
      go_loopw [15] (fun i wr => ∃ k : Nat, k ≤ 4 ∧ i = .int .i64 k ∧ Below wl2.heap.size wl2 wr) (fun i _ => 4 - (intOf i).toNat)
      case atStart => exact ⟨0, by omega, rfl, Below.refl _ _⟩
      case round =>
        obtain ⟨k, hk, rfl, hB⟩ := hrel
        have HB := Lib.hid hB
        clear hB
        by_cases hlt : k < 4
        · obtain ⟨cd, hd, hc1, hc2, hcd, hh⟩ := HS2.out k hlt
          have hst := step_cond R2 cd hcd
          rw [hh] at hst
          obtain ⟨bt, hbt⟩ : ∃ bt : BitVec 64, bt = (if hd then 1 else 0) := ⟨_, rfl⟩
          obtain ⟨n2, hn2⟩ : ∃ n2 : Int, n2 = (if hd then 9 else 1) := ⟨_, rfl⟩
          rw [← hbt, ← hn2] at hst
          have HBT := Lib.hid hbt
          have HN2 := Lib.hid hn2
          clear hbt hn2
          have okc : ∀ (x y z : Int), i64b x → i64b y → i64b z → okIn ⟨x, y, 0, 0, 0, cd, z⟩ := fun x y z h1 h2 h3 => by unfold okIn i64b at *; simp only; omega
          have CA := Lib.hid (fun w => step_at R2 ⟨7, 3, 0, 0, 0, cd, 0⟩ _ w okR2 (okc 7 3 0 (by unfold i64b; omega) (by unfold i64b; omega) (by unfold i64b; omega)) hst.1)
          have CB := Lib.hid (fun w => step_at R2 ⟨9, 0, 0, 0, 0, cd, 9⟩ _ w okR2 (okc 9 0 9 (by unfold i64b; omega) (by unfold i64b; omega) (by unfold i64b; omega)) hst.2)
          have CH := Lib.hid hh
          have okx : okR (setReg R2 3 bt) := setReg_ok okR2 _ _
          have e3 : reg (setReg R2 3 bt) 3 = bt := reg_set R2 3 _ okR2 (by decide)
          have E3 := Lib.hid e3
          have K1 := Lib.hid ((D1.out k).trans hc1)
          have K2 := Lib.hid ((D2.out k).trans hc2)
          have f1 : (0 : Int) ≤ (k : Int) := by omega
          have f2 : (k : Int) < 4 := by omega
          clear hc1 hc2 hcd hst okc e3 hh
          generalize setReg R2 3 bt = g at *
          have MK : Hid (∀ w', Below wl2.heap.size wl2 w' → S1 wl2 b' bc k R2 cd w') := Lib.hid (fun w' hb => S1.init okR2 R8.out K1.out hb)
          have SA := Lib.hid (MK.out wr HB.out)
          have SB := Lib.hid (MK.out wr.drew (HB.out.trans ((Below.refl wr.heap.size wr).drew.mono HB.out.size)))
          go_wp2_with fail
          go_cut [16] (fun s16 wx => ∃ x : Nat, s16 = .pointer (some ⟨x, 0, none⟩) ∧ RV wx x g ∧ Below wl2.heap.size wl2 wx ∧ wl2.heap.size ≤ x)
          case first =>
            have SA := SA.out
            have SB := SB.out
            refine Hh.start (fun w' => (HasV w' (.pointer (some ⟨b', 0, none⟩)) ∧ cellsV w' (.pointer (some ⟨b', 0, none⟩)) = rgA R2 ∧ w'.cell? ⟨bc, k, none⟩ = some (.int .i64 cd)) ∧ Below wl2.heap.size wl2 w') (by kernel_rfl) ?_
            refine Hh.take (i := 0) (v := ?v19) rfl (by decide +kernel) (by decide +kernel) (fun _ _ _ h => h) rfl ?hy19 SB ?rest19
            case hy19 =>
              intro wq hSw
              try dsimp only at hSw
              go_simp
              try with_reducible rfl
            try simp only [Act.put, List.setIfInBounds_toArray, List.set_cons_zero, List.set_cons_succ]
            refine Hh.take (i := 1) (v := ?v20) rfl (by decide +kernel) (by decide +kernel) (fun _ _ _ h => h) rfl ?hy20 SB ?rest20
            case hy20 =>
              intro wq hSw
              try dsimp only at hSw
              go_simp
              try with_reducible rfl
            try simp only [Act.put, List.setIfInBounds_toArray, List.set_cons_zero, List.set_cons_succ]
            refine Hh.take (i := 2) (v := ?v21) rfl (by decide +kernel) (by decide +kernel) (fun _ _ _ h => h) rfl ?hy21 SB ?rest21
            case hy21 =>
              intro wq hSw
              try dsimp only at hSw
              go_simp
              try with_reducible rfl
            try simp only [Act.put, List.setIfInBounds_toArray, List.set_cons_zero, List.set_cons_succ]
            refine Hh.take (i := 3) (v := ?v22) rfl (by decide +kernel) (by decide +kernel) (fun _ _ _ h => h) rfl ?hy22 SB ?rest22
            case hy22 =>
              intro wq hSw
              try dsimp only at hSw
              go_simp
              try with_reducible rfl
            try simp only [Act.put, List.setIfInBounds_toArray, List.set_cons_zero, List.set_cons_succ]
            refine Hh.take (i := 4) (v := ?v23) rfl (by decide +kernel) (by decide +kernel) (fun _ _ _ h => h) rfl ?hy23 SB ?rest23
            case hy23 =>
              intro wq hSw
              try dsimp only at hSw
              go_simp
              try with_reducible rfl
            try simp only [Act.put, List.setIfInBounds_toArray, List.set_cons_zero, List.set_cons_succ]
            refine Hh.take (i := 5) (v := ?v24) rfl (by decide +kernel) (by decide +kernel) (fun _ _ _ h => h) rfl ?hy24 SB ?rest24
            case hy24 =>
              intro wq hSw
              try dsimp only at hSw
              go_simp
              try with_reducible rfl
            try simp only [Act.put, List.setIfInBounds_toArray, List.set_cons_zero, List.set_cons_succ]
            refine Hh.two (i := 6) (j := 11) rfl rfl (by decide +kernel) rfl rfl (fun K hK => ?_) (fun K hK => ?_)
            · go_simp
              refine (CA.out _).mono ?_
              rintro e w3 ⟨rfl, hb3⟩
              have SC := S1.keep SB hb3
              refine hK _ _ SC ?_
              clear hK K hb3
              try simp only [Act.put, List.setIfInBounds_toArray, List.set_cons_zero, List.set_cons_succ]
              refine Hh.take (i := 7) (v := ?v25) rfl (by decide +kernel) (by decide +kernel) (fun _ _ _ h => h) rfl ?hy25 SC ?rest25
              case hy25 =>
                intro wq hSw
                try dsimp only at hSw
                go_simp
                try with_reducible rfl
              try simp only [Act.put, List.setIfInBounds_toArray, List.set_cons_zero, List.set_cons_succ]
              refine Hh.take (i := 8) (v := ?v26) rfl (by decide +kernel) (by decide +kernel) (fun _ _ _ h => h) rfl ?hy26 SC ?rest26
              case hy26 =>
                intro wq hSw
                try dsimp only at hSw
                go_simp
                try with_reducible rfl
              try simp only [Act.put, List.setIfInBounds_toArray, List.set_cons_zero, List.set_cons_succ]
              refine Hh.take (i := 9) (v := ?v27) rfl (by decide +kernel) (by decide +kernel) (fun _ _ _ h => h) rfl ?hy27 SC ?rest27
              case hy27 =>
                intro wq hSw
                try dsimp only at hSw
                go_simp
                try with_reducible rfl
              try simp only [Act.put, List.setIfInBounds_toArray, List.set_cons_zero, List.set_cons_succ]
              refine Hh.take (i := 10) (v := ?v28) rfl (by decide +kernel) (by decide +kernel) (fun _ _ _ h => h) rfl ?hy28 SC ?rest28
              case hy28 =>
                intro wq hSw
                try dsimp only at hSw
                go_simp
                try with_reducible rfl
              try simp only [Act.put, List.setIfInBounds_toArray, List.set_cons_zero, List.set_cons_succ]
              refine Hh.one (i := 11) rfl (by decide +kernel) rfl (fun K hK => ?_)
              go_simp
              refine hK _ _ (S1.keep SC (below_al _ _)) ?_
              clear hK K
              try simp only [Act.put, List.setIfInBounds_toArray, List.set_cons_zero, List.set_cons_succ]
              have rv := RV.new w3 zeroR
              have SD := S1.keep SC (below_al w3 (.cells (rgA zeroR) 46))
              have hge := SC.2.size
              have tv := RV.thereV rv zero_ok
              have hg := good okx
              have hp := putV_put rv zero_ok okx
              have SE := MK.out _ (hp.below _ _ hge SD.2)
              refine Hh.one (i := 12) rfl (by decide +kernel) rfl (fun K hK => ?_)
              go_simp
              refine hK _ _ (SE) ?_
              clear hK K
              try simp only [Act.put, List.setIfInBounds_toArray, List.set_cons_zero, List.set_cons_succ]
              refine Hh.take (i := 13) (v := ?v29) rfl (by decide +kernel) (by decide +kernel) (fun _ _ _ h => h) rfl ?hy29 SE ?rest29
              case hy29 =>
                intro wq hSw
                try dsimp only at hSw
                go_simp
                try with_reducible rfl
              try simp only [Act.put, List.setIfInBounds_toArray, List.set_cons_zero, List.set_cons_succ]
              refine Hh.take (i := 14) (v := ?v30) rfl (by decide +kernel) (by decide +kernel) (fun _ _ _ h => h) rfl ?hy30 SE ?rest30
              case hy30 =>
                intro wq hSw
                try dsimp only at hSw
                go_simp
                try with_reducible rfl
              try simp only [Act.put, List.setIfInBounds_toArray, List.set_cons_zero, List.set_cons_succ]
              refine Hh.done (by decide +kernel) ?_ _
              go_wp2_with fail
              go_meet
              exact ⟨_, rfl, hp.has, SE.2, hge⟩
            · go_simp
              have SC0 := S1.keep SA ((below_al wr (.cells (rgA zeroR) 46)).drew)
              have rv0 : RV (wr.alloc (.cells (rgA zeroR) 46)).drew wr.heap.size zeroR := RV.new wr zeroR
              have hge := SA.2.size
              refine hK _ _ SC0 ?_
              clear hK K
              try simp only [Act.put, List.setIfInBounds_toArray, List.set_cons_zero, List.set_cons_succ]
              refine Hh.one (i := 6) rfl (by decide +kernel) rfl (fun K hK => ?_)
              go_simp
              refine (CA.out _).mono ?_
              rintro e w3 ⟨rfl, hb3⟩
              have SD := S1.keep SC0 hb3
              have rv := rv0.keep hb3
              refine hK _ _ SD ?_
              clear hK K hb3 rv0
              try simp only [Act.put, List.setIfInBounds_toArray, List.set_cons_zero, List.set_cons_succ]
              refine Hh.take (i := 7) (v := ?v31) rfl (by decide +kernel) (by decide +kernel) (fun _ _ _ h => h) rfl ?hy31 SD ?rest31
              case hy31 =>
                intro wq hSw
                try dsimp only at hSw
                go_simp
                try with_reducible rfl
              try simp only [Act.put, List.setIfInBounds_toArray, List.set_cons_zero, List.set_cons_succ]
              refine Hh.take (i := 8) (v := ?v32) rfl (by decide +kernel) (by decide +kernel) (fun _ _ _ h => h) rfl ?hy32 SD ?rest32
              case hy32 =>
                intro wq hSw
                try dsimp only at hSw
                go_simp
                try with_reducible rfl
              try simp only [Act.put, List.setIfInBounds_toArray, List.set_cons_zero, List.set_cons_succ]
              refine Hh.take (i := 9) (v := ?v33) rfl (by decide +kernel) (by decide +kernel) (fun _ _ _ h => h) rfl ?hy33 SD ?rest33
              case hy33 =>
                intro wq hSw
                try dsimp only at hSw
                go_simp
                try with_reducible rfl
              try simp only [Act.put, List.setIfInBounds_toArray, List.set_cons_zero, List.set_cons_succ]
              refine Hh.take (i := 10) (v := ?v34) rfl (by decide +kernel) (by decide +kernel) (fun _ _ _ h => h) rfl ?hy34 SD ?rest34
              case hy34 =>
                intro wq hSw
                try dsimp only at hSw
                go_simp
                try with_reducible rfl
              try simp only [Act.put, List.setIfInBounds_toArray, List.set_cons_zero, List.set_cons_succ]
              have tv := RV.thereV rv zero_ok
              have hg := good okx
              have hp := putV_put rv zero_ok okx
              have SE := MK.out _ (hp.below _ _ hge SD.2)
              refine Hh.one (i := 12) rfl (by decide +kernel) rfl (fun K hK => ?_)
              go_simp
              refine hK _ _ (SE) ?_
              clear hK K
              try simp only [Act.put, List.setIfInBounds_toArray, List.set_cons_zero, List.set_cons_succ]
              refine Hh.take (i := 13) (v := ?v35) rfl (by decide +kernel) (by decide +kernel) (fun _ _ _ h => h) rfl ?hy35 SE ?rest35
              case hy35 =>
                intro wq hSw
                try dsimp only at hSw
                go_simp
                try with_reducible rfl
              try simp only [Act.put, List.setIfInBounds_toArray, List.set_cons_zero, List.set_cons_succ]
              refine Hh.take (i := 14) (v := ?v36) rfl (by decide +kernel) (by decide +kernel) (fun _ _ _ h => h) rfl ?hy36 SE ?rest36
              case hy36 =>
                intro wq hSw
                try dsimp only at hSw
                go_simp
                try with_reducible rfl
              try simp only [Act.put, List.setIfInBounds_toArray, List.set_cons_zero, List.set_cons_succ]
              refine Hh.done (by decide +kernel) ?_ _
              go_wp2_with fail
              go_meet
              exact ⟨_, rfl, hp.has, SE.2, hge⟩

          case rest =>
            obtain ⟨x, rfl, rv, hb, hge⟩ := hcut
            have RV1 := Lib.hid rv
            have HBc := Lib.hid hb
            clear rv hb hge SA SB MK
            have MK : Hid (∀ w', Below wc.heap.size wc w' → S1 wc b' bc k R2 cd w') := Lib.hid (fun w' hb => S1.init okR2 (R8.out.keep HBc.out) (cell_keep K1.out HBc.out) hb)
            have SA := Lib.hid (MK.out wc (Below.refl _ _))
            have SB := Lib.hid (MK.out wc.drew ((Below.refl _ _).drew))
            go_wp2_with fail
            go_cut [20] (fun s20 wx => s20 = .int .i64 n2 ∧ Below wc.heap.size wc wx)
            case first =>
              have SA := SA.out
              have SB := SB.out
              refine Hh.start (fun w' => (HasV w' (.pointer (some ⟨b', 0, none⟩)) ∧ cellsV w' (.pointer (some ⟨b', 0, none⟩)) = rgA R2 ∧ w'.cell? ⟨bc, k, none⟩ = some (.int .i64 cd)) ∧ Below wc.heap.size wc w') (by kernel_rfl) ?_
              refine Hh.take (i := 0) (v := ?v37) rfl (by decide +kernel) (by decide +kernel) (fun _ _ _ h => h) rfl ?hy37 SB ?rest37
              case hy37 =>
                intro wq hSw
                try dsimp only at hSw
                go_simp
                try with_reducible rfl
              try simp only [Act.put, List.setIfInBounds_toArray, List.set_cons_zero, List.set_cons_succ]
              refine Hh.take (i := 1) (v := ?v38) rfl (by decide +kernel) (by decide +kernel) (fun _ _ _ h => h) rfl ?hy38 SB ?rest38
              case hy38 =>
                intro wq hSw
                try dsimp only at hSw
                go_simp
                try with_reducible rfl
              try simp only [Act.put, List.setIfInBounds_toArray, List.set_cons_zero, List.set_cons_succ]
              refine Hh.take (i := 2) (v := ?v39) rfl (by decide +kernel) (by decide +kernel) (fun _ _ _ h => h) rfl ?hy39 SB ?rest39
              case hy39 =>
                intro wq hSw
                try dsimp only at hSw
                go_simp
                try with_reducible rfl
              try simp only [Act.put, List.setIfInBounds_toArray, List.set_cons_zero, List.set_cons_succ]
              refine Hh.take (i := 3) (v := ?v40) rfl (by decide +kernel) (by decide +kernel) (fun _ _ _ h => h) rfl ?hy40 SB ?rest40
              case hy40 =>
                intro wq hSw
                try dsimp only at hSw
                go_simp
                try with_reducible rfl
              try simp only [Act.put, List.setIfInBounds_toArray, List.set_cons_zero, List.set_cons_succ]
              refine Hh.take (i := 4) (v := ?v41) rfl (by decide +kernel) (by decide +kernel) (fun _ _ _ h => h) rfl ?hy41 SB ?rest41
              case hy41 =>
                intro wq hSw
                try dsimp only at hSw
                go_simp
                try with_reducible rfl
              try simp only [Act.put, List.setIfInBounds_toArray, List.set_cons_zero, List.set_cons_succ]
              refine Hh.take (i := 5) (v := ?v42) rfl (by decide +kernel) (by decide +kernel) (fun _ _ _ h => h) rfl ?hy42 SB ?rest42
              case hy42 =>
                intro wq hSw
                try dsimp only at hSw
                go_simp
                try with_reducible rfl
              try simp only [Act.put, List.setIfInBounds_toArray, List.set_cons_zero, List.set_cons_succ]
              refine Hh.two (i := 6) (j := 11) rfl rfl (by decide +kernel) rfl rfl (fun K hK => ?_) (fun K hK => ?_)
              · go_simp
                refine (CB.out _).mono ?_
                rintro e w3 ⟨rfl, hb3⟩
                have SC := S1.keep SB hb3
                refine hK _ _ SC ?_
                clear hK K hb3
                try simp only [Act.put, List.setIfInBounds_toArray, List.set_cons_zero, List.set_cons_succ]
                refine Hh.take (i := 7) (v := ?v43) rfl (by decide +kernel) (by decide +kernel) (fun _ _ _ h => h) rfl ?hy43 SC ?rest43
                case hy43 =>
                  intro wq hSw
                  try dsimp only at hSw
                  go_simp
                  try with_reducible rfl
                try simp only [Act.put, List.setIfInBounds_toArray, List.set_cons_zero, List.set_cons_succ]
                refine Hh.take (i := 8) (v := ?v44) rfl (by decide +kernel) (by decide +kernel) (fun _ _ _ h => h) rfl ?hy44 SC ?rest44
                case hy44 =>
                  intro wq hSw
                  try dsimp only at hSw
                  go_simp
                  try with_reducible rfl
                try simp only [Act.put, List.setIfInBounds_toArray, List.set_cons_zero, List.set_cons_succ]
                refine Hh.take (i := 9) (v := ?v45) rfl (by decide +kernel) (by decide +kernel) (fun _ _ _ h => h) rfl ?hy45 SC ?rest45
                case hy45 =>
                  intro wq hSw
                  try dsimp only at hSw
                  go_simp
                  try with_reducible rfl
                try simp only [Act.put, List.setIfInBounds_toArray, List.set_cons_zero, List.set_cons_succ]
                refine Hh.take (i := 10) (v := ?v46) rfl (by decide +kernel) (by decide +kernel) (fun _ _ _ h => h) rfl ?hy46 SC ?rest46
                case hy46 =>
                  intro wq hSw
                  try dsimp only at hSw
                  go_simp
                  try with_reducible rfl
                try simp only [Act.put, List.setIfInBounds_toArray, List.set_cons_zero, List.set_cons_succ]
                refine Hh.one (i := 11) rfl (by decide +kernel) rfl (fun K hK => ?_)
                go_simp
                refine hK _ _ (S1.keep SC (below_al _ _)) ?_
                clear hK K
                try simp only [Act.put, List.setIfInBounds_toArray, List.set_cons_zero, List.set_cons_succ]
                have rv := RV.new w3 zeroR
                have SD := S1.keep SC (below_al w3 (.cells (rgA zeroR) 46))
                have hge := SC.2.size
                have tv := RV.thereV rv zero_ok
                have hg := good okR2
                have hp := putV_put rv zero_ok okR2
                have SE := MK.out _ (hp.below _ _ hge SD.2)
                refine Hh.one (i := 12) rfl (by decide +kernel) rfl (fun K hK => ?_)
                go_simp
                refine hK _ _ (SE) ?_
                clear hK K
                try simp only [Act.put, List.setIfInBounds_toArray, List.set_cons_zero, List.set_cons_succ]
                refine Hh.take (i := 13) (v := ?v47) rfl (by decide +kernel) (by decide +kernel) (fun _ _ _ h => h) rfl ?hy47 SE ?rest47
                case hy47 =>
                  intro wq hSw
                  try dsimp only at hSw
                  go_simp
                  try with_reducible rfl
                try simp only [Act.put, List.setIfInBounds_toArray, List.set_cons_zero, List.set_cons_succ]
                refine Hh.take (i := 14) (v := ?v48) rfl (by decide +kernel) (by decide +kernel) (fun _ _ _ h => h) rfl ?hy48 SE ?rest48
                case hy48 =>
                  intro wq hSw
                  try dsimp only at hSw
                  go_simp
                  try with_reducible rfl
                try simp only [Act.put, List.setIfInBounds_toArray, List.set_cons_zero, List.set_cons_succ]
                refine Hh.done (by decide +kernel) ?_ _
                go_wp2_with fail
                go_meet
                exact ⟨rfl, SE.2⟩
              · go_simp
                have SC0 := S1.keep SA ((below_al wc (.cells (rgA zeroR) 46)).drew)
                have rv0 : RV (wc.alloc (.cells (rgA zeroR) 46)).drew wc.heap.size zeroR := RV.new wc zeroR
                have hge := SA.2.size
                refine hK _ _ SC0 ?_
                clear hK K
                try simp only [Act.put, List.setIfInBounds_toArray, List.set_cons_zero, List.set_cons_succ]
                refine Hh.one (i := 6) rfl (by decide +kernel) rfl (fun K hK => ?_)
                go_simp
                refine (CB.out _).mono ?_
                rintro e w3 ⟨rfl, hb3⟩
                have SD := S1.keep SC0 hb3
                have rv := rv0.keep hb3
                refine hK _ _ SD ?_
                clear hK K hb3 rv0
                try simp only [Act.put, List.setIfInBounds_toArray, List.set_cons_zero, List.set_cons_succ]
                refine Hh.take (i := 7) (v := ?v49) rfl (by decide +kernel) (by decide +kernel) (fun _ _ _ h => h) rfl ?hy49 SD ?rest49
                case hy49 =>
                  intro wq hSw
                  try dsimp only at hSw
                  go_simp
                  try with_reducible rfl
                try simp only [Act.put, List.setIfInBounds_toArray, List.set_cons_zero, List.set_cons_succ]
                refine Hh.take (i := 8) (v := ?v50) rfl (by decide +kernel) (by decide +kernel) (fun _ _ _ h => h) rfl ?hy50 SD ?rest50
                case hy50 =>
                  intro wq hSw
                  try dsimp only at hSw
                  go_simp
                  try with_reducible rfl
                try simp only [Act.put, List.setIfInBounds_toArray, List.set_cons_zero, List.set_cons_succ]
                refine Hh.take (i := 9) (v := ?v51) rfl (by decide +kernel) (by decide +kernel) (fun _ _ _ h => h) rfl ?hy51 SD ?rest51
                case hy51 =>
                  intro wq hSw
                  try dsimp only at hSw
                  go_simp
                  try with_reducible rfl
                try simp only [Act.put, List.setIfInBounds_toArray, List.set_cons_zero, List.set_cons_succ]
                refine Hh.take (i := 10) (v := ?v52) rfl (by decide +kernel) (by decide +kernel) (fun _ _ _ h => h) rfl ?hy52 SD ?rest52
                case hy52 =>
                  intro wq hSw
                  try dsimp only at hSw
                  go_simp
                  try with_reducible rfl
                try simp only [Act.put, List.setIfInBounds_toArray, List.set_cons_zero, List.set_cons_succ]
                have tv := RV.thereV rv zero_ok
                have hg := good okR2
                have hp := putV_put rv zero_ok okR2
                have SE := MK.out _ (hp.below _ _ hge SD.2)
                refine Hh.one (i := 12) rfl (by decide +kernel) rfl (fun K hK => ?_)
                go_simp
                refine hK _ _ (SE) ?_
                clear hK K
                try simp only [Act.put, List.setIfInBounds_toArray, List.set_cons_zero, List.set_cons_succ]
                refine Hh.take (i := 13) (v := ?v53) rfl (by decide +kernel) (by decide +kernel) (fun _ _ _ h => h) rfl ?hy53 SE ?rest53
                case hy53 =>
                  intro wq hSw
                  try dsimp only at hSw
                  go_simp
                  try with_reducible rfl
                try simp only [Act.put, List.setIfInBounds_toArray, List.set_cons_zero, List.set_cons_succ]
                refine Hh.take (i := 14) (v := ?v54) rfl (by decide +kernel) (by decide +kernel) (fun _ _ _ h => h) rfl ?hy54 SE ?rest54
                case hy54 =>
                  intro wq hSw
                  try dsimp only at hSw
                  go_simp
                  try with_reducible rfl
                try simp only [Act.put, List.setIfInBounds_toArray, List.set_cons_zero, List.set_cons_succ]
                refine Hh.done (by decide +kernel) ?_ _
                go_wp2_with fail
                go_meet
                exact ⟨rfl, SE.2⟩

            case rest =>
              obtain ⟨rfl, hb⟩ := hcut
              have RV2 := Lib.hid (RV1.out.keep hb)
              have HBd := Lib.hid (HBc.out.trans (hb.mono HBc.out.size))
              have RB := Lib.hid ((R8.out.keep HBc.out).keep hb)
              have Kc := Lib.hid (cell_keep (cell_keep K1.out HBc.out) hb)
              have Kh := Lib.hid (cell_keep (cell_keep K2.out HBc.out) hb)
              clear hb SA SB MK
              obtain ⟨m1, m2⟩ := RV.hasV RV2.out okx
              have hcg := fun w => get_any g 3 w okx
              rw [E3.out] at hcg
              have CG := Lib.hid hcg
              clear hcg
              cases hd
              · have h1 := HBT.out
                have h2 := HN2.out
                simp only [if_true, if_false, Bool.false_eq_true] at h1 h2
                subst h1 h2
                go_wp2_with fail
                refine (CG.out _).mono ?_
                rintro e w9 ⟨rfl, hb9⟩
                have SW := Lib.hid (S3.keep okR2 (S3.init okR2 (RB.out.keep hb9) (cell_keep Kc.out hb9) (cell_keep Kh.out hb9) (HBd.out.trans (hb9.mono HBd.out.size))) ((Below.refl _ _).drew))
                clear m1 m2 hb9
                go_wp2_with fail
                have SB := SW.out
                go_region_held3 (fun w' => (HasV w' (.pointer (some ⟨b', 0, none⟩)) ∧ cellsV w' (.pointer (some ⟨b', 0, none⟩)) = rgA R2 ∧ w'.cell? ⟨bc, k, none⟩ = some (.int .i64 cd) ∧ w'.cell? ⟨bh, k, none⟩ = some (.bool false)) ∧ RV w' b' R2 ∧ Below wl2.heap.size wl2 w') (with_reducible assumption)
                  (first
                    | (go_at_call 29; with_reducible refine (holds_S3 wl2 b' bc bh k R2 cd false _ okR2 CH.out (by with_reducible assumption)).mono ?_; rintro e wx ⟨rfl, SC⟩))
                all_goals
                  go_wp2_with fail
                  go_roundw
                  case rel => exact ⟨k + 1, by omega, by go_num, SC.2.2⟩
                  case measure => simp [intOf]; omega
              · have h1 := HBT.out
                have h2 := HN2.out
                simp only [if_true, if_false, Bool.false_eq_true] at h1 h2
                subst h1 h2
                go_wp2_with fail
                refine (CG.out _).mono ?_
                rintro e w9 ⟨rfl, hb9⟩
                have SW := Lib.hid (S3.keep okR2 (S3.init okR2 (RB.out.keep hb9) (cell_keep Kc.out hb9) (cell_keep Kh.out hb9) (HBd.out.trans (hb9.mono HBd.out.size))) ((Below.refl _ _).drew))
                clear m1 m2 hb9
                go_wp2_with fail
                have SB := SW.out
                go_region_held3 (fun w' => (HasV w' (.pointer (some ⟨b', 0, none⟩)) ∧ cellsV w' (.pointer (some ⟨b', 0, none⟩)) = rgA R2 ∧ w'.cell? ⟨bc, k, none⟩ = some (.int .i64 cd) ∧ w'.cell? ⟨bh, k, none⟩ = some (.bool true)) ∧ RV w' b' R2 ∧ Below wl2.heap.size wl2 w') (with_reducible assumption)
                  (first
                    | (go_at_call 29; with_reducible refine (holds_S3 wl2 b' bc bh k R2 cd true _ okR2 CH.out (by with_reducible assumption)).mono ?_; rintro e wx ⟨rfl, SC⟩))
                all_goals
                  go_wp2_with fail
                  go_roundw
                  case rel => exact ⟨k + 1, by omega, by go_num, SC.2.2⟩
                  case measure => simp [intOf]; omega
        · obtain rfl : k = 4 := by omega
          go_wp2_with fail
          go_ret
          exact ⟨rfl, B8.out.trans (HB.out.mono B8.out.size)⟩
theorem walk (u v : Int) (w : World) (hu : (Lit.int .u64 u).wf = true) (hv : (Lit.int .u64 v).wf = true) :
    Calls Try.prog 10 #[.int .u64 u, .int .u64 v] w fun e w' => e = .returned (.bool true) ∧ Below w.heap.size w w' := by
  obtain ⟨a, rfl⟩ := w64_word hu
  obtain ⟨b, rfl⟩ := w64_word hv
  exact reckons a b w
end Go.Proofs.Ytfbfoooligbcfaa.AluLR
