/-
  WALK: the document's RightImage.
-/
import Derived.Test.YtkohichiojmakaaImgRight
import Derived.Test.YtkohichiojmakaaA64RefDec
namespace Go.Proofs.Ytkohichiojmakaa.ImQ
set_option linter.unusedVariables false
set_option linter.unusedSimpArgs false
open Go.RowKit Cm Mm Ow Ow2 Ow3 A64 A64W A64P A64H A64V Pat InW Img ImC ImR

set_option maxRecDepth 20000 in
set_option maxHeartbeats 6400000 in
theorem rright_any (x y : Int) (E C : Option Addr) (n ec m cc : Nat) (en : List Int) (co : List (BitVec 32)) (w : World) (hE : IsI w E n ec en) (hC : IsWd w C m cc co) :
    Calls Try.prog 18 #[.agg #[.int .i64 x, .int .i64 y, .slice E n ec, .slice C m cc]] w fun e w' => e = .returned (.bool (right' ⟨x, y, en, co⟩)) ∧ Below w.heap.size w w' := by
  have hle := Lib.hid hE.1
  have hlc := Lib.hid hC.1
  obtain ⟨W, hW⟩ : ∃ W, W = w.alloc (.cells #[.int .i64 x, .int .i64 y, .slice E n ec, .slice C m cc] 27) := ⟨_, rfl⟩
  have hB : Below w.heap.size w W := by rw [hW]; exact (Below.refl _ _).alloc (Nat.le_refl _) _
  have q0 : W.cell? ⟨w.heap.size, 0, none⟩ = some (.int .i64 x) := by rw [hW]; simp
  have q1 : W.cell? ⟨w.heap.size, 1, none⟩ = some (.int .i64 y) := by rw [hW]; simp
  have q2 : W.cell? ⟨w.heap.size, 2, none⟩ = some (.slice E n ec) := by rw [hW]; simp
  have q3 : W.cell? ⟨w.heap.size, 3, none⟩ = some (.slice C m cc) := by rw [hW]; simp
  have hlt : w.heap.size < W.heap.size := World.block_lt_of_cell? W _ q0
  have HE := Lib.hid (hE.keep hB)
  have HC := Lib.hid (hC.keep hB)
  have HW := Lib.hid hW
  have HB := Lib.hid hB
  clear hW hB hE hC
  have hplace := Lib.hid (fun k h1 h2 => right_place (x := ⟨x, y, en, co⟩) (k := k) h1 h2)
  by_cases hs : (0 ≤ x ∧ x ≤ 64 ∧ 1 ≤ n ∧ n ≤ 4 ∧ m ≤ 20000) ∧ (0 ≤ y ∧ y < m)
  · obtain ⟨⟨s1, s2, s3, s4, s5⟩, y1, y2⟩ := hs
    have hsz : Hid (sizes ⟨x, y, en, co⟩ = true) := Lib.hid (by
      unfold sizes
      simp only [hle.out, hlc.out, Bool.and_eq_true, decide_eq_true_eq]
      omega)
    have hcode := Lib.hid (fun h => right_code (x := ⟨x, y, en, co⟩) hsz.out h)
    have t1 : ¬ x < 0 := by omega
    have t2 : ¬ 64 < x := by omega
    have t3 : decide ((n : Int) < 1) = false := by simp; omega
    have t4 : decide (4 < (n : Int)) = false := by simp; omega
    have t5 : decide (20000 < (m : Int)) = false := by simp; omega
    have t6 : ¬ y < 0 := by omega
    have t7 : ¬ (m : Int) ≤ y := by omega
    have m1 : (m : Int) ≤ 20000 := by omega
    have n1 : (n : Int) ≤ 4 := by omega
    have hy : Hid (inCode m y = true) := Lib.hid (by unfold inCode; rw [decide_eq_true y1, decide_eq_true y2]; rfl)
    go_enter Try.func18, Try.ntmps18
    go_upto_region 1 with (fail)
    rw [← HW.out]
    go_wp2_with fail
    go_loopw [3] (fun i wr => ∃ (k : Nat), k ≤ n ∧ i = .int .i64 k ∧ Hid (∀ j, j < k → inCode m (en.getD j 0) = true) ∧ Below W.heap.size W wr) (fun i _ => n - (intOf i).toNat)
    case atStart => exact ⟨0, by omega, rfl, fun j hj => absurd hj (by omega), Below.refl _ _⟩
    case round =>
      obtain ⟨k, hk, rfl, HG, hbel⟩ := hrel
      have r0 := (hbel.cell (p := ⟨w.heap.size, 2, none⟩) hlt).trans q2
      have r3 := (hbel.cell (p := ⟨w.heap.size, 3, none⟩) hlt).trans q3
      by_cases hkn : k < n
      · obtain ⟨b, o, rfl, hb, s0⟩ := (HE.out.keep hbel).cell (k := k) hkn
        have hbb := Lib.hid (hplace.out (k + 1) (by rw [List.length_cons, hle.out]; omega))
        rw [show (⟨x, y, en, co⟩ : Im).code.length = m from hlc.out, show ((y :: en).getD (k + 1) 0) = en.getD k 0 from List.getD_cons_succ] at hbb
        have hnext : Hid (inCode m (en.getD k 0) = true → ∀ j, j < k + 1 → inCode m (en.getD j 0) = true) := Lib.hid (fun h0 j hj => by
          by_cases e : j = k
          · subst e; exact h0
          · exact HG.out j (by omega))
        generalize en.getD k 0 = z at *
        have k1 : (k : Int) < n := by omega
        by_cases z0 : 0 ≤ z
        · by_cases z1 : z < m
          · have HN := Lib.hid (hnext.out (by unfold inCode; rw [decide_eq_true z0, decide_eq_true z1]; rfl))
            go_wp2
            go_quiet (fail)
            go_wp2
            go_roundw
            case rel => exact ⟨k + 1, by omega, by go_num, HN.out, below_drewN hbel _⟩
            case measure => simp [intOf]; omega
          · have hb1 := Lib.hid (hbb.out (by unfold inCode; rw [decide_eq_false z1, Bool.and_false]))
            go_wp2
            go_quiet (fail)
            go_wp2
            go_ret
            exact ⟨retb (by rw [hb1.out]), HB.out.trans ((below_drewN hbel _).mono HB.out.size)⟩
        · have hb1 := Lib.hid (hbb.out (by unfold inCode; rw [decide_eq_false z0]; rfl))
          go_wp2
          go_quiet (fail)
          go_wp2
          go_ret
          exact ⟨retb (by rw [hb1.out]), HB.out.trans ((below_drewN hbel _).mono HB.out.size)⟩
      · obtain rfl : k = n := by omega
        have e := Lib.hid (hcode.out (fun j hj => by
          rw [show (⟨x, y, en, co⟩ : Im).code.length = m from hlc.out]
          cases j with
          | zero => exact hy.out
          | succ j => exact HG.out j (by rw [List.length_cons, show (⟨x, y, en, co⟩ : Im).entry.length = k from hle.out] at hj; omega)))
        have HBe := Lib.hid hbel
        go_wp2
        obtain ⟨wo, rfl⟩ : ∃ wo : World, wo = wr := ⟨_, rfl⟩
        clear hbel
        go_loopw [4] (fun i wr => ∃ (j : Nat), j ≤ m ∧ i = .int .i64 j ∧ Hid (codeTo co j = true) ∧ Below W.heap.size W wr) (fun i _ => m - (intOf i).toNat)
        case atStart => exact ⟨0, by omega, rfl, rfl, HBe.out⟩
        case round =>
          obtain ⟨j, hj, rfl, HW2, hbel⟩ := hrel
          have hsz2 := hbel.size
          have r0 := (hbel.cell (p := ⟨w.heap.size, 2, none⟩) hlt).trans q2
          have r3 := (hbel.cell (p := ⟨w.heap.size, 3, none⟩) hlt).trans q3
          by_cases hjm : j < m
          · have hos := Lib.hid (codeTo_succ co j)
            have hbad := Lib.hid (fun h => codeOk_bad (l := co) (k := j) (by have := hlc.out; omega) h)
            obtain ⟨b, o, rfl, hb, s0⟩ := (HC.out.keep hbel).cell (k := j) hjm
            generalize co.getD j 0 = Wd at *
            have D := fun w => rdecode_any Wd w
            have hdn := dec_n Wd
            have c1 := at_bad (N := co.length) (k := j) (W := Wd)
            have c2 := at_no (N := co.length) (k := j) (W := Wd)
            have c3 := at_br (N := co.length) (k := j) (W := Wd)
            have hdc : (A64.decode Wd).2 = 8 ∨ (A64.decode Wd).2 = 0 := by rcases dec_case Wd with h | h; exact .inl h.1; exact .inr h.1
            generalize (A64.decode Wd).2 = e2 at *
            generalize (A64.decode Wd).1 = s at *
            obtain ⟨s0_, s1_, s2_, s3_, s4_, s5_, s6_⟩ := s
            dsimp only at D hdn c1 c2 c3
            have D := Lib.hid D
            have HBel := Lib.hid hbel
            obtain ⟨d1, d2⟩ := hdn
            have hwr : IntKind.i64.wrap ((j : Int) + s6_) = j + s6_ := IntWalk.i64_in _ ⟨by omega, by omega⟩
            clear hbel
            rcases hdc with rfl | rfl
            · have hbb := Lib.hid (hbad.out (c1 rfl))
              clear c1 c2 c3
              go_wp2_with fail
              refine (D.out _).mono ?_
              rintro e w2 ⟨rfl, hb2⟩
              have B2 := HBel.out.trans (hb2.mono hsz2)
              have B2' := B2.alloc (Nat.le_trans hsz2 hb2.size) (.cells #[.int .i64 s0_, .int .i64 s1_, .int .i64 s2_, .int .i64 s3_, .int .i64 s4_, .int .i64 s5_, .int .i64 s6_] 45)
              have r3 := (B2'.cell (p := ⟨w.heap.size, 3, none⟩) hlt).trans q3
              have HB2' := Lib.hid B2'
              go_wp2_with fail
              go_ret
              exact ⟨retb (by rw [e.out, hbb.out]), HB.out.trans (HB2'.out.mono HB.out.size)⟩
            · have c2 := c2 rfl
              have c3 := c3 rfl
              clear c1
              cases hbr : br s0_
              · have hgood := Lib.hid (c2 hbr)
                clear c2 c3
                go_wp2_with fail
                refine (D.out _).mono ?_
                rintro e w2 ⟨rfl, hb2⟩
                have B2 := HBel.out.trans (hb2.mono hsz2)
                have B2' := B2.alloc (Nat.le_trans hsz2 hb2.size) (.cells #[.int .i64 s0_, .int .i64 s1_, .int .i64 s2_, .int .i64 s3_, .int .i64 s4_, .int .i64 s5_, .int .i64 s6_] 45)
                have r3 := (B2'.cell (p := ⟨w.heap.size, 3, none⟩) hlt).trans q3
                have HB2' := Lib.hid B2'
                go_wp2_with fail
                refine (rbranch_any s0_ _).mono ?_
                rintro e w3 ⟨rfl, rfl⟩
                rw [hbr]
                go_wp2_with fail
                go_roundw
                case rel => exact ⟨j + 1, by omega, by go_num, by show codeTo co (j + 1) = true; rw [hos.out, hgood.out, HW2]; rfl, HB2'.out⟩
                case measure => simp [intOf]; omega
              · have c3 := c3 hbr
                clear c2
                by_cases y0 : 0 ≤ (j : Int) + s6_
                · by_cases y1 : (j : Int) + s6_ < m
                  · have hgood : Hid (codeAt co.length j Wd = true) := Lib.hid (by rw [c3, hlc.out, decide_eq_true y0, decide_eq_true y1]; rfl)
                    clear c3
                    go_wp2_with fail
                    refine (D.out _).mono ?_
                    rintro e w2 ⟨rfl, hb2⟩
                    have B2 := HBel.out.trans (hb2.mono hsz2)
                    have B2' := B2.alloc (Nat.le_trans hsz2 hb2.size) (.cells #[.int .i64 s0_, .int .i64 s1_, .int .i64 s2_, .int .i64 s3_, .int .i64 s4_, .int .i64 s5_, .int .i64 s6_] 45)
                    have r3 := (B2'.cell (p := ⟨w.heap.size, 3, none⟩) hlt).trans q3
                    have HB2' := Lib.hid B2'
                    go_wp2_with fail
                    refine (rbranch_any s0_ _).mono ?_
                    rintro e w3 ⟨rfl, rfl⟩
                    rw [hbr]
                    go_wp2_with fail
                    go_roundw
                    case rel => exact ⟨j + 1, by omega, by go_num, by show codeTo co (j + 1) = true; rw [hos.out, hgood.out, HW2]; rfl, HB2'.out⟩
                    case measure => simp [intOf]; omega
                  · have hbb := Lib.hid (hbad.out (by rw [c3, hlc.out, decide_eq_false y1, Bool.and_false]))
                    clear c3
                    go_wp2_with fail
                    refine (D.out _).mono ?_
                    rintro e w2 ⟨rfl, hb2⟩
                    have B2 := HBel.out.trans (hb2.mono hsz2)
                    have B2' := B2.alloc (Nat.le_trans hsz2 hb2.size) (.cells #[.int .i64 s0_, .int .i64 s1_, .int .i64 s2_, .int .i64 s3_, .int .i64 s4_, .int .i64 s5_, .int .i64 s6_] 45)
                    have r3 := (B2'.cell (p := ⟨w.heap.size, 3, none⟩) hlt).trans q3
                    have HB2' := Lib.hid B2'
                    go_wp2_with fail
                    refine (rbranch_any s0_ _).mono ?_
                    rintro e w3 ⟨rfl, rfl⟩
                    rw [hbr]
                    go_wp2_with fail
                    go_ret
                    exact ⟨retb (by rw [e.out, hbb.out]), HB.out.trans (HB2'.out.mono HB.out.size)⟩
                · have hbb := Lib.hid (hbad.out (by rw [c3, decide_eq_false y0]; rfl))
                  clear c3
                  go_wp2_with fail
                  refine (D.out _).mono ?_
                  rintro e w2 ⟨rfl, hb2⟩
                  have B2 := HBel.out.trans (hb2.mono hsz2)
                  have B2' := B2.alloc (Nat.le_trans hsz2 hb2.size) (.cells #[.int .i64 s0_, .int .i64 s1_, .int .i64 s2_, .int .i64 s3_, .int .i64 s4_, .int .i64 s5_, .int .i64 s6_] 45)
                  have r3 := (B2'.cell (p := ⟨w.heap.size, 3, none⟩) hlt).trans q3
                  have HB2' := Lib.hid B2'
                  go_wp2_with fail
                  refine (rbranch_any s0_ _).mono ?_
                  rintro e w3 ⟨rfl, rfl⟩
                  rw [hbr]
                  go_wp2_with fail
                  go_ret
                  exact ⟨retb (by rw [e.out, hbb.out]), HB.out.trans (HB2'.out.mono HB.out.size)⟩
          · obtain rfl : j = m := by omega
            have eo : codeOk co = true := by unfold codeOk; rw [hlc.out]; exact HW2
            go_wp2_with fail
            go_ret
            exact ⟨retb (by rw [e.out, eo]), HB.out.trans (hbel.mono HB.out.size)⟩
  · have hbad : Hid (right' ⟨x, y, en, co⟩ = false) := Lib.hid (by
      by_cases h1 : 0 ≤ x ∧ x ≤ 64 ∧ 1 ≤ n ∧ n ≤ 4 ∧ m ≤ 20000
      · refine hplace.out 0 (by simp) ?_
        rw [show (⟨x, y, en, co⟩ : Im).code.length = m from hlc.out]
        show inCode m y = false
        unfold inCode
        by_cases h2 : 0 ≤ y
        · rw [decide_eq_false (show ¬ y < m by omega), Bool.and_false]
        · rw [decide_eq_false h2]; rfl
      · exact right_size (sizes_no (fun h => h1 ⟨h.1, h.2.1, by have := h.2.2.1; rw [hle.out] at this; exact this, by have := h.2.2.2.1; rw [hle.out] at this; exact this, by have := h.2.2.2.2; rw [hlc.out] at this; exact this⟩)))
    obtain h1 | ⟨h1, h2⟩ | ⟨h1, h2, h3⟩ | ⟨h1, h2, h3, h4⟩ | ⟨h1, h2, h3, h4, h5⟩ | ⟨h1, h2, h3, h4, h5, h6⟩ | ⟨h1, h2, h3, h4, h5, h6, h7⟩ : x < 0 ∨ (¬ x < 0 ∧ 64 < x) ∨ (¬ x < 0 ∧ ¬ 64 < x ∧ decide ((n : Int) < 1) = true) ∨ (¬ x < 0 ∧ ¬ 64 < x ∧ decide ((n : Int) < 1) = false ∧ decide (4 < (n : Int)) = true) ∨ (¬ x < 0 ∧ ¬ 64 < x ∧ decide ((n : Int) < 1) = false ∧ decide (4 < (n : Int)) = false ∧ decide (20000 < (m : Int)) = true) ∨
      (¬ x < 0 ∧ ¬ 64 < x ∧ decide ((n : Int) < 1) = false ∧ decide (4 < (n : Int)) = false ∧ decide (20000 < (m : Int)) = false ∧ y < 0) ∨ (¬ x < 0 ∧ ¬ 64 < x ∧ decide ((n : Int) < 1) = false ∧ decide (4 < (n : Int)) = false ∧ decide (20000 < (m : Int)) = false ∧ ¬ y < 0 ∧ (m : Int) ≤ y) := by simp; omega
    all_goals
      clear hs
      go_enter Try.func18, Try.ntmps18
      go_upto_region 1 with (fail)
      rw [← HW.out]
      go_wp2_with fail
      go_ret
      exact ⟨retb (by rw [hbad.out]), HB.out⟩
end Go.Proofs.Ytkohichiojmakaa.ImQ
