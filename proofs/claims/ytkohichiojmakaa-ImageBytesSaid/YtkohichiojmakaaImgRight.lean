/-
  WALK: image.Right.
-/
import Derived.Test.YtkohichiojmakaaImgCode
import Derived.Test.YtkohichiojmakaaOwn3
namespace Go.Proofs.Ytkohichiojmakaa.ImR
set_option linter.unusedVariables false
set_option linter.unusedSimpArgs false
open Go.RowKit Cm Mm Ow Ow2 Ow3 A64 A64W Pat InW Img ImC

/-- the image that is an argument -/
def imV (x y : Int) (E : Option Addr) (n ec : Nat) (C : Option Addr) (m cc : Nat) : Value := .agg #[.int .i64 x, .int .i64 y, .slice E n ec, .slice C m cc]
theorem own_lit1 (w : World) (base : Nat) (hb : base ≤ w.heap.size) (x : Int) : Own (w.alloc (.cells #[.int .i64 x] 3)) base 3 1 (some ⟨w.heap.size, 0, none⟩) 1 1 [ivL x] :=
  ⟨rfl, fun y hy => by simp at hy; subst hy; rfl, World.ownsRow_lit w #[.int .i64 x] 1 hb (by unfold maxLen; omega) rfl⟩
theorem iv_rows (x : Int) (l : List Int) (n : Nat) (hl : l.length = n) : [ivL x] ++ (List.range n).map (fun i => [Value.int .i64 (l.getD i 0)]) = (x :: l).map ivL := by
  subst hl
  rw [List.map_cons, List.singleton_append]
  congr 1
  refine List.ext_getElem (by simp) (fun i h1 h2 => ?_)
  simp only [List.length_map] at h2
  simp [List.getD, h2, ivL]
theorem sizes_no {x : Im} (h : ¬ (0 ≤ x.words ∧ x.words ≤ 64 ∧ 1 ≤ x.entry.length ∧ x.entry.length ≤ 4 ∧ x.code.length ≤ 20000)) : sizes x = false := by
  cases hs : sizes x
  · rfl
  · unfold sizes at hs
    simp only [Bool.and_eq_true, decide_eq_true_eq] at hs
    exact absurd ⟨hs.1.1.1.1, hs.1.1.1.2, hs.1.1.2, hs.1.2, hs.2⟩ h

set_option maxRecDepth 20000 in
set_option maxHeartbeats 3200000 in
theorem right_any (x y : Int) (E C : Option Addr) (n ec m cc : Nat) (en : List Int) (co : List (BitVec 32)) (w : World) (hE : IsI w E n ec en) (hC : IsWd w C m cc co) :
    Calls Try.prog 21 #[.agg #[.int .i64 x, .int .i64 y, .slice E n ec, .slice C m cc]] w fun e w' => e = .returned (.bool (right' ⟨x, y, en, co⟩)) ∧ Below w.heap.size w w' := by
  have hle := Lib.hid hE.1
  have hlc := Lib.hid hC.1
  obtain ⟨W, hW⟩ : ∃ W, W = w.alloc (.cells #[.int .i64 x, .int .i64 y, .slice E n ec, .slice C m cc] 27) := ⟨_, rfl⟩
  have hB : Below w.heap.size w W := by rw [hW]; exact (Below.refl _ _).alloc (Nat.le_refl _) _
  have q0 : W.cell? ⟨w.heap.size, 0, none⟩ = some (.int .i64 x) := by rw [hW]; simp
  have q1 : W.cell? ⟨w.heap.size, 1, none⟩ = some (.int .i64 y) := by rw [hW]; simp
  have q2 : W.cell? ⟨w.heap.size, 2, none⟩ = some (.slice E n ec) := by rw [hW]; simp
  have q3 : W.cell? ⟨w.heap.size, 3, none⟩ = some (.slice C m cc) := by rw [hW]; simp
  have hlt : w.heap.size < W.heap.size := World.block_lt_of_cell? W _ q0
  have HE := Lib.hid (hE.keep hB)
  have HC := Lib.hid (hC.keep hB)
  have HW := Lib.hid hW
  have HB := Lib.hid hB
  clear hW hB hE hC
  by_cases hs : 0 ≤ x ∧ x ≤ 64 ∧ 1 ≤ n ∧ n ≤ 4 ∧ m ≤ 20000
  · obtain ⟨s1, s2, s3, s4, s5⟩ := hs
    have hsz : Hid (sizes ⟨x, y, en, co⟩ = true) := Lib.hid (by
      unfold sizes
      simp only [hle.out, hlc.out, Bool.and_eq_true, decide_eq_true_eq]
      omega)
    have t1 : ¬ x < 0 := by omega
    have t2 : ¬ 64 < x := by omega
    have t3 : decide ((n : Int) < 1) = false := by simp; omega
    have t4 : decide (4 < (n : Int)) = false := by simp; omega
    have t5 : decide (20000 < (m : Int)) = false := by simp; omega
    have rows := Lib.hid (iv_rows y en n hle.out)
    have C1 := Lib.hid (fun w' (h : Below W.heap.size W w') => code_any C m cc co w' (HC.out.keep h) (by omega))
    go_enter Try.func21, Try.ntmps21
    go_upto_region 1 with (fail)
    rw [← HW.out]
    have O1 := Lib.hid (own_lit1 W W.heap.size (Nat.le_refl _) y)
    have B1 : Hid (Below W.heap.size W (W.alloc (.cells #[.int .i64 y] 3))) := Lib.hid ((Below.refl _ _).alloc (Nat.le_refl _) _)
    go_wp2_with (at_builtin; refine wpList_app _ rfl _ _ rfl elI W.heap.size _ 1 1 _ rfl O1.out E n ec (fun i => [Value.int .i64 (en.getD i 0)]) rfl (HE.out.keep B1.out).2 (fun _ _ => rfl) (fun i _ => by intro u hu; simp at hu; subst hu; rfl) (by unfold maxLen; omega) (by omega) B1.out.size ?_; intro A2 c2 w2 hown2 hg2 hat2; rw [rows.out] at hown2; have HO2 := Lib.hid hown2; have BB2 : Hid (Below W.heap.size W w2) := Lib.hid (B1.out.trans ((Below.refl _ _).grown hg2 B1.out.size (fun k hk => by simp at hk; omega))); clear hown2 hg2 hat2)
    have r3 := (BB2.out.cell (p := ⟨w.heap.size, 3, none⟩) hlt).trans q3
    have hplace := Lib.hid (fun k h1 h2 => right_place (x := ⟨x, y, en, co⟩) (k := k) h1 h2)
    have hcode := Lib.hid (fun h => right_code (x := ⟨x, y, en, co⟩) hsz.out h)
    have hL : Hid ((y :: en).length = 1 + n) := Lib.hid (by rw [List.length_cons, hle.out]; omega)
    have I2 := Lib.hid (isI_own HO2.out)
    clear q0 q1 q2 q3
    go_loop [38] (fun i => ∃ (k : Nat), k ≤ 1 + n ∧ i = .int .i64 k ∧ Hid (∀ j, j < k → inCode m ((y :: en).getD j 0) = true)) (fun i => 1 + n - (intOf i).toNat)
    case atStart => exact ⟨0, by omega, rfl, fun j hj => absurd hj (by omega)⟩
    case round =>
      obtain ⟨k, hk, rfl, HG⟩ := hrel
      by_cases hkn : k < 1 + n
      · obtain ⟨b, o, rfl, hb, s0⟩ := I2.out.cell (k := k) hkn
        have hbb := Lib.hid (hplace.out k (by rw [hL.out]; exact hkn))
        have hnext : Hid (inCode m ((y :: en).getD k 0) = true → ∀ j, j < k + 1 → inCode m ((y :: en).getD j 0) = true) := Lib.hid (fun h0 j hj => by
          by_cases e : j = k
          · subst e; exact h0
          · exact HG.out j (by omega))
        rw [show (⟨x, y, en, co⟩ : Im).code.length = m from hlc.out] at hbb
        generalize (y :: en).getD k 0 = z at *
        have k1 : (k : Int) < ((1 + n : Nat) : Int) := by omega
        have k2 : (k : Int) ≤ 10 := by omega
        by_cases z0 : 0 ≤ z
        · by_cases z1 : z < m
          · have HN := Lib.hid (hnext.out (by unfold inCode; rw [decide_eq_true z0, decide_eq_true z1]; rfl))
            go_wp2_with fail
            go_round
            case rel => exact ⟨k + 1, by omega, by go_num, HN.out⟩
            case measure => simp [intOf]; omega
          · have hb1 := Lib.hid (hbb.out (by unfold inCode; rw [decide_eq_false z1, Bool.and_false]))
            go_wp2_with fail
            go_ret
            exact ⟨retb (by rw [hb1.out]), HB.out.trans (BB2.out.mono HB.out.size)⟩
        · have hb1 := Lib.hid (hbb.out (by unfold inCode; rw [decide_eq_false z0]; rfl))
          go_wp2_with fail
          go_ret
          exact ⟨retb (by rw [hb1.out]), HB.out.trans (BB2.out.mono HB.out.size)⟩
      · obtain rfl : k = 1 + n := by omega
        have e := Lib.hid (hcode.out (fun j hj => by rw [show (⟨x, y, en, co⟩ : Im).code.length = m from hlc.out]; exact HG.out j (by rw [← hL.out]; exact hj)))
        go_wp2_with fail
        refine (C1.out _ BB2.out).mono ?_
        rintro e' w5 ⟨rfl, hb5⟩
        go_wp2_with fail
        go_ret
        exact ⟨retb (by rw [e.out]), HB.out.trans ((BB2.out.trans (hb5.mono BB2.out.size)).mono HB.out.size)⟩
  · have hbad : Hid (right' ⟨x, y, en, co⟩ = false) := Lib.hid (right_size (sizes_no (fun h => hs ⟨h.1, h.2.1, by have := h.2.2.1; rw [hle.out] at this; exact this, by have := h.2.2.2.1; rw [hle.out] at this; exact this, by have := h.2.2.2.2; rw [hlc.out] at this; exact this⟩)))
    obtain h1 | ⟨h1, h2⟩ | ⟨h1, h2, h3⟩ | ⟨h1, h2, h3, h4⟩ | ⟨h1, h2, h3, h4, h5⟩ : x < 0 ∨ (¬ x < 0 ∧ 64 < x) ∨ (¬ x < 0 ∧ ¬ 64 < x ∧ decide ((n : Int) < 1) = true) ∨ (¬ x < 0 ∧ ¬ 64 < x ∧ decide ((n : Int) < 1) = false ∧ decide (4 < (n : Int)) = true) ∨ (¬ x < 0 ∧ ¬ 64 < x ∧ decide ((n : Int) < 1) = false ∧ decide (4 < (n : Int)) = false ∧ decide (20000 < (m : Int)) = true) := by simp; omega
    all_goals
      clear hs
      go_enter Try.func21, Try.ntmps21
      go_upto_region 1 with (fail)
      rw [← HW.out]
      go_wp2_with fail
      go_ret
      exact ⟨retb (by rw [hbad.out]), HB.out⟩
end Go.Proofs.Ytkohichiojmakaa.ImR
