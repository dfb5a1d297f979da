/-
  WALK: the law ImageShort.
-/
import Derived.Test.YtkohichiojmakaaByteRB
import Derived.Test.YtkohichiojmakaaByteRead2
import Derived.Test.YtkohichiojmakaaImgJoin
namespace Go.Proofs.Ytkohichiojmakaa.ImZ
set_option linter.unusedVariables false
set_option linter.unusedSimpArgs false
open Go.RowKit Go.WideShapes Go.ChangeShapes Cm Mm Ow Ow2 Ow3 A64 A64W A64P Pat InW PatW Img ImC ImR ImN ImA ImJ ImW Byt ByW ByR ByS ByF ByI

theorem agg_of {P : Program} {w : World} {r : Reach} {b : Nat} {t : TypeId} {v : Value} {fs : Array Field} (hs : P.underlying t = some (.struct fs)) (hv : Value.okWide P w r b t v) : ∃ l : List Value, v = .agg l.toArray := by
  obtain ⟨cs, rfl, _⟩ := okWide_struct hs hv
  exact ⟨cs.toList, by simp⟩
set_option maxRecDepth 100000 in
theorem open_ints0 {H : Type} {enc : TypeId × Value → H} {w : World} {b : Nat} {sp : Nat → Bool} {hd : Bool} {fuel : Nat} {cs : List Value} {y : DataW H × List MemPlace}
    (h : DataW.trod enc Try.prog w b sp hd fuel 25 cs = some y) : ∃ A n cap l, cs = [.slice A n cap] ∧ IsI w A n cap l := by
  obtain ⟨A, n, cap, l, hcs, hl, hsl, _, _⟩ := open_sl (α := Int) 0 (fun z => [.int .i64 z]) (fun _ => True) 1 Try.underlying25 (by kernel_rfl) (by decide) (fun m cs y hy => by
    obtain ⟨z0, e0, _, h0⟩ := DataW.trod_int Try.underlying3 hy
    exact ⟨z0, e0, trivial⟩) h
  exact ⟨A, n, cap, l, hcs, hl, hsl⟩
set_option maxRecDepth 100000 in
theorem open_image {H : Type} {enc : TypeId × Value → H} {w : World} {v : Value} {d : DataW H} {p : List MemPlace} {r : Reach} {b0 : Nat}
    (h : DataW.Trod enc Try.prog w 0 (fun _ => true) true 27 v d p) (hok : Value.okWide Try.prog w r b0 27 v) :
    ∃ x y E n ec C m cc en co, v = .agg #[.int .i64 x, .int .i64 y, .slice E n ec, .slice C m cc] ∧ IsI w E n ec en ∧ IsWd w C m cc co := by
  obtain ⟨l', rfl⟩ := agg_of Try.underlying27 hok
  obtain ⟨fuel, hf⟩ := h
  obtain ⟨hlen, hg⟩ := struct_cells Try.underlying27 (by kernel_rfl) (by kernel_rfl) hf
  have hc : (Value.agg l'.toArray).cells.toList = l' := by simp [Value.cells]
  rw [hc] at hlen hg
  match l', hlen with
  | [u0, u1, u2, u3], _ =>
    obtain ⟨_, _, g0⟩ := hg 0 _ rfl
    obtain ⟨_, _, g1⟩ := hg 1 _ rfl
    obtain ⟨_, _, g2⟩ := hg 2 _ rfl
    obtain ⟨_, _, g3⟩ := hg 3 _ rfl
    obtain ⟨z0, e0, _, h0⟩ := DataW.trod_int Try.underlying3 g0
    obtain ⟨z1, e1, _, h1⟩ := DataW.trod_int Try.underlying3 g1
    obtain ⟨E, n, ec, en, e2, hE⟩ := open_ints0 g2
    obtain ⟨C, m, cc, co, e3, hC⟩ := open_words0 g3
    simp at e0 e1 e2 e3
    subst e0 e1 e2 e3
    exact ⟨z0, z1, E, n, ec, C, m, cc, en, co, rfl, hE, hC⟩

set_option maxRecDepth 20000 in
set_option maxHeartbeats 6400000 in
theorem walk {H : Type} {enc : TypeId × Value → H} {d0 : DataW H} {P0 : List MemPlace} {rc : Reach} {b0 : Nat} {p1 : Prop} (v0 : Value) (k : Int) (w : World)
    (k0 : DataW.Trod enc Try.prog w 0 (fun _ => true) true 27 v0 d0 P0) (ok0 : Value.okWide Try.prog w rc b0 27 v0) (_ : p1) :
    Calls Try.prog 11 #[v0, .int .i64 k] w fun e w' => e = .returned (.bool true) ∧ Below w.heap.size w w' := by
  obtain ⟨x, y, E, n, ec, C, m, cc, en, co, rfl, hE, hC⟩ := open_image k0 ok0
  clear k0 ok0
  have hle := Lib.hid hE.1
  have hlc := Lib.hid hC.1
  obtain ⟨W, hW⟩ : ∃ W, W = w.alloc (.cells #[.int .i64 x, .int .i64 y, .slice E n ec, .slice C m cc] 27) := ⟨_, rfl⟩
  have hB : Below w.heap.size w W := by rw [hW]; exact (Below.refl _ _).alloc (Nat.le_refl _) _
  have HX : Hid (Xm W w.heap.size x y (.slice E n ec) (.slice C m cc)) := Lib.hid (by rw [hW]; exact xm_new _ _ _ _ _ _ _ rfl)
  have HE := Lib.hid (hE.keep hB)
  have HC := Lib.hid (hC.keep hB)
  have HW := Lib.hid hW
  have HB := Lib.hid hB
  clear hW hB hE hC
  go_enter Try.func11, Try.ntmps11
  go_upto_region 1 with (fail)
  rw [← HW.out]
  go_wp2_with fail
  refine (alive_any W).mono ?_
  rintro e w1 ⟨rfl, hb1⟩
  have B1 := Lib.hid (HB.out.trans (hb1.mono HB.out.size))
  have X1 := Lib.hid (HX.out.keep hb1)
  have E1 := Lib.hid (HE.out.keep hb1)
  have C1 := Lib.hid (HC.out.keep hb1)
  obtain ⟨q0, q1, q2, q3, qf⟩ := X1.out
  clear hb1 qf
  go_wp2_with fail
  refine (rbytes_any x y E C n ec m cc en co w1 E1.out C1.out).mono ?_
  rintro e w2 ⟨A2, m2, c2, rfl, hown2, hb2⟩
  have B2 := Lib.hid (B1.out.trans (hb2.mono B1.out.size))
  have X2 := Lib.hid (X1.out.keep hb2)
  clear q0 q1 q2 q3
  obtain ⟨q0, q1, q2, q3, qf⟩ := X2.out
  clear qf hb2
  cases hrt : right' ⟨x, y, en, co⟩
  · have heq : rbytes ⟨x, y, en, co⟩ = ([], 1) := by unfold rbytes; rw [hrt]; rfl
    rw [heq] at hown2 ⊢
    clear hown2 heq
    go_wp2_with fail
    go_ret
    exact ⟨rfl, B2.out⟩
  · have heq : rbytes ⟨x, y, en, co⟩ = (bytesI ⟨x, y, en, co⟩, 0) := by unfold rbytes; rw [hrt]; rfl
    rw [heq] at hown2 ⊢
    have hbl := bytes_len hrt
    have hri := right_in hrt
    have hsz := hri.1
    unfold sizes at hsz
    simp only [Bool.and_eq_true, decide_eq_true_eq] at hsz
    have hn4 : n ≤ 4 := by have := hsz.1.2; rwa [hle.out] at this
    rw [show (⟨x, y, en, co⟩ : Im).entry.length = n from hle.out, show (⟨x, y, en, co⟩ : Im).code.length = m from hlc.out] at hbl
    obtain ⟨f1, f2, f3⟩ := full hrt
    have hS : Hid (∀ j, j < (bytesI ⟨x, y, en, co⟩).length → readI ((bytesI ⟨x, y, en, co⟩).take j) = (zeroIm, 9)) := Lib.hid (fun j hj => read_short hj (by rw [f3]) (by rw [f3]) (by rw [f1]))
    have hM : Hid (readI (bytesI ⟨x, y, en, co⟩ ++ [0#8]) = (zeroIm, 2)) := Lib.hid (read_more (by rw [f3]) (by rw [f1]))
    have hl2 : (bytesI ⟨x, y, en, co⟩).length = m2 := by simpa using hown2.len
    generalize bytesI ⟨x, y, en, co⟩ = L at *
    have O2 := Lib.hid hown2
    have I2 := Lib.hid (isB_own hown2)
    have HL2 := Lib.hid hl2
    have hm2 : m2 = 13 + 4 * n + 4 * m := by rw [← hl2, hbl]
    clear hown2 heq hri hsz f1 f2 f3 hbl hl2 hrt
    by_cases hin : m ≤ 300 ∧ 0 ≤ k ∧ k < m2
    · obtain ⟨i1, i2, i3⟩ := hin
      obtain ⟨j, rfl⟩ := Int.eq_ofNat_of_zero_le i2
      have hj : j < m2 := by omega
      have t1 : decide (300 < (m : Int)) = false := by simp; omega
      have t2 : ¬ (m2 : Int) ≤ j := by omega
      have hm3 : m2 ≤ 1300 := by omega
      have hcp := I2.out.2.le
      have hcm := I2.out.2.cap_le
      obtain ⟨g2, rfl⟩ := own_head O2.out (by omega)
      have j1 : (j : Int) ≤ (c2 : Int) := by omega
      have j2 : j ≤ c2 := by omega
      have hR1 := Lib.hid (hS.out j (by rw [HL2.out]; exact hj))
      have lrows := Lib.hid (bv_range L m2 HL2.out)
      clear hm2
      go_wp2_with fail
      refine (read_any (some ⟨g2, 0, none⟩) j c2 (L.take j) w2 (I2.out.take (by omega)) (by omega)).mono ?_
      rw [hR1.out]
      rintro e w3 ⟨E3, n3, ec3, C3, m3, cc3, rfl, _, _, hb3⟩
      have B3 := Lib.hid (B2.out.trans (hb3.mono B2.out.size))
      have I3 := Lib.hid (I2.out.keep hb3)
      clear hb3
      obtain ⟨W4, hW4⟩ : ∃ W4, w3.alloc (.cells #[.int .i64 zeroIm.words, .int .i64 zeroIm.start, .slice E3 n3 ec3, .slice C3 m3 cc3] 27) = W4 := ⟨_, rfl⟩
      have BA : Below w3.heap.size w3 W4 := by rw [← hW4]; exact below_al _ _
      have B4 := Lib.hid (B3.out.trans (BA.mono B3.out.size))
      have I4 := Lib.hid (I3.out.keep BA)
      have HW4 := Lib.hid hW4
      clear BA hW4
      go_upto_region 6 with (fail)
      rw [HW4.out]
      go_wp2_with (at_builtin; first | (refine wpList_app _ rfl _ _ rfl elB W4.heap.size none 0 0 [] rfl (Own.nil _ _ _ _) (some ⟨g2, 0, none⟩) m2 c2 (fun i => bvL (L.getD i 0)) rfl I4.out.2 (fun _ _ => rfl) (fun i _ => by intro u hu; simp [bvL] at hu; subst hu; rfl) (by unfold maxLen; omega) (by omega) (Nat.le_refl _) ?_; intro A5 c5 w5 hown5 hg5 hat5; rw [lrows.out, List.nil_append] at hown5; rw [Nat.zero_add] at hown5 ⊢; have O5 := Lib.hid hown5; have BB5 : Hid (Below W4.heap.size W4 w5) := Lib.hid ((Below.refl _ _).grown hg5 (Nat.le_refl _) (fun k hk => by cases hk)); clear hown5 hg5 hat5) | (refine Ow2.wpList_appN _ rfl _ _ rfl elB W4.heap.size A5 m2 c5 1 w5.heap.size _ [bvL 0#8] rfl rfl O5.out rfl rfl (fun y hy => by simp at hy; subst hy; rfl) (fun y hy u hu => by simp at hy; subst hy; simp [bvL] at hu; subst hu; rfl) (by unfold maxLen; omega) (by omega) BB5.out.size _ rfl ?_; intro A6 c6 w6 hown6 hbel6 hkp6 hat6; have I6 := Lib.hid (isB_own (l := L ++ [0#8]) (by rw [List.map_append]; exact hown6)); have B6 := Lib.hid (B4.out.trans ((BB5.out.trans hbel6).mono B4.out.size)); clear hown6 hbel6 hkp6 hat6))
      refine (read_any A6 (m2 + 1) c6 (L ++ [0#8]) w6 I6.out (by omega)).mono ?_
      rw [hM.out]
      rintro e w7 ⟨E7, n7, ec7, C7, m7, cc7, rfl, _, _, hb7⟩
      have B7 := Lib.hid (B6.out.trans (hb7.mono B6.out.size))
      clear hb7
      obtain ⟨W8, hW8⟩ : ∃ W8, w7.alloc (.cells #[.int .i64 zeroIm.words, .int .i64 zeroIm.start, .slice E7 n7 ec7, .slice C7 m7 cc7] 27) = W8 := ⟨_, rfl⟩
      have B8 : Hid (Below w.heap.size w W8) := Lib.hid (by rw [← hW8]; exact B7.out.alloc B7.out.size _)
      have HW8 := Lib.hid hW8
      clear hW8
      go_upto_region 7 with (fail)
      rw [HW8.out]
      go_wp2_with fail
      refine (ImA.num_any 9 W8).mono ?_
      rintro e w9 ⟨rfl, rfl⟩
      go_wp2_with fail
      refine (ImA.num_any 2 W8).mono ?_
      rintro e w9 ⟨rfl, rfl⟩
      go_wp2_with fail
      go_ret
      exact ⟨rfl, B8.out⟩
    · clear hm2
      obtain h1 | ⟨h1, h2⟩ | ⟨h1, h2, h3⟩ : decide (300 < (m : Int)) = true ∨ (decide (300 < (m : Int)) = false ∧ k < 0) ∨ (decide (300 < (m : Int)) = false ∧ ¬ k < 0 ∧ (m2 : Int) ≤ k) := by simp; omega
      all_goals
        clear hin
        go_wp2_with fail
        go_ret
        exact ⟨rfl, B2.out⟩
end Go.Proofs.Ytkohichiojmakaa.ImZ
