/-
  WALK: image.Read, at all bytes.
-/
import Derived.Test.YtkohichiojmakaaByteRead
namespace Go.Proofs.Ytkohichiojmakaa.ByS
set_option linter.unusedVariables false
set_option linter.unusedSimpArgs false
open Go.RowKit Cm Mm Ow Ow2 Ow3 A64 A64W Pat InW PatW Img ImC ImR ImN ImA ImW Byt ByW ByR

theorem w64 {x : Nat} (h : x < 4294967296) : wrap64 (x : Int) = x := by
  have : IntKind.i64.wrap (x : Int) = x := IntWalk.i64_in _ ⟨by omega, by omega⟩
  first | exact this | (rw [← this]; rfl) | (unfold wrap64; omega)
theorem wds_len_le (q : Rs) (k : Nat) : (wds q k).1.length ≤ k := by
  unfold wds; split
  · rw [wdsTo_len]; exact Nat.le_refl _
  · simp
theorem head_cmp (t : List (BitVec 8)) : ((strB t).toList == [67, 70, 68]) = decide (t = magic) := by
  have e : (strB t).toList = t.map UInt8.ofBitVec := by
    rw [ByteArray.toList_eq]; simp [strB]
  rw [e]
  by_cases h : t = magic
  · subst h; rfl
  · rw [decide_eq_false h, beq_eq_false_iff_ne]
    intro h2
    have h3 := congrArg (List.map UInt8.toBitVec) h2
    rw [ofB] at h3
    exact h h3

set_option maxRecDepth 20000 in
set_option maxHeartbeats 6400000 in
theorem read_any (A : Option Addr) (n cap : Nat) (l : List (BitVec 8)) (w : World) (h : IsB w A n cap l) (hn : n ≤ 65536) :
    Calls Try.prog 22 #[.slice A n cap] w (GaveIm w (readI l)) := by
  obtain ⟨W, hW⟩ : ∃ W, W = (w.alloc (.cells #[.int .i64 0, .int .i64 0, .slice none 0 0, .slice none 0 0] 27)).alloc (.cells #[.slice A n cap, .bool false] 108) := ⟨_, rfl⟩
  have hB : Below w.heap.size w W := by rw [hW]; exact ((Below.refl _ _).alloc (Nat.le_refl _) _).alloc (by simp) _
  have hz : W.heap.size = w.heap.size + 2 := by rw [hW]; simp
  have e1 : (w.alloc (.cells #[.int .i64 0, .int .i64 0, .slice none 0 0, .slice none 0 0] 27)).heap.size = w.heap.size + 1 := by simp
  have hA0 : Hid (0 < n → ∀ g, A.map (·.block) = some g → g < w.heap.size) := Lib.hid (fun h0 g hg => by
    obtain ⟨b, o, e, hb, _⟩ := h.2.at_ h0
    rw [e] at hg
    obtain rfl : b = g := by simpa using hg
    exact hb)
  have HR : Hid (RB W (w.heap.size + 1) ⟨l, false⟩ A n cap) := Lib.hid (by
    refine ⟨?_, ?_, ?_, h.keep hB, fun h0 e => by have := hA0.out h0 _ e; omega⟩
    · rw [hW, ← e1]; exact World.cell?_alloc_new _ _ _ 0
    · rw [hW, ← e1]; exact World.cell?_alloc_new _ _ _ 1
    · intro o; rw [hW, ← e1]; simp)
  have HZ : Hid (Zi W w.heap.size) := Lib.hid (by rw [hW]; exact (zi_new w w.heap.size _ rfl).same (Below.heap_alloc _ _ _ (by simp)))
  have HW := Lib.hid hW
  have HB := Lib.hid hB
  clear hW e1 h hB
  go_enter Try.func22, Try.ntmps22
  go_upto_region 2 with (fail)
  rw [← HW.out]
  go_wp2_with fail
  have T := Lib.hid (take_any (w.heap.size + 1) 3 ⟨l, false⟩ A n cap W HR.out (by omega) (by omega) hn)
  refine T.out.mono ?_
  rintro e w2 ⟨A1, n1, c1, A2, n2, c2, rfl, hI1, hR2, hn2, _, hal, hsub, hnone⟩
  have hcv := conv_any hI1 hnone
  have s2 := hR2.s
  have HI1 := Lib.hid hI1
  have HR2 := Lib.hid hR2
  have HA2 := Lib.hid hal
  have HS2 := Lib.hid hsub
  have HN2 := Lib.hid hn2
  have hgh : Hid (gH l = tk ⟨l, false⟩ 3) := Lib.hid rfl
  clear hI1 hR2 hal hsub hn2 hnone T
  obtain ⟨G, hG⟩ : ∃ G, tk ⟨l, false⟩ 3 = G := ⟨_, rfl⟩
  rw [hG] at hcv s2 HI1 HR2 hgh
  clear hG
  obtain ⟨t, ⟨ql, qs⟩⟩ := G
  dsimp only at hcv s2
  have hcase : qs = true ∨ (qs = false ∧ t = magic) ∨ (qs = false ∧ t ≠ magic) := by cases qs <;> simp; exact Decidable.em _
  rcases hcase with rfl | ⟨rfl, hm0⟩ | ⟨rfl, hm0⟩
  · have hgo : Hid ((!(gH l).2.s && (gH l).1 != magic) = false) := Lib.hid (by rw [hgh.out]; rfl)
    go_wp2_with fail
    have hgw : gW l = nb ⟨ql, true⟩ 1 := by rw [gW_eq, hgh.out]
    refine (number_any (w.heap.size + 1) 1 ⟨ql, true⟩ A2 n2 c2 w2 HR2.out (by omega) (by omega) (by have := HN2.out; omega)).mono ?_
    rintro e w3 ⟨A3, n3, c3, rfl, hR3, hn3, hal3, hsub3⟩
    rw [← hgw] at hR3 ⊢
    have z3 : w3.heap.size = w.heap.size + 2 := hal3.size.trans (HA2.out.size.trans hz)
    obtain ⟨xw, hxw⟩ : ∃ xw, (gW l).1.toNat = xw := ⟨_, rfl⟩
    have w_xw : wrap64 (xw : Int) = xw := w64 (by rw [← hxw]; exact (gW l).1.isLt)
    rw [hxw]
    obtain ⟨W4, hW4⟩ : ∃ W4, w3.alloc (.cells #[.int .i64 (xw : Int), .int .i64 0, .slice none 0 0, .slice none 0 0] 27) = W4 := ⟨_, rfl⟩
    have hsame : ∀ b, b < w3.heap.size → W4.heap[b]? = w3.heap[b]? := fun b hb => by rw [← hW4]; exact Below.heap_alloc _ _ _ hb
    have S4 : Hid (RSt w W4 xw 0 none 0 0 [] (.slice none 0 0) (gW l).2 A n A3 n3 c3) := Lib.hid
      ⟨by rw [← hW4]; exact xm_new _ _ _ _ _ _ _ z3, Own.nil _ _ _ _, (HZ.out.same ((HA2.out.trans hal3).same w.heap.size (by omega))).same (hsame _ (by omega)),
        rb_blk hR3 (by rw [← hW4]; simp) (hsame _ (by omega)) (fun h0 g hg => hsame g (hR3.blk h0 hg)), by have := HN2.out; omega, fun g hg => HS2.out g (hsub3 g hg),
        by rw [← hW4]; exact (HB.out.trans ((HA2.out.trans hal3).below w.heap.size (by omega))).alloc (by omega) _⟩
    have HW4 := Lib.hid hW4
    have HXW := Lib.hid hxw
    clear hR3 hn3 hal3 hsub3 hsame hW4 hgw hxw s2 hcv
    go_wp2_with fail
    rw [HW4.out]
    refine (number_any (w.heap.size + 1) 1 (gW l).2 A3 n3 c3 W4 S4.out.R (by omega) (by omega) (by have := S4.out.nle; omega)).mono ?_
    rintro e w5 ⟨A5, n5, c5, rfl, hR5, hn5, hal5, hsub5⟩
    rw [← gE_eq] at hR5 ⊢
    have S5 := Lib.hid (S4.out.be (al_be hal5) hR5 hn5 hsub5)
    obtain ⟨xe, hxe⟩ : ∃ xe, (gE l).1.toNat = xe := ⟨_, rfl⟩
    rw [hxe]
    have HXE := Lib.hid hxe
    have he32 : xe < 4294967296 := by rw [← hxe]; exact (gE l).1.isLt
    have w_xe : wrap64 (xe : Int) = xe := w64 he32
    clear hR5 hn5 hal5 hsub5 hxe z3
    go_wp2_with fail
    refine (word_any (w.heap.size + 1) (gE l).2 A5 n5 c5 w5 S5.out.R (by have := S5.out.nle; omega)).mono ?_
    rintro e w6 ⟨A6, n6, c6, rfl, hR6, hn6, hal6, hsub6⟩
    rw [← gS_eq] at hR6 ⊢
    have S6 := Lib.hid (S5.out.be (al_be hal6) hR6 hn6 hsub6)
    obtain ⟨xs, hxs⟩ : ∃ xs, (gS l).1.toNat = xs := ⟨_, rfl⟩
    have w_xs : wrap64 (xs : Int) = xs := w64 (by rw [← hxs]; exact (gS l).1.isLt)
    rw [hxs]
    have HXS := Lib.hid hxs
    have S7 := Lib.hid (S6.out.set1 hA0.out xs)
    have q1 := S6.out.X.c1
    have q2 := S6.out.X.fr 1
    clear hR6 hn6 hal6 hsub6 hxs
    go_wp2_with fail
    generalize w6.setCell ⟨w.heap.size + 2, 1, none⟩ (.int .i64 (xs : Int)) = W7 at *
    clear q1 q2
    refine (words_any (w.heap.size + 1) xe (gS l).2 A6 n6 c6 W7 S7.out.R (by have := S7.out.nle; omega)).mono ?_
    rintro e w8 ⟨A8, c8, B8, n8, d8, rfl, hown8, hR8, hn8, hbe8, hsub8⟩
    have hges : gEs l = wds (gS l).2 xe := by rw [gEs_eq, HXE.out]
    rw [← hges] at hown8 hR8 ⊢
    have S8 := Lib.hid (S7.out.be hbe8 hR8 hn8 hsub8)
    have O8 := Lib.hid hown8
    have hb7 : Hid (w.heap.size + 2 < W7.heap.size) := Lib.hid S7.out.X.lt
    obtain ⟨es, hes⟩ : ∃ es, (gEs l).1 = es := ⟨_, rfl⟩
    rw [hes] at O8 ⊢
    have HES := Lib.hid hes
    have hm : es.length ≤ 4294967296 := by rw [← hes, hges]; exact Nat.le_trans (wds_len_le _ _) (by omega)
    clear hown8 hR8 hn8 hbe8 hsub8 hges hes
    go_wp2_with fail
    go_loopw [41] (fun i wr => ∃ (j ec : Nat) (E : Option Addr), j ≤ es.length ∧ i = .int .i64 j ∧ RSt w wr xw xs E j ec ((es.take j).map fun x => (x.toNat : Int)) (.slice none 0 0) (gEs l).2 A n B8 n8 d8 ∧ Own wr W7.heap.size 55 1 A8 es.length c8 (es.map wvL)) (fun i _ => es.length - (intOf i).toNat)
    case atStart => exact ⟨0, 0, none, by omega, rfl, S8.out, O8.out⟩
    case round =>
      obtain ⟨j, ec, E, hj, rfl, hSt, hO⟩ := hrel
      have HSt := Lib.hid hSt
      have HO := Lib.hid hO
      clear hSt hO
      by_cases hjm : j < es.length
      · obtain ⟨b, o, rfl, hb, v0⟩ := (isWd_own HO.out).cell (k := j) hjm
        have htk : Hid ((es.take (j + 1)).map (fun x => (x.toNat : Int)) = (es.take j).map (fun x => (x.toNat : Int)) ++ [((es.getD j 0).toNat : Int)]) := Lib.hid (by
          rw [List.take_succ_eq_append_getElem hjm, List.map_append]; simp [List.getD, hjm])
        generalize es.getD j 0 = v at *
        have w_v : wrap64 (v.toNat : Int) = v.toNat := w64 v.isLt
        have k1 : (j : Int) < es.length := by omega
        have k2 : (j : Int) ≤ 4294967296 := by omega
        obtain ⟨x0, x1, x2, x3, xf⟩ := HSt.out.X
        clear xf
        go_wp2_with (at_builtin; refine Ow2.wpList_appN _ rfl _ _ rfl elI (w.heap.size + 3) E j ec 1 wr.heap.size _ [ivL (v.toNat : Int)] rfl rfl HSt.out.OE rfl rfl (fun y hy => by simp at hy; subst hy; rfl) (fun y hy u hu => by simp at hy; subst hy; simp [ivL] at hu; subst hu; rfl) (by unfold maxLen; omega) (by omega) (by have := HSt.out.X.lt; omega) _ rfl ?_; intro A9 c9 w9 hown9 hbel9 hkp9 hat9; have E9 := Lib.hid (HSt.out.ent hA0.out hown9 hbel9 hkp9); obtain ⟨y0, y1, y2, y3, yf⟩ := E9.out.1; have yf2 := yf 2; have O9 : Hid (Own (w9.setCell ⟨w.heap.size + 2, 2, none⟩ (.slice A9 (j + 1) c9)) W7.heap.size 55 1 (some ⟨b, o, none⟩) es.length c8 (es.map wvL)) := Lib.hid (own_other (own_same HO.out (fun g hg => hkp9 g (HO.out.lt g hg).2 (own_ne HO.out HSt.out.OE (by decide) hg))) (fun e => by have h1 : W7.heap.size ≤ w.heap.size + 2 := (HO.out.lt _ e).1; have := hb7.out; omega) _); clear yf hown9 hbel9 hkp9 hat9)
        go_roundw
        case rel => exact ⟨j + 1, c9, A9, by omega, by go_num, by rw [htk.out]; exact E9.out.2, O9.out⟩
        case measure => simp [intOf]; omega
      · obtain rfl : j = es.length := by omega
        have hSt := HSt.out
        rw [List.take_length] at hSt
        have HSt := Lib.hid hSt
        clear hSt
        go_wp2_with fail
        refine (word_any (w.heap.size + 1) (gEs l).2 B8 n8 d8 wr HSt.out.R (by have := HSt.out.nle; omega)).mono ?_
        rintro e w9 ⟨A9, n9, c9, rfl, hR9, hn9, hal9, hsub9⟩
        rw [← gK_eq] at hR9 ⊢
        have S9 := Lib.hid (HSt.out.be (al_be hal9) hR9 hn9 hsub9)
        obtain ⟨xk, hxk⟩ : ∃ xk, (gK l).1.toNat = xk := ⟨_, rfl⟩
        have w_xk : wrap64 (xk : Int) = xk := w64 (by rw [← hxk]; exact (gK l).1.isLt)
        rw [hxk]
        have HXK := Lib.hid hxk
        clear hR9 hn9 hal9 hsub9 hxk
        go_wp2_with fail
        refine (words_any (w.heap.size + 1) xk (gK l).2 A9 n9 c9 w9 S9.out.R (by have := S9.out.nle; omega)).mono ?_
        rintro e wa ⟨Aa, ca, Ba, na, da, rfl, howna, hRa, hna, hbea, hsuba⟩
        have hgc : gC l = wds (gK l).2 xk := by rw [gC_eq, HXK.out]
        rw [← hgc] at howna hRa ⊢
        have Sa := Lib.hid (S9.out.be hbea hRa hna hsuba)
        obtain ⟨cs, hcs⟩ : ∃ cs, (gC l).1 = cs := ⟨_, rfl⟩
        rw [hcs] at howna ⊢
        have HCS := Lib.hid hcs
        have q1 := Sa.out.X.c3
        have q2 := Sa.out.X.fr 3
        have Sb := Lib.hid (Sa.out.set3 hA0.out (.slice Aa cs.length ca))
        have Ob := Lib.hid (own_other howna (a := ⟨w.heap.size + 2, 3, none⟩) (fun e => by have h1 : w9.heap.size ≤ w.heap.size + 2 := (howna.lt _ e).1; have := S9.out.X.lt; omega) (.slice Aa cs.length ca))
        have sb := Sb.out.R.s
        have sl := Sb.out.R.b
        have hnl : Hid ((gC l).2.l.length = na) := Lib.hid Sb.out.R.l.1
        have him : Hid (imOf l = ⟨xw, xs, es.map (fun x => (x.toNat : Int)), cs⟩) := Lib.hid (by unfold imOf; rw [HXW.out, HXS.out, HES.out, HCS.out])
        obtain ⟨z0, z1, z2, z3, zf⟩ := Sb.out.Z
        have zf0 := zf 0; have zf1 := zf 1; have zf2 := zf 2; have zf3 := zf 3
        clear howna hRa hna hbea hsuba hgc hcs zf
        obtain ⟨Wb, hWb⟩ : ∃ Wb, wa.setCell ⟨w.heap.size + 2, 3, none⟩ (.slice Aa cs.length ca) = Wb := ⟨_, rfl⟩
        have HWb := Lib.hid hWb
        clear hWb
        have hrd : Hid (readI l = if (gC l).2.s then (zeroIm, 9) else if (decide (0 < (gC l).2.l.length) || !right' (imOf l)) then (zeroIm, 2) else (imOf l, 0)) := Lib.hid (by unfold readI; rw [hgo.out, if_neg Bool.false_ne_true])
        obtain ⟨cq, hcq⟩ : ∃ cq, (gC l).2 = cq := ⟨_, rfl⟩
        rw [hcq] at hrd hnl Sb sb
        clear hcq
        obtain ⟨cl, cs2⟩ := cq
        dsimp only at hrd hnl sb
        cases cs2
        · have hrd2 : Hid (readI l = if (decide (0 < na) || !right' ⟨xw, xs, es.map (fun x => (x.toNat : Int)), cs⟩) then (zeroIm, 2) else (⟨xw, xs, es.map (fun x => (x.toNat : Int)), cs⟩, 0)) := Lib.hid (by rw [hrd.out, if_neg Bool.false_ne_true, hnl.out, him.out])
          have IE := Lib.hid (isI_own Sb.out.OE)
          have IC := Lib.hid (isWd_own Ob.out)
          obtain ⟨b0, b1, b2, b3, bf⟩ := Sb.out.X
          clear bf
          by_cases hna0 : 0 < na
          · have heq : Hid (readI l = (zeroIm, 2)) := Lib.hid (by rw [hrd2.out, decide_eq_true hna0]; rfl)
            have hd : decide ((0 : Int) < (na : Int)) = true := by simp; omega
            go_wp2_with fail
            have hzz : Zi (((((wa.setCell ⟨w.heap.size + 2, 3, none⟩ (.slice Aa cs.length ca)).setCell ⟨w.heap.size, 0, none⟩ (.int .i64 0)).setCell ⟨w.heap.size, 1, none⟩ (.int .i64 0)).setCell ⟨w.heap.size, 2, none⟩ (.slice none 0 0)).setCell ⟨w.heap.size, 3, none⟩ (.slice none 0 0)) w.heap.size := Sb.out.Z.set0.set1.set2.set3
            have hbb := (((Sb.out.B.setCell (p := ⟨w.heap.size, 0, none⟩) (Nat.le_refl _) (.int .i64 0)).setCell (p := ⟨w.heap.size, 1, none⟩) (Nat.le_refl _) (.int .i64 0)).setCell (p := ⟨w.heap.size, 2, none⟩) (Nat.le_refl _) (.slice none 0 0)).setCell (p := ⟨w.heap.size, 3, none⟩) (Nat.le_refl _) (.slice none 0 0)
            obtain ⟨k0, k1, k2, k3, _⟩ := hzz
            refine bodyPost_ret (v := .tuple #[.agg #[.int .i64 0, .int .i64 0, .slice none 0 0, .slice none 0 0], .int .i64 2]) ?_ rfl ⟨none, 0, 0, none, 0, 0, by rw [heq.out]; rfl, by rw [heq.out]; exact isI_nil _, by rw [heq.out]; exact isWd_nil _, hbb⟩
            simp [results, Try.f22, go_sem, k0, k1, k2, k3]
          · have hd : decide ((0 : Int) < (na : Int)) = false := by simp; omega
            go_wp2_with fail
            refine (right_any xw xs E Aa es.length ec cs.length ca (es.map fun x => (x.toNat : Int)) cs _ IE.out IC.out).mono ?_
            rintro e wc ⟨rfl, hbc⟩
            have Bc := Lib.hid (Sb.out.B.trans (hbc.mono Sb.out.B.size))
            have hzc := Sb.out.Z.same (hbc.block w.heap.size (by have := Sb.out.X.lt; omega))
            have Zc := Lib.hid hzc
            have Xc := Lib.hid (Sb.out.X.keep hbc)
            have OEc := Lib.hid (Sb.out.OE.keep hbc)
            have Oc := Lib.hid (Ob.out.keep hbc)
            have hEs : Hid (E.map (·.block) ≠ some w.heap.size) := Lib.hid (fun e => by have := (Sb.out.OE.lt _ e).1; omega)
            have hCs : Hid (Aa.map (·.block) ≠ some w.heap.size) := Lib.hid (fun e => by have := (Ob.out.lt _ e).1; have := S9.out.X.lt; omega)
            clear hbc z0 z1 z2 z3 zf0 zf1 zf2 zf3 b0 b1 b2 b3 sb sl q1 q2
            obtain ⟨z0, z1, z2, z3, zf⟩ := hzc
            have zf0 := zf 0; have zf1 := zf 1; have zf2 := zf 2; have zf3 := zf 3
            obtain ⟨b0, b1, b2, b3, bf⟩ := Xc.out
            clear zf bf
            cases hrt : right' ⟨xw, xs, es.map (fun x => (x.toNat : Int)), cs⟩
            · have heq : Hid (readI l = (zeroIm, 2)) := Lib.hid (by rw [hrd2.out, hrt, if_pos (by simp)])
              go_wp2_with fail
              have hzz : Zi ((((wc.setCell ⟨w.heap.size, 0, none⟩ (.int .i64 0)).setCell ⟨w.heap.size, 1, none⟩ (.int .i64 0)).setCell ⟨w.heap.size, 2, none⟩ (.slice none 0 0)).setCell ⟨w.heap.size, 3, none⟩ (.slice none 0 0)) w.heap.size := Zc.out.set0.set1.set2.set3
              have hbb := (((Bc.out.setCell (p := ⟨w.heap.size, 0, none⟩) (Nat.le_refl _) (.int .i64 0)).setCell (p := ⟨w.heap.size, 1, none⟩) (Nat.le_refl _) (.int .i64 0)).setCell (p := ⟨w.heap.size, 2, none⟩) (Nat.le_refl _) (.slice none 0 0)).setCell (p := ⟨w.heap.size, 3, none⟩) (Nat.le_refl _) (.slice none 0 0)
              obtain ⟨k0, k1, k2, k3, _⟩ := hzz
              refine bodyPost_ret (v := .tuple #[.agg #[.int .i64 0, .int .i64 0, .slice none 0 0, .slice none 0 0], .int .i64 2]) ?_ rfl ⟨none, 0, 0, none, 0, 0, by rw [heq.out]; rfl, by rw [heq.out]; exact isI_nil _, by rw [heq.out]; exact isWd_nil _, hbb⟩
              simp [results, Try.f22, go_sem, k0, k1, k2, k3]
            · have heq : Hid (readI l = (⟨xw, xs, es.map (fun x => (x.toNat : Int)), cs⟩, 0)) := Lib.hid (by rw [hrd2.out, hrt, decide_eq_false hna0]; rfl)
              go_wp2_with fail
              have hz7 : Xm wc w.heap.size 0 0 (.slice none 0 0) (.slice none 0 0) := ⟨Zc.out.c0, Zc.out.c1, Zc.out.c2, Zc.out.c3, Zc.out.fr⟩
              have hfin := (((hz7.set0 xw).set1 xs).set2 (.slice E es.length ec)).set3 (.slice Aa cs.length ca)
              have hbel := (((Bc.out.setCell (p := ⟨w.heap.size, 0, none⟩) (Nat.le_refl _) (.int .i64 (xw : Int))).setCell (p := ⟨w.heap.size, 1, none⟩) (Nat.le_refl _) (.int .i64 (xs : Int))).setCell (p := ⟨w.heap.size, 2, none⟩) (Nat.le_refl _) (.slice E es.length ec)).setCell (p := ⟨w.heap.size, 3, none⟩) (Nat.le_refl _) (.slice Aa cs.length ca)
              have fE := isI_own (own_other (own_other (own_other (own_other OEc.out (a := ⟨w.heap.size, 0, none⟩) hEs.out (.int .i64 (xw : Int))) (a := ⟨w.heap.size, 1, none⟩) hEs.out (.int .i64 (xs : Int))) (a := ⟨w.heap.size, 2, none⟩) hEs.out (.slice E es.length ec)) (a := ⟨w.heap.size, 3, none⟩) hEs.out (.slice Aa cs.length ca))
              have fC := isWd_own (own_other (own_other (own_other (own_other Oc.out (a := ⟨w.heap.size, 0, none⟩) hCs.out (.int .i64 (xw : Int))) (a := ⟨w.heap.size, 1, none⟩) hCs.out (.int .i64 (xs : Int))) (a := ⟨w.heap.size, 2, none⟩) hCs.out (.slice E es.length ec)) (a := ⟨w.heap.size, 3, none⟩) hCs.out (.slice Aa cs.length ca))
              obtain ⟨k0, k1, k2, k3, _⟩ := hfin
              refine bodyPost_ret (v := .tuple #[.agg #[.int .i64 (xw : Int), .int .i64 (xs : Int), .slice E es.length ec, .slice Aa cs.length ca], .int .i64 0]) ?_ rfl ⟨E, es.length, ec, Aa, cs.length, ca, by rw [heq.out], by rw [heq.out]; exact fE, by rw [heq.out]; exact fC, hbel⟩
              simp [results, Try.f22, go_sem, k0, k1, k2, k3]
        · have heq : Hid (readI l = (zeroIm, 9)) := Lib.hid (by rw [hrd.out]; rfl)
          go_wp2_with fail
          have hzz : Zi (((((wa.setCell ⟨w.heap.size + 2, 3, none⟩ (.slice Aa cs.length ca)).setCell ⟨w.heap.size, 0, none⟩ (.int .i64 0)).setCell ⟨w.heap.size, 1, none⟩ (.int .i64 0)).setCell ⟨w.heap.size, 2, none⟩ (.slice none 0 0)).setCell ⟨w.heap.size, 3, none⟩ (.slice none 0 0)) w.heap.size := Sb.out.Z.set0.set1.set2.set3
          have hbb := (((Sb.out.B.setCell (p := ⟨w.heap.size, 0, none⟩) (Nat.le_refl _) (.int .i64 0)).setCell (p := ⟨w.heap.size, 1, none⟩) (Nat.le_refl _) (.int .i64 0)).setCell (p := ⟨w.heap.size, 2, none⟩) (Nat.le_refl _) (.slice none 0 0)).setCell (p := ⟨w.heap.size, 3, none⟩) (Nat.le_refl _) (.slice none 0 0)
          obtain ⟨k0, k1, k2, k3, _⟩ := hzz
          refine bodyPost_ret (v := .tuple #[.agg #[.int .i64 0, .int .i64 0, .slice none 0 0, .slice none 0 0], .int .i64 9]) ?_ rfl ⟨none, 0, 0, none, 0, 0, by rw [heq.out]; rfl, by rw [heq.out]; exact isI_nil _, by rw [heq.out]; exact isWd_nil _, hbb⟩
          simp [results, Try.f22, go_sem, k0, k1, k2, k3]
  · have hm2 : ((strB t).toList == [67, 70, 68]) = true := by rw [head_cmp, decide_eq_true hm0]
    have hgo : Hid ((!(gH l).2.s && (gH l).1 != magic) = false) := Lib.hid (by rw [hgh.out, hm0]; simp)
    clear hm0
    go_wp2_with fail
    have hgw : gW l = nb ⟨ql, false⟩ 1 := by rw [gW_eq, hgh.out]
    refine (number_any (w.heap.size + 1) 1 ⟨ql, false⟩ A2 n2 c2 w2 HR2.out (by omega) (by omega) (by have := HN2.out; omega)).mono ?_
    rintro e w3 ⟨A3, n3, c3, rfl, hR3, hn3, hal3, hsub3⟩
    rw [← hgw] at hR3 ⊢
    have z3 : w3.heap.size = w.heap.size + 2 := hal3.size.trans (HA2.out.size.trans hz)
    obtain ⟨xw, hxw⟩ : ∃ xw, (gW l).1.toNat = xw := ⟨_, rfl⟩
    have w_xw : wrap64 (xw : Int) = xw := w64 (by rw [← hxw]; exact (gW l).1.isLt)
    rw [hxw]
    obtain ⟨W4, hW4⟩ : ∃ W4, w3.alloc (.cells #[.int .i64 (xw : Int), .int .i64 0, .slice none 0 0, .slice none 0 0] 27) = W4 := ⟨_, rfl⟩
    have hsame : ∀ b, b < w3.heap.size → W4.heap[b]? = w3.heap[b]? := fun b hb => by rw [← hW4]; exact Below.heap_alloc _ _ _ hb
    have S4 : Hid (RSt w W4 xw 0 none 0 0 [] (.slice none 0 0) (gW l).2 A n A3 n3 c3) := Lib.hid
      ⟨by rw [← hW4]; exact xm_new _ _ _ _ _ _ _ z3, Own.nil _ _ _ _, (HZ.out.same ((HA2.out.trans hal3).same w.heap.size (by omega))).same (hsame _ (by omega)),
        rb_blk hR3 (by rw [← hW4]; simp) (hsame _ (by omega)) (fun h0 g hg => hsame g (hR3.blk h0 hg)), by have := HN2.out; omega, fun g hg => HS2.out g (hsub3 g hg),
        by rw [← hW4]; exact (HB.out.trans ((HA2.out.trans hal3).below w.heap.size (by omega))).alloc (by omega) _⟩
    have HW4 := Lib.hid hW4
    have HXW := Lib.hid hxw
    clear hR3 hn3 hal3 hsub3 hsame hW4 hgw hxw s2 hcv
    go_wp2_with fail
    rw [HW4.out]
    refine (number_any (w.heap.size + 1) 1 (gW l).2 A3 n3 c3 W4 S4.out.R (by omega) (by omega) (by have := S4.out.nle; omega)).mono ?_
    rintro e w5 ⟨A5, n5, c5, rfl, hR5, hn5, hal5, hsub5⟩
    rw [← gE_eq] at hR5 ⊢
    have S5 := Lib.hid (S4.out.be (al_be hal5) hR5 hn5 hsub5)
    obtain ⟨xe, hxe⟩ : ∃ xe, (gE l).1.toNat = xe := ⟨_, rfl⟩
    rw [hxe]
    have HXE := Lib.hid hxe
    have he32 : xe < 4294967296 := by rw [← hxe]; exact (gE l).1.isLt
    have w_xe : wrap64 (xe : Int) = xe := w64 he32
    clear hR5 hn5 hal5 hsub5 hxe z3
    go_wp2_with fail
    refine (word_any (w.heap.size + 1) (gE l).2 A5 n5 c5 w5 S5.out.R (by have := S5.out.nle; omega)).mono ?_
    rintro e w6 ⟨A6, n6, c6, rfl, hR6, hn6, hal6, hsub6⟩
    rw [← gS_eq] at hR6 ⊢
    have S6 := Lib.hid (S5.out.be (al_be hal6) hR6 hn6 hsub6)
    obtain ⟨xs, hxs⟩ : ∃ xs, (gS l).1.toNat = xs := ⟨_, rfl⟩
    have w_xs : wrap64 (xs : Int) = xs := w64 (by rw [← hxs]; exact (gS l).1.isLt)
    rw [hxs]
    have HXS := Lib.hid hxs
    have S7 := Lib.hid (S6.out.set1 hA0.out xs)
    have q1 := S6.out.X.c1
    have q2 := S6.out.X.fr 1
    clear hR6 hn6 hal6 hsub6 hxs
    go_wp2_with fail
    generalize w6.setCell ⟨w.heap.size + 2, 1, none⟩ (.int .i64 (xs : Int)) = W7 at *
    clear q1 q2
    refine (words_any (w.heap.size + 1) xe (gS l).2 A6 n6 c6 W7 S7.out.R (by have := S7.out.nle; omega)).mono ?_
    rintro e w8 ⟨A8, c8, B8, n8, d8, rfl, hown8, hR8, hn8, hbe8, hsub8⟩
    have hges : gEs l = wds (gS l).2 xe := by rw [gEs_eq, HXE.out]
    rw [← hges] at hown8 hR8 ⊢
    have S8 := Lib.hid (S7.out.be hbe8 hR8 hn8 hsub8)
    have O8 := Lib.hid hown8
    have hb7 : Hid (w.heap.size + 2 < W7.heap.size) := Lib.hid S7.out.X.lt
    obtain ⟨es, hes⟩ : ∃ es, (gEs l).1 = es := ⟨_, rfl⟩
    rw [hes] at O8 ⊢
    have HES := Lib.hid hes
    have hm : es.length ≤ 4294967296 := by rw [← hes, hges]; exact Nat.le_trans (wds_len_le _ _) (by omega)
    clear hown8 hR8 hn8 hbe8 hsub8 hges hes
    go_wp2_with fail
    go_loopw [41] (fun i wr => ∃ (j ec : Nat) (E : Option Addr), j ≤ es.length ∧ i = .int .i64 j ∧ RSt w wr xw xs E j ec ((es.take j).map fun x => (x.toNat : Int)) (.slice none 0 0) (gEs l).2 A n B8 n8 d8 ∧ Own wr W7.heap.size 55 1 A8 es.length c8 (es.map wvL)) (fun i _ => es.length - (intOf i).toNat)
    case atStart => exact ⟨0, 0, none, by omega, rfl, S8.out, O8.out⟩
    case round =>
      obtain ⟨j, ec, E, hj, rfl, hSt, hO⟩ := hrel
      have HSt := Lib.hid hSt
      have HO := Lib.hid hO
      clear hSt hO
      by_cases hjm : j < es.length
      · obtain ⟨b, o, rfl, hb, v0⟩ := (isWd_own HO.out).cell (k := j) hjm
        have htk : Hid ((es.take (j + 1)).map (fun x => (x.toNat : Int)) = (es.take j).map (fun x => (x.toNat : Int)) ++ [((es.getD j 0).toNat : Int)]) := Lib.hid (by
          rw [List.take_succ_eq_append_getElem hjm, List.map_append]; simp [List.getD, hjm])
        generalize es.getD j 0 = v at *
        have w_v : wrap64 (v.toNat : Int) = v.toNat := w64 v.isLt
        have k1 : (j : Int) < es.length := by omega
        have k2 : (j : Int) ≤ 4294967296 := by omega
        obtain ⟨x0, x1, x2, x3, xf⟩ := HSt.out.X
        clear xf
        go_wp2_with (at_builtin; refine Ow2.wpList_appN _ rfl _ _ rfl elI (w.heap.size + 3) E j ec 1 wr.heap.size _ [ivL (v.toNat : Int)] rfl rfl HSt.out.OE rfl rfl (fun y hy => by simp at hy; subst hy; rfl) (fun y hy u hu => by simp at hy; subst hy; simp [ivL] at hu; subst hu; rfl) (by unfold maxLen; omega) (by omega) (by have := HSt.out.X.lt; omega) _ rfl ?_; intro A9 c9 w9 hown9 hbel9 hkp9 hat9; have E9 := Lib.hid (HSt.out.ent hA0.out hown9 hbel9 hkp9); obtain ⟨y0, y1, y2, y3, yf⟩ := E9.out.1; have yf2 := yf 2; have O9 : Hid (Own (w9.setCell ⟨w.heap.size + 2, 2, none⟩ (.slice A9 (j + 1) c9)) W7.heap.size 55 1 (some ⟨b, o, none⟩) es.length c8 (es.map wvL)) := Lib.hid (own_other (own_same HO.out (fun g hg => hkp9 g (HO.out.lt g hg).2 (own_ne HO.out HSt.out.OE (by decide) hg))) (fun e => by have h1 : W7.heap.size ≤ w.heap.size + 2 := (HO.out.lt _ e).1; have := hb7.out; omega) _); clear yf hown9 hbel9 hkp9 hat9)
        go_roundw
        case rel => exact ⟨j + 1, c9, A9, by omega, by go_num, by rw [htk.out]; exact E9.out.2, O9.out⟩
        case measure => simp [intOf]; omega
      · obtain rfl : j = es.length := by omega
        have hSt := HSt.out
        rw [List.take_length] at hSt
        have HSt := Lib.hid hSt
        clear hSt
        go_wp2_with fail
        refine (word_any (w.heap.size + 1) (gEs l).2 B8 n8 d8 wr HSt.out.R (by have := HSt.out.nle; omega)).mono ?_
        rintro e w9 ⟨A9, n9, c9, rfl, hR9, hn9, hal9, hsub9⟩
        rw [← gK_eq] at hR9 ⊢
        have S9 := Lib.hid (HSt.out.be (al_be hal9) hR9 hn9 hsub9)
        obtain ⟨xk, hxk⟩ : ∃ xk, (gK l).1.toNat = xk := ⟨_, rfl⟩
        have w_xk : wrap64 (xk : Int) = xk := w64 (by rw [← hxk]; exact (gK l).1.isLt)
        rw [hxk]
        have HXK := Lib.hid hxk
        clear hR9 hn9 hal9 hsub9 hxk
        go_wp2_with fail
        refine (words_any (w.heap.size + 1) xk (gK l).2 A9 n9 c9 w9 S9.out.R (by have := S9.out.nle; omega)).mono ?_
        rintro e wa ⟨Aa, ca, Ba, na, da, rfl, howna, hRa, hna, hbea, hsuba⟩
        have hgc : gC l = wds (gK l).2 xk := by rw [gC_eq, HXK.out]
        rw [← hgc] at howna hRa ⊢
        have Sa := Lib.hid (S9.out.be hbea hRa hna hsuba)
        obtain ⟨cs, hcs⟩ : ∃ cs, (gC l).1 = cs := ⟨_, rfl⟩
        rw [hcs] at howna ⊢
        have HCS := Lib.hid hcs
        have q1 := Sa.out.X.c3
        have q2 := Sa.out.X.fr 3
        have Sb := Lib.hid (Sa.out.set3 hA0.out (.slice Aa cs.length ca))
        have Ob := Lib.hid (own_other howna (a := ⟨w.heap.size + 2, 3, none⟩) (fun e => by have h1 : w9.heap.size ≤ w.heap.size + 2 := (howna.lt _ e).1; have := S9.out.X.lt; omega) (.slice Aa cs.length ca))
        have sb := Sb.out.R.s
        have sl := Sb.out.R.b
        have hnl : Hid ((gC l).2.l.length = na) := Lib.hid Sb.out.R.l.1
        have him : Hid (imOf l = ⟨xw, xs, es.map (fun x => (x.toNat : Int)), cs⟩) := Lib.hid (by unfold imOf; rw [HXW.out, HXS.out, HES.out, HCS.out])
        obtain ⟨z0, z1, z2, z3, zf⟩ := Sb.out.Z
        have zf0 := zf 0; have zf1 := zf 1; have zf2 := zf 2; have zf3 := zf 3
        clear howna hRa hna hbea hsuba hgc hcs zf
        obtain ⟨Wb, hWb⟩ : ∃ Wb, wa.setCell ⟨w.heap.size + 2, 3, none⟩ (.slice Aa cs.length ca) = Wb := ⟨_, rfl⟩
        have HWb := Lib.hid hWb
        clear hWb
        have hrd : Hid (readI l = if (gC l).2.s then (zeroIm, 9) else if (decide (0 < (gC l).2.l.length) || !right' (imOf l)) then (zeroIm, 2) else (imOf l, 0)) := Lib.hid (by unfold readI; rw [hgo.out, if_neg Bool.false_ne_true])
        obtain ⟨cq, hcq⟩ : ∃ cq, (gC l).2 = cq := ⟨_, rfl⟩
        rw [hcq] at hrd hnl Sb sb
        clear hcq
        obtain ⟨cl, cs2⟩ := cq
        dsimp only at hrd hnl sb
        cases cs2
        · have hrd2 : Hid (readI l = if (decide (0 < na) || !right' ⟨xw, xs, es.map (fun x => (x.toNat : Int)), cs⟩) then (zeroIm, 2) else (⟨xw, xs, es.map (fun x => (x.toNat : Int)), cs⟩, 0)) := Lib.hid (by rw [hrd.out, if_neg Bool.false_ne_true, hnl.out, him.out])
          have IE := Lib.hid (isI_own Sb.out.OE)
          have IC := Lib.hid (isWd_own Ob.out)
          obtain ⟨b0, b1, b2, b3, bf⟩ := Sb.out.X
          clear bf
          by_cases hna0 : 0 < na
          · have heq : Hid (readI l = (zeroIm, 2)) := Lib.hid (by rw [hrd2.out, decide_eq_true hna0]; rfl)
            have hd : decide ((0 : Int) < (na : Int)) = true := by simp; omega
            go_wp2_with fail
            have hzz : Zi (((((wa.setCell ⟨w.heap.size + 2, 3, none⟩ (.slice Aa cs.length ca)).setCell ⟨w.heap.size, 0, none⟩ (.int .i64 0)).setCell ⟨w.heap.size, 1, none⟩ (.int .i64 0)).setCell ⟨w.heap.size, 2, none⟩ (.slice none 0 0)).setCell ⟨w.heap.size, 3, none⟩ (.slice none 0 0)) w.heap.size := Sb.out.Z.set0.set1.set2.set3
            have hbb := (((Sb.out.B.setCell (p := ⟨w.heap.size, 0, none⟩) (Nat.le_refl _) (.int .i64 0)).setCell (p := ⟨w.heap.size, 1, none⟩) (Nat.le_refl _) (.int .i64 0)).setCell (p := ⟨w.heap.size, 2, none⟩) (Nat.le_refl _) (.slice none 0 0)).setCell (p := ⟨w.heap.size, 3, none⟩) (Nat.le_refl _) (.slice none 0 0)
            obtain ⟨k0, k1, k2, k3, _⟩ := hzz
            refine bodyPost_ret (v := .tuple #[.agg #[.int .i64 0, .int .i64 0, .slice none 0 0, .slice none 0 0], .int .i64 2]) ?_ rfl ⟨none, 0, 0, none, 0, 0, by rw [heq.out]; rfl, by rw [heq.out]; exact isI_nil _, by rw [heq.out]; exact isWd_nil _, hbb⟩
            simp [results, Try.f22, go_sem, k0, k1, k2, k3]
          · have hd : decide ((0 : Int) < (na : Int)) = false := by simp; omega
            go_wp2_with fail
            refine (right_any xw xs E Aa es.length ec cs.length ca (es.map fun x => (x.toNat : Int)) cs _ IE.out IC.out).mono ?_
            rintro e wc ⟨rfl, hbc⟩
            have Bc := Lib.hid (Sb.out.B.trans (hbc.mono Sb.out.B.size))
            have hzc := Sb.out.Z.same (hbc.block w.heap.size (by have := Sb.out.X.lt; omega))
            have Zc := Lib.hid hzc
            have Xc := Lib.hid (Sb.out.X.keep hbc)
            have OEc := Lib.hid (Sb.out.OE.keep hbc)
            have Oc := Lib.hid (Ob.out.keep hbc)
            have hEs : Hid (E.map (·.block) ≠ some w.heap.size) := Lib.hid (fun e => by have := (Sb.out.OE.lt _ e).1; omega)
            have hCs : Hid (Aa.map (·.block) ≠ some w.heap.size) := Lib.hid (fun e => by have := (Ob.out.lt _ e).1; have := S9.out.X.lt; omega)
            clear hbc z0 z1 z2 z3 zf0 zf1 zf2 zf3 b0 b1 b2 b3 sb sl q1 q2
            obtain ⟨z0, z1, z2, z3, zf⟩ := hzc
            have zf0 := zf 0; have zf1 := zf 1; have zf2 := zf 2; have zf3 := zf 3
            obtain ⟨b0, b1, b2, b3, bf⟩ := Xc.out
            clear zf bf
            cases hrt : right' ⟨xw, xs, es.map (fun x => (x.toNat : Int)), cs⟩
            · have heq : Hid (readI l = (zeroIm, 2)) := Lib.hid (by rw [hrd2.out, hrt, if_pos (by simp)])
              go_wp2_with fail
              have hzz : Zi ((((wc.setCell ⟨w.heap.size, 0, none⟩ (.int .i64 0)).setCell ⟨w.heap.size, 1, none⟩ (.int .i64 0)).setCell ⟨w.heap.size, 2, none⟩ (.slice none 0 0)).setCell ⟨w.heap.size, 3, none⟩ (.slice none 0 0)) w.heap.size := Zc.out.set0.set1.set2.set3
              have hbb := (((Bc.out.setCell (p := ⟨w.heap.size, 0, none⟩) (Nat.le_refl _) (.int .i64 0)).setCell (p := ⟨w.heap.size, 1, none⟩) (Nat.le_refl _) (.int .i64 0)).setCell (p := ⟨w.heap.size, 2, none⟩) (Nat.le_refl _) (.slice none 0 0)).setCell (p := ⟨w.heap.size, 3, none⟩) (Nat.le_refl _) (.slice none 0 0)
              obtain ⟨k0, k1, k2, k3, _⟩ := hzz
              refine bodyPost_ret (v := .tuple #[.agg #[.int .i64 0, .int .i64 0, .slice none 0 0, .slice none 0 0], .int .i64 2]) ?_ rfl ⟨none, 0, 0, none, 0, 0, by rw [heq.out]; rfl, by rw [heq.out]; exact isI_nil _, by rw [heq.out]; exact isWd_nil _, hbb⟩
              simp [results, Try.f22, go_sem, k0, k1, k2, k3]
            · have heq : Hid (readI l = (⟨xw, xs, es.map (fun x => (x.toNat : Int)), cs⟩, 0)) := Lib.hid (by rw [hrd2.out, hrt, decide_eq_false hna0]; rfl)
              go_wp2_with fail
              have hz7 : Xm wc w.heap.size 0 0 (.slice none 0 0) (.slice none 0 0) := ⟨Zc.out.c0, Zc.out.c1, Zc.out.c2, Zc.out.c3, Zc.out.fr⟩
              have hfin := (((hz7.set0 xw).set1 xs).set2 (.slice E es.length ec)).set3 (.slice Aa cs.length ca)
              have hbel := (((Bc.out.setCell (p := ⟨w.heap.size, 0, none⟩) (Nat.le_refl _) (.int .i64 (xw : Int))).setCell (p := ⟨w.heap.size, 1, none⟩) (Nat.le_refl _) (.int .i64 (xs : Int))).setCell (p := ⟨w.heap.size, 2, none⟩) (Nat.le_refl _) (.slice E es.length ec)).setCell (p := ⟨w.heap.size, 3, none⟩) (Nat.le_refl _) (.slice Aa cs.length ca)
              have fE := isI_own (own_other (own_other (own_other (own_other OEc.out (a := ⟨w.heap.size, 0, none⟩) hEs.out (.int .i64 (xw : Int))) (a := ⟨w.heap.size, 1, none⟩) hEs.out (.int .i64 (xs : Int))) (a := ⟨w.heap.size, 2, none⟩) hEs.out (.slice E es.length ec)) (a := ⟨w.heap.size, 3, none⟩) hEs.out (.slice Aa cs.length ca))
              have fC := isWd_own (own_other (own_other (own_other (own_other Oc.out (a := ⟨w.heap.size, 0, none⟩) hCs.out (.int .i64 (xw : Int))) (a := ⟨w.heap.size, 1, none⟩) hCs.out (.int .i64 (xs : Int))) (a := ⟨w.heap.size, 2, none⟩) hCs.out (.slice E es.length ec)) (a := ⟨w.heap.size, 3, none⟩) hCs.out (.slice Aa cs.length ca))
              obtain ⟨k0, k1, k2, k3, _⟩ := hfin
              refine bodyPost_ret (v := .tuple #[.agg #[.int .i64 (xw : Int), .int .i64 (xs : Int), .slice E es.length ec, .slice Aa cs.length ca], .int .i64 0]) ?_ rfl ⟨E, es.length, ec, Aa, cs.length, ca, by rw [heq.out], by rw [heq.out]; exact fE, by rw [heq.out]; exact fC, hbel⟩
              simp [results, Try.f22, go_sem, k0, k1, k2, k3]
        · have heq : Hid (readI l = (zeroIm, 9)) := Lib.hid (by rw [hrd.out]; rfl)
          go_wp2_with fail
          have hzz : Zi (((((wa.setCell ⟨w.heap.size + 2, 3, none⟩ (.slice Aa cs.length ca)).setCell ⟨w.heap.size, 0, none⟩ (.int .i64 0)).setCell ⟨w.heap.size, 1, none⟩ (.int .i64 0)).setCell ⟨w.heap.size, 2, none⟩ (.slice none 0 0)).setCell ⟨w.heap.size, 3, none⟩ (.slice none 0 0)) w.heap.size := Sb.out.Z.set0.set1.set2.set3
          have hbb := (((Sb.out.B.setCell (p := ⟨w.heap.size, 0, none⟩) (Nat.le_refl _) (.int .i64 0)).setCell (p := ⟨w.heap.size, 1, none⟩) (Nat.le_refl _) (.int .i64 0)).setCell (p := ⟨w.heap.size, 2, none⟩) (Nat.le_refl _) (.slice none 0 0)).setCell (p := ⟨w.heap.size, 3, none⟩) (Nat.le_refl _) (.slice none 0 0)
          obtain ⟨k0, k1, k2, k3, _⟩ := hzz
          refine bodyPost_ret (v := .tuple #[.agg #[.int .i64 0, .int .i64 0, .slice none 0 0, .slice none 0 0], .int .i64 9]) ?_ rfl ⟨none, 0, 0, none, 0, 0, by rw [heq.out]; rfl, by rw [heq.out]; exact isI_nil _, by rw [heq.out]; exact isWd_nil _, hbb⟩
          simp [results, Try.f22, go_sem, k0, k1, k2, k3]
  · have hm2 : ((strB t).toList == [67, 70, 68]) = false := by rw [head_cmp, decide_eq_false hm0]
    have heq : Hid (readI l = (zeroIm, 2)) := Lib.hid (by
      unfold readI
      rw [hgh.out, if_pos (by simp [hm0])])
    clear hm0
    have hZ2 := HZ.out.same (HA2.out.same w.heap.size (by omega))
    have hB2 := HB.out.trans (HA2.out.below w.heap.size (by omega))
    have HZ2 := Lib.hid hZ2
    obtain ⟨z0, z1, z2, z3, zf⟩ := hZ2
    have zf0 := zf 0; have zf1 := zf 1; have zf2 := zf 2; have zf3 := zf 3
    clear zf
    go_wp2_with fail
    have hzz : Zi ((((w2.setCell ⟨w.heap.size, 0, none⟩ (.int .i64 0)).setCell ⟨w.heap.size, 1, none⟩ (.int .i64 0)).setCell ⟨w.heap.size, 2, none⟩ (.slice none 0 0)).setCell ⟨w.heap.size, 3, none⟩ (.slice none 0 0)) w.heap.size := HZ2.out.set0.set1.set2.set3
    have hbb := (((hB2.setCell (p := ⟨w.heap.size, 0, none⟩) (Nat.le_refl _) (.int .i64 0)).setCell (p := ⟨w.heap.size, 1, none⟩) (Nat.le_refl _) (.int .i64 0)).setCell (p := ⟨w.heap.size, 2, none⟩) (Nat.le_refl _) (.slice none 0 0)).setCell (p := ⟨w.heap.size, 3, none⟩) (Nat.le_refl _) (.slice none 0 0)
    obtain ⟨k0, k1, k2, k3, _⟩ := hzz
    refine bodyPost_ret (v := .tuple #[.agg #[.int .i64 0, .int .i64 0, .slice none 0 0, .slice none 0 0], .int .i64 2]) ?_ rfl ⟨none, 0, 0, none, 0, 0, by rw [heq.out]; rfl, by rw [heq.out]; exact isI_nil _, by rw [heq.out]; exact isWd_nil _, hbb⟩
    simp [results, Try.f22, go_sem, k0, k1, k2, k3]
end Go.Proofs.Ytkohichiojmakaa.ByS
