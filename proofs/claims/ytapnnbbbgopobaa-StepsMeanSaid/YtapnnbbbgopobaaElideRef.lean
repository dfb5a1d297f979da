/-
  WALK: the reference's Elide.
-/
import Derived.Test.YtapnnbbbgopobaaG03
set_option linter.unusedVariables false
set_option linter.unusedSimpArgs false
namespace Go.Proofs.Ytapnnbbbgopobaa.ElR
open Go.RowKit Cm Mm Ow Stp StW StC StM StF ElW
set_option maxHeartbeats 3200000 in
theorem relide_any (x y : Int) (A As : Option Addr) (n cap ns cs : Nat) (l : List St) (sole : List Bool) (w : World) (h : IsSt w A n cap l) (hs : IsBo w As ns cs sole) (hn : n ≤ 65536) :
    Calls Try.prog 9 #[.agg #[.int .i64 x, .int .i64 y, .slice A n cap], .slice As ns cs] w (GaveC w x y (elide sole l)) := by
  have hl := Lib.hid h.1
  have hls := Lib.hid hs.1
  obtain ⟨W, hW⟩ : ∃ W, W = ((w.alloc (.cells #[.int .i64 x, .int .i64 y, .slice A n cap] 34)).alloc (.cells #[.int .i64 0, .int .i64 0, .slice none 0 0] 34)).alloc (.cells #[.int .i64 x, .int .i64 y, .slice none 0 0] 34) := ⟨_, rfl⟩
  have hB : Below w.heap.size w W := by rw [hW]; go_grown
  have hWs : W.heap.size = w.heap.size + 1 + 1 + 1 := by rw [hW]; simp
  have hWl : w.heap.size + 1 + 1 < W.heap.size := by omega
  have hV : Vr W (w.heap.size + 1 + 1) x y none 0 0 := by rw [hW]; exact vr_new _ _ _ _ _ _ _ _ (by simp)
  have hU : Vr W (w.heap.size + 1) 0 0 none 0 0 := by rw [hW]; exact (vr_new _ _ _ _ _ _ _ _ (by simp)).keep (below_al _ _)
  have hT : Vr W w.heap.size x y A n cap := by rw [hW]; exact ((vr_new _ _ _ _ _ _ _ _ rfl).keep (below_al _ _)).keep (below_al _ _)
  have HW := Lib.hid hW
  have HWs := Lib.hid hWs
  have hS := Lib.hid h
  have hSo := Lib.hid hs
  have HT := Lib.hid hT
  have HU := Lib.hid hU
  have HV := Lib.hid hV
  clear hWs hW h hs hU hT hV
  go_enter Try.func9, Try.ntmps9
  go_wp2
  go_loopw [6] (fun j wr => ∃ (i m c : Nat) (A' : Option Addr) (L : List St), i ≤ n ∧ m ≤ i ∧ j = .int .i64 i ∧ Vr wr (w.heap.size + 1 + 1) x y A' m c ∧ Own wr W.heap.size 55 9 A' m c (L.map stL) ∧ Hid (L ++ elide sole (l.drop i) = elide sole l) ∧ Below (w.heap.size + 1 + 1) W wr) (fun j _ => n - (intOf j).toNat)
  case atStart => exact ⟨0, 0, 0, none, [], by omega, by omega, rfl, by rw [← HW.out]; exact HV.out, Own.nil _ _ _ _, rfl, by rw [← HW.out]; exact Below.refl _ _⟩
  case round =>
    obtain ⟨i, m, c, A', L, hi, hm, rfl, ⟨v0, v1, v2, v3⟩, hown, HL, hbel⟩ := hrel
    have hsz := hbel.size
    obtain ⟨t0, t1, t2, t3⟩ := HT.out.same (hbel.block _ (by omega))
    have hBw := Lib.hid (hB.trans (hbel.mono (by omega)))
    have hp3 : w.heap.size + 1 + 1 < wr.heap.size := World.block_lt_of_cell? wr _ v0
    have hp1 : w.heap.size < wr.heap.size := by omega
    have hn1 : ¬ (w.heap.size + 1 + 1 = wr.heap.size) := by omega
    have hn2 : ¬ (wr.heap.size = w.heap.size + 1 + 1) := by omega
    have hWz : W.heap.size ≤ wr.heap.size := by have := HWs.out; omega
    by_cases hin : i < n
    · have hnx := Lib.hid (fun b => elide_next (b := b) (by have := hl.out; omega) HL.out)
      obtain ⟨b, o, rfl, hb, s0, s1, s2, s3, s4, s5, s6, s7, s8⟩ := (hS.out.keep hBw.out).cell (k := i) (by omega)
      generalize hc : l.getD i zeroSt = s at *
      clear hc
      have hV1 := Lib.hid (Vr.keep ⟨v0, v1, v2, v3⟩ (below_al wr (.cells #[.int .i64 s.kind, .int .i64 s.d, .int .i64 s.a, .int .i64 s.b, .int .i64 s.c, .int .i64 s.to, .int .i64 s.cell, .int .u64 s.n, .int .u8 s.op] 55)))
      have v2' := hV1.out.c2
      have hrow := hown.lt
      have HO := Lib.hid hown; clear hown
      have HR := Lib.hid hrow; clear hrow
      have i1 : (i : Int) < n := by omega
      by_cases k3 : (s.kind == 3) = true
      · by_cases c0 : 0 ≤ s.cell
        · by_cases c1 : s.cell < ns
          · have hbi := bare_in (sole := sole) k3 c0 (by have := hls.out; omega)
            obtain ⟨bs, os, rfl, hbs, hso⟩ := hSo.out.cell (k := s.cell.toNat) (by omega)
            have hso := Lib.hid hso
            have hcs := hSo.out.2.le
            have hn3 : ¬ (w.heap.size + 1 + 1 = bs) := by omega
            have hn4 : ¬ (bs = w.heap.size + 1 + 1) := by omega
            cases hg : sole.getD s.cell.toNat false
            · have hbare : bare sole s = false := hbi.trans hg
              have hbare := Lib.hid hbare
              clear hbi
              go_wp2_with (at_builtin; refine Ow2.wpList_appN _ rfl _ _ rfl elSt W.heap.size A' m c 1 (wr.heap.size + 1) _ [stL s] (by simp) rfl (HO.out.keep (below_al _ _)) rfl rfl (st_each [s]) (st_ones [s]) (by unfold maxLen; omega) (by omega) (by simp; omega) _ rfl ?_; intro A2 c2 w2 hown2 hbel2 hkp2 hat2; have hq2 := (Ow2.blk_same (hkp2 wr.heap.size (by simp) (fun e => by have := (HR.out _ e).2; omega))).1; have hv := hV1.out.same (hkp2 (w.heap.size + 1 + 1) (by first | (simp; done) | (simp; omega)) (fun e => by have := (HR.out _ e).1; omega)); have vv2 := hv.c2; have vv3 := hv.fr; have hv := Lib.hid hv; have hb3 := Lib.hid ((hbel.alloc (by omega) _).trans (hbel2.mono (by omega))); obtain ⟨y0, y1, y2, y3⟩ := HT.out.same (hb3.out.block _ (by omega)); have hB2 := Lib.hid (hB.trans (hb3.out.mono (by omega))); have hso2 := (hB2.out.cell (p := ⟨bs, os + s.cell.toNat, none⟩) hbs).trans hso.out; rw [hg] at hso2; have hz2 := hbel2.size; simp at hz2; have HO2 := Lib.hid hown2; clear hown2 hkp2 hat2)
              have HX := Lib.hid (hnx.out false (by rw [hbare.out]; rfl))
              go_roundw
              case rel => exact ⟨i + 1, m + 1, c2, A2, L ++ [s], by omega, by omega, by go_num, hv.out.set _ _ _, by rw [List.map_append]; exact Ow2.own_set HO2.out (by show w.heap.size + 1 + 1 < W.heap.size; omega) _, HX.out, hb3.out.setCell (by simp) _⟩
              case measure => simp [intOf]; omega
            · have hbare : bare sole s = true := hbi.trans hg
              have hbare := Lib.hid hbare
              clear hbi
              cases hf : flw l i
              · go_wp2_with (at_builtin; refine Ow2.wpList_appN _ rfl _ _ rfl elSt W.heap.size A' m c 1 (wr.heap.size + 1) _ [stL s] (by simp) rfl (HO.out.keep (below_al _ _)) rfl rfl (st_each [s]) (st_ones [s]) (by unfold maxLen; omega) (by omega) (by simp; omega) _ rfl ?_; intro A2 c2 w2 hown2 hbel2 hkp2 hat2; have hq2 := (Ow2.blk_same (hkp2 wr.heap.size (by simp) (fun e => by have := (HR.out _ e).2; omega))).1; have hv := hV1.out.same (hkp2 (w.heap.size + 1 + 1) (by first | (simp; done) | (simp; omega)) (fun e => by have := (HR.out _ e).1; omega)); have vv2 := hv.c2; have vv3 := hv.fr; have hv := Lib.hid hv; have hb3 := Lib.hid ((hbel.alloc (by omega) _).trans (hbel2.mono (by omega))); obtain ⟨y0, y1, y2, y3⟩ := HT.out.same (hb3.out.block _ (by omega)); have hB2 := Lib.hid (hB.trans (hb3.out.mono (by omega))); have hso2 := (hB2.out.cell (p := ⟨bs, os + s.cell.toNat, none⟩) hbs).trans hso.out; rw [hg] at hso2; have hz2 := hbel2.size; simp at hz2; have HO2 := Lib.hid hown2; clear hown2 hkp2 hat2)
                obtain ⟨w5, hw5⟩ : ∃ w5, w5 = w2.setCell ⟨w.heap.size + 1 + 1, 2, none⟩ (.slice A2 (m + 1) c2) := ⟨_, rfl⟩
                rw [← hw5]
                have V5 : Vr w5 (w.heap.size + 1 + 1) x y A2 (m + 1) c2 := by rw [hw5]; exact Vr.set hv.out A2 (m + 1) c2
                have O5 := Lib.hid (show Own w5 W.heap.size 55 9 A2 (m + 1) c2 (L.map stL ++ [stL s]) by rw [hw5]; exact Ow2.own_set HO2.out (by show w.heap.size + 1 + 1 < W.heap.size; omega) _)
                have B5 := Lib.hid (show Below (w.heap.size + 1 + 1) W w5 by rw [hw5]; exact hb3.out.setCell (by simp) _)
                have hz5 : w2.heap.size ≤ w5.heap.size := by rw [hw5]; simp
                clear hw5 vv2 vv3
                refine (flushed_any _ n cap i l _ (hS.out.keep (hB.trans (B5.out.mono (by omega)))) hn (by omega)).mono ?_
                rintro e w4 ⟨rfl, hb4⟩
                have V4 := Lib.hid (V5.keep hb4)
                have HO4 := Lib.hid (O5.out.keep hb4)
                have hz4 := hb4.size
                have hb5 := Lib.hid (B5.out.trans (hb4.mono (by omega)))
                rw [hf]
                go_wp2_with fail
                have HX := Lib.hid (hnx.out false (by rw [hf]; simp))
                go_roundw
                case rel => exact ⟨i + 1, m + 1, c2, A2, L ++ [s], by omega, by omega, by go_num, V4.out, by rw [List.map_append]; exact HO4.out, HX.out, hb5.out⟩
                case measure => simp [intOf]; omega
              · go_wp2_with (at_builtin; refine Ow2.wpList_appN _ rfl _ _ rfl elSt W.heap.size A' m c 1 (wr.heap.size + 1) _ [stL s] (by simp) rfl (HO.out.keep (below_al _ _)) rfl rfl (st_each [s]) (st_ones [s]) (by unfold maxLen; omega) (by omega) (by simp; omega) _ rfl ?_; intro A2 c2 w2 hown2 hbel2 hkp2 hat2; have hq2 := (Ow2.blk_same (hkp2 wr.heap.size (by simp) (fun e => by have := (HR.out _ e).2; omega))).1; have hv := hV1.out.same (hkp2 (w.heap.size + 1 + 1) (by first | (simp; done) | (simp; omega)) (fun e => by have := (HR.out _ e).1; omega)); have vv2 := hv.c2; have vv3 := hv.fr; have hv := Lib.hid hv; have hb3 := Lib.hid ((hbel.alloc (by omega) _).trans (hbel2.mono (by omega))); obtain ⟨y0, y1, y2, y3⟩ := HT.out.same (hb3.out.block _ (by omega)); have hB2 := Lib.hid (hB.trans (hb3.out.mono (by omega))); have hso2 := (hB2.out.cell (p := ⟨bs, os + s.cell.toNat, none⟩) hbs).trans hso.out; rw [hg] at hso2; have hz2 := hbel2.size; simp at hz2; have HO2 := Lib.hid hown2; clear hown2 hkp2 hat2)
                obtain ⟨w5, hw5⟩ : ∃ w5, w5 = w2.setCell ⟨w.heap.size + 1 + 1, 2, none⟩ (.slice A2 (m + 1) c2) := ⟨_, rfl⟩
                rw [← hw5]
                have V5 : Vr w5 (w.heap.size + 1 + 1) x y A2 (m + 1) c2 := by rw [hw5]; exact Vr.set hv.out A2 (m + 1) c2
                have O5 := Lib.hid (show Own w5 W.heap.size 55 9 A2 (m + 1) c2 (L.map stL ++ [stL s]) by rw [hw5]; exact Ow2.own_set HO2.out (by show w.heap.size + 1 + 1 < W.heap.size; omega) _)
                have B5 := Lib.hid (show Below (w.heap.size + 1 + 1) W w5 by rw [hw5]; exact hb3.out.setCell (by simp) _)
                have hz5 : w2.heap.size ≤ w5.heap.size := by rw [hw5]; simp
                clear hw5 vv2 vv3
                refine (flushed_any _ n cap i l _ (hS.out.keep (hB.trans (B5.out.mono (by omega)))) hn (by omega)).mono ?_
                rintro e w4 ⟨rfl, hb4⟩
                have V4 := Lib.hid (V5.keep hb4)
                have HO4 := Lib.hid (O5.out.keep hb4)
                have hz4 := hb4.size
                have hb5 := Lib.hid (B5.out.trans (hb4.mono (by omega)))
                rw [hf]
                go_wp2_with fail
                have HX := Lib.hid (hnx.out true (by rw [hbare.out, hf]; rfl))
                have hlt := flw_lt hf
                have hlt2 : i + 2 < n := by have := hl.out; omega
                go_roundw
                case rel => exact ⟨i + 3, m + 1, c2, A2, L ++ [s], by omega, by omega, by go_num, V4.out, by rw [List.map_append]; exact HO4.out, HX.out, hb5.out⟩
                case measure => simp [intOf]; omega
          · have hbare := Lib.hid (bare_far (sole := sole) (s := s) (by have := hls.out; omega))
            go_wp2_with (at_builtin; refine Ow2.wpList_appN _ rfl _ _ rfl elSt W.heap.size A' m c 1 (wr.heap.size + 1) _ [stL s] (by simp) rfl (HO.out.keep (below_al _ _)) rfl rfl (st_each [s]) (st_ones [s]) (by unfold maxLen; omega) (by omega) (by simp; omega) _ rfl ?_; intro A2 c2 w2 hown2 hbel2 hkp2 hat2; have hq2 := (Ow2.blk_same (hkp2 wr.heap.size (by simp) (fun e => by have := (HR.out _ e).2; omega))).1; have hv := hV1.out.same (hkp2 (w.heap.size + 1 + 1) (by first | (simp; done) | (simp; omega)) (fun e => by have := (HR.out _ e).1; omega)); have vv2 := hv.c2; have vv3 := hv.fr; have hv := Lib.hid hv; have hb3 := Lib.hid ((hbel.alloc (by omega) _).trans (hbel2.mono (by omega))); obtain ⟨y0, y1, y2, y3⟩ := HT.out.same (hb3.out.block _ (by omega)); have hB2 := Lib.hid (hB.trans (hb3.out.mono (by omega)));  have hz2 := hbel2.size; simp at hz2; have HO2 := Lib.hid hown2; clear hown2 hkp2 hat2)
            have HX := Lib.hid (hnx.out false (by rw [hbare.out]; rfl))
            go_roundw
            case rel => exact ⟨i + 1, m + 1, c2, A2, L ++ [s], by omega, by omega, by go_num, hv.out.set _ _ _, by rw [List.map_append]; exact Ow2.own_set HO2.out (by show w.heap.size + 1 + 1 < W.heap.size; omega) _, HX.out, hb3.out.setCell (by simp) _⟩
            case measure => simp [intOf]; omega
        · have hbare := Lib.hid (bare_neg (sole := sole) c0)
          go_wp2_with (at_builtin; refine Ow2.wpList_appN _ rfl _ _ rfl elSt W.heap.size A' m c 1 (wr.heap.size + 1) _ [stL s] (by simp) rfl (HO.out.keep (below_al _ _)) rfl rfl (st_each [s]) (st_ones [s]) (by unfold maxLen; omega) (by omega) (by simp; omega) _ rfl ?_; intro A2 c2 w2 hown2 hbel2 hkp2 hat2; have hq2 := (Ow2.blk_same (hkp2 wr.heap.size (by simp) (fun e => by have := (HR.out _ e).2; omega))).1; have hv := hV1.out.same (hkp2 (w.heap.size + 1 + 1) (by first | (simp; done) | (simp; omega)) (fun e => by have := (HR.out _ e).1; omega)); have vv2 := hv.c2; have vv3 := hv.fr; have hv := Lib.hid hv; have hb3 := Lib.hid ((hbel.alloc (by omega) _).trans (hbel2.mono (by omega))); obtain ⟨y0, y1, y2, y3⟩ := HT.out.same (hb3.out.block _ (by omega)); have hB2 := Lib.hid (hB.trans (hb3.out.mono (by omega)));  have hz2 := hbel2.size; simp at hz2; have HO2 := Lib.hid hown2; clear hown2 hkp2 hat2)
          have HX := Lib.hid (hnx.out false (by rw [hbare.out]; rfl))
          go_roundw
          case rel => exact ⟨i + 1, m + 1, c2, A2, L ++ [s], by omega, by omega, by go_num, hv.out.set _ _ _, by rw [List.map_append]; exact Ow2.own_set HO2.out (by show w.heap.size + 1 + 1 < W.heap.size; omega) _, HX.out, hb3.out.setCell (by simp) _⟩
          case measure => simp [intOf]; omega
      · have k3 : (s.kind == 3) = false := by simpa using k3
        have hbare := Lib.hid (bare_no3 (sole := sole) k3)
        go_wp2_with (at_builtin; refine Ow2.wpList_appN _ rfl _ _ rfl elSt W.heap.size A' m c 1 (wr.heap.size + 1) _ [stL s] (by simp) rfl (HO.out.keep (below_al _ _)) rfl rfl (st_each [s]) (st_ones [s]) (by unfold maxLen; omega) (by omega) (by simp; omega) _ rfl ?_; intro A2 c2 w2 hown2 hbel2 hkp2 hat2; have hq2 := (Ow2.blk_same (hkp2 wr.heap.size (by simp) (fun e => by have := (HR.out _ e).2; omega))).1; have hv := hV1.out.same (hkp2 (w.heap.size + 1 + 1) (by first | (simp; done) | (simp; omega)) (fun e => by have := (HR.out _ e).1; omega)); have vv2 := hv.c2; have vv3 := hv.fr; have hv := Lib.hid hv; have hb3 := Lib.hid ((hbel.alloc (by omega) _).trans (hbel2.mono (by omega))); obtain ⟨y0, y1, y2, y3⟩ := HT.out.same (hb3.out.block _ (by omega)); have hB2 := Lib.hid (hB.trans (hb3.out.mono (by omega)));  have hz2 := hbel2.size; simp at hz2; have HO2 := Lib.hid hown2; clear hown2 hkp2 hat2)
        have HX := Lib.hid (hnx.out false (by rw [hbare.out]; rfl))
        go_roundw
        case rel => exact ⟨i + 1, m + 1, c2, A2, L ++ [s], by omega, by omega, by go_num, hv.out.set _ _ _, by rw [List.map_append]; exact Ow2.own_set HO2.out (by show w.heap.size + 1 + 1 < W.heap.size; omega) _, HX.out, hb3.out.setCell (by simp) _⟩
        case measure => simp [intOf]; omega
    · obtain rfl : i = n := by omega
      have e : l.drop i = [] := by rw [List.drop_eq_nil_of_le]; have := hl.out; omega
      rw [e] at HL
      have HL : L = elide sole l := by have := HL.out; simpa [elide] using this
      subst HL
      have HO := Lib.hid hown; clear hown
      obtain ⟨r0, r1, r2, r3⟩ := HU.out.same (hbel.block _ (by omega))
      clear e
      go_wp2
      refine bodyPost_ret (v := .agg #[.int .i64 x, .int .i64 y, .slice A' m c]) (by simp [results, Try.results9, go_sem, r0, r1, r2, r3]) rfl ?_
      exact ⟨A', m, c, rfl, (Ow2.own_set (Ow2.own_set (Ow2.own_set HO.out (by show w.heap.size + 1 < W.heap.size; omega) _) (by show w.heap.size + 1 < W.heap.size; omega) _) (by show w.heap.size + 1 < W.heap.size; omega) _).low (by omega), (((hB.trans (hbel.mono (by omega))).setCell (by simp) _).setCell (by simp) _).setCell (by simp) _⟩
end Go.Proofs.Ytapnnbbbgopobaa.ElR
