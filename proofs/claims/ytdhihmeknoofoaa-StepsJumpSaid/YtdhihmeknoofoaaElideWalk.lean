/-
  WALK: elide.Code.
-/
import Derived.Test.YtdhihmeknoofoaaStFlush
namespace Go.Proofs.Ytdhihmeknoofoaa.ElW
set_option linter.unusedVariables false
set_option linter.unusedSimpArgs false
open Go.RowKit Cm Mm Ow Stp StW StC StM StF

/-- the slice that holds truths -/
def IsBo (w : World) (A : Option Addr) (n cap : Nat) (l : List Bool) : Prop := l.length = n ∧ Sl w A n cap 1 (fun i => [.bool (l.getD i false)])
theorem IsBo.keep {w w' : World} {A : Option Addr} {n cap : Nat} {l : List Bool} (h : IsBo w A n cap l) (hb : Below w.heap.size w w') : IsBo w' A n cap l := ⟨h.1, h.2.keep hb⟩
theorem IsBo.cell {w : World} {A : Option Addr} {n cap : Nat} {l : List Bool} (h : IsBo w A n cap l) {k : Nat} (hk : k < n) :
    ∃ b o, A = some ⟨b, o, none⟩ ∧ b < w.heap.size ∧ w.cell? ⟨b, o + k, none⟩ = some (.bool (l.getD k false)) := by
  obtain ⟨b, o, e, hb, hc⟩ := h.2.at_ (by omega)
  exact ⟨b, o, e, hb, by simpa using hc k hk 0 (by omega)⟩
theorem elide_next {sole : List Bool} {l L : List St} {i : Nat} {b : Bool} (h : i < l.length) (H : L ++ elide sole (l.drop i) = elide sole l) (hb : (bare sole (l.getD i zeroSt) && flw l i) = b) :
    (L ++ [l.getD i zeroSt]) ++ elide sole (l.drop (if b then i + 3 else i + 1)) = elide sole l := by
  rw [← H, elide_step sole h, hb]; simp
theorem bare_no3 {sole : List Bool} {s : St} (h : (s.kind == 3) = false) : bare sole s = false := by unfold bare; rw [h]; rfl
theorem bare_neg {sole : List Bool} {s : St} (h : ¬ 0 ≤ s.cell) : bare sole s = false := by unfold bare; rw [decide_eq_false (fun x => h x.1)]; simp
theorem bare_far {sole : List Bool} {s : St} (h : ¬ s.cell < sole.length) : bare sole s = false := by unfold bare; rw [decide_eq_false (fun x => h x.2)]; simp
theorem bare_in {sole : List Bool} {s : St} (h : (s.kind == 3) = true) (h0 : 0 ≤ s.cell) (h1 : s.cell < sole.length) : bare sole s = sole.getD s.cell.toNat false := by unfold bare; rw [h, decide_eq_true ⟨h0, h1⟩]; simp

set_option maxHeartbeats 3200000 in
theorem elide_any (x y : Int) (A As : Option Addr) (n cap ns cs : Nat) (l : List St) (sole : List Bool) (w : World) (h : IsSt w A n cap l) (hs : IsBo w As ns cs sole) (hn : n ≤ 65536) :
    Calls Try.prog 36 #[.agg #[.int .i64 x, .int .i64 y, .slice A n cap], .slice As ns cs] w (GaveC w x y (elide sole l)) := by
  have hl := Lib.hid h.1
  have hls := Lib.hid hs.1
  obtain ⟨W, hW⟩ : ∃ W, W = (w.alloc (.cells #[.int .i64 x, .int .i64 y, .slice A n cap] 24)).alloc (.cells #[.int .i64 0, .int .i64 0, .slice none 0 0] 24) := ⟨_, rfl⟩
  have hB : Below w.heap.size w W := by rw [hW]; go_grown
  have hWs : W.heap.size = w.heap.size + 1 + 1 := by rw [hW]; simp
  have hWl : w.heap.size + 1 < W.heap.size := by omega
  have hU : Vr W (w.heap.size + 1) 0 0 none 0 0 := by rw [hW]; exact vr_new _ _ _ _ _ _ _ _ (by simp)
  have hT : Vr W w.heap.size x y A n cap := by rw [hW]; exact (vr_new _ _ _ _ _ _ _ _ rfl).keep (below_al _ _)
  have HW := Lib.hid hW
  have HWs := Lib.hid hWs
  have HT := Lib.hid hT
  have HU := Lib.hid hU
  have hS := Lib.hid (h.keep hB)
  have hSo := Lib.hid (hs.keep hB)
  clear hWs hW h hs hU hT
  go_enter Try.func36, Try.ntmps36
  go_wp2
  go_loopw [5, 6] (fun v j wr => ∃ (i m c : Nat) (A' : Option Addr) (L : List St), i ≤ n ∧ m ≤ i ∧ j = .int .i64 i ∧ v = .slice A' m c ∧ Own wr W.heap.size 31 9 A' m c (L.map stL) ∧ Hid (L ++ elide sole (l.drop i) = elide sole l) ∧ Below W.heap.size W wr) (fun _ j _ => n - (intOf j).toNat)
  case atStart => exact ⟨0, 0, 0, none, [], by omega, by omega, rfl, rfl, Own.nil _ _ _ _, rfl, by rw [← HW.out]; exact Below.refl _ _⟩
  case round =>
    obtain ⟨i, m, c, A', L, hi, hm, rfl, rfl, hown, HL, hbel⟩ := hrel
    have hsz := hbel.size
    obtain ⟨t0, t1, t2, t3⟩ := HT.out.keep hbel
    by_cases hin : i < n
    · have hnx := Lib.hid (fun b => elide_next (b := b) (by have := hl.out; omega) HL.out)
      obtain ⟨b, o, rfl, hb, s0, s1, s2, s3, s4, s5, s6, s7, s8⟩ := (hS.out.keep hbel).cell (k := i) (by omega)
      generalize hc : l.getD i zeroSt = s at *
      clear hc
      have hrow := hown.lt
      have HO := Lib.hid hown; clear hown
      have HR := Lib.hid hrow; clear hrow
      have i1 : (i : Int) < n := by omega
      by_cases k3 : (s.kind == 3) = true
      · by_cases c0 : 0 ≤ s.cell
        · by_cases c1 : s.cell < ns
          · have hbi := bare_in (sole := sole) k3 c0 (by have := hls.out; omega)
            obtain ⟨bs, os, rfl, hbs, hso⟩ := hSo.out.cell (k := s.cell.toNat) (by omega)
            have hso := Lib.hid hso
            have hcs := hSo.out.2.le
            cases hg : sole.getD s.cell.toNat false
            · have hbare : bare sole s = false := hbi.trans hg
              have hbare := Lib.hid hbare
              clear hbi
              go_wp2_with (at_builtin; refine Ow2.wpList_appN _ rfl _ _ rfl elSt W.heap.size A' m c 1 (wr.heap.size + 1) _ [stL s] (by simp) rfl (HO.out.keep (below_al _ _)) rfl rfl (st_each [s]) (st_ones [s]) (by unfold maxLen; omega) (by omega) (by simp; omega) _ rfl ?_; intro A2 c2 w2 hown2 hbel2 hkp2 hat2; have hq2 := (Ow2.blk_same (hkp2 wr.heap.size (by simp) (fun e => by have := (HR.out _ e).2; omega))).1; have hb3 := Lib.hid (((hbel.alloc (by omega) _).trans hbel2)); obtain ⟨t0, t1, t2, t3⟩ := HT.out.keep hb3.out; have hso2 := (hb3.out.cell (p := ⟨bs, os + s.cell.toNat, none⟩) hbs).trans hso.out; rw [hg] at hso2; have hz2 := hbel2.size; simp at hz2; have HO2 := Lib.hid hown2; clear hown2 hkp2 hat2)
              have HX := Lib.hid (hnx.out false (by rw [hbare.out]; rfl))
              go_roundw
              case rel => exact ⟨i + 1, m + 1, c2, A2, L ++ [s], by omega, by omega, by go_num, rfl, by rw [List.map_append]; exact HO2.out, HX.out, hb3.out⟩
              case measure => simp [intOf]; omega
            · have hbare : bare sole s = true := hbi.trans hg
              have hbare := Lib.hid hbare
              clear hbi
              cases hf : flw l i
              · go_wp2_with (at_builtin; refine Ow2.wpList_appN _ rfl _ _ rfl elSt W.heap.size A' m c 1 (wr.heap.size + 1) _ [stL s] (by simp) rfl (HO.out.keep (below_al _ _)) rfl rfl (st_each [s]) (st_ones [s]) (by unfold maxLen; omega) (by omega) (by simp; omega) _ rfl ?_; intro A2 c2 w2 hown2 hbel2 hkp2 hat2; have hq2 := (Ow2.blk_same (hkp2 wr.heap.size (by simp) (fun e => by have := (HR.out _ e).2; omega))).1; have hb3 := Lib.hid (((hbel.alloc (by omega) _).trans hbel2)); obtain ⟨t0, t1, t2, t3⟩ := HT.out.keep hb3.out; have hso2 := (hb3.out.cell (p := ⟨bs, os + s.cell.toNat, none⟩) hbs).trans hso.out; rw [hg] at hso2; have hz2 := hbel2.size; simp at hz2; have HO2 := Lib.hid hown2; clear hown2 hkp2 hat2)
                refine (follows_any _ n cap i l _ (hS.out.keep hb3.out) hn (by omega)).mono ?_
                rintro e w4 ⟨rfl, hb4⟩
                have HO4 := Lib.hid (HO2.out.keep hb4)
                have hz4 := hb4.size
                have hb5 := Lib.hid (hb3.out.trans (hb4.mono (by omega)))
                rw [hf]
                go_wp2_with fail
                have HX := Lib.hid (hnx.out false (by rw [hf]; simp))
                go_roundw
                case rel => exact ⟨i + 1, m + 1, c2, A2, L ++ [s], by omega, by omega, by go_num, rfl, by rw [List.map_append]; exact HO4.out, HX.out, hb5.out⟩
                case measure => simp [intOf]; omega
              · go_wp2_with (at_builtin; refine Ow2.wpList_appN _ rfl _ _ rfl elSt W.heap.size A' m c 1 (wr.heap.size + 1) _ [stL s] (by simp) rfl (HO.out.keep (below_al _ _)) rfl rfl (st_each [s]) (st_ones [s]) (by unfold maxLen; omega) (by omega) (by simp; omega) _ rfl ?_; intro A2 c2 w2 hown2 hbel2 hkp2 hat2; have hq2 := (Ow2.blk_same (hkp2 wr.heap.size (by simp) (fun e => by have := (HR.out _ e).2; omega))).1; have hb3 := Lib.hid (((hbel.alloc (by omega) _).trans hbel2)); obtain ⟨t0, t1, t2, t3⟩ := HT.out.keep hb3.out; have hso2 := (hb3.out.cell (p := ⟨bs, os + s.cell.toNat, none⟩) hbs).trans hso.out; rw [hg] at hso2; have hz2 := hbel2.size; simp at hz2; have HO2 := Lib.hid hown2; clear hown2 hkp2 hat2)
                refine (follows_any _ n cap i l _ (hS.out.keep hb3.out) hn (by omega)).mono ?_
                rintro e w4 ⟨rfl, hb4⟩
                have HO4 := Lib.hid (HO2.out.keep hb4)
                have hz4 := hb4.size
                have hb5 := Lib.hid (hb3.out.trans (hb4.mono (by omega)))
                rw [hf]
                go_wp2_with fail
                have HX := Lib.hid (hnx.out true (by rw [hbare.out, hf]; rfl))
                have hlt := flw_lt hf
                have hlt2 : i + 2 < n := by have := hl.out; omega
                go_roundw
                case rel => exact ⟨i + 3, m + 1, c2, A2, L ++ [s], by omega, by omega, by go_num, rfl, by rw [List.map_append]; exact HO4.out, HX.out, hb5.out⟩
                case measure => simp [intOf]; omega
          · have hbare := Lib.hid (bare_far (sole := sole) (s := s) (by have := hls.out; omega))
            go_wp2_with (at_builtin; refine Ow2.wpList_appN _ rfl _ _ rfl elSt W.heap.size A' m c 1 (wr.heap.size + 1) _ [stL s] (by simp) rfl (HO.out.keep (below_al _ _)) rfl rfl (st_each [s]) (st_ones [s]) (by unfold maxLen; omega) (by omega) (by simp; omega) _ rfl ?_; intro A2 c2 w2 hown2 hbel2 hkp2 hat2; have hq2 := (Ow2.blk_same (hkp2 wr.heap.size (by simp) (fun e => by have := (HR.out _ e).2; omega))).1; have hb3 := Lib.hid (((hbel.alloc (by omega) _).trans hbel2)); obtain ⟨t0, t1, t2, t3⟩ := HT.out.keep hb3.out;  have hz2 := hbel2.size; simp at hz2; have HO2 := Lib.hid hown2; clear hown2 hkp2 hat2)
            have HX := Lib.hid (hnx.out false (by rw [hbare.out]; rfl))
            go_roundw
            case rel => exact ⟨i + 1, m + 1, c2, A2, L ++ [s], by omega, by omega, by go_num, rfl, by rw [List.map_append]; exact HO2.out, HX.out, hb3.out⟩
            case measure => simp [intOf]; omega
        · have hbare := Lib.hid (bare_neg (sole := sole) c0)
          go_wp2_with (at_builtin; refine Ow2.wpList_appN _ rfl _ _ rfl elSt W.heap.size A' m c 1 (wr.heap.size + 1) _ [stL s] (by simp) rfl (HO.out.keep (below_al _ _)) rfl rfl (st_each [s]) (st_ones [s]) (by unfold maxLen; omega) (by omega) (by simp; omega) _ rfl ?_; intro A2 c2 w2 hown2 hbel2 hkp2 hat2; have hq2 := (Ow2.blk_same (hkp2 wr.heap.size (by simp) (fun e => by have := (HR.out _ e).2; omega))).1; have hb3 := Lib.hid (((hbel.alloc (by omega) _).trans hbel2)); obtain ⟨t0, t1, t2, t3⟩ := HT.out.keep hb3.out;  have hz2 := hbel2.size; simp at hz2; have HO2 := Lib.hid hown2; clear hown2 hkp2 hat2)
          have HX := Lib.hid (hnx.out false (by rw [hbare.out]; rfl))
          go_roundw
          case rel => exact ⟨i + 1, m + 1, c2, A2, L ++ [s], by omega, by omega, by go_num, rfl, by rw [List.map_append]; exact HO2.out, HX.out, hb3.out⟩
          case measure => simp [intOf]; omega
      · have k3 : (s.kind == 3) = false := by simpa using k3
        have hbare := Lib.hid (bare_no3 (sole := sole) k3)
        go_wp2_with (at_builtin; refine Ow2.wpList_appN _ rfl _ _ rfl elSt W.heap.size A' m c 1 (wr.heap.size + 1) _ [stL s] (by simp) rfl (HO.out.keep (below_al _ _)) rfl rfl (st_each [s]) (st_ones [s]) (by unfold maxLen; omega) (by omega) (by simp; omega) _ rfl ?_; intro A2 c2 w2 hown2 hbel2 hkp2 hat2; have hq2 := (Ow2.blk_same (hkp2 wr.heap.size (by simp) (fun e => by have := (HR.out _ e).2; omega))).1; have hb3 := Lib.hid (((hbel.alloc (by omega) _).trans hbel2)); obtain ⟨t0, t1, t2, t3⟩ := HT.out.keep hb3.out;  have hz2 := hbel2.size; simp at hz2; have HO2 := Lib.hid hown2; clear hown2 hkp2 hat2)
        have HX := Lib.hid (hnx.out false (by rw [hbare.out]; rfl))
        go_roundw
        case rel => exact ⟨i + 1, m + 1, c2, A2, L ++ [s], by omega, by omega, by go_num, rfl, by rw [List.map_append]; exact HO2.out, HX.out, hb3.out⟩
        case measure => simp [intOf]; omega
    · obtain rfl : i = n := by omega
      have e : l.drop i = [] := by rw [List.drop_eq_nil_of_le]; have := hl.out; omega
      rw [e] at HL
      have HL : L = elide sole l := by have := HL.out; simpa [elide] using this
      subst HL
      have HO := Lib.hid hown; clear hown
      obtain ⟨r0, r1, r2, r3⟩ := HU.out.keep hbel
      clear e
      go_wp2
      refine bodyPost_ret (v := .agg #[.int .i64 x, .int .i64 y, .slice A' m c]) (by simp [results, Try.results36, go_sem, r0, r1, r2, r3]) rfl ?_
      exact ⟨A', m, c, rfl, (Ow2.own_set (Ow2.own_set (Ow2.own_set (Ow2.own_set HO.out (by show w.heap.size < W.heap.size; omega) _) (by show w.heap.size + 1 < W.heap.size; omega) _) (by show w.heap.size + 1 < W.heap.size; omega) _) (by show w.heap.size + 1 < W.heap.size; omega) _).low (by omega), ((((hB.trans (hbel.mono (by omega))).setCell (by simp) _).setCell (by simp) _).setCell (by simp) _).setCell (by simp) _⟩
end Go.Proofs.Ytdhihmeknoofoaa.ElW
