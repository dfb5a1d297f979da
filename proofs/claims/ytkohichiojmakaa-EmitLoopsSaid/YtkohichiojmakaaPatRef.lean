/-
  WALK: labels linked (chapter 21), by the document.
-/
import Derived.Test.YtkohichiojmakaaPatLink
import Derived.Test.YtkohichiojmakaaGOwn
namespace Go.Proofs.Ytkohichiojmakaa.PatR
set_option linter.unusedVariables false
set_option linter.unusedSimpArgs false
open Go.RowKit Cm Mm Ow Ow3 A64 A64W A64P A64E A64Q A64G Pat InW PatW PatK

theorem in_cells {w : World} {base g n cap : Nat} {l : List In} (h : Own w base 45 7 (some ⟨g, 0, none⟩) n cap (l.map insL)) {k : Nat} (hk : k < n) :
    w.cell? ⟨g, k * 7, none⟩ = some (.int .i64 (l.getD k zeroIn).kind) ∧ w.cell? ⟨g, k * 7 + 1, none⟩ = some (.int .i64 (l.getD k zeroIn).d) ∧ w.cell? ⟨g, k * 7 + 2, none⟩ = some (.int .i64 (l.getD k zeroIn).a) ∧
    w.cell? ⟨g, k * 7 + 3, none⟩ = some (.int .i64 (l.getD k zeroIn).b) ∧ w.cell? ⟨g, k * 7 + 4, none⟩ = some (.int .i64 (l.getD k zeroIn).s) ∧ w.cell? ⟨g, k * 7 + 5, none⟩ = some (.int .i64 (l.getD k zeroIn).c) ∧ w.cell? ⟨g, k * 7 + 6, none⟩ = some (.int .i64 (l.getD k zeroIn).n) ∧
    (∀ o, w.frozen? ⟨g, o, none⟩ = false) := by
  have hl : l.length = n := by simpa using h.len
  have e : (l.map insL).getD k [] = insL (l.getD k zeroIn) := by simp [List.getD, show k < l.length by omega]
  have c := fun j hj => ((own_cell h hk (j := j) hj).1).trans (by rw [e])
  exact ⟨c 0 (by omega), c 1 (by omega), c 2 (by omega), c 3 (by omega), c 4 (by omega), c 5 (by omega), c 6 (by omega), fun o => h.row.frozenAt o⟩
theorem in_store {w : World} {base g n cap : Nat} {l : List In} (h : Own w base 45 7 (some ⟨g, 0, none⟩) n cap (l.map insL)) {k j : Nat} (hk : k < n) (hj : j < 7) (u : Value) (s' : In) (hs : (insL (l.getD k zeroIn)).set j u = insL s') :
    Own (w.setCell ⟨g, k * 7 + j, none⟩ u) base 45 7 (some ⟨g, 0, none⟩) n cap ((l.set k s').map insL) := by
  have hl : l.length = n := by simpa using h.len
  have e : (l.map insL).getD k [] = insL (l.getD k zeroIn) := by simp [List.getD, show k < l.length by omega]
  have := own_store h hk hj u
  rwa [e, hs, ← List.map_set] at this
theorem in_range (l : List In) : (List.range l.length).map (fun i => insL (l.getD i zeroIn)) = l.map insL := by
  refine List.ext_getElem (by simp) (fun i h1 h2 => ?_)
  simp only [List.length_map] at h2
  simp [List.getD, h2]

/-- the first k are linked, the others as they were -/
def mid (lb : List Int) (l : List In) (k : Nat) : List In := outTo lb l k ++ l.drop k
theorem mid_zero (lb : List Int) (l : List In) : mid lb l 0 = l := rfl
theorem mid_all {lb : List Int} {l : List In} {n : Nat} (h : l.length = n) : mid lb l n = outTo lb l n := by unfold mid; rw [← h, List.drop_length, List.append_nil]
theorem mid_get {lb : List Int} {l : List In} {k : Nat} : (mid lb l k).getD k zeroIn = l.getD k zeroIn := by
  unfold mid
  have := outTo_len lb l k
  simp only [List.getD]
  rw [List.getElem?_append_right (by omega), this, List.getElem?_drop]
  simp
theorem mid_succ {lb : List Int} {l : List In} {k : Nat} (hk : k < l.length) : mid lb l (k + 1) = (mid lb l k).set k (mk lb k (l.getD k zeroIn)) := by
  unfold mid
  have := outTo_len lb l k
  rw [List.set_append_right _ _ (by omega), this, Nat.sub_self, List.drop_eq_getElem_cons hk, List.set_cons_zero, outTo_succ, List.append_assoc]
  rfl
theorem mid_len {lb : List Int} {l : List In} {k : Nat} (hk : k ≤ l.length) : (mid lb l k).length = l.length := by
  unfold mid; rw [List.length_append, outTo_len, List.length_drop]; omega
theorem mid_same {lb : List Int} {l : List In} {k : Nat} (hk : k < l.length) (h : asks (l.getD k zeroIn) = false) : mid lb l (k + 1) = mid lb l k := by
  rw [mid_succ hk, mk_no h, ← mid_get (lb := lb)]
  refine List.ext_getElem (by simp) (fun i h1 h2 => ?_)
  rw [List.getElem_set]
  split
  · rename_i e; subst e; simp [List.getD, h2]
  · rfl

set_option maxRecDepth 20000 in
set_option maxHeartbeats 3200000 in
theorem rlink_any (A L : Option Addr) (n cap m lc : Nat) (l : List In) (lb : List Int) (w : World) (h : IsIn w A n cap l) (hL : IsI w L m lc lb) (hn : n ≤ 65536) (hok : ∀ i, i < n → okIn (l.getD i zeroIn)) :
    Calls Try.prog 26 #[.slice A n cap, .slice L m lc] w (GaveIn w (link l lb)) := by
  have hl := Lib.hid h.1
  have hll := Lib.hid hL.1
  have hS := Lib.hid h
  have HL := Lib.hid hL
  have HK := Lib.hid hok
  have hz1 : Hid ([] ++ (List.range n).map (fun i => insL (l.getD i zeroIn)) = l.map insL) := Lib.hid (by rw [← hl.out, List.nil_append, in_range])
  clear h hok hL
  go_enter Try.func26, Try.ntmps26
  go_wp2_with (at_builtin; refine wpList_app _ rfl _ _ rfl elIn w.heap.size none 0 0 [] rfl (Own.nil _ _ _ _) A n cap (fun i => insL (l.getD i zeroIn)) rfl hS.out.2 (fun _ _ => rfl) (fun i _ => in_one _) (by unfold maxLen; omega) (by omega) (Nat.le_refl _) ?_; intro A2 c2 w2 hown2 hg2 hat2; rw [hz1.out] at hown2; rw [Nat.zero_add] at hown2 ⊢; have HO2 := Lib.hid hown2; have BB2 : Hid (Below w.heap.size w w2) := Lib.hid ((Below.refl _ _).grown hg2 (Nat.le_refl _) (fun k hk => by cases hk)); clear hown2 hg2 hat2)
  go_loopw [7] (fun i wr => ∃ (k : Nat), k ≤ n ∧ i = .int .i64 k ∧ Own wr w.heap.size 45 7 A2 n c2 ((mid lb l k).map insL) ∧ Hid (okTo lb l k = true) ∧ Below w.heap.size w wr) (fun i _ => n - (intOf i).toNat)
  case atStart => exact ⟨0, by omega, rfl, HO2.out, rfl, BB2.out⟩
  case round =>
    obtain ⟨k, hk, rfl, hown, HW, hbel⟩ := hrel
    have hsz := hbel.size
    by_cases hkn : k < n
    · have hos := Lib.hid (okTo_succ lb l k)
      have hbad := Lib.hid (fun h => link_bad (l := l) (lb := lb) (k := k) (by have := hl.out; omega) h)
      have HKk := Lib.hid (HK.out k hkn)
      obtain ⟨g, rfl⟩ := own_head hown (by omega)
      have hg0 : w.heap.size ≤ g := (hown.lt g rfl).1
      obtain ⟨s0_, s1_, s2_, s3_, s4_, s5_, s6_, fz⟩ := in_cells hown hkn
      rw [mid_get] at s0_ s1_ s2_ s3_ s4_ s5_ s6_
      have hsame := Lib.hid (fun h => mid_same (lb := lb) (l := l) (k := k) (by rw [hl.out]; exact hkn) h)
      have hmids := Lib.hid (mid_succ (lb := lb) (l := l) (k := k) (by rw [hl.out]; exact hkn))
      have hmget := Lib.hid (mid_get (lb := lb) (l := l) (k := k))
      generalize hc : l.getD k zeroIn = s at *
      clear hc
      have HO := Lib.hid hown; clear hown
      cases hbr : br s.kind
      · have hgood := ok_no (N := l.length) (k := k) (lb := lb) (asks_no hbr)
        have hsame := Lib.hid (hsame.out (asks_no hbr))
        go_wp2_with fail
        refine (rbranch_any s.kind _).mono ?_
        rintro e w2 ⟨rfl, rfl⟩
        rw [hbr]
        go_wp2_with fail
        go_roundw
        case rel => exact ⟨k + 1, by omega, by go_num, by rw [hsame.out]; exact HO.out, by show okTo lb l (k + 1) = true; rw [hos.out, hgood, HW]; rfl, hbel⟩
        case measure => simp [intOf]; omega
      · by_cases hb1 : s.b = 1
        · have has := asks_yes hbr hb1
          obtain ⟨s0, s1, s2, sb, s4, s5, s6⟩ := s
          dsimp only at hbr hb1 s0_ s1_ s2_ s3_ s4_ s5_ s6_
          subst hb1
          by_cases n0 : 0 ≤ s6
          · by_cases n1 : s6 < m
            · obtain ⟨gb, go, rfl, hgb, hy0⟩ := HL.out.cell (k := s6.toNat) (by omega)
              obtain ⟨y, hyd⟩ : ∃ y, y = lb.getD s6.toNat 0 := ⟨_, rfl⟩
              have hto : to lb k ⟨s0, s1, s2, 1, s4, s5, s6⟩ = ⟨s0, s1, s2, 0, s4, s5, y - k⟩ := by rw [hyd]; rfl
              have hno : ¬ (0 ≤ y ∧ y ≤ n) → okAt l.length lb k ⟨s0, s1, s2, 1, s4, s5, s6⟩ = false := fun hh => ok_bad has (lead_no2 (by rw [← hyd, hl.out]; exact hh))
              have hyes : 0 ≤ y → y ≤ n → okAt l.length lb k ⟨s0, s1, s2, 1, s4, s5, s6⟩ = right ⟨s0, s1, s2, 0, s4, s5, y - k⟩ := fun h1 h2 => by rw [ok_yes has (lead_yes (by rw [hll.out]; exact ⟨n0, n1⟩) (by rw [← hyd, hl.out]; exact ⟨h1, h2⟩)), hto]
              have hmk := mk_yes (k := k) (lb := lb) has
              rw [hto] at hmk
              rw [← hyd] at hy0
              have hy := (hbel.cell (p := ⟨gb, go + s6.toNat, none⟩) hgb).trans hy0
              have hmk := Lib.hid hmk
              have hno := Lib.hid hno
              have hyes := Lib.hid hyes
              clear hto hyd
              by_cases y0 : 0 ≤ y
              · by_cases y1 : y ≤ n
                · have hwr : IntKind.i64.wrap (y - (k : Int)) = y - k := IntWalk.i64_in _ ⟨by omega, by omega⟩
                  have hoki : Hid (okIn ⟨s0, s1, s2, 0, s4, s5, y - k⟩) := by
                    obtain ⟨h1, h2, h3, h4, h5, h6, h7⟩ := HKk.out
                    exact ⟨h1, h2, h3, ⟨by show (-9223372036854775808 : Int) ≤ 0; omega, by show (0 : Int) ≤ 9223372036854775807; omega⟩, h5, h6, ⟨by show -9223372036854775808 ≤ y - (k : Int); omega, by show y - (k : Int) ≤ 9223372036854775807; omega⟩⟩
                  have hyy := Lib.hid (hyes.out y0 y1)
                  have f3 := fz (k * 7 + 3)
                  have f6 := fz (k * 7 + 6)
                  -- what is stored
                  have O1 := in_store HO.out hkn (j := 3) (by omega) (.int .i64 0) ⟨s0, s1, s2, 0, s4, s5, s6⟩ (by rw [hmget.out]; rfl)
                  have O2 := in_store O1 hkn (j := 6) (by omega) (.int .i64 (y - k)) ⟨s0, s1, s2, 0, s4, s5, y - k⟩ (by have := O1.len; rw [List.length_map, List.length_set] at this; simp [List.getD, show k < (mid lb l k).length by omega]; rfl)
                  rw [List.set_set, show (mid lb l k).set k ⟨s0, s1, s2, 0, s4, s5, y - k⟩ = mid lb l (k + 1) from by rw [hmids.out, hmk.out]] at O2
                  have B1 := hbel.setCell (p := ⟨g, k * 7 + 3, none⟩) hg0 (.int .i64 0)
                  have B2 := B1.setCell (p := ⟨g, k * 7 + 6, none⟩) hg0 (.int .i64 (y - k))
                  have hy1 := (B1.cell (p := ⟨gb, go + s6.toNat, none⟩) hgb).trans hy0
                  have O1 := Lib.hid O1
                  have O2 := Lib.hid O2
                  have B1 := Lib.hid B1
                  have B2 := Lib.hid B2
                  have hgy : g ≠ gb := by omega
                  go_wp2_with fail
                  refine (rbranch_any s0 _).mono ?_
                  rintro e w2 ⟨rfl, rfl⟩
                  rw [hbr]
                  go_wp2_with fail
                  obtain ⟨W2, hW2⟩ : ∃ W2, (wr.setCell ⟨g, k * 7 + 3, none⟩ (.int .i64 0)).setCell ⟨g, k * 7 + 6, none⟩ (.int .i64 (y - k)) = W2 := ⟨_, rfl⟩
                  rw [hW2] at O2 B2 ⊢
                  clear hW2 hy hy1 s0_ s1_ s2_ s3_ s4_ s5_ s6_ f3 f6 fz hwr
                  refine (rright_any ⟨s0, s1, s2, 0, s4, s5, y - k⟩ _ hoki.out).mono ?_
                  rintro e w4 ⟨rfl, hb4⟩
                  have O4 := Lib.hid (O2.out.keep hb4)
                  have B4 := Lib.hid (B2.out.trans (hb4.mono B2.out.size))
                  clear hb4
                  cases hrt : right ⟨s0, s1, s2, 0, s4, s5, y - k⟩
                  · have hgood := hyy.out.trans hrt
                    have hbb := hbad.out hgood
                    go_wp2_with fail
                    go_ret2
                    exact ⟨none, 0, 0, by rw [hbb]; rfl, by rw [hbb]; exact Own.nil _ _ _ _, B4.out⟩
                  · have hgood := Lib.hid (hyy.out.trans hrt)
                    go_wp2_with fail
                    go_roundw
                    case rel => exact ⟨k + 1, by omega, by go_num, O4.out, by show okTo lb l (k + 1) = true; rw [hos.out, hgood.out, HW]; rfl, B4.out⟩
                    case measure => simp [intOf]; omega
                · have hgood := hno.out (by omega)
                  have hbb := hbad.out hgood
                  go_wp2_with fail
                  refine (rbranch_any s0 _).mono ?_
                  rintro e w2 ⟨rfl, rfl⟩
                  rw [hbr]
                  go_wp2_with fail
                  go_ret2
                  exact ⟨none, 0, 0, by rw [hbb]; rfl, by rw [hbb]; exact Own.nil _ _ _ _, hbel⟩
              · have hgood := hno.out (by omega)
                have hbb := hbad.out hgood
                go_wp2_with fail
                refine (rbranch_any s0 _).mono ?_
                rintro e w2 ⟨rfl, rfl⟩
                rw [hbr]
                go_wp2_with fail
                go_ret2
                exact ⟨none, 0, 0, by rw [hbb]; rfl, by rw [hbb]; exact Own.nil _ _ _ _, hbel⟩
            · have hgood := ok_bad (k := k) has (lead_no1 (N := l.length) (lb := lb) (fun h => n1 (by have := h.2; rw [hll.out] at this; exact this)))
              have hbb := hbad.out hgood
              go_wp2_with fail
              refine (rbranch_any s0 _).mono ?_
              rintro e w2 ⟨rfl, rfl⟩
              rw [hbr]
              go_wp2_with fail
              go_ret2
              exact ⟨none, 0, 0, by rw [hbb]; rfl, by rw [hbb]; exact Own.nil _ _ _ _, hbel⟩
          · have hgood := ok_bad (k := k) has (lead_no1 (N := l.length) (lb := lb) (fun h => n0 h.1))
            have hbb := hbad.out hgood
            go_wp2_with fail
            refine (rbranch_any s0 _).mono ?_
            rintro e w2 ⟨rfl, rfl⟩
            rw [hbr]
            go_wp2_with fail
            go_ret2
            exact ⟨none, 0, 0, by rw [hbb]; rfl, by rw [hbb]; exact Own.nil _ _ _ _, hbel⟩
        · have hgood := ok_no (N := l.length) (k := k) (lb := lb) (asks_no1 hb1)
          have hsame := Lib.hid (hsame.out (asks_no1 hb1))
          have hb0 : (s.b == 1) = false := beq_false_of_ne hb1
          have hb0' : (s.b != 1) = true := by rw [bne_iff_ne]; exact hb1
          go_wp2_with fail
          refine (rbranch_any s.kind _).mono ?_
          rintro e w2 ⟨rfl, rfl⟩
          rw [hbr]
          go_wp2_with fail
          go_roundw
          case rel => exact ⟨k + 1, by omega, by go_num, by rw [hsame.out]; exact HO.out, by show okTo lb l (k + 1) = true; rw [hos.out, hgood, HW]; rfl, hbel⟩
          case measure => simp [intOf]; omega
    · obtain rfl : k = n := by omega
      have e : link l lb = (outTo lb l k, 0) := by have := link_good (l := l) (lb := lb) (by rw [hl.out]; exact HW); rwa [hl.out] at this
      have e := Lib.hid e
      have em := Lib.hid (mid_all (lb := lb) hl.out)
      have HO := Lib.hid hown; clear hown
      go_wp2_with fail
      go_ret2
      exact ⟨A2, k, c2, by rw [e.out]; rfl, by rw [e.out, ← em.out]; exact HO.out, hbel⟩
end Go.Proofs.Ytkohichiojmakaa.PatR
