/-
  WALK: labels linked (chapter 21), by package patch.
-/
import Derived.Test.YtkohichiojmakaaPatWords
import Derived.Test.YtkohichiojmakaaGHeld
import Derived.Test.YtkohichiojmakaaGEnc
namespace Go.Proofs.Ytkohichiojmakaa.PatK
set_option linter.unusedVariables false
set_option linter.unusedSimpArgs false
open Go.RowKit Cm Mm Ow A64 A64W A64P A64E A64G Pat InW PatW
attribute [local go_sem ↓] Go.wp_at_zero Go.wp_at_succ

theorem asks_no {s : In} (h : br s.kind = false) : asks s = false := by unfold asks; rw [h]; rfl
theorem asks_no1 {s : In} (h : ¬ s.b = 1) : asks s = false := by unfold asks; rw [beq_false_of_ne h, Bool.and_false]
theorem asks_yes {s : In} (h : br s.kind = true) (hb : s.b = 1) : asks s = true := by unfold asks; rw [h, hb]; rfl
theorem ok_no {N k : Nat} {lb : List Int} {s : In} (h : asks s = false) : okAt N lb k s = true := by unfold okAt; rw [h]; rfl
theorem mk_no {k : Nat} {lb : List Int} {s : In} (h : asks s = false) : mk lb k s = s := by unfold mk; rw [h]; rfl
theorem mk_yes {k : Nat} {lb : List Int} {s : In} (h : asks s = true) : mk lb k s = to lb k s := by unfold mk; rw [h]; rfl
theorem ok_yes {N k : Nat} {lb : List Int} {s : In} (h : asks s = true) (hl : lead N lb s = true) : okAt N lb k s = right (to lb k s) := by unfold okAt; rw [h, hl]; rfl
theorem ok_bad {N k : Nat} {lb : List Int} {s : In} (h : asks s = true) (hl : lead N lb s = false) : okAt N lb k s = false := by unfold okAt; rw [h, hl]; rfl
theorem lead_no1 {N : Nat} {lb : List Int} {s : In} (h : ¬ (0 ≤ s.n ∧ s.n < lb.length)) : lead N lb s = false := by unfold lead; rw [decide_eq_false h]; rfl
theorem lead_no2 {N : Nat} {lb : List Int} {s : In} (h : ¬ (0 ≤ lb.getD s.n.toNat 0 ∧ lb.getD s.n.toNat 0 ≤ N)) : lead N lb s = false := by unfold lead; rw [decide_eq_false h, Bool.and_false]
theorem lead_yes {N : Nat} {lb : List Int} {s : In} (h : 0 ≤ s.n ∧ s.n < lb.length) (h2 : 0 ≤ lb.getD s.n.toNat 0 ∧ lb.getD s.n.toNat 0 ≤ N) : lead N lb s = true := by unfold lead; rw [decide_eq_true h, decide_eq_true h2]; rfl
/-- instructions that were made: they lie in a row of the call's own -/
def GaveIn (w : World) (x : List In × Int) (e : Ending) (w' : World) : Prop :=
  ∃ A m c, e = .returned (.tuple #[.slice A m c, .int .i64 x.2]) ∧ Own w' w.heap.size 45 7 A m c (x.1.map insL) ∧ Below w.heap.size w w'

set_option maxRecDepth 20000 in
set_option maxHeartbeats 1600000 in
theorem link_any (A L : Option Addr) (n cap m lc : Nat) (l : List In) (lb : List Int) (w : World) (h : IsIn w A n cap l) (hL : IsI w L m lc lb) (hn : n ≤ 65536) (hok : ∀ i, i < n → okIn (l.getD i zeroIn)) :
    Calls Try.prog 24 #[.slice A n cap, .slice L m lc] w (GaveIn w (link l lb)) := by
  have hl := Lib.hid h.1
  have hll := Lib.hid hL.1
  have hS := Lib.hid h
  have HL := Lib.hid hL
  have HK := Lib.hid hok
  clear h hok hL
  go_enter Try.func24, Try.ntmps24
  go_wp2
  go_loopw [6, 11] (fun v i wr => ∃ (k c : Nat) (A' : Option Addr), k ≤ n ∧ i = .int .i64 k ∧ v = .slice A' k c ∧ Own wr w.heap.size 45 7 A' k c ((outTo lb l k).map insL) ∧ Hid (okTo lb l k = true) ∧ Below w.heap.size w wr) (fun _ i _ => n - (intOf i).toNat)
  case atStart => exact ⟨0, 0, none, by omega, rfl, rfl, Own.nil _ _ _ _, rfl, Below.refl _ _⟩
  case round =>
    obtain ⟨k, c, A', hk, rfl, rfl, hown, HW, hbel⟩ := hrel
    have hsz := hbel.size
    by_cases hkn : k < n
    · have hfs := Lib.hid (outTo_succ lb l k)
      have hos := Lib.hid (okTo_succ lb l k)
      have hbad := Lib.hid (fun h => link_bad (l := l) (lb := lb) (k := k) (by have := hl.out; omega) h)
      have HKk := Lib.hid (HK.out k hkn)
      obtain ⟨b, o, rfl, hb, s0_, s1_, s2_, s3_, s4_, s5_, s6_⟩ := (hS.out.keep hbel).cell (k := k) hkn
      generalize hc : l.getD k zeroIn = s at *
      clear hc
      have HO := Lib.hid hown; clear hown
      cases hbr : br s.kind
      · have hgood := ok_no (N := l.length) (k := k) (lb := lb) (asks_no hbr)
        have hmk := mk_no (k := k) (lb := lb) (asks_no hbr)
        go_wp2_with fail
        refine (branch_any s _).mono ?_
        rintro e w2 ⟨rfl, hb2⟩
        have hb3 : Below wr.heap.size wr w2 := (below_al _ _).trans (hb2.mono (by simp))
        have hz2 := hb2.size
        simp at hz2
        have V2 := (vn_new wr s wr.heap.size 45 rfl).keep hb2
        have V2' := Lib.hid V2
        obtain ⟨c0, c1, c2, c3, c4, c5, c6, c7⟩ := V2
        rw [hbr]
        go_wp2_with (at_builtin; refine Ow2.wpList_appN _ rfl _ _ rfl elIn w.heap.size A' k c 1 w2.heap.size _ [insL s] rfl rfl (HO.out.keep hb3) rfl rfl (in_each [s]) (in_ones [s]) (by unfold maxLen; omega) (by omega) (by omega) _ rfl ?_; intro A4 c4 w4 hown4 hbel4 hkp4 hat4; have HO4 := Lib.hid hown4; clear hown4 hkp4 hat4)
        go_roundw
        case rel => exact ⟨k + 1, c4, A4, by omega, by go_num, rfl, by rw [hfs.out, List.map_append, hmk]; exact HO4.out, by show okTo lb l (k + 1) = true; rw [hos.out, hgood, HW]; rfl, (hbel.trans (hb3.mono hsz)).trans hbel4⟩
        case measure => simp [intOf]; omega
      · by_cases hb1 : s.b = 1
        · have has := asks_yes hbr hb1
          obtain ⟨s0, s1, s2, sb, s4, s5, s6⟩ := s
          dsimp only at hbr hb1 s0_ s1_ s2_ s3_ s4_ s5_ s6_
          subst hb1
          by_cases n0 : 0 ≤ s6
          · by_cases n1 : s6 < m
            · obtain ⟨gb, go, rfl, hgb, hy⟩ := (HL.out.keep hbel).cell (k := s6.toNat) (by omega)
              obtain ⟨y, hyd⟩ : ∃ y, y = lb.getD s6.toNat 0 := ⟨_, rfl⟩
              have hto : to lb k ⟨s0, s1, s2, 1, s4, s5, s6⟩ = ⟨s0, s1, s2, 0, s4, s5, y - k⟩ := by rw [hyd]; rfl
              have hno : ¬ (0 ≤ y ∧ y ≤ n) → okAt l.length lb k ⟨s0, s1, s2, 1, s4, s5, s6⟩ = false := fun hh => ok_bad has (lead_no2 (by rw [← hyd, hl.out]; exact hh))
              have hyes : 0 ≤ y → y ≤ n → okAt l.length lb k ⟨s0, s1, s2, 1, s4, s5, s6⟩ = right ⟨s0, s1, s2, 0, s4, s5, y - k⟩ := fun h1 h2 => by rw [ok_yes has (lead_yes (by rw [hll.out]; exact ⟨n0, n1⟩) (by rw [← hyd, hl.out]; exact ⟨h1, h2⟩)), hto]
              have hmk := mk_yes (k := k) (lb := lb) has
              rw [hto] at hmk
              rw [← hyd] at hy
              have hmk := Lib.hid hmk
              have hno := Lib.hid hno
              have hyes := Lib.hid hyes
              clear hto hyd
              by_cases y0 : 0 ≤ y
              · by_cases y1 : y ≤ n
                · have hwr : Hid (IntKind.i64.wrap (y - (k : Int)) = y - k) := Lib.hid (IntWalk.i64_in _ ⟨by omega, by omega⟩)
                  have hoki : Hid (okIn ⟨s0, s1, s2, 0, s4, s5, y - k⟩) := by
                    obtain ⟨h1, h2, h3, h4, h5, h6, h7⟩ := HKk.out
                    exact ⟨h1, h2, h3, ⟨by show (-9223372036854775808 : Int) ≤ 0; omega, by show (0 : Int) ≤ 9223372036854775807; omega⟩, h5, h6, ⟨by show -9223372036854775808 ≤ y - (k : Int); omega, by show y - (k : Int) ≤ 9223372036854775807; omega⟩⟩
                  have hyy := Lib.hid (hyes.out y0 y1)
                  go_wp2_with fail
                  refine (branch_any ⟨s0, s1, s2, 1, s4, s5, s6⟩ _).mono ?_
                  rintro e w2 ⟨rfl, hb2⟩
                  have hb3 : Below wr.heap.size wr w2 := (below_al _ _).trans (hb2.mono (by simp))
                  have hz2 := hb2.size
                  simp at hz2
                  have V2 := (vn_new wr ⟨s0, s1, s2, 1, s4, s5, s6⟩ wr.heap.size 45 rfl).keep hb2
                  have V2' := Lib.hid V2
                  obtain ⟨c0, c1, c2, c3, c4, c5, c6, c7⟩ := V2
                  rw [hbr]
                  have hy2 := (hb3.cell (p := ⟨gb, go + s6.toNat, none⟩) hgb).trans hy
                  have hwr := hwr.out
                  go_wp2_with fail
                  refine Hd.start 9 (fun w' => (∃ zb, Vn w' wr.heap.size ⟨s0, s1, s2, zb, s4, s5, s6⟩) ∧ w'.cell? ⟨gb, go + s6.toNat, none⟩ = some (.int .i64 y) ∧ Below wr.heap.size wr w') (by kernel_rfl) ?_
                  have hSw : (∃ zb, Vn w2.drew wr.heap.size ⟨s0, s1, s2, zb, s4, s5, s6⟩) ∧ w2.drew.cell? ⟨gb, go + s6.toNat, none⟩ = some (.int .i64 y) ∧ Below wr.heap.size wr w2.drew := ⟨⟨1, c0, c1, c2, c3, c4, c5, c6, c7⟩, hy2, hb3.trans (Below.refl _ _).drew⟩
                  refine Hd.take (i := 0) (v := ?v1) rfl (by kernel_rfl) (by kernel_rfl) (fun _ _ _ h => h) rfl ?hy1 hSw ?rest1
                  case hy1 =>
                    intro wq hSq
                    obtain ⟨⟨zb, p0, p1, p2, p3, p4, p5, p6, p7⟩, yq, _⟩ := hSq
                    go_simp
                    try with_reducible rfl
                  try simp only [Act.put, List.setIfInBounds_toArray, List.set_cons_zero, List.set_cons_succ]
                  refine Hd.take (i := 1) (v := ?v2) rfl (by kernel_rfl) (by kernel_rfl) (fun _ _ _ h => h) rfl ?hy2 hSw ?rest2
                  case hy2 =>
                    intro wq hSq
                    obtain ⟨⟨zb, p0, p1, p2, p3, p4, p5, p6, p7⟩, yq, _⟩ := hSq
                    go_simp
                    try with_reducible rfl
                  try simp only [Act.put, List.setIfInBounds_toArray, List.set_cons_zero, List.set_cons_succ]
                  refine Hd.take (i := 2) (v := ?v3) rfl (by kernel_rfl) (by kernel_rfl) (fun _ _ _ h => h) rfl ?hy3 hSw ?rest3
                  case hy3 =>
                    intro wq hSq
                    obtain ⟨⟨zb, p0, p1, p2, p3, p4, p5, p6, p7⟩, yq, _⟩ := hSq
                    go_simp
                    try with_reducible rfl
                  try simp only [Act.put, List.setIfInBounds_toArray, List.set_cons_zero, List.set_cons_succ]
                  refine Hd.take (i := 3) (v := ?v4) rfl (by kernel_rfl) (by kernel_rfl) (fun _ _ _ h => h) rfl ?hy4 hSw ?rest4
                  case hy4 =>
                    intro wq hSq
                    obtain ⟨⟨zb, p0, p1, p2, p3, p4, p5, p6, p7⟩, yq, _⟩ := hSq
                    go_simp
                    try with_reducible rfl
                  try simp only [Act.put, List.setIfInBounds_toArray, List.set_cons_zero, List.set_cons_succ]
                  refine Hd.take (i := 4) (v := ?v5) rfl (by kernel_rfl) (by kernel_rfl) (fun _ _ _ h => h) rfl ?hy5 hSw ?rest5
                  case hy5 =>
                    intro wq hSq
                    obtain ⟨⟨zb, p0, p1, p2, p3, p4, p5, p6, p7⟩, yq, _⟩ := hSq
                    go_simp
                    try with_reducible rfl
                  try simp only [Act.put, List.setIfInBounds_toArray, List.set_cons_zero, List.set_cons_succ]
                  refine Hd.take (i := 5) (v := ?v6) rfl (by kernel_rfl) (by kernel_rfl) (fun _ _ _ h => h) rfl ?hy6 hSw ?rest6
                  case hy6 =>
                    intro wq hSq
                    obtain ⟨⟨zb, p0, p1, p2, p3, p4, p5, p6, p7⟩, yq, _⟩ := hSq
                    go_simp
                    try with_reducible rfl
                  try simp only [Act.put, List.setIfInBounds_toArray, List.set_cons_zero, List.set_cons_succ]
                  refine Hd.take (i := 6) (v := ?v7) rfl (by kernel_rfl) (by kernel_rfl) (fun _ _ _ h => h) rfl ?hy7 hSw ?rest7
                  case hy7 =>
                    intro wq hSq
                    obtain ⟨⟨zb, p0, p1, p2, p3, p4, p5, p6, p7⟩, yq, _⟩ := hSq
                    go_simp
                    try with_reducible rfl
                  try simp only [Act.put, List.setIfInBounds_toArray, List.set_cons_zero, List.set_cons_succ]
                  refine Hd.take (i := 7) (v := ?v8) rfl (by kernel_rfl) (by kernel_rfl) (fun _ _ _ h => h) rfl ?hy8 hSw ?rest8
                  case hy8 =>
                    intro wq hSq
                    obtain ⟨⟨zb, p0, p1, p2, p3, p4, p5, p6, p7⟩, yq, _⟩ := hSq
                    go_simp
                    try with_reducible rfl
                  try simp only [Act.put, List.setIfInBounds_toArray, List.set_cons_zero, List.set_cons_succ]
                  have VD : Vn w2.drew wr.heap.size ⟨s0, s1, s2, 1, s4, s5, s6⟩ := ⟨c0, c1, c2, c3, c4, c5, c6, c7⟩
                  have d3 := VD.c3
                  have d7 := VD.fr 3
                  refine Hd.one (i := 8) rfl (by kernel_rfl) rfl (fun K hK => ?_)
                  go_simp
                  refine hK _ _ (fun _ => ⟨⟨0, VD.setB 0⟩, (World.cell?_setCell_other _ _ _ _ (by simp)).trans hSw.2.1, hSw.2.2.setCell (p := ⟨wr.heap.size, 3, none⟩) (Nat.le_refl _) _⟩) ?_
                  clear hK K
                  try simp only [Act.put, List.setIfInBounds_toArray, List.set_cons_zero, List.set_cons_succ]
                  have VE := VD.setB 0
                  have e6 := VE.c6
                  have e7 := VE.fr 6
                  refine Hd.one (i := 9) rfl (by kernel_rfl) rfl (fun K hK => ?_)
                  go_simp
                  refine hK _ _ (fun h => absurd h (by omega)) ?_
                  clear hK K
                  try simp only [Act.put, List.setIfInBounds_toArray, List.set_cons_zero, List.set_cons_succ]
                  refine Hd.one (i := 10) rfl (by kernel_rfl) rfl (fun K hK => ?_)
                  go_simp
                  refine hK _ _ (fun h => absurd h (by omega)) ?_
                  clear hK K
                  try simp only [Act.put, List.setIfInBounds_toArray, List.set_cons_zero, List.set_cons_succ]
                  refine Hd.done (by kernel_rfl) ?_ _
                  have VF : Vn ((w2.setCell ⟨wr.heap.size, 3, none⟩ (.int .i64 0)).setCell ⟨wr.heap.size, 6, none⟩ (.int .i64 (y - k))).drew wr.heap.size ⟨s0, s1, s2, 0, s4, s5, y - k⟩ := VE.setN (y - k)
                  have BF : Below wr.heap.size wr ((w2.setCell ⟨wr.heap.size, 3, none⟩ (.int .i64 0)).setCell ⟨wr.heap.size, 6, none⟩ (.int .i64 (y - k))).drew := (hSw.2.2.setCell (p := ⟨wr.heap.size, 3, none⟩) (Nat.le_refl _) (.int .i64 0)).setCell (p := ⟨wr.heap.size, 6, none⟩) (Nat.le_refl _) (.int .i64 (y - k))
                  have hzF := BF.size
                  obtain ⟨W3, hW3⟩ : ∃ W3, ((w2.setCell ⟨wr.heap.size, 3, none⟩ (.int .i64 0)).setCell ⟨wr.heap.size, 6, none⟩ (.int .i64 (y - k))).drew = W3 := ⟨_, rfl⟩
                  rw [hW3] at VF BF hzF ⊢
                  clear hW3 VE e6 e7 VD d3 d7 hSw c0 c1 c2 c3 c4 c5 c6 c7 V2' hy2 hwr hy hb2 hb3 hz2
                  have VF' := Lib.hid VF
                  have BF' := Lib.hid BF
                  clear BF
                  obtain ⟨c0, c1, c2, c3, c4, c5, c6, c7⟩ := VF
                  dsimp only at c0 c1 c2 c3 c4 c5 c6
                  go_wp2_with fail
                  refine (right_at ⟨s0, s1, s2, 0, s4, s5, y - k⟩ _ hoki.out).mono ?_
                  rintro e w4 ⟨rfl, hb4⟩
                  have BG := BF'.out.trans (hb4.mono hzF)
                  have hzG := BG.size
                  have VG := VF'.out.keep hb4
                  obtain ⟨c0, c1, c2, c3, c4, c5, c6, c7⟩ := VG
                  dsimp only at c0 c1 c2 c3 c4 c5 c6
                  have hyy := hyy.out
                  cases hrt : right ⟨s0, s1, s2, 0, s4, s5, y - k⟩
                  · rw [hrt] at hyy
                    have hbb := hbad.out hyy
                    go_wp2_with fail
                    go_ret2
                    exact ⟨none, 0, 0, by rw [hbb]; rfl, by rw [hbb]; exact Own.nil _ _ _ _, hbel.trans (BG.mono hsz)⟩
                  · rw [hrt] at hyy
                    go_wp2_with (at_builtin; refine Ow2.wpList_appN _ rfl _ _ rfl elIn w.heap.size A' k c 1 w4.heap.size _ [insL ⟨s0, s1, s2, 0, s4, s5, y - k⟩] rfl rfl (HO.out.keep BG) rfl rfl (in_each [⟨s0, s1, s2, 0, s4, s5, y - k⟩]) (in_ones [⟨s0, s1, s2, 0, s4, s5, y - k⟩]) (by unfold maxLen; omega) (by omega) (by omega) _ rfl ?_; intro A4 c4 w4 hown4 hbel4 hkp4 hat4; have HO4 := Lib.hid hown4; clear hown4 hkp4 hat4)
                    go_roundw
                    case rel => exact ⟨k + 1, c4, A4, by omega, by go_num, rfl, by rw [hfs.out, List.map_append, hmk.out]; exact HO4.out, by show okTo lb l (k + 1) = true; rw [hos.out, hyy, HW]; rfl, (hbel.trans (BG.mono hsz)).trans hbel4⟩
                    case measure => simp [intOf]; omega
                · have hgood := hno.out (by omega)
                  go_wp2_with fail
                  refine (branch_any ⟨s0, s1, s2, 1, s4, s5, s6⟩ _).mono ?_
                  rintro e w2 ⟨rfl, hb2⟩
                  have hb3 : Below wr.heap.size wr w2 := (below_al _ _).trans (hb2.mono (by simp))
                  have hz2 := hb2.size
                  simp at hz2
                  have V2 := (vn_new wr ⟨s0, s1, s2, 1, s4, s5, s6⟩ wr.heap.size 45 rfl).keep hb2
                  have V2' := Lib.hid V2
                  obtain ⟨c0, c1, c2, c3, c4, c5, c6, c7⟩ := V2
                  rw [hbr]
                  have hy2 := (hb3.cell (p := ⟨gb, go + s6.toNat, none⟩) hgb).trans hy
                  have hbb := hbad.out (hgood)
                  go_wp2_with fail
                  go_ret2
                  exact ⟨none, 0, 0, by rw [hbb]; rfl, by rw [hbb]; exact Own.nil _ _ _ _, hbel.trans (hb3.mono hsz)⟩
              · have hgood := hno.out (by omega)
                go_wp2_with fail
                refine (branch_any ⟨s0, s1, s2, 1, s4, s5, s6⟩ _).mono ?_
                rintro e w2 ⟨rfl, hb2⟩
                have hb3 : Below wr.heap.size wr w2 := (below_al _ _).trans (hb2.mono (by simp))
                have hz2 := hb2.size
                simp at hz2
                have V2 := (vn_new wr ⟨s0, s1, s2, 1, s4, s5, s6⟩ wr.heap.size 45 rfl).keep hb2
                have V2' := Lib.hid V2
                obtain ⟨c0, c1, c2, c3, c4, c5, c6, c7⟩ := V2
                rw [hbr]
                have hy2 := (hb3.cell (p := ⟨gb, go + s6.toNat, none⟩) hgb).trans hy
                have hbb := hbad.out (hgood)
                go_wp2_with fail
                go_ret2
                exact ⟨none, 0, 0, by rw [hbb]; rfl, by rw [hbb]; exact Own.nil _ _ _ _, hbel.trans (hb3.mono hsz)⟩
            · have hgood := ok_bad (k := k) has (lead_no1 (N := l.length) (lb := lb) (fun h => n1 (by have := h.2; rw [hll.out] at this; exact this)))
              go_wp2_with fail
              refine (branch_any ⟨s0, s1, s2, 1, s4, s5, s6⟩ _).mono ?_
              rintro e w2 ⟨rfl, hb2⟩
              have hb3 : Below wr.heap.size wr w2 := (below_al _ _).trans (hb2.mono (by simp))
              have hz2 := hb2.size
              simp at hz2
              have V2 := (vn_new wr ⟨s0, s1, s2, 1, s4, s5, s6⟩ wr.heap.size 45 rfl).keep hb2
              have V2' := Lib.hid V2
              obtain ⟨c0, c1, c2, c3, c4, c5, c6, c7⟩ := V2
              rw [hbr]
              have hbb := hbad.out (hgood)
              go_wp2_with fail
              go_ret2
              exact ⟨none, 0, 0, by rw [hbb]; rfl, by rw [hbb]; exact Own.nil _ _ _ _, hbel.trans (hb3.mono hsz)⟩
          · have hgood := ok_bad (k := k) has (lead_no1 (N := l.length) (lb := lb) (fun h => n0 h.1))
            go_wp2_with fail
            refine (branch_any ⟨s0, s1, s2, 1, s4, s5, s6⟩ _).mono ?_
            rintro e w2 ⟨rfl, hb2⟩
            have hb3 : Below wr.heap.size wr w2 := (below_al _ _).trans (hb2.mono (by simp))
            have hz2 := hb2.size
            simp at hz2
            have V2 := (vn_new wr ⟨s0, s1, s2, 1, s4, s5, s6⟩ wr.heap.size 45 rfl).keep hb2
            have V2' := Lib.hid V2
            obtain ⟨c0, c1, c2, c3, c4, c5, c6, c7⟩ := V2
            rw [hbr]
            have hbb := hbad.out (hgood)
            go_wp2_with fail
            go_ret2
            exact ⟨none, 0, 0, by rw [hbb]; rfl, by rw [hbb]; exact Own.nil _ _ _ _, hbel.trans (hb3.mono hsz)⟩
        · have hgood := ok_no (N := l.length) (k := k) (lb := lb) (asks_no1 hb1)
          have hmk := mk_no (k := k) (lb := lb) (asks_no1 hb1)
          have hb0 : (s.b == 1) = false := beq_false_of_ne hb1
          go_wp2_with fail
          refine (branch_any s _).mono ?_
          rintro e w2 ⟨rfl, hb2⟩
          have hb3 : Below wr.heap.size wr w2 := (below_al _ _).trans (hb2.mono (by simp))
          have hz2 := hb2.size
          simp at hz2
          have V2 := (vn_new wr s wr.heap.size 45 rfl).keep hb2
          have V2' := Lib.hid V2
          obtain ⟨c0, c1, c2, c3, c4, c5, c6, c7⟩ := V2
          rw [hbr]
          go_wp2_with (at_builtin; refine Ow2.wpList_appN _ rfl _ _ rfl elIn w.heap.size A' k c 1 w2.heap.size _ [insL s] rfl rfl (HO.out.keep hb3) rfl rfl (in_each [s]) (in_ones [s]) (by unfold maxLen; omega) (by omega) (by omega) _ rfl ?_; intro A4 c4 w4 hown4 hbel4 hkp4 hat4; have HO4 := Lib.hid hown4; clear hown4 hkp4 hat4)
          go_roundw
          case rel => exact ⟨k + 1, c4, A4, by omega, by go_num, rfl, by rw [hfs.out, List.map_append, hmk]; exact HO4.out, by show okTo lb l (k + 1) = true; rw [hos.out, hgood, HW]; rfl, (hbel.trans (hb3.mono hsz)).trans hbel4⟩
          case measure => simp [intOf]; omega
    · obtain rfl : k = n := by omega
      have e : link l lb = (outTo lb l k, 0) := by have := link_good (l := l) (lb := lb) (by rw [hl.out]; exact HW); rwa [hl.out] at this
      have e := Lib.hid e
      have HO := Lib.hid hown; clear hown
      go_wp2_with fail
      go_ret2
      exact ⟨A', k, c, by rw [e.out]; rfl, by rw [e.out]; exact HO.out, hbel⟩
end Go.Proofs.Ytkohichiojmakaa.PatK
