/-
  WALK: the document's Join.
-/
import Derived.Test.YtkohichiojmakaaImgJoinW
import Derived.Test.YtkohichiojmakaaHeld2
namespace Go.Proofs.Ytkohichiojmakaa.ImX
set_option linter.unusedVariables false
set_option linter.unusedSimpArgs false
open Go.RowKit Cm Mm Ow Ow2 Ow3 A64 A64W A64P Pat InW PatW Img ImC ImR ImQ ImN ImA Jn ImJ ImW
attribute [local go_sem ↓] Go.wp_at_zero Go.wp_at_succ

theorem _root_.Go.Proofs.Ytkohichiojmakaa.ImW.JM.drew {S p : Nat} {w wr : World} {x : Int} {s : List (BitVec 32)} {t : List (List (BitVec 32))} {k : Nat} {E : Option Addr} {ec : Nat} {C : Option Addr} {m cc : Nat} (h : JM S p w wr x s t k E ec C m cc) : JM S p w wr.drew x s t k E ec C m cc :=
  ⟨h.X.same rfl, own_same h.OE (fun _ _ => rfl), own_same h.OC (fun _ _ => rfl), h.LC, h.Z.same rfl, h.B.drew, h.hp⟩

set_option maxRecDepth 20000 in
set_option maxHeartbeats 6400000 in
theorem rjoin_any (A T : Option Addr) (n cap tn tc : Nat) (s : List (BitVec 32)) (rs : List Row) (x : Int) (w : World) (h : IsWd w A n cap s) (hT : IsRows w T tn tc rs) (hn : n ≤ 100) (htn : tn ≤ 8) (hrs : ∀ j, j < tn → (rs.getD j zeroRow).l.length ≤ 100) :
    Calls Try.prog 15 #[.slice A n cap, .slice T tn tc, .int .i64 x] w (GaveIm w (join s (ths rs) x)) := by
  have hs := Lib.hid h.1
  have hr := Lib.hid hT.1
  have htl : Hid ((ths rs).length = tn) := Lib.hid (by unfold ths; rw [List.length_map]; exact hr.out)
  have hcl : Hid (∀ k, k ≤ tn → (codeK s (ths rs) k).length ≤ 900) := Lib.hid (fun k hk => by
    have := codeK_len (s := s) (t := ths rs) (by rw [hs.out]; exact hn) (fun j hj => by rw [ths_get]; exact hrs j (by rw [htl.out] at hj; exact hj)) k (by rw [htl.out]; exact hk)
    omega)
  have HRS := Lib.hid hrs
  have HZ0 := Lib.hid (zi_new w w.heap.size 27 rfl)
  have HB0 : Hid (Below w.heap.size w (w.alloc (.cells #[.int .i64 0, .int .i64 0, .slice none 0 0, .slice none 0 0] 27))) := Lib.hid (below_al _ _)
  have HI := Lib.hid (h.keep HB0.out)
  have HT := Lib.hid (hT.keep HB0.out)
  have hT0 := hT
  clear h hT hrs
  go_enter Try.func15, Try.ntmps15
  have hz0 : (w.alloc (.cells #[.int .i64 0, .int .i64 0, .slice none 0 0, .slice none 0 0] 27)).heap.size = w.heap.size + 1 := by simp
  have hwv := Lib.hid (wv_range s n hs.out)
  obtain ⟨W, hW⟩ : ∃ W, w.alloc (.cells #[.int .i64 0, .int .i64 0, .slice none 0 0, .slice none 0 0] 27) = W := ⟨_, rfl⟩
  rw [hW] at hz0 HZ0 HB0 HI HT
  have HW := Lib.hid hW
  clear hW
  go_upto_region 1 with (fail)
  rw [HW.out]
  go_wp2_with (at_builtin; refine wpList_app _ rfl _ _ rfl elWd W.heap.size none 0 0 [] rfl (Own.nil _ _ _ _) A n cap (fun i => wvL (s.getD i 0)) rfl HI.out.2 (fun _ _ => rfl) (fun i _ => by intro u hu; simp [wvL] at hu; subst hu; rfl) (by unfold maxLen; omega) (by omega) (Nat.le_refl _) ?_; intro A2 c2 w2 hown2 hg2 hat2; rw [hwv.out, List.nil_append] at hown2; rw [Nat.zero_add] at hown2 ⊢; have HO2 := Lib.hid hown2; have BB2 : Hid (Below W.heap.size W w2) := Lib.hid ((Below.refl _ _).grown hg2 (Nat.le_refl _) (fun k hk => by cases hk)); clear hown2 hg2 hat2)
  have hown2 := HO2.out
  have hb2 := BB2.out
  rw [hz0] at hown2
  have hp2 := hb2.size
  obtain ⟨W3, hW3⟩ : ∃ W3, w2.alloc (.cells #[.int .i64 x, .int .i64 0, .slice none 0 0, .slice A2 n c2] 27) = W3 := ⟨_, rfl⟩
  have B3 : Below w2.heap.size w2 W3 := by rw [← hW3]; exact below_al _ _
  have X3 : Hid (Xm W3 w2.heap.size x 0 (.slice none 0 0) (.slice A2 n c2)) := Lib.hid (by rw [← hW3]; exact xm_new _ _ _ _ _ _ _ rfl)
  have O3 := Lib.hid (hown2.keep B3)
  have B03 := Lib.hid (HB0.out.trans ((hb2.trans (B3.mono hp2)).mono (by omega)))
  have Z3 := Lib.hid ((HZ0.out.same (hb2.block _ (by omega))).same (B3.block _ (by omega)))
  have L3 : Hid (∀ g, A2.map (·.block) = some g → w.heap.size < g ∧ g ≠ w2.heap.size) := Lib.hid (fun g hg => by have := hown2.lt g hg; omega)
  have T3 := Lib.hid ((HT.out.keep hb2).keep B3)
  have hp : w.heap.size < w2.heap.size := by omega
  have HW3 := Lib.hid hW3
  clear hown2 hb2 B3 hW3
  rw [HW3.out]
  generalize w2.heap.size = p at *
  have hTw := Lib.hid hT0
  have HJ : Hid (JS w.heap.size p w W3 x s (ths rs) 0 none 0 A2 n c2) := Lib.hid ⟨X3.out, Own.nil _ _ _ _, by rw [codeK_zero]; exact O3.out, L3.out, Z3.out, B03.out, hp⟩
  go_loopw [9] (fun i wr => ∃ (k ec m cc : Nat) (E C : Option Addr), k ≤ tn ∧ i = .int .i64 k ∧ JS w.heap.size p w wr x s (ths rs) k E ec C m cc) (fun i _ => tn - (intOf i).toNat)
  case atStart => exact ⟨0, 0, n, c2, none, A2, by omega, rfl, HJ.out⟩
  case round =>
    obtain ⟨k, ec, m, cc, E, C, hk, rfl, hJ⟩ := hrel
    have HJ := Lib.hid hJ
    have hml : m ≤ 900 := by
      have h1 : (codeK s (ths rs) k).length = m := by simpa using hJ.OC.len
      have := hcl.out k hk
      omega
    obtain ⟨x0, x1, x2, x3, xf⟩ := hJ.X
    clear xf hJ
    by_cases hkn : k < tn
    · obtain ⟨tb, to_, rfl, htb, ht0⟩ := (hTw.out.keep HJ.out.B).cell (k := k) hkn
      have hrow : Hid (IsWd w (rs.getD k zeroRow).A (rs.getD k zeroRow).n (rs.getD k zeroRow).c (rs.getD k zeroRow).l) := Lib.hid (hTw.out.2.2 k hkn)
      have hrl := Lib.hid (HRS.out k hkn)
      have hth := Lib.hid (ths_get rs k)
      have hkt : Hid (k < (ths rs).length) := Lib.hid (by rw [htl.out]; exact hkn)
      have hrg : Hid (∃ r, rs.getD k zeroRow = r) := Lib.hid ⟨_, rfl⟩
      obtain ⟨r, hrg⟩ := hrg.out
      rw [hrg] at ht0 hrow hrl hth
      obtain ⟨rA, rn, rc, rl⟩ := r
      have hrg := Lib.hid hrg
      dsimp only at ht0 hrow hrl hth
      have hrn : rn ≤ 100 := by have := hrow.out.1; have := hrl.out; omega
      have hwr := Lib.hid (wv_range rl rn hrow.out.1)
      go_wp2_with (at_builtin; refine Ow2.wpList_appN _ rfl _ _ rfl elI (p + 1) E k ec 1 wr.heap.size _ [ivL (m : Int)] rfl rfl HJ.out.OE rfl rfl (fun y hy => by simp at hy; subst hy; rfl) (fun y hy u hu => by simp at hy; subst hy; simp [ivL] at hu; subst hu; rfl) (by unfold maxLen; omega) (by omega) HJ.out.X.lt _ rfl ?_; intro A4 c4 w4 hown4 hbel4 hkp4 hat4; have S1 := Lib.hid (step1 HJ.out hown4 hbel4 hkp4); obtain ⟨y0, y1, y2, y3, yf⟩ := S1.out.1; have yf2 := yf 2; clear yf hown4 hbel4 hkp4 hat4)
      obtain ⟨W5, hW5⟩ : ∃ W5, w4.setCell ⟨p, 2, none⟩ (.slice A4 (k + 1) c4) = W5 := ⟨_, rfl⟩
      have J5 : Hid (JM w.heap.size p w W5 x s (ths rs) k A4 c4 C m cc) := Lib.hid (by rw [← hW5]; exact S1.out.2)
      rw [hW5]
      clear hW5 y0 y1 y2 y3 yf2 S1 x0 x1 x2 x3 ht0
      have J5d := Lib.hid (J5.out.drew)
      have ht5 := ((hTw.out.keep J5.out.B).cell (k := k) hkn)
      obtain ⟨tb', to', e', htb', ht5⟩ := ht5
      obtain ⟨rfl, rfl⟩ : tb = tb' ∧ to_ = to' := by simpa using e'
      rw [hrg.out] at ht5
      refine Hd.start 6 (fun w' => w'.cell? ⟨p, 3, none⟩ = some (.slice C m cc) ∧ w'.cell? ⟨tb, to_ + k, none⟩ = some (.slice rA rn rc)) (by kernel_rfl) ?_
      have hSw : W5.drew.cell? ⟨p, 3, none⟩ = some (.slice C m cc) ∧ W5.drew.cell? ⟨tb, to_ + k, none⟩ = some (.slice rA rn rc) := ⟨J5.out.X.c3, ht5⟩
      refine Hd.take (i := 0) (v := ?v0) rfl (by kernel_rfl) (by kernel_rfl) (fun _ _ _ h => h) rfl ?hy0 hSw ?rest0
      case hy0 =>
        intro wq hSq
        obtain ⟨g3, gt⟩ := hSq
        go_simp
        try with_reducible rfl
      try simp only [Act.put, List.setIfInBounds_toArray, List.set_cons_zero, List.set_cons_succ]
      refine Hd.take (i := 1) (v := ?v1) rfl (by kernel_rfl) (by kernel_rfl) (fun _ _ _ h => h) rfl ?hy1 hSw ?rest1
      case hy1 =>
        intro wq hSq
        obtain ⟨g3, gt⟩ := hSq
        go_simp
        try with_reducible rfl
      try simp only [Act.put, List.setIfInBounds_toArray, List.set_cons_zero, List.set_cons_succ]
      refine Hd.take (i := 2) (v := ?v2) rfl (by kernel_rfl) (by kernel_rfl) (fun _ _ _ h => h) rfl ?hy2 hSw ?rest2
      case hy2 =>
        intro wq hSq
        obtain ⟨g3, gt⟩ := hSq
        go_simp
        try with_reducible rfl
      try simp only [Act.put, List.setIfInBounds_toArray, List.set_cons_zero, List.set_cons_succ]
      refine Hd.take (i := 3) (v := ?v3) rfl (by kernel_rfl) (by kernel_rfl) (fun _ _ _ h => h) rfl ?hy3 hSw ?rest3
      case hy3 =>
        intro wq hSq
        obtain ⟨g3, gt⟩ := hSq
        go_simp
        try with_reducible rfl
      try simp only [Act.put, List.setIfInBounds_toArray, List.set_cons_zero, List.set_cons_succ]
      refine Hd.take (i := 4) (v := ?v4) rfl (by kernel_rfl) (by kernel_rfl) (fun _ _ _ h => h) rfl ?hy4 hSw ?rest4
      case hy4 =>
        intro wq hSq
        obtain ⟨g3, gt⟩ := hSq
        go_simp
        try with_reducible rfl
      try simp only [Act.put, List.setIfInBounds_toArray, List.set_cons_zero, List.set_cons_succ]
      refine Hd.take (i := 5) (v := ?v5) rfl (by kernel_rfl) (by kernel_rfl) (fun _ _ _ h => h) rfl ?hy5 hSw ?rest5
      case hy5 =>
        intro wq hSq
        obtain ⟨g3, gt⟩ := hSq
        go_simp
        try with_reducible rfl
      try simp only [Act.put, List.setIfInBounds_toArray, List.set_cons_zero, List.set_cons_succ]
      refine Hd.one (i := 6) rfl (by kernel_rfl) rfl (fun K hK => ?_)
      refine wp_app _ _ _ rfl elWd (w.heap.size + 1) C m cc _ rfl J5d.out.OC rA rn rc (fun i => wvL (rl.getD i 0)) rfl (hrow.out.keep J5d.out.B).2 (fun _ _ => rfl) (fun i _ => by intro u hu; simp [wvL] at hu; subst hu; rfl) (by unfold maxLen; omega) (by omega) (by have := J5d.out.X.lt; omega) ?_
      intro A6 c6 w6 hown6 hg6 hat6
      rw [hwr.out, ← hth.out] at hown6
      have S2 := Lib.hid (step2 J5d.out hkt.out hown6 hg6 hat6)
      refine hK _ _ (fun h => absurd h (by omega)) ?_
      clear hK K hown6 hg6 hat6 hSw ht5
      try simp only [Act.put, List.setIfInBounds_toArray, List.set_cons_zero, List.set_cons_succ]
      obtain ⟨v0, v1, v2, v3, vf⟩ := S2.out.1
      have vf3 := vf 3
      clear vf
      refine Hd.one (i := 7) rfl (by kernel_rfl) rfl (fun K hK => ?_)
      go_simp
      refine hK _ _ (fun h => absurd h (by omega)) ?_
      clear hK K
      try simp only [Act.put, List.setIfInBounds_toArray, List.set_cons_zero, List.set_cons_succ]
      refine Hd.one (i := 8) rfl (by kernel_rfl) rfl (fun K hK => ?_)
      go_simp
      refine hK _ _ (fun h => absurd h (by omega)) ?_
      clear hK K
      try simp only [Act.put, List.setIfInBounds_toArray, List.set_cons_zero, List.set_cons_succ]
      refine Hd.done (by kernel_rfl) ?_ _
      have hfinal := Lib.hid S2.out.2
      clear v0 v1 v2 v3 vf3
      go_wp2_with fail
      go_roundw
      case rel => exact ⟨k + 1, c4, m + rn, c6, A4, A6, by omega, by go_num, hfinal.out⟩
      case measure => simp [intOf]; omega
    · obtain rfl : k = tn := by omega
      have hj : joined s (ths rs) x = ⟨x, 0, entK s (ths rs) k, codeK s (ths rs) k⟩ := by unfold joined; rw [htl.out]
      have jg := Lib.hid (join_good (s := s) (t := ths rs) (x := x))
      have jb := Lib.hid (join_bad (s := s) (t := ths rs) (x := x))
      rw [hj] at jg jb
      have JG := Lib.hid jg.out
      have JB := Lib.hid jb.out
      have IE := Lib.hid (isI_own HJ.out.OE)
      have IC := Lib.hid (isWd_own HJ.out.OC)
      clear hj jg jb
      go_wp2_with fail
      refine (rright_any x 0 E C k ec m cc (entK s (ths rs) k) (codeK s (ths rs) k) wr IE.out IC.out).mono ?_
      rintro e w7 ⟨rfl, hb7⟩
      have B7 := Lib.hid (HJ.out.B.trans (hb7.mono HJ.out.B.size))
      have X7 := Lib.hid (HJ.out.X.keep hb7)
      have E7 := Lib.hid (HJ.out.OE.keep hb7)
      have C7 := Lib.hid (HJ.out.OC.keep hb7)
      have hz7 := HJ.out.Z.same (hb7.block w.heap.size (by have := HJ.out.X.lt; have := HJ.out.hp; omega))
      have Z7 : Hid (Xm w7 w.heap.size 0 0 (.slice none 0 0) (.slice none 0 0)) := Lib.hid ⟨hz7.c0, hz7.c1, hz7.c2, hz7.c3, hz7.fr⟩
      obtain ⟨y0, y1, y2, y3, yf⟩ := hz7
      have yf0 := yf 0; have yf1 := yf 1; have yf2 := yf 2; have yf3 := yf 3
      obtain ⟨u0, u1, u2, u3, uf⟩ := X7.out
      have hne : w.heap.size ≠ p := by have := HJ.out.hp; omega
      have hES : E.map (·.block) ≠ some w.heap.size := fun e => by have := (HJ.out.OE.lt _ e).1; have := HJ.out.hp; omega
      have hCS : C.map (·.block) ≠ some w.heap.size := fun e => by have := (HJ.out.LC _ e).1; omega
      have HES := Lib.hid hES
      have HCS := Lib.hid hCS
      clear yf uf hb7 hES hCS
      cases hrt : right' ⟨x, 0, entK s (ths rs) k, codeK s (ths rs) k⟩
      · have JB := Lib.hid (JB.out hrt)
        go_wp2_with fail
        have hfin := (((Z7.out.set0 0).set1 0).set2 (.slice none 0 0)).set3 (.slice none 0 0)
        have hbel := (((B7.out.setCell (p := ⟨w.heap.size, 0, none⟩) (Nat.le_refl _) (.int .i64 0)).setCell (p := ⟨w.heap.size, 1, none⟩) (Nat.le_refl _) (.int .i64 0)).setCell (p := ⟨w.heap.size, 2, none⟩) (Nat.le_refl _) (.slice none 0 0)).setCell (p := ⟨w.heap.size, 3, none⟩) (Nat.le_refl _) (.slice none 0 0)
        obtain ⟨k0, k1, k2, k3, _⟩ := hfin
        refine bodyPost_ret (v := .tuple #[.agg #[.int .i64 0, .int .i64 0, .slice none 0 0, .slice none 0 0], .int .i64 1]) ?_ rfl ⟨none, 0, 0, none, 0, 0, by rw [JB.out], by rw [JB.out]; exact isI_nil _, by rw [JB.out]; exact isWd_nil _, hbel⟩
        simp [results, Try.f15, go_sem, k0, k1, k2, k3]
      · have JG := Lib.hid (JG.out hrt)
        go_wp2_with fail
        have hfin := (((Z7.out.set0 x).set1 0).set2 (.slice E k ec)).set3 (.slice C m cc)
        have hbel := (((B7.out.setCell (p := ⟨w.heap.size, 0, none⟩) (Nat.le_refl _) (.int .i64 x)).setCell (p := ⟨w.heap.size, 1, none⟩) (Nat.le_refl _) (.int .i64 0)).setCell (p := ⟨w.heap.size, 2, none⟩) (Nat.le_refl _) (.slice E k ec)).setCell (p := ⟨w.heap.size, 3, none⟩) (Nat.le_refl _) (.slice C m cc)
        have fE := isI_own (own_other (own_other (own_other (own_other E7.out (a := ⟨w.heap.size, 0, none⟩) HES.out (.int .i64 x)) (a := ⟨w.heap.size, 1, none⟩) HES.out (.int .i64 0)) (a := ⟨w.heap.size, 2, none⟩) HES.out (.slice E k ec)) (a := ⟨w.heap.size, 3, none⟩) HES.out (.slice C m cc))
        have fC := isWd_own (own_other (own_other (own_other (own_other C7.out (a := ⟨w.heap.size, 0, none⟩) HCS.out (.int .i64 x)) (a := ⟨w.heap.size, 1, none⟩) HCS.out (.int .i64 0)) (a := ⟨w.heap.size, 2, none⟩) HCS.out (.slice E k ec)) (a := ⟨w.heap.size, 3, none⟩) HCS.out (.slice C m cc))
        obtain ⟨k0, k1, k2, k3, _⟩ := hfin
        refine bodyPost_ret (v := .tuple #[.agg #[.int .i64 x, .int .i64 0, .slice E k ec, .slice C m cc], .int .i64 0]) ?_ rfl ⟨E, k, ec, C, m, cc, by rw [JG.out], by rw [JG.out]; exact fE, by rw [JG.out]; exact fC, hbel⟩
        simp [results, Try.f15, go_sem, k0, k1, k2, k3]
end Go.Proofs.Ytkohichiojmakaa.ImX
