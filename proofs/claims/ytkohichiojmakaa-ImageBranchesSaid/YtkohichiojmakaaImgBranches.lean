/-
  WALK: the law ImageBranches.
-/
import Derived.Test.YtkohichiojmakaaImgBrPlain
import Derived.Test.YtkohichiojmakaaImgAlive
import Derived.Test.YtkohichiojmakaaA64RefEnc
import Derived.Test.YtkohichiojmakaaPatWords
namespace Go.Proofs.Ytkohichiojmakaa.ImL
set_option linter.unusedVariables false
set_option linter.unusedSimpArgs false
open Go.RowKit Cm Mm Ow Ow2 Ow3 A64 A64W A64P A64G Pat InW PatW Img ImC ImR ImN ImA ImB

/-- the image in block p -/
structure Xi (w : World) (p : Nat) (E C : Value) : Prop where
  c0 : w.cell? ⟨p, 0, none⟩ = some (.int .i64 0)
  c1 : w.cell? ⟨p, 1, none⟩ = some (.int .i64 0)
  c2 : w.cell? ⟨p, 2, none⟩ = some E
  c3 : w.cell? ⟨p, 3, none⟩ = some C
  fr : ∀ o, w.frozen? ⟨p, o, none⟩ = false
theorem Xi.same {w w' : World} {p : Nat} {E C : Value} (h : Xi w p E C) (hb : w'.heap[p]? = w.heap[p]?) : Xi w' p E C := by
  obtain ⟨h1, h2⟩ := blk_same hb
  exact ⟨(h1 0).trans h.c0, (h1 1).trans h.c1, (h1 2).trans h.c2, (h1 3).trans h.c3, fun o => (h2 o).trans (h.fr o)⟩
theorem Xi.lt {w : World} {p : Nat} {E C : Value} (h : Xi w p E C) : p < w.heap.size := World.block_lt_of_cell? w _ h.c0
theorem Xi.keep {w w' : World} {p : Nat} {E C : Value} (h : Xi w p E C) (hb : Below w.heap.size w w') : Xi w' p E C := h.same (hb.block _ h.lt)
theorem Xi.set3 {w : World} {p : Nat} {E C : Value} (h : Xi w p E C) (C' : Value) : Xi (w.setCell ⟨p, 3, none⟩ C') p E C' :=
  ⟨(World.cell?_setCell_other _ _ _ _ (by simp)).trans h.c0, (World.cell?_setCell_other _ _ _ _ (by simp)).trans h.c1, (World.cell?_setCell_other _ _ _ _ (by simp)).trans h.c2, World.cell?_setCell_same _ _ _ h.c3, fun o => by rw [World.frozen?_setCell]; exact h.fr o⟩
theorem xi_new (w : World) (E C : Value) (p : Nat) (t : TypeId) (hp : w.heap.size = p) : Xi (w.alloc (.cells #[.int .i64 0, .int .i64 0, E, C] t)) p E C := by
  subst hp
  exact ⟨by simp, by simp, by simp, by simp, fun o => by simp⟩
theorem isI_cell {w : World} {g : Nat} {x : Int} (h : w.cell? ⟨g, 0, none⟩ = some (.int .i64 x)) : IsI w (some ⟨g, 0, none⟩) 1 1 [x] :=
  ⟨rfl, Nat.le_refl _, by unfold maxLen; omega, fun _ => ⟨g, 0, rfl, World.block_lt_of_cell? w _ h, fun i hi j hj => by
    obtain rfl : i = 0 := by omega
    obtain rfl : j = 0 := by simp at hj; omega
    simpa using h⟩⟩
theorem wd_store {w : World} {base g n c : Nat} {l : List (BitVec 32)} (h : Own w base 55 1 (some ⟨g, 0, none⟩) n c (l.map wvL)) {q : Nat} (hq : q < n) (x : BitVec 32) :
    Own (w.setCell ⟨g, q, none⟩ (.int .u32 (x.toNat : Int))) base 55 1 (some ⟨g, 0, none⟩) n c ((l.set q x).map wvL) := by
  have hl : l.length = n := by simpa using h.len
  have := own_store h hq (j := 0) (by omega) (.int .u32 (x.toNat : Int))
  have e : (l.map wvL).getD q [] = wvL (l.getD q 0) := by simp [List.getD, show q < l.length by omega]
  rw [e, Nat.mul_one, Nat.add_zero] at this
  rw [List.map_set]
  exact this
theorem ok_jmp {k d : Int} (h1 : 8 ≤ k) (h2 : k ≤ 11) (h3 : -160 ≤ d) (h4 : d ≤ 200) : okIn (jmp k d) := by unfold okIn i64b jmp; dsimp only; omega
theorem ok_nop : okIn nop := by unfold okIn i64b; decide

set_option maxRecDepth 20000 in
set_option maxHeartbeats 3200000 in
theorem walk {p0 p1 p2 p3 : Prop} (n0 a0 t0 k0 : Int) (w : World) (_ : p0) (_ : p1) (_ : p2) (_ : p3) :
    Calls Try.prog 12 #[.int .i64 n0, .int .i64 a0, .int .i64 t0, .int .i64 k0] w fun e w' => e = .returned (.bool true) ∧ Below w.heap.size w w' := by
  by_cases hin : 1 ≤ n0 ∧ n0 ≤ 60 ∧ 0 ≤ a0 ∧ a0 < n0 ∧ -100 ≤ t0 ∧ t0 ≤ 200 ∧ 8 ≤ k0 ∧ k0 ≤ 11
  · obtain ⟨i1, i2, i3, i4, i5, i6, i7, i8⟩ := hin
    obtain ⟨N, rfl⟩ := Int.eq_ofNat_of_zero_le (show 0 ≤ n0 by omega)
    obtain ⟨q, rfl⟩ := Int.eq_ofNat_of_zero_le i3
    have hq : q < N := by omega
    have t1 : decide ((N : Int) < 1) = false := by simp; omega
    have t2 : decide (60 < (N : Int)) = false := by simp; omega
    have t3 : decide (N ≤ q) = false := by simp; omega
    have t4 : decide (t0 < -100) = false := by simp; omega
    have t5 : decide (200 < t0) = false := by simp; omega
    have t6 : decide (k0 < 8) = false := by simp; omega
    have t7 : decide (11 < k0) = false := by simp; omega
    go_enter Try.func12, Try.ntmps12
    go_wp2_with fail
    refine (alive_any _).mono ?_
    rintro e w1 ⟨rfl, hb1⟩
    have B1 := Lib.hid hb1
    clear hb1
    go_wp2_with fail
    have BW : Hid (Below w.heap.size w ((w1.alloc (.cells #[.int .i64 0] 3)).alloc (.cells #[.int .i64 0, .int .i64 0, .slice (some ⟨w1.heap.size, 0, none⟩) 1 1, .slice none 0 0] 27))) := Lib.hid ((B1.out.alloc B1.out.size _).alloc (by have := B1.out.size; simp; omega) _)
    have XW : Hid (Xi ((w1.alloc (.cells #[.int .i64 0] 3)).alloc (.cells #[.int .i64 0, .int .i64 0, .slice (some ⟨w1.heap.size, 0, none⟩) 1 1, .slice none 0 0] 27)) (w1.heap.size + 1) (.slice (some ⟨w1.heap.size, 0, none⟩) 1 1) (.slice none 0 0)) := Lib.hid (xi_new _ _ _ _ _ (by simp))
    have IW : Hid (((w1.alloc (.cells #[.int .i64 0] 3)).alloc (.cells #[.int .i64 0, .int .i64 0, .slice (some ⟨w1.heap.size, 0, none⟩) 1 1, .slice none 0 0] 27)).cell? ⟨w1.heap.size, 0, none⟩ = some (.int .i64 0)) := Lib.hid ((World.cell?_alloc_lt _ _ _ (by simp)).trans (World.cell?_alloc_new _ _ _ 0))
    have G0 := Lib.hid B1.out.size
    generalize (w1.alloc (.cells #[.int .i64 0] 3)).alloc (.cells #[.int .i64 0, .int .i64 0, .slice (some ⟨w1.heap.size, 0, none⟩) 1 1, .slice none 0 0] 27) = W at *
    generalize w1.heap.size = g at *
    clear B1
    go_loopw [11] (fun i wr => ∃ (k c : Nat) (A : Option Addr), k ≤ N ∧ i = .int .i64 k ∧ Xi wr (g + 1) (.slice (some ⟨g, 0, none⟩) 1 1) (.slice A k c) ∧ Own wr (g + 2) 55 1 A k c ((cw k0 t0 q k).map wvL) ∧ wr.cell? ⟨g, 0, none⟩ = some (.int .i64 0) ∧ Below w.heap.size w wr) (fun i _ => N - (intOf i).toNat)
    case atStart => exact ⟨0, 0, none, by omega, rfl, XW.out, Own.nil _ _ _ _, IW.out, BW.out⟩
    case round =>
      obtain ⟨k, c, A, hk, rfl, hX, hown, hI, hbel⟩ := hrel
      have hz := hX.lt
      have HX := Lib.hid hX
      have HO := Lib.hid hown
      have HI := Lib.hid hI
      have HB := Lib.hid hbel
      clear hX hown hI hbel
      by_cases hkn : k < N
      · have k1 : (k : Int) < N := by omega
        have k2 : (k : Int) ≤ 60 := by omega
        have hcw := Lib.hid (cw_succ k0 t0 q k)
        have hsz : Hid (w.heap.size ≤ wr.heap.size) := Lib.hid HB.out.size
        by_cases hkq : k = q
        · subst hkq
          have hins : ins k0 t0 k k = jmp k0 (t0 - k) := if_pos rfl
          have hwr : IntKind.i64.wrap (t0 - (k : Int)) = t0 - k := IntWalk.i64_in _ ⟨by omega, by omega⟩
          have hoki : Hid (okIn (jmp k0 (t0 - k))) := Lib.hid (ok_jmp i7 i8 (by omega) (by omega))
          go_wp2_with fail
          refine (rencode_any (jmp k0 (t0 - k)) _ hoki.out).mono ?_
          rintro e w2 ⟨rfl, hb2⟩
          have BA : Below wr.heap.size wr (wr.alloc (.cells #[.int .i64 k0, .int .i64 0, .int .i64 0, .int .i64 0, .int .i64 0, .int .i64 0, .int .i64 (t0 - k)] 45)) := below_al _ _
          have BC := Lib.hid (BA.trans (hb2.mono BA.size))
          have hX2 := HX.out.keep BC.out
          have X2 := Lib.hid hX2
          have O2 := Lib.hid (HO.out.keep BC.out)
          have E2 := Lib.hid ((BC.out.cell (p := ⟨g, 0, none⟩) (show g < wr.heap.size by omega)).trans HI.out)
          have H2 := Lib.hid (HB.out.trans (BC.out.mono hsz.out))
          have HG2 : Hid (g + 2 ≤ w2.heap.size) := Lib.hid (by have := BC.out.size; omega)
          obtain ⟨x0, x1, x2, x3, xf⟩ := hX2
          clear xf hb2 BA
          rw [← hins]
          generalize (encode (ins k0 t0 k k)).1 = ww at *
          go_wp2_with (at_builtin; refine Ow2.wpList_appN _ rfl _ _ rfl elWd (g + 2) A k c 1 w2.heap.size _ [wvL ww] rfl rfl O2.out rfl rfl (fun y hy => by simp at hy; subst hy; rfl) (fun y hy u hu => by simp at hy; subst hy; simp [wvL] at hu; subst hu; rfl) (by unfold maxLen; omega) (by omega) HG2.out _ rfl ?_; intro A4 c4 w4 hown4 hbel4 hkp4 hat4; have HO4 := Lib.hid hown4; have hX4 := X2.out.same (hbel4.block (g + 1) (by omega)); have X4 := Lib.hid hX4; have E4 := Lib.hid ((hbel4.cell (p := ⟨g, 0, none⟩) (show g < g + 2 by omega)).trans E2.out); have H4 := Lib.hid (H2.out.trans (hbel4.mono (by have := G0.out; omega))); obtain ⟨y0, y1, y2, y3, yf⟩ := hX4; have yf3 := yf 3; clear yf hown4 hbel4 hkp4 hat4)
          go_roundw
          case rel => exact ⟨k + 1, c4, A4, by omega, by go_num, X4.out.set3 _, by rw [hcw.out, List.map_append]; exact own_set HO4.out (by show g + 1 < g + 2; omega) _, (World.cell?_setCell_other _ _ _ _ (by simp)).trans E4.out, H4.out.setCell (p := ⟨g + 1, 3, none⟩) (by have := G0.out; show w.heap.size ≤ g + 1; omega) _⟩
          case measure => simp [intOf]; omega
        · have hins : ins k0 t0 q k = nop := if_neg hkq
          have hkq' : ¬ (k : Int) = q := by omega
          go_wp2_with fail
          refine (rencode_any (nop) _ ok_nop).mono ?_
          rintro e w2 ⟨rfl, hb2⟩
          have BA : Below wr.heap.size wr (wr.alloc (.cells #[.int .i64 21, .int .i64 0, .int .i64 0, .int .i64 0, .int .i64 0, .int .i64 0, .int .i64 0] 45)) := below_al _ _
          have BC := Lib.hid (BA.trans (hb2.mono BA.size))
          have hX2 := HX.out.keep BC.out
          have X2 := Lib.hid hX2
          have O2 := Lib.hid (HO.out.keep BC.out)
          have E2 := Lib.hid ((BC.out.cell (p := ⟨g, 0, none⟩) (show g < wr.heap.size by omega)).trans HI.out)
          have H2 := Lib.hid (HB.out.trans (BC.out.mono hsz.out))
          have HG2 : Hid (g + 2 ≤ w2.heap.size) := Lib.hid (by have := BC.out.size; omega)
          obtain ⟨x0, x1, x2, x3, xf⟩ := hX2
          clear xf hb2 BA
          rw [← hins]
          generalize (encode (ins k0 t0 q k)).1 = ww at *
          go_wp2_with (at_builtin; refine Ow2.wpList_appN _ rfl _ _ rfl elWd (g + 2) A k c 1 w2.heap.size _ [wvL ww] rfl rfl O2.out rfl rfl (fun y hy => by simp at hy; subst hy; rfl) (fun y hy u hu => by simp at hy; subst hy; simp [wvL] at hu; subst hu; rfl) (by unfold maxLen; omega) (by omega) HG2.out _ rfl ?_; intro A4 c4 w4 hown4 hbel4 hkp4 hat4; have HO4 := Lib.hid hown4; have hX4 := X2.out.same (hbel4.block (g + 1) (by omega)); have X4 := Lib.hid hX4; have E4 := Lib.hid ((hbel4.cell (p := ⟨g, 0, none⟩) (show g < g + 2 by omega)).trans E2.out); have H4 := Lib.hid (H2.out.trans (hbel4.mono (by have := G0.out; omega))); obtain ⟨y0, y1, y2, y3, yf⟩ := hX4; have yf3 := yf 3; clear yf hown4 hbel4 hkp4 hat4)
          go_roundw
          case rel => exact ⟨k + 1, c4, A4, by omega, by go_num, X4.out.set3 _, by rw [hcw.out, List.map_append]; exact own_set HO4.out (by show g + 1 < g + 2; omega) _, (World.cell?_setCell_other _ _ _ _ (by simp)).trans E4.out, H4.out.setCell (p := ⟨g + 1, 3, none⟩) (by have := G0.out; show w.heap.size ≤ g + 1; omega) _⟩
          case measure => simp [intOf]; omega
      · obtain rfl : k = N := by omega
        have hrb := right_br (n := k) (q := q) (k := k0) (to_ := t0) (by omega) (by omega) hq i7 i8 i5 i6
        have hr7 := Lib.hid (right_seven (n := k) (q := q) (cw_len k0 t0 q k) hq)
        have hrb : Hid (right' ⟨0, 0, [0], cw k0 t0 q k⟩ = (decide (0 ≤ t0) && decide (t0 < k))) := Lib.hid hrb
        obtain ⟨g', rfl⟩ := own_head HO.out (by omega)
        have hg' := HO.out.lt g' rfl
        have hX := HX.out
        obtain ⟨x0, x1, x2, x3, xf⟩ := hX
        clear xf
        have hok : ∃ b : Bool, (decide (0 ≤ t0) && decide (t0 < k)) = b ∧ ((b = false ∧ ¬ 0 ≤ t0) ∨ (b = false ∧ 0 ≤ t0 ∧ ¬ t0 < k) ∨ (b = true ∧ 0 ≤ t0 ∧ t0 < k)) := by
          by_cases h1 : 0 ≤ t0
          · by_cases h2 : t0 < k
            · exact ⟨true, by rw [decide_eq_true h1, decide_eq_true h2]; rfl, .inr (.inr ⟨rfl, h1, h2⟩)⟩
            · exact ⟨false, by rw [decide_eq_false h2, Bool.and_false], .inr (.inl ⟨rfl, h1, h2⟩)⟩
          · exact ⟨false, by rw [decide_eq_false h1]; rfl, .inl ⟨rfl, h1⟩⟩
        obtain ⟨b, hb, hcase⟩ := hok
        have hrb := Lib.hid (hrb.out.trans hb)
        clear hb
        rcases hcase with ⟨rfl, d1⟩ | ⟨rfl, d1, d2⟩ | ⟨rfl, d1, d2⟩
        all_goals
          go_wp2_with fail
          refine (right_any 0 0 (some ⟨g, 0, none⟩) (some ⟨g', 0, none⟩) 1 1 k c [0] (cw k0 t0 q k) wr (isI_cell HI.out) (isWd_own HO.out)).mono ?_
          rintro e w5 ⟨rfl, hb5⟩
          rw [hrb.out]
          have hO5 := HO.out.keep hb5
          have hX5 := HX.out.keep hb5
          have E5 := Lib.hid ((hb5.cell (p := ⟨g, 0, none⟩) (show g < wr.heap.size by omega)).trans HI.out)
          have B5 := Lib.hid (HB.out.trans (hb5.mono HB.out.size))
          have hcell := own_cell hO5 (i := q) (j := 0) hq (by omega)
          rw [Nat.mul_one, Nat.add_zero] at hcell
          obtain ⟨hc1, hc2⟩ := hcell
          have hc3 : w5.cell? ⟨g', q, none⟩ = some (.int .u32 (((cw k0 t0 q k).getD q 0).toNat : Int)) := by
            rw [hc1]
            have : q < (cw k0 t0 q k).length := by rw [cw_len]; exact hq
            simp [List.getD, this, wvL]
          have O6 := Lib.hid (wd_store hO5 hq 7#32)
          have X6 : Hid (Xi (w5.setCell ⟨g', q, none⟩ (.int .u32 ((7#32).toNat : Int))) (g + 1) (.slice (some ⟨g, 0, none⟩) 1 1) (.slice (some ⟨g', 0, none⟩) k c)) := Lib.hid (hX5.same (Below.heap_setCell _ _ _ _ (by show g + 1 ≠ g'; omega)))
          have E6 : Hid ((w5.setCell ⟨g', q, none⟩ (.int .u32 ((7#32).toNat : Int))).cell? ⟨g, 0, none⟩ = some (.int .i64 0)) := Lib.hid ((World.cell?_setCell_other _ _ _ _ (by first | (simp; done) | (simp; omega))).trans E5.out)
          have B6 : Hid (Below w.heap.size w (w5.setCell ⟨g', q, none⟩ (.int .u32 ((7#32).toNat : Int)))) := Lib.hid (B5.out.setCell (p := ⟨g', q, none⟩) (by have := G0.out; show w.heap.size ≤ g'; omega) _)
          obtain ⟨y0, y1, y2, y3, yf⟩ := hX5
          obtain ⟨z0, z1, z2, z3, zf⟩ := X6.out
          have q1 : (q : Int) < k := by omega
          have q2 : (q : Int) ≤ 60 := by omega
          clear yf zf hc1 hb5 hO5
          go_wp2_with fail
          refine (right_any 0 0 (some ⟨g, 0, none⟩) (some ⟨g', 0, none⟩) 1 1 k c [0] ((cw k0 t0 q k).set q 7#32) _ (isI_cell E6.out) (isWd_own O6.out)).mono ?_
          rintro e w7 ⟨rfl, hb7⟩
          rw [hr7.out]
          have B7 := Lib.hid (B6.out.trans (hb7.mono B6.out.size))
          clear hb7
          go_wp2_with fail
          go_ret
          exact ⟨rfl, B7.out⟩
  · obtain h | ⟨h, h2⟩ | ⟨h, h2, h3⟩ | ⟨h, h2, h3, h4⟩ | ⟨h, h2, h3, h4, h5⟩ | ⟨h, h2, h3, h4, h5, h6⟩ | ⟨h, h2, h3, h4, h5, h6, h7⟩ | ⟨h, h2, h3, h4, h5, h6, h7, h8⟩ :
      n0 < 1 ∨ (¬ n0 < 1 ∧ 60 < n0) ∨ (¬ n0 < 1 ∧ ¬ 60 < n0 ∧ a0 < 0) ∨ (¬ n0 < 1 ∧ ¬ 60 < n0 ∧ ¬ a0 < 0 ∧ n0 ≤ a0) ∨ (¬ n0 < 1 ∧ ¬ 60 < n0 ∧ ¬ a0 < 0 ∧ ¬ n0 ≤ a0 ∧ t0 < -100) ∨ (¬ n0 < 1 ∧ ¬ 60 < n0 ∧ ¬ a0 < 0 ∧ ¬ n0 ≤ a0 ∧ ¬ t0 < -100 ∧ 200 < t0) ∨
      (¬ n0 < 1 ∧ ¬ 60 < n0 ∧ ¬ a0 < 0 ∧ ¬ n0 ≤ a0 ∧ ¬ t0 < -100 ∧ ¬ 200 < t0 ∧ k0 < 8) ∨ (¬ n0 < 1 ∧ ¬ 60 < n0 ∧ ¬ a0 < 0 ∧ ¬ n0 ≤ a0 ∧ ¬ t0 < -100 ∧ ¬ 200 < t0 ∧ ¬ k0 < 8 ∧ 11 < k0) := by omega
    all_goals
      clear hin
      go_enter Try.func12, Try.ntmps12
      go_wp2_with fail
      refine (alive_any _).mono ?_
      rintro e w1 ⟨rfl, hb1⟩
      go_wp2_with fail
      go_ret
      exact ⟨rfl, hb1⟩
end Go.Proofs.Ytkohichiojmakaa.ImL
