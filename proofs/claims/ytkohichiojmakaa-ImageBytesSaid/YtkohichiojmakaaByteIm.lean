/-
  WALK: image.Bytes.
-/
import Derived.Test.YtkohichiojmakaaByteCat
namespace Go.Proofs.Ytkohichiojmakaa.ByM
set_option linter.unusedVariables false
set_option linter.unusedSimpArgs false
open Go.RowKit Cm Mm Ow Ow2 Ow3 A64 A64W Pat InW PatW Img ImC ImR ImQ ImN ImW Byt ByW ByR ByF ByI ByC

attribute [local go_sem] conv_cfd
def GaveN (w : World) (x : List (BitVec 8) × Int) (e : Ending) (w' : World) : Prop :=
  ∃ A m c, e = .returned (.tuple #[.slice A m c, .int .i64 x.2]) ∧ (m = 0 → A = none) ∧ Own w' w.heap.size 5 1 A m c (x.1.map bvL) ∧ Below w.heap.size w w'
theorem rows3 (y : Int) (m : Nat) (w4 W5 : World) {E : Option Addr} {n ec : Nat} {en : List Int} (hW : W5 = ((w4.alloc (.cells #[.int .i64 y] 3)).alloc (.cells #[.int .i64 (m : Int)] 3)).alloc (.cells #[.slice (some ⟨w4.heap.size, 0, none⟩) 1 1, .slice E n ec, .slice (some ⟨w4.heap.size + 1, 0, none⟩) 1 1] 25)) (hE : IsI w4 E n ec en) :
    IsRowsI W5 (some ⟨w4.heap.size + 2, 0, none⟩) 3 3 [⟨some ⟨w4.heap.size, 0, none⟩, 1, 1, [y]⟩, ⟨E, n, ec, en⟩, ⟨some ⟨w4.heap.size + 1, 0, none⟩, 1, 1, [(m : Int)]⟩] := by
  have e1 : (w4.alloc (.cells #[.int .i64 y] 3)).heap.size = w4.heap.size + 1 := by simp
  have e2 : ((w4.alloc (.cells #[.int .i64 y] 3)).alloc (.cells #[.int .i64 (m : Int)] 3)).heap.size = w4.heap.size + 2 := by simp
  have b1 : Below w4.heap.size w4 (w4.alloc (.cells #[.int .i64 y] 3)) := (Below.refl _ _).alloc (Nat.le_refl _) _
  have b2 : Below (w4.alloc (.cells #[.int .i64 y] 3)).heap.size (w4.alloc (.cells #[.int .i64 y] 3)) ((w4.alloc (.cells #[.int .i64 y] 3)).alloc (.cells #[.int .i64 (m : Int)] 3)) := (Below.refl _ _).alloc (Nat.le_refl _) _
  have b3 : Below ((w4.alloc (.cells #[.int .i64 y] 3)).alloc (.cells #[.int .i64 (m : Int)] 3)).heap.size ((w4.alloc (.cells #[.int .i64 y] 3)).alloc (.cells #[.int .i64 (m : Int)] 3)) W5 := by rw [hW]; exact (Below.refl _ _).alloc (Nat.le_refl _) _
  have i1 := ((ImA.isI_one w4 y).keep b2).keep b3
  have i2 := (ImA.isI_one (w4.alloc (.cells #[.int .i64 y] 3)) (m : Int)).keep b3
  have i3 := ((hE.keep b1).keep b2).keep b3
  rw [e1] at i2
  refine ⟨rfl, ⟨Nat.le_refl _, by unfold maxLen; omega, fun _ => ⟨w4.heap.size + 2, 0, rfl, by rw [hW]; simp, fun i hi j hj => ?_⟩⟩, fun i hi => ?_⟩
  · obtain rfl : j = 0 := by simp at hj; omega
    have hc := fun o => World.cell?_alloc_new ((w4.alloc (.cells #[.int .i64 y] 3)).alloc (.cells #[.int .i64 (m : Int)] 3)) #[.slice (some ⟨w4.heap.size, 0, none⟩) 1 1, .slice E n ec, .slice (some ⟨w4.heap.size + 1, 0, none⟩) 1 1] 25 o
    rw [e2, ← hW] at hc
    rw [hc]
    match i, hi with
    | 0, _ => rfl
    | 1, _ => rfl
    | 2, _ => rfl
  · match i, hi with
    | 0, _ => exact i1
    | 1, _ => exact i3
    | 2, _ => exact i2

set_option maxRecDepth 20000 in
set_option maxHeartbeats 6400000 in
theorem rbytes_no (x y : Int) (E C : Option Addr) (n ec m cc : Nat) (en : List Int) (co : List (BitVec 32)) (w : World) (hE : IsI w E n ec en) (hC : IsWd w C m cc co) (hrt : right' ⟨x, y, en, co⟩ = false) :
    Calls Try.prog 20 #[.agg #[.int .i64 x, .int .i64 y, .slice E n ec, .slice C m cc]] w fun e w' => e = .returned (.tuple #[.slice none 0 0, .int .i64 1]) ∧ Below w.heap.size w w' := by
  have hle := Lib.hid hE.1
  have hlc := Lib.hid hC.1
  obtain ⟨W, hW⟩ : ∃ W, W = w.alloc (.cells #[.int .i64 x, .int .i64 y, .slice E n ec, .slice C m cc] 27) := ⟨_, rfl⟩
  have hB : Below w.heap.size w W := by rw [hW]; exact (Below.refl _ _).alloc (Nat.le_refl _) _
  have HX : Hid (Xm W w.heap.size x y (.slice E n ec) (.slice C m cc)) := Lib.hid (by rw [hW]; exact xm_new _ _ _ _ _ _ _ rfl)
  have HE := Lib.hid (hE.keep hB)
  have HC := Lib.hid (hC.keep hB)
  have HW := Lib.hid hW
  have HB := Lib.hid hB
  clear hW hB hE hC
  obtain ⟨q0, q1, q2, q3, qf⟩ := HX.out
  clear qf
  go_enter Try.func20, Try.ntmps20
  go_upto_region 1 with (fail)
  rw [← HW.out]
  go_wp2_with fail
  refine (rright_any x y E C n ec m cc en co W HE.out HC.out).mono ?_
  rintro e w2 ⟨rfl, hb2⟩
  have B2 := Lib.hid (HB.out.trans (hb2.mono HB.out.size))
  have X2 := Lib.hid (HX.out.keep hb2)
  have E2 := Lib.hid (HE.out.keep hb2)
  have C2 := Lib.hid (HC.out.keep hb2)
  clear hb2 q0 q1 q2 q3
  obtain ⟨q0, q1, q2, q3, qf⟩ := X2.out
  clear qf
  rw [hrt]
  go_wp2_with fail
  go_ret2
  exact ⟨rfl, B2.out⟩

set_option maxRecDepth 20000 in
set_option maxHeartbeats 6400000 in
theorem bytes_any (x y : Int) (E C : Option Addr) (n ec m cc : Nat) (en : List Int) (co : List (BitVec 32)) (w : World) (hE : IsI w E n ec en) (hC : IsWd w C m cc co) :
    Calls Try.prog 19 #[.agg #[.int .i64 x, .int .i64 y, .slice E n ec, .slice C m cc]] w (GaveN w (rbytes ⟨x, y, en, co⟩)) := by
  have hle := Lib.hid hE.1
  have hlc := Lib.hid hC.1
  obtain ⟨W, hW⟩ : ∃ W, W = w.alloc (.cells #[.int .i64 x, .int .i64 y, .slice E n ec, .slice C m cc] 27) := ⟨_, rfl⟩
  have hB : Below w.heap.size w W := by rw [hW]; exact (Below.refl _ _).alloc (Nat.le_refl _) _
  have HX : Hid (Xm W w.heap.size x y (.slice E n ec) (.slice C m cc)) := Lib.hid (by rw [hW]; exact xm_new _ _ _ _ _ _ _ rfl)
  have HE := Lib.hid (hE.keep hB)
  have HC := Lib.hid (hC.keep hB)
  have HW := Lib.hid hW
  have HB := Lib.hid hB
  clear hW hB hE hC
  obtain ⟨q0, q1, q2, q3, qf⟩ := HX.out
  clear qf
  go_enter Try.func19, Try.ntmps19
  go_upto_region 1 with (fail)
  rw [← HW.out]
  go_wp2_with fail
  refine (right_any x y E C n ec m cc en co W HE.out HC.out).mono ?_
  rintro e w2 ⟨rfl, hb2⟩
  have B2 := Lib.hid (HB.out.trans (hb2.mono HB.out.size))
  have X2 := Lib.hid (HX.out.keep hb2)
  have E2 := Lib.hid (HE.out.keep hb2)
  have C2 := Lib.hid (HC.out.keep hb2)
  clear hb2 q0 q1 q2 q3
  obtain ⟨q0, q1, q2, q3, qf⟩ := X2.out
  clear qf
  cases hrt : right' ⟨x, y, en, co⟩
  · have heq : Hid (rbytes ⟨x, y, en, co⟩ = ([], 1)) := Lib.hid (by unfold rbytes; rw [hrt]; rfl)
    go_wp2_with fail
    go_ret2
    exact ⟨none, 0, 0, by rw [heq.out]; rfl, fun _ => rfl, by rw [heq.out]; exact Own.nil _ _ _ _, B2.out⟩
  · have heq : Hid (rbytes ⟨x, y, en, co⟩ = (bytesI ⟨x, y, en, co⟩, 0)) := Lib.hid (by unfold rbytes; rw [hrt]; rfl)
    have hri := right_in hrt
    have hsz := hri.1
    unfold sizes at hsz
    simp only [Bool.and_eq_true, decide_eq_true_eq] at hsz
    obtain ⟨⟨⟨⟨s1, s2⟩, s3⟩, s4⟩, s5⟩ := hsz
    rw [hle.out] at s3 s4
    rw [hlc.out] at s5
    have hin : Hid (∀ z ∈ y :: en, 0 ≤ z ∧ z < m) := Lib.hid (fun z hz => by have := hri.2 z hz; rwa [show (⟨x, y, en, co⟩ : Im).code.length = m from hlc.out] at this)
    have y0 := hin.out y (by simp)
    have y1 := y0.1
    have y2 := y0.2
    clear hri y0
    have BA : Below w2.heap.size w2 (w2.alloc (.cells #[.int .u8 67, .int .u8 70, .int .u8 68] 5 (3, 4))) := (Below.refl _ _).alloc (Nat.le_refl _) _
    have X3 := Lib.hid (X2.out.keep BA)
    have B3 := Lib.hid (B2.out.trans (BA.mono B2.out.size))
    obtain ⟨r0, r1, r2, r3, rf⟩ := X3.out
    have E3 := Lib.hid (E2.out.keep BA)
    have C3 := Lib.hid (C2.out.keep BA)
    have HC3 := Lib.hid (cfd_cells w2)
    have hsz3 : (w2.alloc (.cells #[.int .u8 67, .int .u8 70, .int .u8 68] 5 (3, 4))).heap.size = w2.heap.size + 1 := by simp
    have HSX := Lib.hid (⟨s1, s2⟩ : 0 ≤ x ∧ x ≤ 64)
    clear rf BA
    obtain ⟨i0, hi, hz0, hz1, hz2⟩ := info_parts (P := Try.prog) (e := 5) (z := .int .u8 0) (size := 1) (bytes := 1) (by kernel_rfl)
    go_wp2_with (at_builtin; refine wpList_append_arg _ rfl _ _ 37 rfl 5 i0 (.int .u8 0) 1 1 Try.underlying37 hi hz0 hz1 hz2 rfl (by decide) w2.heap.size 0 3 3 [.int .u8 67, .int .u8 70, .int .u8 68] rfl rfl (fun j u hj => (World.cell?_alloc_lt _ _ _ (by simp)).trans (HC3.out j u hj)) ⟨w2.heap.size + 1, 0, none⟩ 2 2 [.int .u8 x, .int .u8 (n : Int)] rfl rfl ?c1 ?c2 (fun h => absurd h (by omega)) (by unfold maxLen; omega) (by omega) (fun h => absurd h (by omega)) (fun _ => ?_))
    case c1 =>
      intro j u hj
      rw [Addr.add_lit, Nat.zero_add, ← hsz3]
      have := World.cell?_alloc_new (w2.alloc (.cells #[.int .u8 67, .int .u8 70, .int .u8 68] 5 (3, 4))) #[.int .u8 x, .int .u8 (n : Int)] 5 j
      rw [this]
      simpa using hj
    case c2 =>
      intro u hu
      simp at hu
      rcases hu with rfl | rfl <;> rfl
    intro v4 w4 hrow hg4
    obtain ⟨g4, c4, rfl, hown4⟩ := own_hd (y := y) (co := co) hle.out HSX.out s4 hrow
    have B24 : Below w2.heap.size w2 w4 := (((Below.refl _ w2).alloc (Nat.le_refl _) _).alloc (by simp) _).grown hg4 (by simp; omega) (fun k hk => by cases hk)
    have T4 : Hid (Tl w2 w4 (hd0 ⟨x, y, en, co⟩) (some ⟨g4, 0, none⟩) 5 c4) := Lib.hid ⟨hown4.low (by first | omega | (simp; omega)), B24⟩
    have X4 := Lib.hid (X2.out.keep B24)
    have hlen : Hid ((⟨x, y, en, co⟩ : Im).entry.length = n) := Lib.hid hle.out
    have hlen2 : Hid ((⟨x, y, en, co⟩ : Im).code.length = m) := Lib.hid hlc.out
    have hy : Hid (0 ≤ y ∧ y ≤ 20000) := Lib.hid ⟨y1, by omega⟩
    -- the three rows
    have BW : Below w4.heap.size w4 (w4.alloc (.cells #[.int .i64 y] 3)) := (Below.refl _ _).alloc (Nat.le_refl _) _
    have X4a := Lib.hid (X4.out.keep BW)
    obtain ⟨W5, hW5⟩ : ∃ W5, ((w4.alloc (.cells #[.int .i64 y] 3)).alloc (.cells #[.int .i64 (m : Int)] 3)).alloc (.cells #[.slice (some ⟨w4.heap.size, 0, none⟩) 1 1, .slice E n ec, .slice (some ⟨w4.heap.size + 1, 0, none⟩) 1 1] 25) = W5 := ⟨_, rfl⟩
    have B45 : Hid (Below w4.heap.size w4 W5) := Lib.hid (by rw [← hW5]; exact (BW.alloc (by simp) _).alloc (by simp; omega) _)
    have E4 := E2.out.keep B24
    have hz5 : W5.heap.size = w4.heap.size + 3 := by rw [← hW5]; simp
    have hrows : Hid (IsRowsI W5 (some ⟨w4.heap.size + 2, 0, none⟩) 3 3 [⟨some ⟨w4.heap.size, 0, none⟩, 1, 1, [y]⟩, ⟨E, n, ec, en⟩, ⟨some ⟨w4.heap.size + 1, 0, none⟩, 1, 1, [(m : Int)]⟩]) := Lib.hid (rows3 y m w4 W5 hW5.symm E4)
    have hcat := Lib.hid (cat3 (A := some ⟨w4.heap.size, 0, none⟩) (C := some ⟨w4.heap.size + 1, 0, none⟩) (E := E) (n := n) (a := 1) (c := 1) (e := ec) (y := y) (z := (m : Int)) (en := en))
    have hcl := Lib.hid (fun k => cat3_len (A := some ⟨w4.heap.size, 0, none⟩) (C := some ⟨w4.heap.size + 1, 0, none⟩) (E := E) (n := n) (a := 1) (c := 1) (e := ec) (y := y) (z := (m : Int)) (en := en) k)
    have hLl : Hid ((y :: (en ++ [(m : Int)])).length = n + 2) := Lib.hid (by simp [hle.out])
    have HW5 := Lib.hid hW5
    have HZ5 := Lib.hid hz5
    clear q0 q1 q2 q3 r0 r1 r2 r3 hown4 hg4 hrow hsz3 B24 BW hW5 hz5 E4
    obtain ⟨q0, q1, q2, q3, qf⟩ := X4.out
    obtain ⟨r0, r1, r2, r3, rf⟩ := X4a.out
    clear qf rf
    go_wp2_with fail
    rw [HW5.out]
    refine (concat_any (some ⟨w4.heap.size + 2, 0, none⟩) 3 3 0 _ W5 hrows.out (by omega) (fun k _ => by have := hcl.out k; rw [hle.out] at this; omega) (by rw [hcat.out, hLl.out]; omega)).mono ?_
    rw [hcat.out, hLl.out]
    rintro e w6 ⟨G, gc, rfl, hown6, hb6⟩
    obtain ⟨gg, rfl⟩ := own_head hown6 (by omega)
    have hgl := hown6.lt gg rfl
    have G6 := Lib.hid hown6
    have T6 : Hid (Tl w2 w6 (hdL ⟨x, y, en, co⟩ (y :: (en ++ [(m : Int)])) 0) (some ⟨g4, 0, none⟩) 5 c4) := Lib.hid ⟨by rw [hdL_zero]; exact (T4.out.O.keep B45.out).keep hb6, (T4.out.B.trans (B45.out.mono T4.out.B.size)).trans (hb6.mono (Nat.le_trans T4.out.B.size B45.out.size))⟩
    have hg4 := T4.out.O.lt g4 rfl
    have hne6 : Hid (∀ b, (some (⟨g4, 0, none⟩ : Addr)).map (·.block) = some b → b ≠ gg) := Lib.hid (fun b hb => by
      have hb' : g4 = b := by simpa using hb
      have h5 := HZ5.out
      omega)
    have hLz : Hid (∀ k, k < n + 2 → 0 ≤ (y :: (en ++ [(m : Int)])).getD k 0 ∧ (y :: (en ++ [(m : Int)])).getD k 0 ≤ 20000) := Lib.hid (fun k hk => by
      have hk' : k < (y :: (en ++ [(m : Int)])).length := by rw [hLl.out]; exact hk
      have hmem : (y :: (en ++ [(m : Int)])).getD k 0 ∈ y :: (en ++ [(m : Int)]) := by
        simp only [List.getD, List.getElem?_eq_getElem hk', Option.getD_some]
        exact List.getElem_mem hk'
      generalize (y :: (en ++ [(m : Int)])).getD k 0 = z at hmem
      rcases List.mem_cons.1 hmem with rfl | h
      · exact hy.out
      · rcases List.mem_append.1 h with h | h
        · have := hin.out z (by simp [h]); omega
        · have : z = (m : Int) := by simpa using h
          omega)
    have hend : Hid (hdL ⟨x, y, en, co⟩ (y :: (en ++ [(m : Int)])) (n + 2) = hd2 ⟨x, y, en, co⟩ 0) := Lib.hid (hdL_all _ hLl.out (by rw [hlen2.out]))
    generalize (y :: (en ++ [(m : Int)])) = L at *
    clear q0 q1 q2 q3 r0 r1 r2 r3 hown6 hb6 y1 y2
    go_wp2_with fail
    go_loopw [4, 35] (fun v i wr => ∃ (k c : Nat) (A : Option Addr), k ≤ n + 2 ∧ i = .int .i64 k ∧ v = .slice A (5 + 4 * k) c ∧ Tl w2 wr (hdL ⟨x, y, en, co⟩ L k) A (5 + 4 * k) c ∧ Own wr W5.heap.size 3 1 (some ⟨gg, 0, none⟩) (n + 2) gc (L.map ivL) ∧ (∀ b, A.map (·.block) = some b → b ≠ gg)) (fun _ i _ => n + 2 - (intOf i).toNat)
    case atStart => exact ⟨0, c4, _, by omega, rfl, rfl, T6.out, G6.out, hne6.out⟩
    case round =>
      obtain ⟨k, c, A, hk, rfl, rfl, hT, hG, hne⟩ := hrel
      have HT := Lib.hid hT
      have HG := Lib.hid hG
      have HN := Lib.hid hne
      clear hT hG hne
      have Xr := Lib.hid (X2.out.keep HT.out.B)
      obtain ⟨q0, q1, q2, q3, qf⟩ := Xr.out
      clear qf
      by_cases hkn : k < n + 2
      · obtain ⟨b, o, hbo, hb, v0⟩ := (isI_own HG.out).cell (k := k) hkn
        obtain ⟨rfl, rfl⟩ : b = gg ∧ o = 0 := by simp at hbo; exact ⟨hbo.1.symm, hbo.2.symm⟩
        rw [Nat.zero_add] at v0
        have hz := Lib.hid (hLz.out k hkn)
        have hsucc := Lib.hid (hdL_succ (x := ⟨x, y, en, co⟩) (L := L) (k := k) (by rw [hLl.out]; exact hkn))
        generalize L.getD k 0 = z at *
        have z1 := hz.out.1
        have z2 := hz.out.2
        have k1 : (k : Int) < n + 2 := by omega
        have k2 : (k : Int) ≤ 6 := by omega
        go_wp2_with fail
        refine (word_at hz.out w2 wr _ A (5 + 4 * k) c HT.out (by omega)).mono ?_
        rintro e w7 ⟨A7, c7, rfl, hT7, hK7, hN7⟩
        have hk9 : 5 + 4 * k + 4 = 5 + 4 * (k + 1) := by omega
        have T7 : Hid (Tl w2 w7 (hdL ⟨x, y, en, co⟩ L (k + 1)) A7 (5 + 4 * (k + 1)) c7) := Lib.hid (by rw [hsucc.out, ← hk9]; exact hT7)
        have hgw := (HG.out.lt b rfl).2
        have G7 := Lib.hid (own_same HG.out (fun g hg => by
          have : b = g := by simpa using hg
          subst this
          exact hK7 b hgw (fun h => HN.out b h rfl)))
        have N7 : Hid (∀ g, A7.map (·.block) = some g → g ≠ b) := Lib.hid (fun g hg => by
          rcases hN7 g hg with h | h
          · exact HN.out g h
          · omega)
        clear hT7 hK7 hN7
        rw [hk9]
        go_wp2_with fail
        go_roundw
        case rel => exact ⟨k + 1, c7, A7, by omega, by go_num, rfl, T7.out, G7.out, N7.out⟩
        case measure => simp [intOf]; omega
      · have hkk := Lib.hid (show k = n + 2 by omega)
        have k1 : ¬ (k : Int) < (n : Int) + 2 := by omega
        have hk9 : 5 + 4 * k = 13 + 4 * n := by omega
        have T8 : Hid (Tl w2 wr (hd2 ⟨x, y, en, co⟩ 0) A (13 + 4 * n) c) := Lib.hid (by rw [← hend.out, ← hk9, ← hkk.out]; exact HT.out)
        clear hkn hk
        rw [hk9]
        go_wp2_with fail
        clear q0 q1 q2 q3
        go_loopw [4, 47] (fun v i wr => ∃ (j c : Nat) (A : Option Addr), j ≤ m ∧ i = .int .i64 j ∧ v = .slice A (13 + 4 * n + 4 * j) c ∧ Tl w2 wr (hd2 ⟨x, y, en, co⟩ j) A (13 + 4 * n + 4 * j) c) (fun _ i _ => m - (intOf i).toNat)
        case atStart => exact ⟨0, c, A, by omega, rfl, rfl, T8.out⟩
        case round =>
          obtain ⟨j, c, A, hj, rfl, rfl, hT⟩ := hrel
          have HT := Lib.hid hT
          clear hT
          by_cases hjm : j < m
          · obtain ⟨b, o, rfl, hb, v0⟩ := (C2.out.keep HT.out.B).cell (k := j) hjm
            have hsucc : Hid (hd2 ⟨x, y, en, co⟩ (j + 1) = hd2 ⟨x, y, en, co⟩ j ++ four (co.getD j 0)) := Lib.hid (hd2_succ (x := ⟨x, y, en, co⟩) (k := j) (by rw [hlen2.out]; exact hjm))
            generalize co.getD j 0 = z at *
            have k1 : (j : Int) < m := by omega
            have k2 : (j : Int) ≤ 20000 := by omega
            go_wp2_with fail
            refine (word_any z w2 wr _ A (13 + 4 * n + 4 * j) c HT.out (by omega)).mono ?_
            rintro e w7 ⟨A7, c7, rfl, hT7, hK7, hN7⟩
            have hk9 : 13 + 4 * n + 4 * j + 4 = 13 + 4 * n + 4 * (j + 1) := by omega
            have T7 : Hid (Tl w2 w7 (hd2 ⟨x, y, en, co⟩ (j + 1)) A7 (13 + 4 * n + 4 * (j + 1)) c7) := Lib.hid (by rw [hsucc.out, ← hk9]; exact hT7)
            clear hT7 hK7 hN7
            rw [hk9]
            go_wp2_with fail
            go_roundw
            case rel => exact ⟨j + 1, c7, A7, by omega, by go_num, rfl, T7.out⟩
            case measure => simp [intOf]; omega
          · obtain rfl : j = m := by omega
            have hall : Hid (hd2 ⟨x, y, en, co⟩ j = bytesI ⟨x, y, en, co⟩) := Lib.hid (by rw [← hd2_all, hlen2.out])
            go_wp2_with fail
            go_ret2
            exact ⟨A, _, c, by rw [heq.out]; rfl, fun h => by omega, by rw [heq.out, ← hall.out]; exact HT.out.O.low B2.out.size, B2.out.trans (HT.out.B.mono B2.out.size)⟩
end Go.Proofs.Ytkohichiojmakaa.ByM
