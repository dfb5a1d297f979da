/-
  WALK: the law PatchLinks.
-/
import Derived.Test.YtkohichiojmakaaPatOpen
import Derived.Test.YtkohichiojmakaaPatSame
namespace Go.Proofs.Ytkohichiojmakaa.PatX
set_option linter.unusedVariables false
set_option linter.unusedSimpArgs false
open Go.RowKit Go.WideShapes Go.ChangeShapes Cm Mm Ow Ow2 A64 A64W A64P A64E A64Q A64G Pat InW PatW PatK PatR PatA PatO PatE

theorem iv_range (l : List Int) : (List.range l.length).map (fun i => [Value.int .i64 (l.getD i 0)]) = l.map ivL := by
  refine List.ext_getElem (by simp) (fun i h1 h2 => ?_)
  simp only [List.length_map] at h2
  simp [List.getD, h2, ivL]

set_option maxRecDepth 20000 in
set_option maxHeartbeats 6400000 in
theorem walk {H : Type} {enc : TypeId × Value → H} {d0 d1 : DataW H} {P0 P1 : List MemPlace} {rc : Reach} {b0 : Nat} (v0 v1 : Value) (w : World)
    (k0 : DataW.Trod enc Try.prog w 0 (fun _ => true) true 43 v0 d0 P0) (ok0 : Value.okWide Try.prog w rc b0 43 v0)
    (k1 : DataW.Trod enc Try.prog w 0 (fun _ => true) true 25 v1 d1 P1) (ok1 : Value.okWide Try.prog w rc b0 25 v1) :
    Calls Try.prog 6 #[v0, v1] w fun e w' => e = .returned (.bool true) ∧ Below w.heap.size w w' := by
  obtain ⟨A, n, cap, l, rfl, hI, hk⟩ := open_ins k0 ok0
  obtain ⟨L, m, lc, lb, rfl, hL, _⟩ := open_ints k1 ok1
  clear k0 ok0 k1 ok1
  have hl := Lib.hid hI.1
  have hll := Lib.hid hL.1
  have HI := Lib.hid hI
  have HL := Lib.hid hL
  have HK := Lib.hid hk
  clear hI hL hk
  by_cases hin : n ≤ 200 ∧ m ≤ 60
  · obtain ⟨hn, hm⟩ := hin
    have t1 : decide (200 < (n : Int)) = false := by simp; omega
    have t2 : decide (60 < (m : Int)) = false := by simp; omega
    have t3 : (n : Int) ≤ 200 := by omega
    have t4 : (m : Int) ≤ 60 := by omega
    have hz1 : Hid ([] ++ (List.range n).map (fun i => insL (l.getD i zeroIn)) = l.map insL) := Lib.hid (by rw [← hl.out, List.nil_append, in_range])
    have hz2 : Hid ([] ++ (List.range m).map (fun i => [Value.int .i64 (lb.getD i 0)]) = lb.map ivL) := Lib.hid (by rw [← hll.out, List.nil_append, iv_range])
    go_enter Try.func6, Try.ntmps6
    go_wp2_with fail
    refine (alive_any _).mono ?_
    rintro e w1 ⟨rfl, hb1⟩
    have B1 := Lib.hid hb1
    clear hb1
    go_wp2_with (at_builtin; first | (refine wpList_app _ rfl _ _ rfl elIn w1.heap.size none 0 0 [] rfl (Own.nil _ _ _ _) A n cap (fun i => insL (l.getD i zeroIn)) rfl (HI.out.keep B1.out).2 (fun _ _ => rfl) (fun i _ => in_one _) (by unfold maxLen; omega) (by omega) (Nat.le_refl _) ?_; intro A2 c2 w2 hown2 hg2 hat2; rw [hz1.out] at hown2; rw [Nat.zero_add] at hown2 ⊢; have HO2 := Lib.hid hown2; have BB2 : Hid (Below w1.heap.size w1 w2) := Lib.hid ((Below.refl _ _).grown hg2 (Nat.le_refl _) (fun k hk => by cases hk)); have B2 := Lib.hid (B1.out.trans (BB2.out.mono B1.out.size)); clear hown2 hg2 hat2) | (refine wpList_app _ rfl _ _ rfl elI w2.heap.size none 0 0 [] rfl (Own.nil _ _ _ _) L m lc (fun i => [Value.int .i64 (lb.getD i 0)]) rfl (HL.out.keep B2.out).2 (fun _ _ => rfl) (fun i _ => by intro u hu; simp at hu; subst hu; rfl) (by unfold maxLen; omega) (by omega) (Nat.le_refl _) ?_; intro A3 c3 w3 hown3 hg3 hat3; rw [hz2.out] at hown3; rw [Nat.zero_add] at hown3 ⊢; have HO3 := Lib.hid hown3; have BB3 : Hid (Below w2.heap.size w2 w3) := Lib.hid ((Below.refl _ _).grown hg3 (Nat.le_refl _) (fun k hk => by cases hk)); have B3 := Lib.hid (B2.out.trans (BB3.out.mono B2.out.size)); clear hown3 hg3 hat3))
    refine (link_any A2 A3 n c2 m c3 l lb w3 (isIn_own (HO2.out.keep BB3.out)) (isI_own HO3.out) (by omega) HK.out).mono ?_
    rintro e w4 ⟨A4, m4, c4, rfl, hown4, hb4⟩
    have h4 := hown4.len
    rw [List.length_map] at h4
    have H4 := Lib.hid h4
    have B4 := Lib.hid (B3.out.trans (hb4.mono B3.out.size))
    have I4 := Lib.hid (isIn_own hown4)
    clear hown4 hb4 h4
    go_wp2_with fail
    refine (rlink_any A L n cap m lc l lb w4 (HI.out.keep B4.out) (HL.out.keep B4.out) (by omega) HK.out).mono ?_
    rintro e w5 ⟨A5, m5, c5, rfl, hown5, hb5⟩
    have h5 := hown5.len
    rw [List.length_map, H4.out] at h5
    subst h5
    have B5 := Lib.hid (B4.out.trans (hb5.mono B4.out.size))
    have I5 := Lib.hid (isIn_own hown5)
    have I4 := Lib.hid (I4.out.keep hb5)
    have hm4 : Hid (m4 ≤ 200) := Lib.hid (by
      rw [← H4.out]
      unfold link
      split
      · show (outTo lb l l.length).length ≤ 200
        rw [outTo_len, hl.out]; exact hn
      · simp)
    clear hown5 hb5
    go_wp2_with fail
    refine (words_any A n cap l w5 (HI.out.keep B5.out) (by omega) HK.out).mono ?_
    rintro e w6 ⟨A6, m6, c6, rfl, hown6, hb6⟩
    have h6 := hown6.len
    rw [List.length_map] at h6
    have H6 := Lib.hid h6
    have B6 := Lib.hid (B5.out.trans (hb6.mono B5.out.size))
    have I6 := Lib.hid (isWd_own hown6)
    have I4 := Lib.hid (I4.out.keep hb6)
    have I5 := Lib.hid (I5.out.keep hb6)
    clear hown6 hb6 h6
    go_wp2_with fail
    refine (rwords_any A n cap l w6 (HI.out.keep B6.out) (by omega) HK.out).mono ?_
    rintro e w7 ⟨A7, m7, c7, rfl, hown7, hb7⟩
    have h7 := hown7.len
    rw [List.length_map, H6.out] at h7
    subst h7
    have B7 := Lib.hid (B6.out.trans (hb7.mono B6.out.size))
    have I7 := Lib.hid (isWd_own hown7)
    have I4 := Lib.hid (I4.out.keep hb7)
    have I5 := Lib.hid (I5.out.keep hb7)
    have I6 := Lib.hid (I6.out.keep hb7)
    have hm6 : Hid (m6 ≤ 200) := Lib.hid (by
      rw [← H6.out]
      unfold words
      split
      · show (wordsTo l l.length).length ≤ 200
        rw [wordsTo_len, hl.out]; exact hn
      · simp)
    clear hown7 hb7
    generalize (words l).1 = ws at *
    generalize (words l).2 = we at *
    generalize (link l lb).1 = ls at *
    generalize (link l lb).2 = le at *
    clear hz1 hz2
    go_wp2_with fail
    refine (num_any we _).mono ?_
    rintro e w8 ⟨rfl, rfl⟩
    go_wp2_with fail
    go_loopw [14] (fun i wr => ∃ (k : Nat), k ≤ m6 ∧ i = .int .i64 k ∧ Below w7.heap.size w7 wr) (fun i _ => m6 - (intOf i).toNat)
    case atStart => exact ⟨0, by omega, rfl, Below.refl _ _⟩
    case round =>
      obtain ⟨k, hk, rfl, hbel⟩ := hrel
      have hm6 := hm6.out
      by_cases hkn : k < m6
      · obtain ⟨b, o, rfl, hb, s0⟩ := (I6.out.keep hbel).cell (k := k) hkn
        obtain ⟨b', o', rfl, hb', r0⟩ := (I7.out.keep hbel).cell (k := k) hkn
        generalize ws.getD k 0 = s at *
        go_wp2
        go_quiet (fail)
        go_wp2
        go_roundw
        case rel => exact ⟨k + 1, by omega, by go_num, below_drewN hbel _⟩
        case measure => simp [intOf]; omega
      · obtain rfl : k = m6 := by omega
        go_wp2_with fail
        refine (same_any A4 A5 m4 c4 c5 ls _ (I4.out.keep hbel) (I5.out.keep hbel) (by have := hm4.out; omega)).mono ?_
        rintro e w9 ⟨rfl, hb9⟩
        have B9 := Lib.hid (B7.out.trans ((hbel.trans (hb9.mono hbel.size)).mono B7.out.size))
        go_wp2_with fail
        refine (num_any le _).mono ?_
        rintro e w10 ⟨rfl, rfl⟩
        go_wp2_with fail
        go_ret
        exact ⟨rfl, B9.out⟩
  · obtain h | ⟨h, h2⟩ : decide (200 < (n : Int)) = true ∨ (decide (200 < (n : Int)) = false ∧ decide (60 < (m : Int)) = true) := by simp; omega
    all_goals
      clear hin
      go_enter Try.func6, Try.ntmps6
      go_wp2_with fail
      refine (alive_any _).mono ?_
      rintro e w1 ⟨rfl, hb1⟩
      go_wp2_with fail
      go_ret
      exact ⟨rfl, hb1⟩
end Go.Proofs.Ytkohichiojmakaa.PatX
