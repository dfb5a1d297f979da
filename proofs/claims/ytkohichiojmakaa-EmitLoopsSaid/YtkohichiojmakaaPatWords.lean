/-
  WALKS: the words of instructions (chapter 21), by package patch and by the document.
-/
import Derived.Test.YtkohichiojmakaaGOwn
import Derived.Test.YtkohichiojmakaaGEnc
import Derived.Test.YtkohichiojmakaaA64RefEnc
namespace Go.Proofs.Ytkohichiojmakaa.PatW
set_option linter.unusedVariables false
set_option linter.unusedSimpArgs false
open Go.RowKit Cm Mm Ow A64 A64W A64P A64E A64G Pat InW

theorem below_al (w : World) (b : Obj) : Below w.heap.size w (w.alloc b) := (Below.refl _ _).alloc (Nat.le_refl _) _
theorem enc_pair {i : In} {b : Bool} (h : right i = b) : (encode i).2 = cond b 0 1 := by rw [encode_err, h]; cases b <;> rfl
/-- words that were made: they lie in a row of the call's own -/
def GaveWd (w : World) (x : List (BitVec 32) × Int) (e : Ending) (w' : World) : Prop :=
  ∃ A m c, e = .returned (.tuple #[.slice A m c, .int .i64 x.2]) ∧ Own w' w.heap.size 55 1 A m c (x.1.map wvL) ∧ Below w.heap.size w w'
theorem wv_each (l : List (BitVec 32)) : ∀ y ∈ l.map wvL, y.length = 1 := fun y hy => by
  obtain ⟨s, _, rfl⟩ := List.mem_map.1 hy; rfl
theorem wv_ones (l : List (BitVec 32)) : ∀ y ∈ l.map wvL, ∀ u ∈ y, u.oneCell' = true := fun y hy => by
  obtain ⟨s, _, rfl⟩ := List.mem_map.1 hy
  intro u hu
  simp only [wvL, List.mem_cons, List.mem_nil_iff, or_false] at hu
  subst hu; rfl

set_option maxHeartbeats 1600000 in
theorem words_any (A : Option Addr) (n cap : Nat) (l : List In) (w : World) (h : IsIn w A n cap l) (hn : n ≤ 65536) (hok : ∀ i, i < n → okIn (l.getD i zeroIn)) :
    Calls Try.prog 27 #[.slice A n cap] w (GaveWd w (words l)) := by
  have hl := Lib.hid h.1
  have hS := Lib.hid h
  have HK := Lib.hid hok
  clear h hok
  go_enter Try.func27, Try.ntmps27
  go_wp2
  go_loopw [4, 11] (fun v i wr => ∃ (k c : Nat) (A' : Option Addr), k ≤ n ∧ i = .int .i64 k ∧ v = .slice A' k c ∧ Own wr w.heap.size 55 1 A' k c ((wordsTo l k).map wvL) ∧ Hid (wordsOk l k = true) ∧ Below w.heap.size w wr) (fun _ i _ => n - (intOf i).toNat)
  case atStart => exact ⟨0, 0, none, by omega, rfl, rfl, Own.nil _ _ _ _, rfl, Below.refl _ _⟩
  case round =>
    obtain ⟨k, c, A', hk, rfl, rfl, hown, HW, hbel⟩ := hrel
    have hsz := hbel.size
    by_cases hkn : k < n
    · have hfs := Lib.hid (wordsTo_succ l k)
      have hos := Lib.hid (wordsOk_succ l k)
      have hbad := Lib.hid (fun h => words_bad (l := l) (k := k) (by have := hl.out; omega) h)
      have HKk := Lib.hid (HK.out k hkn)
      obtain ⟨b, o, rfl, hb, s0, s1, s2, s3, s4, s5, s6⟩ := (hS.out.keep hbel).cell (k := k) hkn
      generalize hc : l.getD k zeroIn = s at *
      clear hc
      have HO := Lib.hid hown; clear hown
      cases hr : right s
      all_goals
        have he := enc_pair hr
        simp only [cond_true, cond_false] at he
        go_wp2_with fail
        refine (encode_any s _ HKk.out).mono ?_
        rintro e w2 ⟨rfl, hb2⟩
        have hb3 : Below wr.heap.size wr w2 := (below_al _ _).trans (hb2.mono (by simp))
        have hz2 := hb3.size
        rw [he]
      · go_wp2_with fail
        go_ret2
        exact ⟨none, 0, 0, by rw [hbad.out hr]; rfl, by rw [hbad.out hr]; exact Own.nil _ _ _ _, hbel.trans (hb3.mono hsz)⟩
      · go_wp2_with (at_builtin; refine Ow2.wpList_appN _ rfl _ _ rfl elWd w.heap.size A' k c 1 w2.heap.size _ [wvL (encode s).1] rfl rfl (HO.out.keep hb3) rfl rfl (wv_each [(encode s).1]) (wv_ones [(encode s).1]) (by unfold maxLen; omega) (by omega) (by omega) _ rfl ?_; intro A4 c4 w4 hown4 hbel4 hkp4 hat4; have HO4 := Lib.hid hown4; clear hown4 hkp4 hat4)
        go_roundw
        case rel => exact ⟨k + 1, c4, A4, by omega, by go_num, rfl, by rw [hfs.out, List.map_append]; exact HO4.out, by show wordsOk l (k + 1) = true; rw [hos.out, hr, HW]; rfl, (hbel.trans (hb3.mono hsz)).trans hbel4⟩
        case measure => simp [intOf]; omega
    · obtain rfl : k = n := by omega
      have e : words l = (wordsTo l k, 0) := by have := words_good (l := l) (by rw [hl.out]; exact HW); rwa [hl.out] at this
      have e := Lib.hid e
      have HO := Lib.hid hown; clear hown
      go_wp2_with fail
      go_ret2
      exact ⟨A', k, c, by rw [e.out]; rfl, by rw [e.out]; exact HO.out, hbel⟩
set_option maxHeartbeats 1600000 in
theorem rwords_any (A : Option Addr) (n cap : Nat) (l : List In) (w : World) (h : IsIn w A n cap l) (hn : n ≤ 65536) (hok : ∀ i, i < n → okIn (l.getD i zeroIn)) :
    Calls Try.prog 28 #[.slice A n cap] w (GaveWd w (words l)) := by
  have hl := Lib.hid h.1
  have hS := Lib.hid h
  have HK := Lib.hid hok
  clear h hok
  go_enter Try.func28, Try.ntmps28
  go_wp2
  go_loopw [4, 5] (fun v i wr => ∃ (k c : Nat) (A' : Option Addr), k ≤ n ∧ i = .int .i64 k ∧ v = .slice A' k c ∧ Own wr w.heap.size 55 1 A' k c ((wordsTo l k).map wvL) ∧ Hid (wordsOk l k = true) ∧ Below w.heap.size w wr) (fun _ i _ => n - (intOf i).toNat)
  case atStart => exact ⟨0, 0, none, by omega, rfl, rfl, Own.nil _ _ _ _, rfl, Below.refl _ _⟩
  case round =>
    obtain ⟨k, c, A', hk, rfl, rfl, hown, HW, hbel⟩ := hrel
    have hsz := hbel.size
    by_cases hkn : k < n
    · have hfs := Lib.hid (wordsTo_succ l k)
      have hos := Lib.hid (wordsOk_succ l k)
      have hbad := Lib.hid (fun h => words_bad (l := l) (k := k) (by have := hl.out; omega) h)
      have HKk := Lib.hid (HK.out k hkn)
      obtain ⟨b, o, rfl, hb, s0, s1, s2, s3, s4, s5, s6⟩ := (hS.out.keep hbel).cell (k := k) hkn
      generalize hc : l.getD k zeroIn = s at *
      clear hc
      have HO := Lib.hid hown; clear hown
      cases hr : right s
      all_goals
        have he := enc_pair hr
        simp only [cond_true, cond_false] at he
        go_wp2_with fail
        refine (rencode_any s _ HKk.out).mono ?_
        rintro e w2 ⟨rfl, hb2⟩
        have hb3 : Below wr.heap.size wr w2 := hb2
        have hz2 := hb3.size
        rw [he]
      · go_wp2_with fail
        go_ret2
        exact ⟨none, 0, 0, by rw [hbad.out hr]; rfl, by rw [hbad.out hr]; exact Own.nil _ _ _ _, hbel.trans (hb3.mono hsz)⟩
      · go_wp2_with (at_builtin; refine Ow2.wpList_appN _ rfl _ _ rfl elWd w.heap.size A' k c 1 w2.heap.size _ [wvL (encode s).1] rfl rfl (HO.out.keep hb3) rfl rfl (wv_each [(encode s).1]) (wv_ones [(encode s).1]) (by unfold maxLen; omega) (by omega) (by omega) _ rfl ?_; intro A4 c4 w4 hown4 hbel4 hkp4 hat4; have HO4 := Lib.hid hown4; clear hown4 hkp4 hat4)
        go_roundw
        case rel => exact ⟨k + 1, c4, A4, by omega, by go_num, rfl, by rw [hfs.out, List.map_append]; exact HO4.out, by show wordsOk l (k + 1) = true; rw [hos.out, hr, HW]; rfl, (hbel.trans (hb3.mono hsz)).trans hbel4⟩
        case measure => simp [intOf]; omega
    · obtain rfl : k = n := by omega
      have e : words l = (wordsTo l k, 0) := by have := words_good (l := l) (by rw [hl.out]; exact HW); rwa [hl.out] at this
      have e := Lib.hid e
      have HO := Lib.hid hown; clear hown
      go_wp2_with fail
      go_ret2
      exact ⟨A', k, c, by rw [e.out]; rfl, by rw [e.out]; exact HO.out, hbel⟩
end Go.Proofs.Ytkohichiojmakaa.PatW
