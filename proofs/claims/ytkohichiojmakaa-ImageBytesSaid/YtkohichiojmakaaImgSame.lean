/-
  WALKS: two images compared, by the document.
-/
import Derived.Test.YtkohichiojmakaaImgJoinW
namespace Go.Proofs.Ytkohichiojmakaa.ImS
set_option linter.unusedVariables false
set_option linter.unusedSimpArgs false
open Go.RowKit Cm Mm Ow Ow2 Ow3 A64 A64W Pat InW PatW Img ImC ImR ImW

set_option maxRecDepth 20000 in
set_option maxHeartbeats 1600000 in
theorem sints_any (A A' : Option Addr) (n c c' : Nat) (l : List Int) (w : World) (h : IsI w A n c l) (h' : IsI w A' n c' l) (hn : n ≤ 65536) :
    Calls Try.prog 39 #[.slice A n c, .slice A' n c'] w fun e w' => e = .returned (.bool true) ∧ Below w.heap.size w w' := by
  have hS := Lib.hid h
  have hS' := Lib.hid h'
  clear h h'
  go_enter Try.func39, Try.ntmps39
  go_wp2
  go_loopw [5] (fun i wr => ∃ (k : Nat), k ≤ n ∧ i = .int .i64 k ∧ Below w.heap.size w wr) (fun i _ => n - (intOf i).toNat)
  case atStart => exact ⟨0, by omega, rfl, Below.refl _ _⟩
  case round =>
    obtain ⟨k, hk, rfl, hbel⟩ := hrel
    by_cases hkn : k < n
    · obtain ⟨b, o, rfl, hb, s0⟩ := (hS.out.keep hbel).cell (k := k) hkn
      obtain ⟨b', o', rfl, hb', r0⟩ := (hS'.out.keep hbel).cell (k := k) hkn
      generalize l.getD k 0 = s at *
      go_wp2
      go_quiet (fail)
      go_wp2
      go_roundw
      case rel => exact ⟨k + 1, by omega, by go_num, below_drewN hbel _⟩
      case measure => simp [intOf]; omega
    · obtain rfl : k = n := by omega
      go_wp2
      go_ret
      exact ⟨rfl, hbel⟩

set_option maxRecDepth 20000 in
set_option maxHeartbeats 3200000 in
theorem sim_any (x y : Int) (E E' C C' : Option Addr) (n ec ec' m cc cc' : Nat) (en : List Int) (co : List (BitVec 32)) (w : World) (hE : IsI w E n ec en) (hE' : IsI w E' n ec' en) (hC : IsWd w C m cc co) (hC' : IsWd w C' m cc' co) (hn : n ≤ 65536) (hm : m ≤ 65536) :
    Calls Try.prog 16 #[.agg #[.int .i64 x, .int .i64 y, .slice E n ec, .slice C m cc], .agg #[.int .i64 x, .int .i64 y, .slice E' n ec', .slice C' m cc']] w fun e w' => e = .returned (.bool true) ∧ Below w.heap.size w w' := by
  obtain ⟨W, hW⟩ : ∃ W, W = (w.alloc (.cells #[.int .i64 x, .int .i64 y, .slice E n ec, .slice C m cc] 27)).alloc (.cells #[.int .i64 x, .int .i64 y, .slice E' n ec', .slice C' m cc'] 27) := ⟨_, rfl⟩
  have hB : Below w.heap.size w W := by rw [hW]; exact ((Below.refl _ _).alloc (Nat.le_refl _) _).alloc (by simp) _
  have e1 : (w.alloc (.cells #[.int .i64 x, .int .i64 y, .slice E n ec, .slice C m cc] 27)).heap.size = w.heap.size + 1 := by simp
  have X1 : Xm W w.heap.size x y (.slice E n ec) (.slice C m cc) := by
    rw [hW]; exact (xm_new w x y _ _ _ _ rfl).same (Below.heap_alloc _ _ _ (by simp))
  have X2 : Xm W (w.heap.size + 1) x y (.slice E' n ec') (.slice C' m cc') := by
    rw [hW]; exact xm_new _ x y _ _ _ _ e1
  have HE := Lib.hid (hE.keep hB)
  have HE' := Lib.hid (hE'.keep hB)
  have HC := Lib.hid (hC.keep hB)
  have HC' := Lib.hid (hC'.keep hB)
  have HW := Lib.hid hW
  have HB := Lib.hid hB
  have HX1 := Lib.hid X1
  have HX2 := Lib.hid X2
  have hlt1 := X1.lt
  have hlt2 := X2.lt
  obtain ⟨a0, a1, a2, a3, af⟩ := X1
  obtain ⟨b0, b1, b2, b3, bf⟩ := X2
  clear hW hB hE hC hE' hC' e1 af bf
  go_enter Try.func16, Try.ntmps16
  go_upto_region 1 with (fail)
  rw [← HW.out]
  go_wp2_with fail
  refine (sints_any E E' n ec ec' en W HE.out HE'.out hn).mono ?_
  rintro e w2 ⟨rfl, hb2⟩
  have B2 := Lib.hid hb2
  clear a0 a1 a2 a3 b0 b1 b2 b3
  have Y1 := Lib.hid (HX1.out.keep hb2)
  have Y2 := Lib.hid (HX2.out.keep hb2)
  obtain ⟨a0, a1, a2, a3, af⟩ := Y1.out
  obtain ⟨b0, b1, b2, b3, bf⟩ := Y2.out
  clear hb2 af bf
  go_wp2_with fail
  go_loopw [5] (fun i wr => ∃ (k : Nat), k ≤ m ∧ i = .int .i64 k ∧ Below W.heap.size W wr) (fun i _ => m - (intOf i).toNat)
  case atStart => exact ⟨0, by omega, rfl, B2.out⟩
  case round =>
    obtain ⟨k, hk, rfl, hbel⟩ := hrel
    have d3 := (HX1.out.keep hbel).c3
    have e3 := (HX2.out.keep hbel).c3
    by_cases hkm : k < m
    · obtain ⟨b, o, rfl, hb, s0⟩ := (HC.out.keep hbel).cell (k := k) hkm
      obtain ⟨b', o', rfl, hb', r0⟩ := (HC'.out.keep hbel).cell (k := k) hkm
      generalize co.getD k 0 = s at *
      go_wp2
      go_quiet (fail)
      go_wp2
      go_roundw
      case rel => exact ⟨k + 1, by omega, by go_num, below_drewN hbel _⟩
      case measure => simp [intOf]; omega
    · obtain rfl : k = m := by omega
      go_wp2
      go_ret
      exact ⟨rfl, HB.out.trans (hbel.mono HB.out.size)⟩
end Go.Proofs.Ytkohichiojmakaa.ImS
