/-
  WALKS: no bytes read as an image; the example of chapter 22.
-/
import Derived.Test.YtkohichiojmakaaImgRight
import Derived.Lib.BufferRead
namespace Go.Proofs.Ytkohichiojmakaa.ImN
set_option linter.unusedVariables false
set_option linter.unusedSimpArgs false
open Go.RowKit Cm Mm Ow Ow2 Ow3 A64 A64W Pat InW Img ImC ImR

/-- the reader in block r has no bytes left -/
structure Rd (w : World) (r : Nat) (s : Bool) : Prop where
  b : w.cell? ⟨r, 0, none⟩ = some (.slice none 0 0)
  s : w.cell? ⟨r, 1, none⟩ = some (.bool s)
  fr : ∀ o, w.frozen? ⟨r, o, none⟩ = false
/-- nothing but block r turns -/
structure Al (w w' : World) (r : Nat) : Prop where
  size : w'.heap.size = w.heap.size
  same : ∀ b, b ≠ r → w'.heap[b]? = w.heap[b]?
  below : ∀ B, B ≤ r → Below B w w'
theorem Al.trans {w w' w'' : World} {r : Nat} (h : Al w w' r) (h' : Al w' w'' r) : Al w w'' r :=
  ⟨h'.size.trans h.size, fun b hb => (h'.same b hb).trans (h.same b hb), fun B hB => (h.below B hB).trans (h'.below B hB)⟩
theorem Al.cell {w w' : World} {r : Nat} (h : Al w w' r) {b o : Nat} (hb : b ≠ r) : w'.cell? ⟨b, o, none⟩ = w.cell? ⟨b, o, none⟩ ∧ w'.frozen? ⟨b, o, none⟩ = w.frozen? ⟨b, o, none⟩ := by
  obtain ⟨h1, h2⟩ := blk_same (h.same b hb)
  exact ⟨h1 o, h2 o⟩
theorem al_two {w : World} {r : Nat} {s : Bool} (h : Rd w r s) : Rd ((w.setCell ⟨r, 1, none⟩ (.bool true)).setCell ⟨r, 0, none⟩ (.slice none 0 0)) r true ∧ Al w ((w.setCell ⟨r, 1, none⟩ (.bool true)).setCell ⟨r, 0, none⟩ (.slice none 0 0)) r := by
  refine ⟨⟨?_, ?_, fun o => ?_⟩, ⟨by simp [World.setCell], fun b hb => ?_, fun B hB => ?_⟩⟩
  · exact World.cell?_setCell_same _ _ _ ((World.cell?_setCell_other _ _ _ _ (by simp)).trans h.b)
  · exact (World.cell?_setCell_other _ _ _ _ (by simp)).trans (World.cell?_setCell_same _ _ _ h.s)
  · rw [World.frozen?_setCell, World.frozen?_setCell]; exact h.fr o
  · exact (Below.heap_setCell _ ⟨r, 0, none⟩ _ b (by simpa using hb)).trans (Below.heap_setCell _ ⟨r, 1, none⟩ _ b (by simpa using hb))
  · exact ((Below.refl B w).setCell (p := ⟨r, 1, none⟩) hB _).setCell (p := ⟨r, 0, none⟩) hB _

theorem take_nil (r : Nat) (n : Int) (s : Bool) (w : World) (h : Rd w r s) (hn : 1 ≤ n) :
    Calls Try.prog 46 #[.pointer (some ⟨r, 0, none⟩), .int .i64 n] w fun e w' => e = .returned (.slice none 0 0) ∧ Rd w' r true ∧ Al w w' r := by
  have HA := Lib.hid (al_two h)
  obtain ⟨h1, h2, h3⟩ := h
  have f0 := h3 0
  have f1 := h3 1
  have hn' : (0 : Int) < n := by omega
  go_enter Try.func46, Try.ntmps46
  go_wp2_with fail
  go_ret
  exact ⟨rfl, HA.out⟩
theorem number_nil (r : Nat) (n : Int) (s : Bool) (w : World) (h : Rd w r s) (hn : 1 ≤ n) :
    Calls Try.prog 47 #[.pointer (some ⟨r, 0, none⟩), .int .i64 n] w fun e w' => e = .returned (.int .u32 0) ∧ Rd w' r true ∧ Al w w' r := by
  have T := Lib.hid (take_nil r n s w h hn)
  clear h
  go_enter Try.func47, Try.ntmps47
  go_wp2_with fail
  refine T.out.mono ?_
  rintro e w2 ⟨rfl, hr, ha⟩
  have HR := Lib.hid hr
  have HA := Lib.hid ha
  clear hr ha
  go_wp2_with fail
  go_loop [5, 12] (fun a i => a = .int .u32 0 ∧ i = .int .i64 0) (fun a i => 0)
  case atStart => exact ⟨rfl, rfl⟩
  case round =>
    obtain ⟨rfl, rfl⟩ := hrel
    go_wp2_with fail
    go_ret
    exact ⟨rfl, HR.out, HA.out⟩
theorem word_nil (r : Nat) (s : Bool) (w : World) (h : Rd w r s) :
    Calls Try.prog 48 #[.pointer (some ⟨r, 0, none⟩)] w fun e w' => e = .returned (.int .u32 0) ∧ Rd w' r true ∧ Al w w' r := by
  have T := Lib.hid (number_nil r 4 s w h (by omega))
  clear h
  go_enter Try.func48, Try.ntmps48
  go_wp2_with fail
  refine T.out.mono ?_
  rintro e w2 ⟨rfl, hr, ha⟩
  go_wp2_with fail
  go_ret
  exact ⟨rfl, hr, ha⟩
theorem words_nil (r : Nat) (s : Bool) (w : World) (h : Rd w r s) :
    Calls Try.prog 49 #[.pointer (some ⟨r, 0, none⟩), .int .i64 0] w fun e w' => e = .returned (.slice none 0 0) ∧ w = w' := by
  obtain ⟨h1, h2, h3⟩ := h
  go_enter Try.func49, Try.ntmps49
  go_wp2_with fail
  go_loop [5, 21] (fun a i => a = .slice none 0 0 ∧ i = .int .i64 0) (fun a i => 0)
  case atStart => exact ⟨rfl, rfl⟩
  case round =>
    obtain ⟨rfl, rfl⟩ := hrel
    go_wp2_with fail
    go_ret
    exact ⟨rfl, rfl⟩

theorem conv_nil (w : World) : (convert 37 9 (.slice none 0 0)).run Try.prog w = .ok (.string ⟨#[]⟩) w :=
  Go.Lib.run_convert_nil_bytes w _ _ _ 0 Try.underlying37 Try.underlying5 Try.underlying9
attribute [local go_sem] conv_nil
/-- the empty image in block p -/
structure Zi (w : World) (p : Nat) : Prop where
  c0 : w.cell? ⟨p, 0, none⟩ = some (.int .i64 0)
  c1 : w.cell? ⟨p, 1, none⟩ = some (.int .i64 0)
  c2 : w.cell? ⟨p, 2, none⟩ = some (.slice none 0 0)
  c3 : w.cell? ⟨p, 3, none⟩ = some (.slice none 0 0)
  fr : ∀ o, w.frozen? ⟨p, o, none⟩ = false
theorem Zi.same {w w' : World} {p : Nat} (h : Zi w p) (hb : w'.heap[p]? = w.heap[p]?) : Zi w' p := by
  obtain ⟨h1, h2⟩ := blk_same hb
  exact ⟨(h1 0).trans h.c0, (h1 1).trans h.c1, (h1 2).trans h.c2, (h1 3).trans h.c3, fun o => (h2 o).trans (h.fr o)⟩
theorem zi_new (w : World) (p : Nat) (t : TypeId) (hp : w.heap.size = p) : Zi (w.alloc (.cells #[.int .i64 0, .int .i64 0, .slice none 0 0, .slice none 0 0] t)) p := by
  subst hp
  exact ⟨by simp, by simp, by simp, by simp, fun o => by simp⟩
theorem Rd.same {w w' : World} {r : Nat} {s : Bool} (h : Rd w r s) (hb : w'.heap[r]? = w.heap[r]?) : Rd w' r s := by
  obtain ⟨h1, h2⟩ := blk_same hb
  exact ⟨(h1 0).trans h.b, (h1 1).trans h.s, fun o => (h2 o).trans (h.fr o)⟩
theorem Zi.set0 {w : World} {p : Nat} (h : Zi w p) : Zi (w.setCell ⟨p, 0, none⟩ (.int .i64 0)) p :=
  ⟨World.cell?_setCell_same _ _ _ h.c0, (World.cell?_setCell_other _ _ _ _ (by simp)).trans h.c1, (World.cell?_setCell_other _ _ _ _ (by simp)).trans h.c2, (World.cell?_setCell_other _ _ _ _ (by simp)).trans h.c3, fun o => by rw [World.frozen?_setCell]; exact h.fr o⟩
theorem Zi.set2 {w : World} {p : Nat} (h : Zi w p) : Zi (w.setCell ⟨p, 2, none⟩ (.slice none 0 0)) p :=
  ⟨(World.cell?_setCell_other _ _ _ _ (by simp)).trans h.c0, (World.cell?_setCell_other _ _ _ _ (by simp)).trans h.c1, World.cell?_setCell_same _ _ _ h.c2, (World.cell?_setCell_other _ _ _ _ (by simp)).trans h.c3, fun o => by rw [World.frozen?_setCell]; exact h.fr o⟩
theorem Zi.set1 {w : World} {p : Nat} (h : Zi w p) : Zi (w.setCell ⟨p, 1, none⟩ (.int .i64 0)) p :=
  ⟨(World.cell?_setCell_other _ _ _ _ (by simp)).trans h.c0, World.cell?_setCell_same _ _ _ h.c1, (World.cell?_setCell_other _ _ _ _ (by simp)).trans h.c2, (World.cell?_setCell_other _ _ _ _ (by simp)).trans h.c3, fun o => by rw [World.frozen?_setCell]; exact h.fr o⟩
theorem Zi.set3 {w : World} {p : Nat} (h : Zi w p) : Zi (w.setCell ⟨p, 3, none⟩ (.slice none 0 0)) p :=
  ⟨(World.cell?_setCell_other _ _ _ _ (by simp)).trans h.c0, (World.cell?_setCell_other _ _ _ _ (by simp)).trans h.c1, (World.cell?_setCell_other _ _ _ _ (by simp)).trans h.c2, World.cell?_setCell_same _ _ _ h.c3, fun o => by rw [World.frozen?_setCell]; exact h.fr o⟩

set_option maxRecDepth 20000 in
set_option maxHeartbeats 3200000 in
theorem read_nil (w : World) : Calls Try.prog 22 #[.slice none 0 0] w fun e w' => e = .returned (.tuple #[.agg #[.int .i64 0, .int .i64 0, .slice none 0 0, .slice none 0 0], .int .i64 9]) ∧ Below w.heap.size w w' := by
  obtain ⟨W, hW⟩ : ∃ W, W = (w.alloc (.cells #[.int .i64 0, .int .i64 0, .slice none 0 0, .slice none 0 0] 27)).alloc (.cells #[.slice none 0 0, .bool false] 108) := ⟨_, rfl⟩
  have hB : Below w.heap.size w W := by rw [hW]; exact ((Below.refl _ _).alloc (Nat.le_refl _) _).alloc (by simp) _
  have hz : W.heap.size = w.heap.size + 2 := by rw [hW]; simp
  have e1 : (w.alloc (.cells #[.int .i64 0, .int .i64 0, .slice none 0 0, .slice none 0 0] 27)).heap.size = w.heap.size + 1 := by simp
  have hr : Rd W (w.heap.size + 1) false := by
    rw [hW, ← e1]
    exact ⟨World.cell?_alloc_new _ _ _ 0, World.cell?_alloc_new _ _ _ 1, fun o => by simp⟩
  have HR := Lib.hid hr
  have hzi : Zi W w.heap.size := by
    rw [hW]
    exact (zi_new w w.heap.size _ rfl).same (Below.heap_alloc _ _ _ (by simp))
  have HZ := Lib.hid hzi
  clear hzi
  have HW := Lib.hid hW
  have HB := Lib.hid hB
  clear hW hr e1
  go_enter Try.func22, Try.ntmps22
  go_upto_region 2 with (fail)
  rw [← HW.out]
  go_wp2_with fail
  refine (take_nil (w.heap.size + 1) 3 false W HR.out (by omega)).mono ?_
  rintro e w2 ⟨rfl, hr2, ha2⟩
  have R2 := Lib.hid hr2
  have A2 := Lib.hid ha2
  have s2 := hr2.s
  clear hr2 ha2
  go_wp2_with fail
  refine (number_nil (w.heap.size + 1) 1 true w2 R2.out (by omega)).mono ?_
  rintro e w3 ⟨rfl, hr3, ha3⟩
  have A3 := Lib.hid (A2.out.trans ha3)
  have z3 : w3.heap.size = w.heap.size + 2 := A3.out.size.trans hz
  obtain ⟨W4, hW4⟩ : ∃ W4, w3.alloc (.cells #[.int .i64 0, .int .i64 0, .slice none 0 0, .slice none 0 0] 27) = W4 := ⟨_, rfl⟩
  have R4 : Hid (Rd W4 (w.heap.size + 1) true) := Lib.hid (by rw [← hW4]; exact hr3.same (Below.heap_alloc _ _ _ (by omega)))
  have Z4 : Hid (Zi W4 w.heap.size) := Lib.hid (by rw [← hW4]; exact (HZ.out.same (A3.out.same w.heap.size (by omega))).same (Below.heap_alloc _ _ _ (by omega)))
  have X4 : Hid (Zi W4 (w.heap.size + 2)) := Lib.hid (by rw [← hW4]; exact zi_new _ _ _ z3)
  have B4 : Hid (Below w.heap.size w W4) := Lib.hid (by rw [← hW4]; exact (HB.out.trans (A3.out.below w.heap.size (by omega))).alloc (by omega) _)
  have HW4 := Lib.hid hW4
  clear hr3 ha3 hW4 s2
  go_wp2_with fail
  rw [HW4.out]
  refine (number_nil (w.heap.size + 1) 1 true W4 R4.out (by omega)).mono ?_
  rintro e w5 ⟨rfl, hr5, ha5⟩
  have R5 := Lib.hid hr5
  have Z5 := Lib.hid (Z4.out.same (ha5.same w.heap.size (by omega)))
  have X5 := Lib.hid (X4.out.same (ha5.same (w.heap.size + 2) (by omega)))
  have B5 := Lib.hid (B4.out.trans (ha5.below w.heap.size (by omega)))
  clear hr5 ha5
  go_wp2_with fail
  refine (word_nil (w.heap.size + 1) true w5 R5.out).mono ?_
  rintro e w6 ⟨rfl, hr6, ha6⟩
  have x6 := X5.out.same (ha6.same (w.heap.size + 2) (by omega))
  have R6 : Hid (Rd (w6.setCell ⟨w.heap.size + 2, 1, none⟩ (.int .i64 0)) (w.heap.size + 1) true) := Lib.hid (hr6.same (Below.heap_setCell _ _ _ _ (by simp)))
  have Z6 : Hid (Zi (w6.setCell ⟨w.heap.size + 2, 1, none⟩ (.int .i64 0)) w.heap.size) := Lib.hid ((Z5.out.same (ha6.same w.heap.size (by omega))).same (Below.heap_setCell _ _ _ _ (by simp)))
  have X6 := Lib.hid x6.set1
  have B6 : Hid (Below w.heap.size w (w6.setCell ⟨w.heap.size + 2, 1, none⟩ (.int .i64 0))) := Lib.hid ((B5.out.trans (ha6.below w.heap.size (by omega))).setCell (p := ⟨w.heap.size + 2, 1, none⟩) (by show w.heap.size ≤ w.heap.size + 2; omega) _)
  have c61 := x6.c1
  have f61 := x6.fr 1
  clear hr6 ha6 x6
  go_wp2_with fail
  generalize w6.setCell ⟨w.heap.size + 2, 1, none⟩ (.int .i64 0) = W7 at *
  clear c61 f61
  refine (words_nil (w.heap.size + 1) true W7 R6.out).mono ?_
  rintro e w8 ⟨rfl, rfl⟩
  go_wp2_with fail
  go_loop [41] (fun i => i = .int .i64 0) (fun i => 0)
  case atStart => exact rfl
  case round =>
    obtain rfl := hrel
    go_wp2_with fail
    refine (word_nil (w.heap.size + 1) true W7 R6.out).mono ?_
    rintro e w9 ⟨rfl, hr9, ha9⟩
    have R9 := Lib.hid hr9
    have Z9 := Lib.hid (Z6.out.same (ha9.same w.heap.size (by omega)))
    have X9 := Lib.hid (X6.out.same (ha9.same (w.heap.size + 2) (by omega)))
    have B9 := Lib.hid (B6.out.trans (ha9.below w.heap.size (by omega)))
    clear hr9 ha9
    go_wp2_with fail
    refine (words_nil (w.heap.size + 1) true w9 R9.out).mono ?_
    rintro e w10 ⟨rfl, rfl⟩
    have c93 := X9.out.c3
    have f93 := X9.out.fr 3
    have RA : Hid (Rd (w9.setCell ⟨w.heap.size + 2, 3, none⟩ (.slice none 0 0)) (w.heap.size + 1) true) := Lib.hid (R9.out.same (Below.heap_setCell _ _ _ _ (by simp)))
    have ZA : Hid (Zi (w9.setCell ⟨w.heap.size + 2, 3, none⟩ (.slice none 0 0)) w.heap.size) := Lib.hid (Z9.out.same (Below.heap_setCell _ _ _ _ (by simp)))
    have BA : Hid (Below w.heap.size w (w9.setCell ⟨w.heap.size + 2, 3, none⟩ (.slice none 0 0))) := Lib.hid (B9.out.setCell (p := ⟨w.heap.size + 2, 3, none⟩) (by show w.heap.size ≤ w.heap.size + 2; omega) _)
    have sA := RA.out.s
    obtain ⟨z0, z1, z2, z3_, zf⟩ := ZA.out
    have zf0 := zf 0
    have zf1 := zf 1
    have zf2 := zf 2
    have zf3 := zf 3
    obtain ⟨WA, hWA⟩ : ∃ WA, w9.setCell ⟨w.heap.size + 2, 3, none⟩ (.slice none 0 0) = WA := ⟨_, rfl⟩
    have hset : Hid (w9.setCell ⟨w.heap.size + 2, 3, none⟩ (.slice none 0 0) = WA) := Lib.hid hWA
    have b1 := (((BA.out.setCell (p := ⟨w.heap.size, 0, none⟩) (Nat.le_refl _) (.int .i64 0)).setCell (p := ⟨w.heap.size, 1, none⟩) (Nat.le_refl _) (.int .i64 0)).setCell (p := ⟨w.heap.size, 2, none⟩) (Nat.le_refl _) (.slice none 0 0)).setCell (p := ⟨w.heap.size, 3, none⟩) (Nat.le_refl _) (.slice none 0 0)
    have HB1 := Lib.hid b1
    clear zf b1 hWA
    go_wp2_with fail
    have hzz : Zi (((((w9.setCell ⟨w.heap.size + 2, 3, none⟩ (.slice none 0 0)).setCell ⟨w.heap.size, 0, none⟩ (.int .i64 0)).setCell ⟨w.heap.size, 1, none⟩ (.int .i64 0)).setCell ⟨w.heap.size, 2, none⟩ (.slice none 0 0)).setCell ⟨w.heap.size, 3, none⟩ (.slice none 0 0)) w.heap.size := ZA.out.set0.set1.set2.set3
    have HB1' := HB1.out
    generalize ((((w9.setCell ⟨w.heap.size + 2, 3, none⟩ (.slice none 0 0)).setCell ⟨w.heap.size, 0, none⟩ (.int .i64 0)).setCell ⟨w.heap.size, 1, none⟩ (.int .i64 0)).setCell ⟨w.heap.size, 2, none⟩ (.slice none 0 0)).setCell ⟨w.heap.size, 3, none⟩ (.slice none 0 0) = WZ at *
    obtain ⟨k0, k1, k2, k3, _⟩ := hzz
    refine bodyPost_ret (v := .tuple #[.agg #[.int .i64 0, .int .i64 0, .slice none 0 0, .slice none 0 0], .int .i64 9]) ?_ rfl ⟨rfl, HB1'⟩
    simp [results, Try.f22, go_sem, k0, k1, k2, k3]
end Go.Proofs.Ytkohichiojmakaa.ImN
