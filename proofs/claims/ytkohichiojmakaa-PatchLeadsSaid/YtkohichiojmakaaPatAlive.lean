/-
  WALK: the example of chapter 21.
-/
import Derived.Test.YtkohichiojmakaaPatRef
namespace Go.Proofs.Ytkohichiojmakaa.PatA
set_option linter.unusedVariables false
set_option linter.unusedSimpArgs false
open Go.RowKit Cm Mm Ow Ow3 A64 A64W A64P A64E A64Q A64G Pat InW PatW PatK PatR

theorem num_any (x : Int) (w : World) : Calls Try.prog 25 #[.int .i64 x] w fun e w' => e = .returned (.int .i64 x) ∧ w = w' := by
  go_enter Try.func25, Try.ntmps25
  go_wp2
  go_ret
  exact ⟨rfl, rfl⟩

def exB : In := ⟨8, 0, 0, 1, 0, 0, 0⟩
theorem ex_link : link [exB] [1] = ([⟨8, 0, 0, 0, 0, 0, 1⟩], 0) := by decide +kernel
theorem ex_ok : ∀ i, i < 1 → okIn ([exB].getD i zeroIn) := fun i hi => by
  obtain rfl : i = 0 := by omega
  unfold okIn i64b
  decide +kernel
theorem nil_link : link [] [] = ([], 0) := by decide +kernel
theorem isIn_nil (w : World) : IsIn w none 0 0 [] := ⟨rfl, Sl.nil _ _ _⟩
theorem isI_nil (w : World) : IsI w none 0 0 [] := ⟨rfl, Sl.nil _ _ _⟩

set_option maxRecDepth 20000 in
set_option maxHeartbeats 1600000 in
theorem alive_any (w : World) : Calls Try.prog 23 #[] w fun e w' => e = .returned (.bool true) ∧ Below w.heap.size w w' := by
  obtain ⟨W, hW⟩ : ∃ W, W = (w.alloc (.cells #[.int .i64 8, .int .i64 0, .int .i64 0, .int .i64 1, .int .i64 0, .int .i64 0, .int .i64 0] 45)).alloc (.cells #[.int .i64 1] 3) := ⟨_, rfl⟩
  have B1 : Below w.heap.size w W := by rw [hW]; exact ((Below.refl _ w).alloc (Nat.le_refl _) _).alloc (by simp) _
  have i1 : IsIn W (some ⟨w.heap.size, 0, none⟩) 1 1 [exB] := by
    have h := sl_one w (insL exB) 45
    have h2 := h.keep (below_al _ (.cells #[.int .i64 1] 3))
    rw [hW]
    exact ⟨rfl, h2.ext fun i hi => by obtain rfl : i = 0 := by omega
                                      rfl⟩
  have i2 : IsI W (some ⟨w.heap.size + 1, 0, none⟩) 1 1 [1] := by
    have h := sl_one (w.alloc (.cells #[.int .i64 8, .int .i64 0, .int .i64 0, .int .i64 1, .int .i64 0, .int .i64 0, .int .i64 0] 45)) [.int .i64 1] 3
    rw [World.size_alloc] at h
    rw [hW]
    exact ⟨rfl, h.ext fun i hi => by obtain rfl : i = 0 := by omega
                                     rfl⟩
  have HW := Lib.hid hW
  have I1 := Lib.hid i1
  have I2 := Lib.hid i2
  have HB := Lib.hid B1
  clear hW i1 i2 B1
  go_enter Try.func23, Try.ntmps23
  go_wp2_with fail
  rw [← HW.out]
  refine (link_any _ _ 1 1 1 1 [exB] [1] W I1.out I2.out (by omega) ex_ok).mono ?_
  rintro e w2 ⟨A3, m, c, rfl, hown, hb2⟩
  rw [ex_link] at hown ⊢
  have hm := hown.len
  simp at hm
  subst hm
  have B2 := Lib.hid (HB.out.trans (hb2.mono HB.out.size))
  obtain ⟨g, rfl⟩ := own_head hown (by omega)
  have HO := Lib.hid hown
  clear hown hb2
  go_wp2_with fail
  refine (link_any none none 0 0 0 0 [] [] w2 (isIn_nil _) (isI_nil _) (by omega) (fun i hi => absurd hi (by omega))).mono ?_
  rintro e w3 ⟨A4, m, c4, rfl, hown, hb3⟩
  rw [nil_link] at hown ⊢
  have hm := hown.len
  simp at hm
  subst hm
  have HO3 := Lib.hid (HO.out.keep hb3)
  have B3 := Lib.hid (B2.out.trans (hb3.mono B2.out.size))
  obtain ⟨c0, c1, c2, c3, c4_, c5, c6, _⟩ := in_cells (l := [⟨8, 0, 0, 0, 0, 0, 1⟩]) HO3.out (k := 0) (by omega)
  clear hown hb3
  go_wp2_with fail
  refine (num_any 0 _).mono ?_
  rintro e w4 ⟨rfl, rfl⟩
  go_wp2_with fail
  refine (num_any 0 _).mono ?_
  rintro e w4 ⟨rfl, rfl⟩
  go_wp2_with fail
  go_ret
  exact ⟨rfl, B3.out⟩
end Go.Proofs.Ytkohichiojmakaa.PatA
