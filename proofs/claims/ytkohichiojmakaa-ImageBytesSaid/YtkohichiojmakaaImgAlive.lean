/-
  WALK: the example of chapter 22.
-/
import Derived.Test.YtkohichiojmakaaImgNil
namespace Go.Proofs.Ytkohichiojmakaa.ImA
set_option linter.unusedVariables false
set_option linter.unusedSimpArgs false
open Go.RowKit Cm Mm Ow Ow2 Ow3 A64 A64W Pat InW Img ImC ImR ImN

theorem num_any (x : Int) (w : World) : Calls Try.prog 17 #[.int .i64 x] w fun e w' => e = .returned (.int .i64 x) ∧ w = w' := by
  go_enter Try.func17, Try.ntmps17
  go_wp2
  go_ret
  exact ⟨rfl, rfl⟩
theorem ex_right : right' ⟨0, 0, [0], [0xD4400000#32]⟩ = true := by decide +kernel
theorem ex_none : right' ⟨0, 0, [], []⟩ = false := by decide +kernel
theorem isWd_nil (w : World) : IsWd w none 0 0 [] := ⟨rfl, Sl.nil _ _ _⟩
theorem isI_nil (w : World) : IsI w none 0 0 [] := ⟨rfl, Sl.nil _ _ _⟩
theorem isI_one (w : World) (x : Int) : IsI (w.alloc (.cells #[.int .i64 x] 3)) (some ⟨w.heap.size, 0, none⟩) 1 1 [x] :=
  ⟨rfl, (sl_one w [.int .i64 x] 3).ext (fun i hi => by
    obtain rfl : i = 0 := by omega
    rfl)⟩
theorem isWd_one (w : World) (x : BitVec 32) : IsWd (w.alloc (.cells #[.int .u32 (x.toNat : Int)] 55)) (some ⟨w.heap.size, 0, none⟩) 1 1 [x] :=
  ⟨rfl, (sl_one w [.int .u32 (x.toNat : Int)] 55).ext (fun i hi => by
    obtain rfl : i = 0 := by omega
    rfl)⟩

set_option maxRecDepth 20000 in
set_option maxHeartbeats 1600000 in
theorem alive_any (w : World) : Calls Try.prog 13 #[] w fun e w' => e = .returned (.bool true) ∧ Below w.heap.size w w' := by
  go_enter Try.func13, Try.ntmps13
  go_wp2_with fail
  refine (read_nil w).mono ?_
  rintro e w2 ⟨rfl, hb2⟩
  have B2 := Lib.hid hb2
  clear hb2
  go_wp2_with fail
  obtain ⟨W, hW⟩ : ∃ W, w2.alloc (.cells #[.int .i64 0, .int .i64 0, .slice none 0 0, .slice none 0 0] 27) = W := ⟨_, rfl⟩
  have BW : Hid (Below w.heap.size w W) := Lib.hid (by rw [← hW]; exact B2.out.alloc B2.out.size _)
  rw [hW]
  clear hW
  refine (num_any 9 W).mono ?_
  rintro e w3 ⟨rfl, rfl⟩
  go_wp2_with fail
  have h1 := isI_one W 0
  have h2 := isWd_one (W.alloc (.cells #[.int .i64 0] 3)) 0xD4400000#32
  have B3 : Below W.heap.size W ((W.alloc (.cells #[.int .i64 0] 3)).alloc (.cells #[.int .u32 ((0xD4400000#32).toNat : Int)] 55)) := ((Below.refl _ _).alloc (Nat.le_refl _) _).alloc (by simp) _
  have h1' := h1.keep (Below.alloc (Below.refl _ _) (Nat.le_refl _) (.cells #[.int .u32 ((0xD4400000#32).toNat : Int)] 55))
  rw [World.size_alloc] at h2
  refine (right_any 0 0 _ _ 1 1 1 1 [0] [0xD4400000#32] _ h1' h2).mono ?_
  rintro e w4 ⟨rfl, hb4⟩
  rw [ex_right]
  have B4 := Lib.hid (BW.out.trans ((B3.trans (hb4.mono B3.size)).mono BW.out.size))
  clear h1 h2 B3 h1' hb4
  go_wp2_with fail
  refine (right_any 0 0 none none 0 0 0 0 [] [] w4 (isI_nil _) (isWd_nil _)).mono ?_
  rintro e w5 ⟨rfl, hb5⟩
  rw [ex_none]
  have B5 := Lib.hid (B4.out.trans (hb5.mono B4.out.size))
  clear hb5
  go_wp2_with fail
  go_ret
  exact ⟨rfl, B5.out⟩
end Go.Proofs.Ytkohichiojmakaa.ImA
