/-
  WALKS: the example of chapter 16; the law ElideCodes.
-/
import Derived.Test.YtdhihmeknoofoaaElideSole
import Derived.Deep.RegionHeld3
import Derived.Deep.DrawnRows
namespace Go.Proofs.Ytdhihmeknoofoaa.ElL
set_option linter.unusedVariables false
set_option linter.unusedSimpArgs false
open Go.RowKit Go.WideShapes Go.ChangeShapes Cm Mm Ow Stp StW StC StM StF ElW ElR StO ElM ElS

def four : List St := [⟨3, 0, 0, 0, 0, 0, 0, 0, 0⟩, ⟨6, 0, 0, 0, 0, 0, 0, 0, 0⟩, ⟨7, 0, 0, 0, 0, 0, 0, 0, 0⟩, ⟨12, 0, 0, 0, 0, 0, 0, 0, 0⟩]
theorem elide_four : elide [true] four = [⟨3, 0, 0, 0, 0, 0, 0, 0, 0⟩, ⟨12, 0, 0, 0, 0, 0, 0, 0, 0⟩] := by
  simp [four, elide, bare, flwT, flw3]
theorem isSt_lit (w : World) (l : List St) (h : l.length ≤ 1000) : IsSt (w.alloc (.cells (l.map stL).flatten.toArray 31)) (some ⟨w.heap.size, 0, none⟩) l.length l.length l := by
  refine ⟨rfl, ?_⟩
  have := Ow2.sl_many w (l.map stL) 9 31 (st_each l) (by simp; unfold maxLen; omega)
  simp only [List.length_map] at this
  refine this.ext fun i hi => ?_
  simp [List.getD, hi]
theorem isBo_lit (w : World) (b : Bool) : IsBo (w.alloc (.cells #[.bool b] 4)) (some ⟨w.heap.size, 0, none⟩) 1 1 [b] :=
  ⟨rfl, Sl.ext (E := fun _ => [.bool b]) (sl_one w [.bool b] 4) (fun i hi => by cases i with | zero => rfl | succ i => omega)⟩

set_option maxHeartbeats 3200000 in
theorem alive16_any (w : World) : Calls Try.prog 35 #[] w fun e w' => e = .returned (.bool true) ∧ Below w.heap.size w w' := by
  have hI := isSt_lit w four (by decide)
  have hJ := isBo_lit (w.alloc (.cells (four.map stL).flatten.toArray 31)) true
  have hI := hI.keep (below_al _ (.cells #[.bool true] 4))
  have HI := Lib.hid hI
  have HJ := Lib.hid hJ
  have hsz : (w.alloc (.cells (four.map stL).flatten.toArray 31)).heap.size = w.heap.size + 1 := by simp
  rw [hsz] at HJ
  clear hI hJ hsz
  go_enter Try.func35, Try.ntmps35
  go_wp2_with fail
  refine (elide_any 0 0 _ _ 4 4 1 1 four [true] _ HI.out HJ.out (by omega)).mono ?_
  rintro e w2 ⟨A, m, c, rfl, hown, hb2⟩
  rw [elide_four] at hown
  obtain rfl : m = 2 := by have := hown.len; simp at this; exact this.symm
  have hB : Below w.heap.size w w2 := ((below_al _ _).trans ((below_al _ _).mono (by simp))).trans (hb2.mono (by simp; omega))
  clear hown hb2 HI HJ
  go_wp2_with fail
  refine (sole_any none 0 0 1 [] _ ⟨rfl, Sl.nil _ _ _, fun i hi => absurd hi (by omega)⟩ (by omega) (fun i hi => absurd hi (by omega))).mono ?_
  rintro e w3 ⟨A3, m3, c3, rfl, hown3, hb3⟩
  have e1 : soles (stepsOf []) 1 = [true] := by decide
  rw [e1] at hown3
  obtain rfl : m3 = 1 := by have := hown3.len; simp at this; exact this.symm
  have hI3 := isBo_own hown3
  obtain ⟨b, o, rfl, hb, t0⟩ := hI3.cell (k := 0) (by omega)
  have t0 : w3.cell? ⟨b, o, none⟩ = some (.bool true) := t0
  have hle := hI3.2.le
  have hq : w3.cell? ⟨w2.heap.size, 2, none⟩ = some (.slice A 2 c) := by rw [hb3.cell (p := ⟨w2.heap.size, 2, none⟩) (by simp)]; simp
  have hB3 : Below w.heap.size w w3 := hB.trans (((below_al _ _).trans (hb3.mono (by simp))).mono hB.size)
  clear hown3 hb3 hI3 e1
  go_wp2_with fail
  go_ret
  exact ⟨rfl, hB3⟩
end Go.Proofs.Ytdhihmeknoofoaa.ElL
