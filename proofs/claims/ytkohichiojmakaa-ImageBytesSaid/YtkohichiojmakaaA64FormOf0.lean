/-
  WALK: the document's formOf, kind for kind.
-/
import Derived.Test.YtkohichiojmakaaA64Walks
namespace Go.Proofs.Ytkohichiojmakaa.A64F
set_option linter.unusedVariables false
set_option linter.unusedSimpArgs false
open Go.RowKit Cm Mm A64 FldW A64W

set_option maxRecDepth 20000 in
set_option maxHeartbeats 1600000 in
theorem formOf_0 (w : World) : Calls Try.prog 63 #[.int .i64 0] w fun e w' => e = .returned (.tuple #[.agg (fmL (form 0)).toArray, .bool true]) ∧ Below w.heap.size w w' := by
  go_enter Try.func63, Try.ntmps63
  go_wp2
  go_returns
  exact ⟨rfl, by go_grown⟩
set_option maxRecDepth 20000 in
set_option maxHeartbeats 1600000 in
theorem formOf_1 (w : World) : Calls Try.prog 63 #[.int .i64 1] w fun e w' => e = .returned (.tuple #[.agg (fmL (form 1)).toArray, .bool true]) ∧ Below w.heap.size w w' := by
  go_enter Try.func63, Try.ntmps63
  go_wp2
  go_returns
  exact ⟨rfl, by go_grown⟩
set_option maxRecDepth 20000 in
set_option maxHeartbeats 1600000 in
theorem formOf_2 (w : World) : Calls Try.prog 63 #[.int .i64 2] w fun e w' => e = .returned (.tuple #[.agg (fmL (form 2)).toArray, .bool true]) ∧ Below w.heap.size w w' := by
  go_enter Try.func63, Try.ntmps63
  go_wp2
  go_returns
  exact ⟨rfl, by go_grown⟩
set_option maxRecDepth 20000 in
set_option maxHeartbeats 1600000 in
theorem formOf_3 (w : World) : Calls Try.prog 63 #[.int .i64 3] w fun e w' => e = .returned (.tuple #[.agg (fmL (form 3)).toArray, .bool true]) ∧ Below w.heap.size w w' := by
  go_enter Try.func63, Try.ntmps63
  go_wp2
  go_returns
  exact ⟨rfl, by go_grown⟩
set_option maxRecDepth 20000 in
set_option maxHeartbeats 1600000 in
theorem formOf_4 (w : World) : Calls Try.prog 63 #[.int .i64 4] w fun e w' => e = .returned (.tuple #[.agg (fmL (form 4)).toArray, .bool true]) ∧ Below w.heap.size w w' := by
  go_enter Try.func63, Try.ntmps63
  go_wp2
  go_returns
  exact ⟨rfl, by go_grown⟩
set_option maxRecDepth 20000 in
set_option maxHeartbeats 1600000 in
theorem formOf_5 (w : World) : Calls Try.prog 63 #[.int .i64 5] w fun e w' => e = .returned (.tuple #[.agg (fmL (form 5)).toArray, .bool true]) ∧ Below w.heap.size w w' := by
  go_enter Try.func63, Try.ntmps63
  go_wp2
  go_returns
  exact ⟨rfl, by go_grown⟩
set_option maxRecDepth 20000 in
set_option maxHeartbeats 1600000 in
theorem formOf_6 (w : World) : Calls Try.prog 63 #[.int .i64 6] w fun e w' => e = .returned (.tuple #[.agg (fmL (form 6)).toArray, .bool true]) ∧ Below w.heap.size w w' := by
  go_enter Try.func63, Try.ntmps63
  go_wp2
  go_returns
  exact ⟨rfl, by go_grown⟩
set_option maxRecDepth 20000 in
set_option maxHeartbeats 1600000 in
theorem formOf_7 (w : World) : Calls Try.prog 63 #[.int .i64 7] w fun e w' => e = .returned (.tuple #[.agg (fmL (form 7)).toArray, .bool true]) ∧ Below w.heap.size w w' := by
  go_enter Try.func63, Try.ntmps63
  go_wp2
  go_returns
  exact ⟨rfl, by go_grown⟩
end Go.Proofs.Ytkohichiojmakaa.A64F
