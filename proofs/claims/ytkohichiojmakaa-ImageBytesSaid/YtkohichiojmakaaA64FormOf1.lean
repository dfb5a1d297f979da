/-
  WALK: the document's formOf, kind for kind.
-/
import Derived.Test.YtkohichiojmakaaA64Walks
namespace Go.Proofs.Ytkohichiojmakaa.A64F
set_option linter.unusedVariables false
set_option linter.unusedSimpArgs false
open Go.RowKit Cm Mm A64 FldW A64W

set_option maxRecDepth 20000 in
set_option maxHeartbeats 1600000 in
theorem formOf_8 (w : World) : Calls Try.prog 63 #[.int .i64 8] w fun e w' => e = .returned (.tuple #[.agg (fmL (form 8)).toArray, .bool true]) ∧ Below w.heap.size w w' := by
  go_enter Try.func63, Try.ntmps63
  go_wp2
  go_returns
  exact ⟨rfl, by go_grown⟩
set_option maxRecDepth 20000 in
set_option maxHeartbeats 1600000 in
theorem formOf_9 (w : World) : Calls Try.prog 63 #[.int .i64 9] w fun e w' => e = .returned (.tuple #[.agg (fmL (form 9)).toArray, .bool true]) ∧ Below w.heap.size w w' := by
  go_enter Try.func63, Try.ntmps63
  go_wp2
  go_returns
  exact ⟨rfl, by go_grown⟩
set_option maxRecDepth 20000 in
set_option maxHeartbeats 1600000 in
theorem formOf_10 (w : World) : Calls Try.prog 63 #[.int .i64 10] w fun e w' => e = .returned (.tuple #[.agg (fmL (form 10)).toArray, .bool true]) ∧ Below w.heap.size w w' := by
  go_enter Try.func63, Try.ntmps63
  go_wp2
  go_returns
  exact ⟨rfl, by go_grown⟩
set_option maxRecDepth 20000 in
set_option maxHeartbeats 1600000 in
theorem formOf_11 (w : World) : Calls Try.prog 63 #[.int .i64 11] w fun e w' => e = .returned (.tuple #[.agg (fmL (form 11)).toArray, .bool true]) ∧ Below w.heap.size w w' := by
  go_enter Try.func63, Try.ntmps63
  go_wp2
  go_returns
  exact ⟨rfl, by go_grown⟩
set_option maxRecDepth 20000 in
set_option maxHeartbeats 1600000 in
theorem formOf_12 (w : World) : Calls Try.prog 63 #[.int .i64 12] w fun e w' => e = .returned (.tuple #[.agg (fmL (form 12)).toArray, .bool true]) ∧ Below w.heap.size w w' := by
  go_enter Try.func63, Try.ntmps63
  go_wp2
  go_returns
  exact ⟨rfl, by go_grown⟩
set_option maxRecDepth 20000 in
set_option maxHeartbeats 1600000 in
theorem formOf_13 (w : World) : Calls Try.prog 63 #[.int .i64 13] w fun e w' => e = .returned (.tuple #[.agg (fmL (form 13)).toArray, .bool true]) ∧ Below w.heap.size w w' := by
  go_enter Try.func63, Try.ntmps63
  go_wp2
  go_returns
  exact ⟨rfl, by go_grown⟩
end Go.Proofs.Ytkohichiojmakaa.A64F
