/-
  WALK: the document's formOf, kind for kind.
-/
import Derived.Test.YtkohichiojmakaaA64Walks
namespace Go.Proofs.Ytkohichiojmakaa.A64F
set_option linter.unusedVariables false
set_option linter.unusedSimpArgs false
open Go.RowKit Cm Mm A64 FldW A64W

set_option maxRecDepth 20000 in
set_option maxHeartbeats 1600000 in
theorem formOf_19 (w : World) : Calls Try.prog 63 #[.int .i64 19] w fun e w' => e = .returned (.tuple #[.agg (fmL (form 19)).toArray, .bool true]) ∧ Below w.heap.size w w' := by
  go_enter Try.func63, Try.ntmps63
  go_wp2
  go_returns
  exact ⟨rfl, by go_grown⟩
set_option maxRecDepth 20000 in
set_option maxHeartbeats 1600000 in
theorem formOf_20 (w : World) : Calls Try.prog 63 #[.int .i64 20] w fun e w' => e = .returned (.tuple #[.agg (fmL (form 20)).toArray, .bool true]) ∧ Below w.heap.size w w' := by
  go_enter Try.func63, Try.ntmps63
  go_wp2
  go_returns
  exact ⟨rfl, by go_grown⟩
set_option maxRecDepth 20000 in
set_option maxHeartbeats 1600000 in
theorem formOf_21 (w : World) : Calls Try.prog 63 #[.int .i64 21] w fun e w' => e = .returned (.tuple #[.agg (fmL (form 21)).toArray, .bool true]) ∧ Below w.heap.size w w' := by
  go_enter Try.func63, Try.ntmps63
  go_wp2
  go_returns
  exact ⟨rfl, by go_grown⟩
set_option maxRecDepth 20000 in
set_option maxHeartbeats 1600000 in
theorem formOf_22 (w : World) : Calls Try.prog 63 #[.int .i64 22] w fun e w' => e = .returned (.tuple #[.agg (fmL (form 22)).toArray, .bool true]) ∧ Below w.heap.size w w' := by
  go_enter Try.func63, Try.ntmps63
  go_wp2
  go_returns
  exact ⟨rfl, by go_grown⟩
set_option maxRecDepth 20000 in
set_option maxHeartbeats 1600000 in
theorem formOf_23 (w : World) : Calls Try.prog 63 #[.int .i64 23] w fun e w' => e = .returned (.tuple #[.agg (fmL (form 23)).toArray, .bool true]) ∧ Below w.heap.size w w' := by
  go_enter Try.func63, Try.ntmps63
  go_wp2
  go_returns
  exact ⟨rfl, by go_grown⟩
end Go.Proofs.Ytkohichiojmakaa.A64F
