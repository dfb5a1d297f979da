/-
  WALK: the document's formOf, kind for kind.
-/
import Derived.Test.YtkohichiojmakaaA64Walks
namespace Go.Proofs.Ytkohichiojmakaa.A64F
set_option linter.unusedVariables false
set_option linter.unusedSimpArgs false
open Go.RowKit Cm Mm A64 FldW A64W

set_option maxRecDepth 20000 in
set_option maxHeartbeats 1600000 in
theorem formOf_14 (w : World) : Calls Try.prog 63 #[.int .i64 14] w fun e w' => e = .returned (.tuple #[.agg (fmL (form 14)).toArray, .bool true]) ∧ Below w.heap.size w w' := by
  go_enter Try.func63, Try.ntmps63
  go_wp2
  go_returns
  exact ⟨rfl, by go_grown⟩
set_option maxRecDepth 20000 in
set_option maxHeartbeats 1600000 in
theorem formOf_15 (w : World) : Calls Try.prog 63 #[.int .i64 15] w fun e w' => e = .returned (.tuple #[.agg (fmL (form 15)).toArray, .bool true]) ∧ Below w.heap.size w w' := by
  go_enter Try.func63, Try.ntmps63
  go_wp2
  go_returns
  exact ⟨rfl, by go_grown⟩
set_option maxRecDepth 20000 in
set_option maxHeartbeats 1600000 in
theorem formOf_16 (w : World) : Calls Try.prog 63 #[.int .i64 16] w fun e w' => e = .returned (.tuple #[.agg (fmL (form 16)).toArray, .bool true]) ∧ Below w.heap.size w w' := by
  go_enter Try.func63, Try.ntmps63
  go_wp2
  go_returns
  exact ⟨rfl, by go_grown⟩
set_option maxRecDepth 20000 in
set_option maxHeartbeats 1600000 in
theorem formOf_17 (w : World) : Calls Try.prog 63 #[.int .i64 17] w fun e w' => e = .returned (.tuple #[.agg (fmL (form 17)).toArray, .bool true]) ∧ Below w.heap.size w w' := by
  go_enter Try.func63, Try.ntmps63
  go_wp2
  go_returns
  exact ⟨rfl, by go_grown⟩
set_option maxRecDepth 20000 in
set_option maxHeartbeats 1600000 in
theorem formOf_18 (w : World) : Calls Try.prog 63 #[.int .i64 18] w fun e w' => e = .returned (.tuple #[.agg (fmL (form 18)).toArray, .bool true]) ∧ Below w.heap.size w w' := by
  go_enter Try.func63, Try.ntmps63
  go_wp2
  go_returns
  exact ⟨rfl, by go_grown⟩
end Go.Proofs.Ytkohichiojmakaa.A64F
