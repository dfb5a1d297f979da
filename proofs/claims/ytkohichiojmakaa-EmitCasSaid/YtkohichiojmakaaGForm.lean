/-
  WALK: the document's formOf, kind for kind.
-/
import Derived.Test.YtkohichiojmakaaGOwn
namespace Go.Proofs.Ytkohichiojmakaa.A64F
set_option linter.unusedVariables false
set_option linter.unusedSimpArgs false
open Go.RowKit Cm Mm A64 FldW A64W

set_option maxRecDepth 20000 in
set_option maxHeartbeats 1600000 in
theorem formOf_0 (w : World) : Calls Try.prog 63 #[.int .i64 0] w fun e w' => e = .returned (.tuple #[.agg (fmL (form 0)).toArray, .bool true]) ∧ Below w.heap.size w w' := by
  go_enter Try.func63, Try.ntmps63
  go_wp2
  go_returns
  exact ⟨rfl, by go_grown⟩
set_option maxRecDepth 20000 in
set_option maxHeartbeats 1600000 in
theorem formOf_1 (w : World) : Calls Try.prog 63 #[.int .i64 1] w fun e w' => e = .returned (.tuple #[.agg (fmL (form 1)).toArray, .bool true]) ∧ Below w.heap.size w w' := by
  go_enter Try.func63, Try.ntmps63
  go_wp2
  go_returns
  exact ⟨rfl, by go_grown⟩
set_option maxRecDepth 20000 in
set_option maxHeartbeats 1600000 in
theorem formOf_2 (w : World) : Calls Try.prog 63 #[.int .i64 2] w fun e w' => e = .returned (.tuple #[.agg (fmL (form 2)).toArray, .bool true]) ∧ Below w.heap.size w w' := by
  go_enter Try.func63, Try.ntmps63
  go_wp2
  go_returns
  exact ⟨rfl, by go_grown⟩
set_option maxRecDepth 20000 in
set_option maxHeartbeats 1600000 in
theorem formOf_3 (w : World) : Calls Try.prog 63 #[.int .i64 3] w fun e w' => e = .returned (.tuple #[.agg (fmL (form 3)).toArray, .bool true]) ∧ Below w.heap.size w w' := by
  go_enter Try.func63, Try.ntmps63
  go_wp2
  go_returns
  exact ⟨rfl, by go_grown⟩
set_option maxRecDepth 20000 in
set_option maxHeartbeats 1600000 in
theorem formOf_4 (w : World) : Calls Try.prog 63 #[.int .i64 4] w fun e w' => e = .returned (.tuple #[.agg (fmL (form 4)).toArray, .bool true]) ∧ Below w.heap.size w w' := by
  go_enter Try.func63, Try.ntmps63
  go_wp2
  go_returns
  exact ⟨rfl, by go_grown⟩
set_option maxRecDepth 20000 in
set_option maxHeartbeats 1600000 in
theorem formOf_5 (w : World) : Calls Try.prog 63 #[.int .i64 5] w fun e w' => e = .returned (.tuple #[.agg (fmL (form 5)).toArray, .bool true]) ∧ Below w.heap.size w w' := by
  go_enter Try.func63, Try.ntmps63
  go_wp2
  go_returns
  exact ⟨rfl, by go_grown⟩
set_option maxRecDepth 20000 in
set_option maxHeartbeats 1600000 in
theorem formOf_6 (w : World) : Calls Try.prog 63 #[.int .i64 6] w fun e w' => e = .returned (.tuple #[.agg (fmL (form 6)).toArray, .bool true]) ∧ Below w.heap.size w w' := by
  go_enter Try.func63, Try.ntmps63
  go_wp2
  go_returns
  exact ⟨rfl, by go_grown⟩
set_option maxRecDepth 20000 in
set_option maxHeartbeats 1600000 in
theorem formOf_7 (w : World) : Calls Try.prog 63 #[.int .i64 7] w fun e w' => e = .returned (.tuple #[.agg (fmL (form 7)).toArray, .bool true]) ∧ Below w.heap.size w w' := by
  go_enter Try.func63, Try.ntmps63
  go_wp2
  go_returns
  exact ⟨rfl, by go_grown⟩
end Go.Proofs.Ytkohichiojmakaa.A64F
/-
  WALK: the document's formOf, kind for kind.
-/
namespace Go.Proofs.Ytkohichiojmakaa.A64F
set_option linter.unusedVariables false
set_option linter.unusedSimpArgs false
open Go.RowKit Cm Mm A64 FldW A64W

set_option maxRecDepth 20000 in
set_option maxHeartbeats 1600000 in
theorem formOf_8 (w : World) : Calls Try.prog 63 #[.int .i64 8] w fun e w' => e = .returned (.tuple #[.agg (fmL (form 8)).toArray, .bool true]) ∧ Below w.heap.size w w' := by
  go_enter Try.func63, Try.ntmps63
  go_wp2
  go_returns
  exact ⟨rfl, by go_grown⟩
set_option maxRecDepth 20000 in
set_option maxHeartbeats 1600000 in
theorem formOf_9 (w : World) : Calls Try.prog 63 #[.int .i64 9] w fun e w' => e = .returned (.tuple #[.agg (fmL (form 9)).toArray, .bool true]) ∧ Below w.heap.size w w' := by
  go_enter Try.func63, Try.ntmps63
  go_wp2
  go_returns
  exact ⟨rfl, by go_grown⟩
set_option maxRecDepth 20000 in
set_option maxHeartbeats 1600000 in
theorem formOf_10 (w : World) : Calls Try.prog 63 #[.int .i64 10] w fun e w' => e = .returned (.tuple #[.agg (fmL (form 10)).toArray, .bool true]) ∧ Below w.heap.size w w' := by
  go_enter Try.func63, Try.ntmps63
  go_wp2
  go_returns
  exact ⟨rfl, by go_grown⟩
set_option maxRecDepth 20000 in
set_option maxHeartbeats 1600000 in
theorem formOf_11 (w : World) : Calls Try.prog 63 #[.int .i64 11] w fun e w' => e = .returned (.tuple #[.agg (fmL (form 11)).toArray, .bool true]) ∧ Below w.heap.size w w' := by
  go_enter Try.func63, Try.ntmps63
  go_wp2
  go_returns
  exact ⟨rfl, by go_grown⟩
set_option maxRecDepth 20000 in
set_option maxHeartbeats 1600000 in
theorem formOf_12 (w : World) : Calls Try.prog 63 #[.int .i64 12] w fun e w' => e = .returned (.tuple #[.agg (fmL (form 12)).toArray, .bool true]) ∧ Below w.heap.size w w' := by
  go_enter Try.func63, Try.ntmps63
  go_wp2
  go_returns
  exact ⟨rfl, by go_grown⟩
set_option maxRecDepth 20000 in
set_option maxHeartbeats 1600000 in
theorem formOf_13 (w : World) : Calls Try.prog 63 #[.int .i64 13] w fun e w' => e = .returned (.tuple #[.agg (fmL (form 13)).toArray, .bool true]) ∧ Below w.heap.size w w' := by
  go_enter Try.func63, Try.ntmps63
  go_wp2
  go_returns
  exact ⟨rfl, by go_grown⟩
end Go.Proofs.Ytkohichiojmakaa.A64F
/-
  WALK: the document's formOf, kind for kind.
-/
namespace Go.Proofs.Ytkohichiojmakaa.A64F
set_option linter.unusedVariables false
set_option linter.unusedSimpArgs false
open Go.RowKit Cm Mm A64 FldW A64W

set_option maxRecDepth 20000 in
set_option maxHeartbeats 1600000 in
theorem formOf_14 (w : World) : Calls Try.prog 63 #[.int .i64 14] w fun e w' => e = .returned (.tuple #[.agg (fmL (form 14)).toArray, .bool true]) ∧ Below w.heap.size w w' := by
  go_enter Try.func63, Try.ntmps63
  go_wp2
  go_returns
  exact ⟨rfl, by go_grown⟩
set_option maxRecDepth 20000 in
set_option maxHeartbeats 1600000 in
theorem formOf_15 (w : World) : Calls Try.prog 63 #[.int .i64 15] w fun e w' => e = .returned (.tuple #[.agg (fmL (form 15)).toArray, .bool true]) ∧ Below w.heap.size w w' := by
  go_enter Try.func63, Try.ntmps63
  go_wp2
  go_returns
  exact ⟨rfl, by go_grown⟩
set_option maxRecDepth 20000 in
set_option maxHeartbeats 1600000 in
theorem formOf_16 (w : World) : Calls Try.prog 63 #[.int .i64 16] w fun e w' => e = .returned (.tuple #[.agg (fmL (form 16)).toArray, .bool true]) ∧ Below w.heap.size w w' := by
  go_enter Try.func63, Try.ntmps63
  go_wp2
  go_returns
  exact ⟨rfl, by go_grown⟩
set_option maxRecDepth 20000 in
set_option maxHeartbeats 1600000 in
theorem formOf_17 (w : World) : Calls Try.prog 63 #[.int .i64 17] w fun e w' => e = .returned (.tuple #[.agg (fmL (form 17)).toArray, .bool true]) ∧ Below w.heap.size w w' := by
  go_enter Try.func63, Try.ntmps63
  go_wp2
  go_returns
  exact ⟨rfl, by go_grown⟩
set_option maxRecDepth 20000 in
set_option maxHeartbeats 1600000 in
theorem formOf_18 (w : World) : Calls Try.prog 63 #[.int .i64 18] w fun e w' => e = .returned (.tuple #[.agg (fmL (form 18)).toArray, .bool true]) ∧ Below w.heap.size w w' := by
  go_enter Try.func63, Try.ntmps63
  go_wp2
  go_returns
  exact ⟨rfl, by go_grown⟩
end Go.Proofs.Ytkohichiojmakaa.A64F
/-
  WALK: the document's formOf, kind for kind.
-/
namespace Go.Proofs.Ytkohichiojmakaa.A64F
set_option linter.unusedVariables false
set_option linter.unusedSimpArgs false
open Go.RowKit Cm Mm A64 FldW A64W

set_option maxRecDepth 20000 in
set_option maxHeartbeats 1600000 in
theorem formOf_19 (w : World) : Calls Try.prog 63 #[.int .i64 19] w fun e w' => e = .returned (.tuple #[.agg (fmL (form 19)).toArray, .bool true]) ∧ Below w.heap.size w w' := by
  go_enter Try.func63, Try.ntmps63
  go_wp2
  go_returns
  exact ⟨rfl, by go_grown⟩
set_option maxRecDepth 20000 in
set_option maxHeartbeats 1600000 in
theorem formOf_20 (w : World) : Calls Try.prog 63 #[.int .i64 20] w fun e w' => e = .returned (.tuple #[.agg (fmL (form 20)).toArray, .bool true]) ∧ Below w.heap.size w w' := by
  go_enter Try.func63, Try.ntmps63
  go_wp2
  go_returns
  exact ⟨rfl, by go_grown⟩
set_option maxRecDepth 20000 in
set_option maxHeartbeats 1600000 in
theorem formOf_21 (w : World) : Calls Try.prog 63 #[.int .i64 21] w fun e w' => e = .returned (.tuple #[.agg (fmL (form 21)).toArray, .bool true]) ∧ Below w.heap.size w w' := by
  go_enter Try.func63, Try.ntmps63
  go_wp2
  go_returns
  exact ⟨rfl, by go_grown⟩
set_option maxRecDepth 20000 in
set_option maxHeartbeats 1600000 in
theorem formOf_22 (w : World) : Calls Try.prog 63 #[.int .i64 22] w fun e w' => e = .returned (.tuple #[.agg (fmL (form 22)).toArray, .bool true]) ∧ Below w.heap.size w w' := by
  go_enter Try.func63, Try.ntmps63
  go_wp2
  go_returns
  exact ⟨rfl, by go_grown⟩
set_option maxRecDepth 20000 in
set_option maxHeartbeats 1600000 in
theorem formOf_23 (w : World) : Calls Try.prog 63 #[.int .i64 23] w fun e w' => e = .returned (.tuple #[.agg (fmL (form 23)).toArray, .bool true]) ∧ Below w.heap.size w w' := by
  go_enter Try.func63, Try.ntmps63
  go_wp2
  go_returns
  exact ⟨rfl, by go_grown⟩
end Go.Proofs.Ytkohichiojmakaa.A64F
/-
  WALK: the document's formOf, kind for kind.
-/
namespace Go.Proofs.Ytkohichiojmakaa.A64F
set_option linter.unusedVariables false
set_option linter.unusedSimpArgs false
open Go.RowKit Cm Mm A64 FldW A64W

set_option maxRecDepth 20000 in
set_option maxHeartbeats 1600000 in
theorem formOf_none (k : Int) (w : World) (h : ¬ (0 ≤ k ∧ k < 24)) : Calls Try.prog 63 #[.int .i64 k] w fun e w' => e = .returned (.tuple #[.agg (fmL zeroFm).toArray, .bool false]) ∧ Below w.heap.size w w' := by
  have n0 : ¬ k = 0 := by omega
  have n1 : ¬ k = 1 := by omega
  have n2 : ¬ k = 2 := by omega
  have n3 : ¬ k = 3 := by omega
  have n4 : ¬ k = 4 := by omega
  have n5 : ¬ k = 5 := by omega
  have n6 : ¬ k = 6 := by omega
  have n7 : ¬ k = 7 := by omega
  have n8 : ¬ k = 8 := by omega
  have n9 : ¬ k = 9 := by omega
  have n10 : ¬ k = 10 := by omega
  have n11 : ¬ k = 11 := by omega
  have n12 : ¬ k = 12 := by omega
  have n13 : ¬ k = 13 := by omega
  have n14 : ¬ k = 14 := by omega
  have n15 : ¬ k = 15 := by omega
  have n16 : ¬ k = 16 := by omega
  have n17 : ¬ k = 17 := by omega
  have n18 : ¬ k = 18 := by omega
  have n19 : ¬ k = 19 := by omega
  have n20 : ¬ k = 20 := by omega
  have n21 : ¬ k = 21 := by omega
  have n22 : ¬ k = 22 := by omega
  have n23 : ¬ k = 23 := by omega
  clear h
  go_enter Try.func63, Try.ntmps63
  go_wp2
  go_returns
  exact ⟨rfl, by go_grown⟩

theorem formOf_some (k : Nat) (w : World) (h : k < 24) : Calls Try.prog 63 #[.int .i64 (k : Int)] w fun e w' => e = .returned (.tuple #[.agg (fmL (form k)).toArray, .bool true]) ∧ Below w.heap.size w w' :=
  match k, h with
  | 0, _ => formOf_0 w
  | 1, _ => formOf_1 w
  | 2, _ => formOf_2 w
  | 3, _ => formOf_3 w
  | 4, _ => formOf_4 w
  | 5, _ => formOf_5 w
  | 6, _ => formOf_6 w
  | 7, _ => formOf_7 w
  | 8, _ => formOf_8 w
  | 9, _ => formOf_9 w
  | 10, _ => formOf_10 w
  | 11, _ => formOf_11 w
  | 12, _ => formOf_12 w
  | 13, _ => formOf_13 w
  | 14, _ => formOf_14 w
  | 15, _ => formOf_15 w
  | 16, _ => formOf_16 w
  | 17, _ => formOf_17 w
  | 18, _ => formOf_18 w
  | 19, _ => formOf_19 w
  | 20, _ => formOf_20 w
  | 21, _ => formOf_21 w
  | 22, _ => formOf_22 w
  | 23, _ => formOf_23 w
  | k + 24, h => absurd h (by omega)
end Go.Proofs.Ytkohichiojmakaa.A64F
