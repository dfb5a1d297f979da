/-
  WALK: the law A64Limits.
-/
import Derived.Test.YtfbfoooligbcfaaA64Known
namespace Go.Proofs.Ytfbfoooligbcfaa.A64M
set_option linter.unusedVariables false
set_option linter.unusedSimpArgs false
open Go.RowKit Go.WideShapes Go.ChangeShapes Cm Mm Ow A64 Fld FldW A64W A64P A64C A64T A64R A64E A64D A64H A64Q A64G A64L A64K

def lims : List In := [⟨8, 0, 0, 0, 0, 0, 33554431⟩, ⟨8, 0, 0, 0, 0, 0, (-33554432)⟩, ⟨10, 0, 0, 0, 0, 0, 262143⟩, ⟨9, 0, 0, 0, 0, 10, (-262144)⟩, ⟨0, 0, 0, 0, 0, 0, 65535⟩, ⟨12, 0, 0, 0, 0, 0, 4095⟩, ⟨2, 31, 31, 31, 0, 0, 0⟩, ⟨1, 0, 0, 0, 3, 0, 0⟩]
def limCells : Array Value := (lims.map insL).flatten.toArray
theorem run_lims (w : World) : (Instr.buildSlice 38 8 #[(0, .agg #[.int .i64 8, .int .i64 0, .int .i64 0, .int .i64 0, .int .i64 0, .int .i64 0, .int .i64 33554431]), (1, .agg #[.int .i64 8, .int .i64 0, .int .i64 0, .int .i64 0, .int .i64 0, .int .i64 0, .int .i64 (-33554432)]), (2, .agg #[.int .i64 10, .int .i64 0, .int .i64 0, .int .i64 0, .int .i64 0, .int .i64 0, .int .i64 262143]), (3, .agg #[.int .i64 9, .int .i64 0, .int .i64 0, .int .i64 0, .int .i64 0, .int .i64 10, .int .i64 (-262144)]), (4, .agg #[.int .i64 0, .int .i64 0, .int .i64 0, .int .i64 0, .int .i64 0, .int .i64 0, .int .i64 65535]), (5, .agg #[.int .i64 12, .int .i64 0, .int .i64 0, .int .i64 0, .int .i64 0, .int .i64 0, .int .i64 4095]), (6, .agg #[.int .i64 2, .int .i64 31, .int .i64 31, .int .i64 31, .int .i64 0, .int .i64 0, .int .i64 0]), (7, .agg #[.int .i64 1, .int .i64 0, .int .i64 0, .int .i64 0, .int .i64 3, .int .i64 0, .int .i64 0])]).run Try.prog w = .ok (.slice (some ⟨w.heap.size, 0, none⟩) 8 8) (w.alloc (.cells limCells 23)) := by
  cases hi : Try.prog.info? 23 with
  | none => have := ins_info; rw [hi] at this; cases this
  | some i =>
    have h := ins_info
    rw [hi] at h
    simp only [Option.map_some, Option.some.injEq, Prod.mk.injEq] at h
    exact run_buildSlice w _ _ 8 _ limCells i _ Try.underlying38 hi h.1 (by rw [h.2]; decide) (by rw [h.2]; decide) (by rw [h.2]; kernel_rfl)
theorem lim_cell (w : World) (p j : Nat) (v : Value) (hp : w.heap.size = p) (h : limCells[j]? = some v) : (w.alloc (.cells limCells 23)).cell? ⟨p, j, none⟩ = some v := by
  subst hp
  simp [World.cell?_alloc_new, h]

section
attribute [-go_sem] Instr.buildSlice
set_option maxRecDepth 20000 in
set_option maxHeartbeats 3200000 in
theorem lim_0_false (w : World) : Calls Try.prog 6 #[.int .i64 0, .bool false] w fun e w' => e = .returned (.bool true) ∧ Below w.heap.size w w' := by
  have RK := Lib.hid run_lims
  have hE : (encode ⟨8, 0, 0, 0, 0, 0, 33554431⟩).2 = 0 := by decide +kernel
  have hR : right ⟨8, 0, 0, 0, 0, 0, 33554431⟩ = true := by decide +kernel
  have hO : okIn ⟨8, 0, 0, 0, 0, 0, 33554431⟩ := by unfold okIn i64b; decide
  have EN := fun w => encode_any ⟨8, 0, 0, 0, 0, 0, 33554431⟩ w hO
  have RN := fun w => right_at ⟨8, 0, 0, 0, 0, 0, 33554431⟩ w hO
  rw [hE] at EN
  rw [hR] at RN
  generalize (encode ⟨8, 0, 0, 0, 0, 0, 33554431⟩).1 = ew at *
  have EN := Lib.hid EN
  have RN := Lib.hid RN
  clear hE hR hO
  go_enter Try.func6, Try.ntmps6
  go_wp2_with fail
  refine (alive_any _).mono ?_
  rintro e w2 ⟨rfl, hb2⟩
  have rk := RK.out
  have q0 := lim_cell w2 w2.heap.size 0 (.int .i64 8) rfl (by rfl)
  have q1 := lim_cell w2 w2.heap.size 1 (.int .i64 0) rfl (by rfl)
  have q2 := lim_cell w2 w2.heap.size 2 (.int .i64 0) rfl (by rfl)
  have q3 := lim_cell w2 w2.heap.size 3 (.int .i64 0) rfl (by rfl)
  have q4 := lim_cell w2 w2.heap.size 4 (.int .i64 0) rfl (by rfl)
  have q5 := lim_cell w2 w2.heap.size 5 (.int .i64 0) rfl (by rfl)
  have q6 := lim_cell w2 w2.heap.size 6 (.int .i64 33554431) rfl (by rfl)
  go_wp2_with fail
  refine (EN.out _).mono ?_
  rintro e w3 ⟨rfl, hb3⟩
  have hB3 := Lib.hid (((below_al w2 (.cells limCells 23)).alloc (by simp) (.cells #[.int .i64 8, .int .i64 0, .int .i64 0, .int .i64 0, .int .i64 0, .int .i64 0, .int .i64 33554431] 23)).trans (hb3.mono (by simp; omega)))
  have hq3 : ∀ o, w3.cell? ⟨w2.heap.size + 1, o, none⟩ = ((w2.alloc (.cells limCells 23)).alloc (.cells #[.int .i64 8, .int .i64 0, .int .i64 0, .int .i64 0, .int .i64 0, .int .i64 0, .int .i64 33554431] 23)).cell? ⟨w2.heap.size + 1, o, none⟩ := fun o => hb3.cell (p := ⟨w2.heap.size + 1, o, none⟩) (by simp)
  have hsz : (w2.alloc (.cells limCells 23)).heap.size = w2.heap.size + 1 := by simp
  have q3 : ∀ o, w3.cell? ⟨w2.heap.size + 1, o, none⟩ = (#[.int .i64 8, .int .i64 0, .int .i64 0, .int .i64 0, .int .i64 0, .int .i64 0, .int .i64 33554431] : Array Value)[o]? := fun o => by rw [hq3, ← hsz]; simp [World.cell?_alloc_new]
  clear hq3 hsz q0 q1 q2 q4 q5 q6
  have r0 := q3 0
  have r1 := q3 1
  have r2 := q3 2
  have r3 := q3 3
  have r4 := q3 4
  have r5 := q3 5
  have r6 := q3 6
  clear q3
  simp at r0 r1 r2 r3 r4 r5 r6
  go_wp2_with fail
  refine (RN.out _).mono ?_
  rintro e w4 ⟨rfl, hb4⟩
  have hB4 := Lib.hid (hb2.trans ((hB3.out.trans (hb4.mono hB3.out.size)).mono hb2.size))
  go_wp2_with (go_at_call 19; refine (num_any _ _).mono ?_; rintro e w' ⟨rfl, rfl⟩)
  go_ret
  exact ⟨rfl, hB4.out⟩
set_option maxRecDepth 20000 in
set_option maxHeartbeats 3200000 in
theorem lim_0_true (w : World) : Calls Try.prog 6 #[.int .i64 0, .bool true] w fun e w' => e = .returned (.bool true) ∧ Below w.heap.size w w' := by
  have RK := Lib.hid run_lims
  have hE : (encode ⟨8, 0, 0, 0, 0, 0, 33554432⟩).2 = 1 := by decide +kernel
  have hR : right ⟨8, 0, 0, 0, 0, 0, 33554432⟩ = false := by decide +kernel
  have hO : okIn ⟨8, 0, 0, 0, 0, 0, 33554432⟩ := by unfold okIn i64b; decide
  have EN := fun w => encode_any ⟨8, 0, 0, 0, 0, 0, 33554432⟩ w hO
  have RN := fun w => right_at ⟨8, 0, 0, 0, 0, 0, 33554432⟩ w hO
  rw [hE] at EN
  rw [hR] at RN
  generalize (encode ⟨8, 0, 0, 0, 0, 0, 33554432⟩).1 = ew at *
  have EN := Lib.hid EN
  have RN := Lib.hid RN
  clear hE hR hO
  go_enter Try.func6, Try.ntmps6
  go_wp2_with fail
  refine (alive_any _).mono ?_
  rintro e w2 ⟨rfl, hb2⟩
  have rk := RK.out
  have q0 := lim_cell w2 w2.heap.size 0 (.int .i64 8) rfl (by rfl)
  have q1 := lim_cell w2 w2.heap.size 1 (.int .i64 0) rfl (by rfl)
  have q2 := lim_cell w2 w2.heap.size 2 (.int .i64 0) rfl (by rfl)
  have q3 := lim_cell w2 w2.heap.size 3 (.int .i64 0) rfl (by rfl)
  have q4 := lim_cell w2 w2.heap.size 4 (.int .i64 0) rfl (by rfl)
  have q5 := lim_cell w2 w2.heap.size 5 (.int .i64 0) rfl (by rfl)
  have q6 := lim_cell w2 w2.heap.size 6 (.int .i64 33554431) rfl (by rfl)
  go_wp2_with fail
  refine (EN.out _).mono ?_
  rintro e w3 ⟨rfl, hb3⟩
  have hB3 := Lib.hid (((below_al w2 (.cells limCells 23)).alloc (by simp) (.cells #[.int .i64 8, .int .i64 0, .int .i64 0, .int .i64 0, .int .i64 0, .int .i64 0, .int .i64 33554432] 23)).trans (hb3.mono (by simp; omega)))
  have hq3 : ∀ o, w3.cell? ⟨w2.heap.size + 1, o, none⟩ = ((w2.alloc (.cells limCells 23)).alloc (.cells #[.int .i64 8, .int .i64 0, .int .i64 0, .int .i64 0, .int .i64 0, .int .i64 0, .int .i64 33554432] 23)).cell? ⟨w2.heap.size + 1, o, none⟩ := fun o => hb3.cell (p := ⟨w2.heap.size + 1, o, none⟩) (by simp)
  have hsz : (w2.alloc (.cells limCells 23)).heap.size = w2.heap.size + 1 := by simp
  have q3 : ∀ o, w3.cell? ⟨w2.heap.size + 1, o, none⟩ = (#[.int .i64 8, .int .i64 0, .int .i64 0, .int .i64 0, .int .i64 0, .int .i64 0, .int .i64 33554432] : Array Value)[o]? := fun o => by rw [hq3, ← hsz]; simp [World.cell?_alloc_new]
  clear hq3 hsz q0 q1 q2 q4 q5 q6
  have r0 := q3 0
  have r1 := q3 1
  have r2 := q3 2
  have r3 := q3 3
  have r4 := q3 4
  have r5 := q3 5
  have r6 := q3 6
  clear q3
  simp at r0 r1 r2 r3 r4 r5 r6
  go_wp2_with fail
  refine (RN.out _).mono ?_
  rintro e w4 ⟨rfl, hb4⟩
  have hB4 := Lib.hid (hb2.trans ((hB3.out.trans (hb4.mono hB3.out.size)).mono hb2.size))
  go_wp2_with (go_at_call 19; refine (num_any _ _).mono ?_; rintro e w' ⟨rfl, rfl⟩)
  go_ret
  exact ⟨rfl, hB4.out⟩
set_option maxRecDepth 20000 in
set_option maxHeartbeats 3200000 in
theorem lim_1_false (w : World) : Calls Try.prog 6 #[.int .i64 1, .bool false] w fun e w' => e = .returned (.bool true) ∧ Below w.heap.size w w' := by
  have RK := Lib.hid run_lims
  have hE : (encode ⟨8, 0, 0, 0, 0, 0, (-33554432)⟩).2 = 0 := by decide +kernel
  have hR : right ⟨8, 0, 0, 0, 0, 0, (-33554432)⟩ = true := by decide +kernel
  have hO : okIn ⟨8, 0, 0, 0, 0, 0, (-33554432)⟩ := by unfold okIn i64b; decide
  have EN := fun w => encode_any ⟨8, 0, 0, 0, 0, 0, (-33554432)⟩ w hO
  have RN := fun w => right_at ⟨8, 0, 0, 0, 0, 0, (-33554432)⟩ w hO
  rw [hE] at EN
  rw [hR] at RN
  generalize (encode ⟨8, 0, 0, 0, 0, 0, (-33554432)⟩).1 = ew at *
  have EN := Lib.hid EN
  have RN := Lib.hid RN
  clear hE hR hO
  go_enter Try.func6, Try.ntmps6
  go_wp2_with fail
  refine (alive_any _).mono ?_
  rintro e w2 ⟨rfl, hb2⟩
  have rk := RK.out
  have q0 := lim_cell w2 w2.heap.size 7 (.int .i64 8) rfl (by rfl)
  have q1 := lim_cell w2 w2.heap.size 8 (.int .i64 0) rfl (by rfl)
  have q2 := lim_cell w2 w2.heap.size 9 (.int .i64 0) rfl (by rfl)
  have q3 := lim_cell w2 w2.heap.size 10 (.int .i64 0) rfl (by rfl)
  have q4 := lim_cell w2 w2.heap.size 11 (.int .i64 0) rfl (by rfl)
  have q5 := lim_cell w2 w2.heap.size 12 (.int .i64 0) rfl (by rfl)
  have q6 := lim_cell w2 w2.heap.size 13 (.int .i64 (-33554432)) rfl (by rfl)
  go_wp2_with fail
  refine (EN.out _).mono ?_
  rintro e w3 ⟨rfl, hb3⟩
  have hB3 := Lib.hid (((below_al w2 (.cells limCells 23)).alloc (by simp) (.cells #[.int .i64 8, .int .i64 0, .int .i64 0, .int .i64 0, .int .i64 0, .int .i64 0, .int .i64 (-33554432)] 23)).trans (hb3.mono (by simp; omega)))
  have hq3 : ∀ o, w3.cell? ⟨w2.heap.size + 1, o, none⟩ = ((w2.alloc (.cells limCells 23)).alloc (.cells #[.int .i64 8, .int .i64 0, .int .i64 0, .int .i64 0, .int .i64 0, .int .i64 0, .int .i64 (-33554432)] 23)).cell? ⟨w2.heap.size + 1, o, none⟩ := fun o => hb3.cell (p := ⟨w2.heap.size + 1, o, none⟩) (by simp)
  have hsz : (w2.alloc (.cells limCells 23)).heap.size = w2.heap.size + 1 := by simp
  have q3 : ∀ o, w3.cell? ⟨w2.heap.size + 1, o, none⟩ = (#[.int .i64 8, .int .i64 0, .int .i64 0, .int .i64 0, .int .i64 0, .int .i64 0, .int .i64 (-33554432)] : Array Value)[o]? := fun o => by rw [hq3, ← hsz]; simp [World.cell?_alloc_new]
  clear hq3 hsz q0 q1 q2 q4 q5 q6
  have r0 := q3 0
  have r1 := q3 1
  have r2 := q3 2
  have r3 := q3 3
  have r4 := q3 4
  have r5 := q3 5
  have r6 := q3 6
  clear q3
  simp at r0 r1 r2 r3 r4 r5 r6
  go_wp2_with fail
  refine (RN.out _).mono ?_
  rintro e w4 ⟨rfl, hb4⟩
  have hB4 := Lib.hid (hb2.trans ((hB3.out.trans (hb4.mono hB3.out.size)).mono hb2.size))
  go_wp2_with (go_at_call 19; refine (num_any _ _).mono ?_; rintro e w' ⟨rfl, rfl⟩)
  go_ret
  exact ⟨rfl, hB4.out⟩
set_option maxRecDepth 20000 in
set_option maxHeartbeats 3200000 in
theorem lim_1_true (w : World) : Calls Try.prog 6 #[.int .i64 1, .bool true] w fun e w' => e = .returned (.bool true) ∧ Below w.heap.size w w' := by
  have RK := Lib.hid run_lims
  have hE : (encode ⟨8, 0, 0, 0, 0, 0, (-33554433)⟩).2 = 1 := by decide +kernel
  have hR : right ⟨8, 0, 0, 0, 0, 0, (-33554433)⟩ = false := by decide +kernel
  have hO : okIn ⟨8, 0, 0, 0, 0, 0, (-33554433)⟩ := by unfold okIn i64b; decide
  have EN := fun w => encode_any ⟨8, 0, 0, 0, 0, 0, (-33554433)⟩ w hO
  have RN := fun w => right_at ⟨8, 0, 0, 0, 0, 0, (-33554433)⟩ w hO
  rw [hE] at EN
  rw [hR] at RN
  generalize (encode ⟨8, 0, 0, 0, 0, 0, (-33554433)⟩).1 = ew at *
  have EN := Lib.hid EN
  have RN := Lib.hid RN
  clear hE hR hO
  go_enter Try.func6, Try.ntmps6
  go_wp2_with fail
  refine (alive_any _).mono ?_
  rintro e w2 ⟨rfl, hb2⟩
  have rk := RK.out
  have q0 := lim_cell w2 w2.heap.size 7 (.int .i64 8) rfl (by rfl)
  have q1 := lim_cell w2 w2.heap.size 8 (.int .i64 0) rfl (by rfl)
  have q2 := lim_cell w2 w2.heap.size 9 (.int .i64 0) rfl (by rfl)
  have q3 := lim_cell w2 w2.heap.size 10 (.int .i64 0) rfl (by rfl)
  have q4 := lim_cell w2 w2.heap.size 11 (.int .i64 0) rfl (by rfl)
  have q5 := lim_cell w2 w2.heap.size 12 (.int .i64 0) rfl (by rfl)
  have q6 := lim_cell w2 w2.heap.size 13 (.int .i64 (-33554432)) rfl (by rfl)
  go_wp2_with fail
  refine (EN.out _).mono ?_
  rintro e w3 ⟨rfl, hb3⟩
  have hB3 := Lib.hid (((below_al w2 (.cells limCells 23)).alloc (by simp) (.cells #[.int .i64 8, .int .i64 0, .int .i64 0, .int .i64 0, .int .i64 0, .int .i64 0, .int .i64 (-33554433)] 23)).trans (hb3.mono (by simp; omega)))
  have hq3 : ∀ o, w3.cell? ⟨w2.heap.size + 1, o, none⟩ = ((w2.alloc (.cells limCells 23)).alloc (.cells #[.int .i64 8, .int .i64 0, .int .i64 0, .int .i64 0, .int .i64 0, .int .i64 0, .int .i64 (-33554433)] 23)).cell? ⟨w2.heap.size + 1, o, none⟩ := fun o => hb3.cell (p := ⟨w2.heap.size + 1, o, none⟩) (by simp)
  have hsz : (w2.alloc (.cells limCells 23)).heap.size = w2.heap.size + 1 := by simp
  have q3 : ∀ o, w3.cell? ⟨w2.heap.size + 1, o, none⟩ = (#[.int .i64 8, .int .i64 0, .int .i64 0, .int .i64 0, .int .i64 0, .int .i64 0, .int .i64 (-33554433)] : Array Value)[o]? := fun o => by rw [hq3, ← hsz]; simp [World.cell?_alloc_new]
  clear hq3 hsz q0 q1 q2 q4 q5 q6
  have r0 := q3 0
  have r1 := q3 1
  have r2 := q3 2
  have r3 := q3 3
  have r4 := q3 4
  have r5 := q3 5
  have r6 := q3 6
  clear q3
  simp at r0 r1 r2 r3 r4 r5 r6
  go_wp2_with fail
  refine (RN.out _).mono ?_
  rintro e w4 ⟨rfl, hb4⟩
  have hB4 := Lib.hid (hb2.trans ((hB3.out.trans (hb4.mono hB3.out.size)).mono hb2.size))
  go_wp2_with (go_at_call 19; refine (num_any _ _).mono ?_; rintro e w' ⟨rfl, rfl⟩)
  go_ret
  exact ⟨rfl, hB4.out⟩
set_option maxRecDepth 20000 in
set_option maxHeartbeats 3200000 in
theorem lim_2_false (w : World) : Calls Try.prog 6 #[.int .i64 2, .bool false] w fun e w' => e = .returned (.bool true) ∧ Below w.heap.size w w' := by
  have RK := Lib.hid run_lims
  have hE : (encode ⟨10, 0, 0, 0, 0, 0, 262143⟩).2 = 0 := by decide +kernel
  have hR : right ⟨10, 0, 0, 0, 0, 0, 262143⟩ = true := by decide +kernel
  have hO : okIn ⟨10, 0, 0, 0, 0, 0, 262143⟩ := by unfold okIn i64b; decide
  have EN := fun w => encode_any ⟨10, 0, 0, 0, 0, 0, 262143⟩ w hO
  have RN := fun w => right_at ⟨10, 0, 0, 0, 0, 0, 262143⟩ w hO
  rw [hE] at EN
  rw [hR] at RN
  generalize (encode ⟨10, 0, 0, 0, 0, 0, 262143⟩).1 = ew at *
  have EN := Lib.hid EN
  have RN := Lib.hid RN
  clear hE hR hO
  go_enter Try.func6, Try.ntmps6
  go_wp2_with fail
  refine (alive_any _).mono ?_
  rintro e w2 ⟨rfl, hb2⟩
  have rk := RK.out
  have q0 := lim_cell w2 w2.heap.size 14 (.int .i64 10) rfl (by rfl)
  have q1 := lim_cell w2 w2.heap.size 15 (.int .i64 0) rfl (by rfl)
  have q2 := lim_cell w2 w2.heap.size 16 (.int .i64 0) rfl (by rfl)
  have q3 := lim_cell w2 w2.heap.size 17 (.int .i64 0) rfl (by rfl)
  have q4 := lim_cell w2 w2.heap.size 18 (.int .i64 0) rfl (by rfl)
  have q5 := lim_cell w2 w2.heap.size 19 (.int .i64 0) rfl (by rfl)
  have q6 := lim_cell w2 w2.heap.size 20 (.int .i64 262143) rfl (by rfl)
  go_wp2_with fail
  refine (EN.out _).mono ?_
  rintro e w3 ⟨rfl, hb3⟩
  have hB3 := Lib.hid (((below_al w2 (.cells limCells 23)).alloc (by simp) (.cells #[.int .i64 10, .int .i64 0, .int .i64 0, .int .i64 0, .int .i64 0, .int .i64 0, .int .i64 262143] 23)).trans (hb3.mono (by simp; omega)))
  have hq3 : ∀ o, w3.cell? ⟨w2.heap.size + 1, o, none⟩ = ((w2.alloc (.cells limCells 23)).alloc (.cells #[.int .i64 10, .int .i64 0, .int .i64 0, .int .i64 0, .int .i64 0, .int .i64 0, .int .i64 262143] 23)).cell? ⟨w2.heap.size + 1, o, none⟩ := fun o => hb3.cell (p := ⟨w2.heap.size + 1, o, none⟩) (by simp)
  have hsz : (w2.alloc (.cells limCells 23)).heap.size = w2.heap.size + 1 := by simp
  have q3 : ∀ o, w3.cell? ⟨w2.heap.size + 1, o, none⟩ = (#[.int .i64 10, .int .i64 0, .int .i64 0, .int .i64 0, .int .i64 0, .int .i64 0, .int .i64 262143] : Array Value)[o]? := fun o => by rw [hq3, ← hsz]; simp [World.cell?_alloc_new]
  clear hq3 hsz q0 q1 q2 q4 q5 q6
  have r0 := q3 0
  have r1 := q3 1
  have r2 := q3 2
  have r3 := q3 3
  have r4 := q3 4
  have r5 := q3 5
  have r6 := q3 6
  clear q3
  simp at r0 r1 r2 r3 r4 r5 r6
  go_wp2_with fail
  refine (RN.out _).mono ?_
  rintro e w4 ⟨rfl, hb4⟩
  have hB4 := Lib.hid (hb2.trans ((hB3.out.trans (hb4.mono hB3.out.size)).mono hb2.size))
  go_wp2_with (go_at_call 19; refine (num_any _ _).mono ?_; rintro e w' ⟨rfl, rfl⟩)
  go_ret
  exact ⟨rfl, hB4.out⟩
set_option maxRecDepth 20000 in
set_option maxHeartbeats 3200000 in
theorem lim_2_true (w : World) : Calls Try.prog 6 #[.int .i64 2, .bool true] w fun e w' => e = .returned (.bool true) ∧ Below w.heap.size w w' := by
  have RK := Lib.hid run_lims
  have hE : (encode ⟨10, 0, 0, 0, 0, 0, 262144⟩).2 = 1 := by decide +kernel
  have hR : right ⟨10, 0, 0, 0, 0, 0, 262144⟩ = false := by decide +kernel
  have hO : okIn ⟨10, 0, 0, 0, 0, 0, 262144⟩ := by unfold okIn i64b; decide
  have EN := fun w => encode_any ⟨10, 0, 0, 0, 0, 0, 262144⟩ w hO
  have RN := fun w => right_at ⟨10, 0, 0, 0, 0, 0, 262144⟩ w hO
  rw [hE] at EN
  rw [hR] at RN
  generalize (encode ⟨10, 0, 0, 0, 0, 0, 262144⟩).1 = ew at *
  have EN := Lib.hid EN
  have RN := Lib.hid RN
  clear hE hR hO
  go_enter Try.func6, Try.ntmps6
  go_wp2_with fail
  refine (alive_any _).mono ?_
  rintro e w2 ⟨rfl, hb2⟩
  have rk := RK.out
  have q0 := lim_cell w2 w2.heap.size 14 (.int .i64 10) rfl (by rfl)
  have q1 := lim_cell w2 w2.heap.size 15 (.int .i64 0) rfl (by rfl)
  have q2 := lim_cell w2 w2.heap.size 16 (.int .i64 0) rfl (by rfl)
  have q3 := lim_cell w2 w2.heap.size 17 (.int .i64 0) rfl (by rfl)
  have q4 := lim_cell w2 w2.heap.size 18 (.int .i64 0) rfl (by rfl)
  have q5 := lim_cell w2 w2.heap.size 19 (.int .i64 0) rfl (by rfl)
  have q6 := lim_cell w2 w2.heap.size 20 (.int .i64 262143) rfl (by rfl)
  go_wp2_with fail
  refine (EN.out _).mono ?_
  rintro e w3 ⟨rfl, hb3⟩
  have hB3 := Lib.hid (((below_al w2 (.cells limCells 23)).alloc (by simp) (.cells #[.int .i64 10, .int .i64 0, .int .i64 0, .int .i64 0, .int .i64 0, .int .i64 0, .int .i64 262144] 23)).trans (hb3.mono (by simp; omega)))
  have hq3 : ∀ o, w3.cell? ⟨w2.heap.size + 1, o, none⟩ = ((w2.alloc (.cells limCells 23)).alloc (.cells #[.int .i64 10, .int .i64 0, .int .i64 0, .int .i64 0, .int .i64 0, .int .i64 0, .int .i64 262144] 23)).cell? ⟨w2.heap.size + 1, o, none⟩ := fun o => hb3.cell (p := ⟨w2.heap.size + 1, o, none⟩) (by simp)
  have hsz : (w2.alloc (.cells limCells 23)).heap.size = w2.heap.size + 1 := by simp
  have q3 : ∀ o, w3.cell? ⟨w2.heap.size + 1, o, none⟩ = (#[.int .i64 10, .int .i64 0, .int .i64 0, .int .i64 0, .int .i64 0, .int .i64 0, .int .i64 262144] : Array Value)[o]? := fun o => by rw [hq3, ← hsz]; simp [World.cell?_alloc_new]
  clear hq3 hsz q0 q1 q2 q4 q5 q6
  have r0 := q3 0
  have r1 := q3 1
  have r2 := q3 2
  have r3 := q3 3
  have r4 := q3 4
  have r5 := q3 5
  have r6 := q3 6
  clear q3
  simp at r0 r1 r2 r3 r4 r5 r6
  go_wp2_with fail
  refine (RN.out _).mono ?_
  rintro e w4 ⟨rfl, hb4⟩
  have hB4 := Lib.hid (hb2.trans ((hB3.out.trans (hb4.mono hB3.out.size)).mono hb2.size))
  go_wp2_with (go_at_call 19; refine (num_any _ _).mono ?_; rintro e w' ⟨rfl, rfl⟩)
  go_ret
  exact ⟨rfl, hB4.out⟩
set_option maxRecDepth 20000 in
set_option maxHeartbeats 3200000 in
theorem lim_3_false (w : World) : Calls Try.prog 6 #[.int .i64 3, .bool false] w fun e w' => e = .returned (.bool true) ∧ Below w.heap.size w w' := by
  have RK := Lib.hid run_lims
  have hE : (encode ⟨9, 0, 0, 0, 0, 10, (-262144)⟩).2 = 0 := by decide +kernel
  have hR : right ⟨9, 0, 0, 0, 0, 10, (-262144)⟩ = true := by decide +kernel
  have hO : okIn ⟨9, 0, 0, 0, 0, 10, (-262144)⟩ := by unfold okIn i64b; decide
  have EN := fun w => encode_any ⟨9, 0, 0, 0, 0, 10, (-262144)⟩ w hO
  have RN := fun w => right_at ⟨9, 0, 0, 0, 0, 10, (-262144)⟩ w hO
  rw [hE] at EN
  rw [hR] at RN
  generalize (encode ⟨9, 0, 0, 0, 0, 10, (-262144)⟩).1 = ew at *
  have EN := Lib.hid EN
  have RN := Lib.hid RN
  clear hE hR hO
  go_enter Try.func6, Try.ntmps6
  go_wp2_with fail
  refine (alive_any _).mono ?_
  rintro e w2 ⟨rfl, hb2⟩
  have rk := RK.out
  have q0 := lim_cell w2 w2.heap.size 21 (.int .i64 9) rfl (by rfl)
  have q1 := lim_cell w2 w2.heap.size 22 (.int .i64 0) rfl (by rfl)
  have q2 := lim_cell w2 w2.heap.size 23 (.int .i64 0) rfl (by rfl)
  have q3 := lim_cell w2 w2.heap.size 24 (.int .i64 0) rfl (by rfl)
  have q4 := lim_cell w2 w2.heap.size 25 (.int .i64 0) rfl (by rfl)
  have q5 := lim_cell w2 w2.heap.size 26 (.int .i64 10) rfl (by rfl)
  have q6 := lim_cell w2 w2.heap.size 27 (.int .i64 (-262144)) rfl (by rfl)
  go_wp2_with fail
  refine (EN.out _).mono ?_
  rintro e w3 ⟨rfl, hb3⟩
  have hB3 := Lib.hid (((below_al w2 (.cells limCells 23)).alloc (by simp) (.cells #[.int .i64 9, .int .i64 0, .int .i64 0, .int .i64 0, .int .i64 0, .int .i64 10, .int .i64 (-262144)] 23)).trans (hb3.mono (by simp; omega)))
  have hq3 : ∀ o, w3.cell? ⟨w2.heap.size + 1, o, none⟩ = ((w2.alloc (.cells limCells 23)).alloc (.cells #[.int .i64 9, .int .i64 0, .int .i64 0, .int .i64 0, .int .i64 0, .int .i64 10, .int .i64 (-262144)] 23)).cell? ⟨w2.heap.size + 1, o, none⟩ := fun o => hb3.cell (p := ⟨w2.heap.size + 1, o, none⟩) (by simp)
  have hsz : (w2.alloc (.cells limCells 23)).heap.size = w2.heap.size + 1 := by simp
  have q3 : ∀ o, w3.cell? ⟨w2.heap.size + 1, o, none⟩ = (#[.int .i64 9, .int .i64 0, .int .i64 0, .int .i64 0, .int .i64 0, .int .i64 10, .int .i64 (-262144)] : Array Value)[o]? := fun o => by rw [hq3, ← hsz]; simp [World.cell?_alloc_new]
  clear hq3 hsz q0 q1 q2 q4 q5 q6
  have r0 := q3 0
  have r1 := q3 1
  have r2 := q3 2
  have r3 := q3 3
  have r4 := q3 4
  have r5 := q3 5
  have r6 := q3 6
  clear q3
  simp at r0 r1 r2 r3 r4 r5 r6
  go_wp2_with fail
  refine (RN.out _).mono ?_
  rintro e w4 ⟨rfl, hb4⟩
  have hB4 := Lib.hid (hb2.trans ((hB3.out.trans (hb4.mono hB3.out.size)).mono hb2.size))
  go_wp2_with (go_at_call 19; refine (num_any _ _).mono ?_; rintro e w' ⟨rfl, rfl⟩)
  go_ret
  exact ⟨rfl, hB4.out⟩
set_option maxRecDepth 20000 in
set_option maxHeartbeats 3200000 in
theorem lim_3_true (w : World) : Calls Try.prog 6 #[.int .i64 3, .bool true] w fun e w' => e = .returned (.bool true) ∧ Below w.heap.size w w' := by
  have RK := Lib.hid run_lims
  have hE : (encode ⟨9, 0, 0, 0, 0, 10, (-262145)⟩).2 = 1 := by decide +kernel
  have hR : right ⟨9, 0, 0, 0, 0, 10, (-262145)⟩ = false := by decide +kernel
  have hO : okIn ⟨9, 0, 0, 0, 0, 10, (-262145)⟩ := by unfold okIn i64b; decide
  have EN := fun w => encode_any ⟨9, 0, 0, 0, 0, 10, (-262145)⟩ w hO
  have RN := fun w => right_at ⟨9, 0, 0, 0, 0, 10, (-262145)⟩ w hO
  rw [hE] at EN
  rw [hR] at RN
  generalize (encode ⟨9, 0, 0, 0, 0, 10, (-262145)⟩).1 = ew at *
  have EN := Lib.hid EN
  have RN := Lib.hid RN
  clear hE hR hO
  go_enter Try.func6, Try.ntmps6
  go_wp2_with fail
  refine (alive_any _).mono ?_
  rintro e w2 ⟨rfl, hb2⟩
  have rk := RK.out
  have q0 := lim_cell w2 w2.heap.size 21 (.int .i64 9) rfl (by rfl)
  have q1 := lim_cell w2 w2.heap.size 22 (.int .i64 0) rfl (by rfl)
  have q2 := lim_cell w2 w2.heap.size 23 (.int .i64 0) rfl (by rfl)
  have q3 := lim_cell w2 w2.heap.size 24 (.int .i64 0) rfl (by rfl)
  have q4 := lim_cell w2 w2.heap.size 25 (.int .i64 0) rfl (by rfl)
  have q5 := lim_cell w2 w2.heap.size 26 (.int .i64 10) rfl (by rfl)
  have q6 := lim_cell w2 w2.heap.size 27 (.int .i64 (-262144)) rfl (by rfl)
  go_wp2_with fail
  refine (EN.out _).mono ?_
  rintro e w3 ⟨rfl, hb3⟩
  have hB3 := Lib.hid (((below_al w2 (.cells limCells 23)).alloc (by simp) (.cells #[.int .i64 9, .int .i64 0, .int .i64 0, .int .i64 0, .int .i64 0, .int .i64 10, .int .i64 (-262145)] 23)).trans (hb3.mono (by simp; omega)))
  have hq3 : ∀ o, w3.cell? ⟨w2.heap.size + 1, o, none⟩ = ((w2.alloc (.cells limCells 23)).alloc (.cells #[.int .i64 9, .int .i64 0, .int .i64 0, .int .i64 0, .int .i64 0, .int .i64 10, .int .i64 (-262145)] 23)).cell? ⟨w2.heap.size + 1, o, none⟩ := fun o => hb3.cell (p := ⟨w2.heap.size + 1, o, none⟩) (by simp)
  have hsz : (w2.alloc (.cells limCells 23)).heap.size = w2.heap.size + 1 := by simp
  have q3 : ∀ o, w3.cell? ⟨w2.heap.size + 1, o, none⟩ = (#[.int .i64 9, .int .i64 0, .int .i64 0, .int .i64 0, .int .i64 0, .int .i64 10, .int .i64 (-262145)] : Array Value)[o]? := fun o => by rw [hq3, ← hsz]; simp [World.cell?_alloc_new]
  clear hq3 hsz q0 q1 q2 q4 q5 q6
  have r0 := q3 0
  have r1 := q3 1
  have r2 := q3 2
  have r3 := q3 3
  have r4 := q3 4
  have r5 := q3 5
  have r6 := q3 6
  clear q3
  simp at r0 r1 r2 r3 r4 r5 r6
  go_wp2_with fail
  refine (RN.out _).mono ?_
  rintro e w4 ⟨rfl, hb4⟩
  have hB4 := Lib.hid (hb2.trans ((hB3.out.trans (hb4.mono hB3.out.size)).mono hb2.size))
  go_wp2_with (go_at_call 19; refine (num_any _ _).mono ?_; rintro e w' ⟨rfl, rfl⟩)
  go_ret
  exact ⟨rfl, hB4.out⟩
set_option maxRecDepth 20000 in
set_option maxHeartbeats 3200000 in
theorem lim_4_false (w : World) : Calls Try.prog 6 #[.int .i64 4, .bool false] w fun e w' => e = .returned (.bool true) ∧ Below w.heap.size w w' := by
  have RK := Lib.hid run_lims
  have hE : (encode ⟨0, 0, 0, 0, 0, 0, 65535⟩).2 = 0 := by decide +kernel
  have hR : right ⟨0, 0, 0, 0, 0, 0, 65535⟩ = true := by decide +kernel
  have hO : okIn ⟨0, 0, 0, 0, 0, 0, 65535⟩ := by unfold okIn i64b; decide
  have EN := fun w => encode_any ⟨0, 0, 0, 0, 0, 0, 65535⟩ w hO
  have RN := fun w => right_at ⟨0, 0, 0, 0, 0, 0, 65535⟩ w hO
  rw [hE] at EN
  rw [hR] at RN
  generalize (encode ⟨0, 0, 0, 0, 0, 0, 65535⟩).1 = ew at *
  have EN := Lib.hid EN
  have RN := Lib.hid RN
  clear hE hR hO
  go_enter Try.func6, Try.ntmps6
  go_wp2_with fail
  refine (alive_any _).mono ?_
  rintro e w2 ⟨rfl, hb2⟩
  have rk := RK.out
  have q0 := lim_cell w2 w2.heap.size 28 (.int .i64 0) rfl (by rfl)
  have q1 := lim_cell w2 w2.heap.size 29 (.int .i64 0) rfl (by rfl)
  have q2 := lim_cell w2 w2.heap.size 30 (.int .i64 0) rfl (by rfl)
  have q3 := lim_cell w2 w2.heap.size 31 (.int .i64 0) rfl (by rfl)
  have q4 := lim_cell w2 w2.heap.size 32 (.int .i64 0) rfl (by rfl)
  have q5 := lim_cell w2 w2.heap.size 33 (.int .i64 0) rfl (by rfl)
  have q6 := lim_cell w2 w2.heap.size 34 (.int .i64 65535) rfl (by rfl)
  go_wp2_with fail
  refine (EN.out _).mono ?_
  rintro e w3 ⟨rfl, hb3⟩
  have hB3 := Lib.hid (((below_al w2 (.cells limCells 23)).alloc (by simp) (.cells #[.int .i64 0, .int .i64 0, .int .i64 0, .int .i64 0, .int .i64 0, .int .i64 0, .int .i64 65535] 23)).trans (hb3.mono (by simp; omega)))
  have hq3 : ∀ o, w3.cell? ⟨w2.heap.size + 1, o, none⟩ = ((w2.alloc (.cells limCells 23)).alloc (.cells #[.int .i64 0, .int .i64 0, .int .i64 0, .int .i64 0, .int .i64 0, .int .i64 0, .int .i64 65535] 23)).cell? ⟨w2.heap.size + 1, o, none⟩ := fun o => hb3.cell (p := ⟨w2.heap.size + 1, o, none⟩) (by simp)
  have hsz : (w2.alloc (.cells limCells 23)).heap.size = w2.heap.size + 1 := by simp
  have q3 : ∀ o, w3.cell? ⟨w2.heap.size + 1, o, none⟩ = (#[.int .i64 0, .int .i64 0, .int .i64 0, .int .i64 0, .int .i64 0, .int .i64 0, .int .i64 65535] : Array Value)[o]? := fun o => by rw [hq3, ← hsz]; simp [World.cell?_alloc_new]
  clear hq3 hsz q0 q1 q2 q4 q5 q6
  have r0 := q3 0
  have r1 := q3 1
  have r2 := q3 2
  have r3 := q3 3
  have r4 := q3 4
  have r5 := q3 5
  have r6 := q3 6
  clear q3
  simp at r0 r1 r2 r3 r4 r5 r6
  go_wp2_with fail
  refine (RN.out _).mono ?_
  rintro e w4 ⟨rfl, hb4⟩
  have hB4 := Lib.hid (hb2.trans ((hB3.out.trans (hb4.mono hB3.out.size)).mono hb2.size))
  go_wp2_with (go_at_call 19; refine (num_any _ _).mono ?_; rintro e w' ⟨rfl, rfl⟩)
  go_ret
  exact ⟨rfl, hB4.out⟩
set_option maxRecDepth 20000 in
set_option maxHeartbeats 3200000 in
theorem lim_4_true (w : World) : Calls Try.prog 6 #[.int .i64 4, .bool true] w fun e w' => e = .returned (.bool true) ∧ Below w.heap.size w w' := by
  have RK := Lib.hid run_lims
  have hE : (encode ⟨0, 0, 0, 0, 0, 0, 65536⟩).2 = 1 := by decide +kernel
  have hR : right ⟨0, 0, 0, 0, 0, 0, 65536⟩ = false := by decide +kernel
  have hO : okIn ⟨0, 0, 0, 0, 0, 0, 65536⟩ := by unfold okIn i64b; decide
  have EN := fun w => encode_any ⟨0, 0, 0, 0, 0, 0, 65536⟩ w hO
  have RN := fun w => right_at ⟨0, 0, 0, 0, 0, 0, 65536⟩ w hO
  rw [hE] at EN
  rw [hR] at RN
  generalize (encode ⟨0, 0, 0, 0, 0, 0, 65536⟩).1 = ew at *
  have EN := Lib.hid EN
  have RN := Lib.hid RN
  clear hE hR hO
  go_enter Try.func6, Try.ntmps6
  go_wp2_with fail
  refine (alive_any _).mono ?_
  rintro e w2 ⟨rfl, hb2⟩
  have rk := RK.out
  have q0 := lim_cell w2 w2.heap.size 28 (.int .i64 0) rfl (by rfl)
  have q1 := lim_cell w2 w2.heap.size 29 (.int .i64 0) rfl (by rfl)
  have q2 := lim_cell w2 w2.heap.size 30 (.int .i64 0) rfl (by rfl)
  have q3 := lim_cell w2 w2.heap.size 31 (.int .i64 0) rfl (by rfl)
  have q4 := lim_cell w2 w2.heap.size 32 (.int .i64 0) rfl (by rfl)
  have q5 := lim_cell w2 w2.heap.size 33 (.int .i64 0) rfl (by rfl)
  have q6 := lim_cell w2 w2.heap.size 34 (.int .i64 65535) rfl (by rfl)
  go_wp2_with fail
  refine (EN.out _).mono ?_
  rintro e w3 ⟨rfl, hb3⟩
  have hB3 := Lib.hid (((below_al w2 (.cells limCells 23)).alloc (by simp) (.cells #[.int .i64 0, .int .i64 0, .int .i64 0, .int .i64 0, .int .i64 0, .int .i64 0, .int .i64 65536] 23)).trans (hb3.mono (by simp; omega)))
  have hq3 : ∀ o, w3.cell? ⟨w2.heap.size + 1, o, none⟩ = ((w2.alloc (.cells limCells 23)).alloc (.cells #[.int .i64 0, .int .i64 0, .int .i64 0, .int .i64 0, .int .i64 0, .int .i64 0, .int .i64 65536] 23)).cell? ⟨w2.heap.size + 1, o, none⟩ := fun o => hb3.cell (p := ⟨w2.heap.size + 1, o, none⟩) (by simp)
  have hsz : (w2.alloc (.cells limCells 23)).heap.size = w2.heap.size + 1 := by simp
  have q3 : ∀ o, w3.cell? ⟨w2.heap.size + 1, o, none⟩ = (#[.int .i64 0, .int .i64 0, .int .i64 0, .int .i64 0, .int .i64 0, .int .i64 0, .int .i64 65536] : Array Value)[o]? := fun o => by rw [hq3, ← hsz]; simp [World.cell?_alloc_new]
  clear hq3 hsz q0 q1 q2 q4 q5 q6
  have r0 := q3 0
  have r1 := q3 1
  have r2 := q3 2
  have r3 := q3 3
  have r4 := q3 4
  have r5 := q3 5
  have r6 := q3 6
  clear q3
  simp at r0 r1 r2 r3 r4 r5 r6
  go_wp2_with fail
  refine (RN.out _).mono ?_
  rintro e w4 ⟨rfl, hb4⟩
  have hB4 := Lib.hid (hb2.trans ((hB3.out.trans (hb4.mono hB3.out.size)).mono hb2.size))
  go_wp2_with (go_at_call 19; refine (num_any _ _).mono ?_; rintro e w' ⟨rfl, rfl⟩)
  go_ret
  exact ⟨rfl, hB4.out⟩
set_option maxRecDepth 20000 in
set_option maxHeartbeats 3200000 in
theorem lim_5_false (w : World) : Calls Try.prog 6 #[.int .i64 5, .bool false] w fun e w' => e = .returned (.bool true) ∧ Below w.heap.size w w' := by
  have RK := Lib.hid run_lims
  have hE : (encode ⟨12, 0, 0, 0, 0, 0, 4095⟩).2 = 0 := by decide +kernel
  have hR : right ⟨12, 0, 0, 0, 0, 0, 4095⟩ = true := by decide +kernel
  have hO : okIn ⟨12, 0, 0, 0, 0, 0, 4095⟩ := by unfold okIn i64b; decide
  have EN := fun w => encode_any ⟨12, 0, 0, 0, 0, 0, 4095⟩ w hO
  have RN := fun w => right_at ⟨12, 0, 0, 0, 0, 0, 4095⟩ w hO
  rw [hE] at EN
  rw [hR] at RN
  generalize (encode ⟨12, 0, 0, 0, 0, 0, 4095⟩).1 = ew at *
  have EN := Lib.hid EN
  have RN := Lib.hid RN
  clear hE hR hO
  go_enter Try.func6, Try.ntmps6
  go_wp2_with fail
  refine (alive_any _).mono ?_
  rintro e w2 ⟨rfl, hb2⟩
  have rk := RK.out
  have q0 := lim_cell w2 w2.heap.size 35 (.int .i64 12) rfl (by rfl)
  have q1 := lim_cell w2 w2.heap.size 36 (.int .i64 0) rfl (by rfl)
  have q2 := lim_cell w2 w2.heap.size 37 (.int .i64 0) rfl (by rfl)
  have q3 := lim_cell w2 w2.heap.size 38 (.int .i64 0) rfl (by rfl)
  have q4 := lim_cell w2 w2.heap.size 39 (.int .i64 0) rfl (by rfl)
  have q5 := lim_cell w2 w2.heap.size 40 (.int .i64 0) rfl (by rfl)
  have q6 := lim_cell w2 w2.heap.size 41 (.int .i64 4095) rfl (by rfl)
  go_wp2_with fail
  refine (EN.out _).mono ?_
  rintro e w3 ⟨rfl, hb3⟩
  have hB3 := Lib.hid (((below_al w2 (.cells limCells 23)).alloc (by simp) (.cells #[.int .i64 12, .int .i64 0, .int .i64 0, .int .i64 0, .int .i64 0, .int .i64 0, .int .i64 4095] 23)).trans (hb3.mono (by simp; omega)))
  have hq3 : ∀ o, w3.cell? ⟨w2.heap.size + 1, o, none⟩ = ((w2.alloc (.cells limCells 23)).alloc (.cells #[.int .i64 12, .int .i64 0, .int .i64 0, .int .i64 0, .int .i64 0, .int .i64 0, .int .i64 4095] 23)).cell? ⟨w2.heap.size + 1, o, none⟩ := fun o => hb3.cell (p := ⟨w2.heap.size + 1, o, none⟩) (by simp)
  have hsz : (w2.alloc (.cells limCells 23)).heap.size = w2.heap.size + 1 := by simp
  have q3 : ∀ o, w3.cell? ⟨w2.heap.size + 1, o, none⟩ = (#[.int .i64 12, .int .i64 0, .int .i64 0, .int .i64 0, .int .i64 0, .int .i64 0, .int .i64 4095] : Array Value)[o]? := fun o => by rw [hq3, ← hsz]; simp [World.cell?_alloc_new]
  clear hq3 hsz q0 q1 q2 q4 q5 q6
  have r0 := q3 0
  have r1 := q3 1
  have r2 := q3 2
  have r3 := q3 3
  have r4 := q3 4
  have r5 := q3 5
  have r6 := q3 6
  clear q3
  simp at r0 r1 r2 r3 r4 r5 r6
  go_wp2_with fail
  refine (RN.out _).mono ?_
  rintro e w4 ⟨rfl, hb4⟩
  have hB4 := Lib.hid (hb2.trans ((hB3.out.trans (hb4.mono hB3.out.size)).mono hb2.size))
  go_wp2_with (go_at_call 19; refine (num_any _ _).mono ?_; rintro e w' ⟨rfl, rfl⟩)
  go_ret
  exact ⟨rfl, hB4.out⟩
set_option maxRecDepth 20000 in
set_option maxHeartbeats 3200000 in
theorem lim_5_true (w : World) : Calls Try.prog 6 #[.int .i64 5, .bool true] w fun e w' => e = .returned (.bool true) ∧ Below w.heap.size w w' := by
  have RK := Lib.hid run_lims
  have hE : (encode ⟨12, 0, 0, 0, 0, 0, 4096⟩).2 = 1 := by decide +kernel
  have hR : right ⟨12, 0, 0, 0, 0, 0, 4096⟩ = false := by decide +kernel
  have hO : okIn ⟨12, 0, 0, 0, 0, 0, 4096⟩ := by unfold okIn i64b; decide
  have EN := fun w => encode_any ⟨12, 0, 0, 0, 0, 0, 4096⟩ w hO
  have RN := fun w => right_at ⟨12, 0, 0, 0, 0, 0, 4096⟩ w hO
  rw [hE] at EN
  rw [hR] at RN
  generalize (encode ⟨12, 0, 0, 0, 0, 0, 4096⟩).1 = ew at *
  have EN := Lib.hid EN
  have RN := Lib.hid RN
  clear hE hR hO
  go_enter Try.func6, Try.ntmps6
  go_wp2_with fail
  refine (alive_any _).mono ?_
  rintro e w2 ⟨rfl, hb2⟩
  have rk := RK.out
  have q0 := lim_cell w2 w2.heap.size 35 (.int .i64 12) rfl (by rfl)
  have q1 := lim_cell w2 w2.heap.size 36 (.int .i64 0) rfl (by rfl)
  have q2 := lim_cell w2 w2.heap.size 37 (.int .i64 0) rfl (by rfl)
  have q3 := lim_cell w2 w2.heap.size 38 (.int .i64 0) rfl (by rfl)
  have q4 := lim_cell w2 w2.heap.size 39 (.int .i64 0) rfl (by rfl)
  have q5 := lim_cell w2 w2.heap.size 40 (.int .i64 0) rfl (by rfl)
  have q6 := lim_cell w2 w2.heap.size 41 (.int .i64 4095) rfl (by rfl)
  go_wp2_with fail
  refine (EN.out _).mono ?_
  rintro e w3 ⟨rfl, hb3⟩
  have hB3 := Lib.hid (((below_al w2 (.cells limCells 23)).alloc (by simp) (.cells #[.int .i64 12, .int .i64 0, .int .i64 0, .int .i64 0, .int .i64 0, .int .i64 0, .int .i64 4096] 23)).trans (hb3.mono (by simp; omega)))
  have hq3 : ∀ o, w3.cell? ⟨w2.heap.size + 1, o, none⟩ = ((w2.alloc (.cells limCells 23)).alloc (.cells #[.int .i64 12, .int .i64 0, .int .i64 0, .int .i64 0, .int .i64 0, .int .i64 0, .int .i64 4096] 23)).cell? ⟨w2.heap.size + 1, o, none⟩ := fun o => hb3.cell (p := ⟨w2.heap.size + 1, o, none⟩) (by simp)
  have hsz : (w2.alloc (.cells limCells 23)).heap.size = w2.heap.size + 1 := by simp
  have q3 : ∀ o, w3.cell? ⟨w2.heap.size + 1, o, none⟩ = (#[.int .i64 12, .int .i64 0, .int .i64 0, .int .i64 0, .int .i64 0, .int .i64 0, .int .i64 4096] : Array Value)[o]? := fun o => by rw [hq3, ← hsz]; simp [World.cell?_alloc_new]
  clear hq3 hsz q0 q1 q2 q4 q5 q6
  have r0 := q3 0
  have r1 := q3 1
  have r2 := q3 2
  have r3 := q3 3
  have r4 := q3 4
  have r5 := q3 5
  have r6 := q3 6
  clear q3
  simp at r0 r1 r2 r3 r4 r5 r6
  go_wp2_with fail
  refine (RN.out _).mono ?_
  rintro e w4 ⟨rfl, hb4⟩
  have hB4 := Lib.hid (hb2.trans ((hB3.out.trans (hb4.mono hB3.out.size)).mono hb2.size))
  go_wp2_with (go_at_call 19; refine (num_any _ _).mono ?_; rintro e w' ⟨rfl, rfl⟩)
  go_ret
  exact ⟨rfl, hB4.out⟩
set_option maxRecDepth 20000 in
set_option maxHeartbeats 3200000 in
theorem lim_6_false (w : World) : Calls Try.prog 6 #[.int .i64 6, .bool false] w fun e w' => e = .returned (.bool true) ∧ Below w.heap.size w w' := by
  have RK := Lib.hid run_lims
  have hE : (encode ⟨2, 31, 31, 31, 0, 0, 0⟩).2 = 0 := by decide +kernel
  have hR : right ⟨2, 31, 31, 31, 0, 0, 0⟩ = true := by decide +kernel
  have hO : okIn ⟨2, 31, 31, 31, 0, 0, 0⟩ := by unfold okIn i64b; decide
  have EN := fun w => encode_any ⟨2, 31, 31, 31, 0, 0, 0⟩ w hO
  have RN := fun w => right_at ⟨2, 31, 31, 31, 0, 0, 0⟩ w hO
  rw [hE] at EN
  rw [hR] at RN
  generalize (encode ⟨2, 31, 31, 31, 0, 0, 0⟩).1 = ew at *
  have EN := Lib.hid EN
  have RN := Lib.hid RN
  clear hE hR hO
  go_enter Try.func6, Try.ntmps6
  go_wp2_with fail
  refine (alive_any _).mono ?_
  rintro e w2 ⟨rfl, hb2⟩
  have rk := RK.out
  have q0 := lim_cell w2 w2.heap.size 42 (.int .i64 2) rfl (by rfl)
  have q1 := lim_cell w2 w2.heap.size 43 (.int .i64 31) rfl (by rfl)
  have q2 := lim_cell w2 w2.heap.size 44 (.int .i64 31) rfl (by rfl)
  have q3 := lim_cell w2 w2.heap.size 45 (.int .i64 31) rfl (by rfl)
  have q4 := lim_cell w2 w2.heap.size 46 (.int .i64 0) rfl (by rfl)
  have q5 := lim_cell w2 w2.heap.size 47 (.int .i64 0) rfl (by rfl)
  have q6 := lim_cell w2 w2.heap.size 48 (.int .i64 0) rfl (by rfl)
  go_wp2_with fail
  refine (EN.out _).mono ?_
  rintro e w3 ⟨rfl, hb3⟩
  have hB3 := Lib.hid (((below_al w2 (.cells limCells 23)).alloc (by simp) (.cells #[.int .i64 2, .int .i64 31, .int .i64 31, .int .i64 31, .int .i64 0, .int .i64 0, .int .i64 0] 23)).trans (hb3.mono (by simp; omega)))
  have hq3 : ∀ o, w3.cell? ⟨w2.heap.size + 1, o, none⟩ = ((w2.alloc (.cells limCells 23)).alloc (.cells #[.int .i64 2, .int .i64 31, .int .i64 31, .int .i64 31, .int .i64 0, .int .i64 0, .int .i64 0] 23)).cell? ⟨w2.heap.size + 1, o, none⟩ := fun o => hb3.cell (p := ⟨w2.heap.size + 1, o, none⟩) (by simp)
  have hsz : (w2.alloc (.cells limCells 23)).heap.size = w2.heap.size + 1 := by simp
  have q3 : ∀ o, w3.cell? ⟨w2.heap.size + 1, o, none⟩ = (#[.int .i64 2, .int .i64 31, .int .i64 31, .int .i64 31, .int .i64 0, .int .i64 0, .int .i64 0] : Array Value)[o]? := fun o => by rw [hq3, ← hsz]; simp [World.cell?_alloc_new]
  clear hq3 hsz q0 q1 q2 q4 q5 q6
  have r0 := q3 0
  have r1 := q3 1
  have r2 := q3 2
  have r3 := q3 3
  have r4 := q3 4
  have r5 := q3 5
  have r6 := q3 6
  clear q3
  simp at r0 r1 r2 r3 r4 r5 r6
  go_wp2_with fail
  refine (RN.out _).mono ?_
  rintro e w4 ⟨rfl, hb4⟩
  have hB4 := Lib.hid (hb2.trans ((hB3.out.trans (hb4.mono hB3.out.size)).mono hb2.size))
  go_wp2_with (go_at_call 19; refine (num_any _ _).mono ?_; rintro e w' ⟨rfl, rfl⟩)
  go_ret
  exact ⟨rfl, hB4.out⟩
set_option maxRecDepth 20000 in
set_option maxHeartbeats 3200000 in
theorem lim_6_true (w : World) : Calls Try.prog 6 #[.int .i64 6, .bool true] w fun e w' => e = .returned (.bool true) ∧ Below w.heap.size w w' := by
  have RK := Lib.hid run_lims
  have hE : (encode ⟨2, 31, 31, 32, 0, 0, 0⟩).2 = 1 := by decide +kernel
  have hR : right ⟨2, 31, 31, 32, 0, 0, 0⟩ = false := by decide +kernel
  have hO : okIn ⟨2, 31, 31, 32, 0, 0, 0⟩ := by unfold okIn i64b; decide
  have EN := fun w => encode_any ⟨2, 31, 31, 32, 0, 0, 0⟩ w hO
  have RN := fun w => right_at ⟨2, 31, 31, 32, 0, 0, 0⟩ w hO
  rw [hE] at EN
  rw [hR] at RN
  generalize (encode ⟨2, 31, 31, 32, 0, 0, 0⟩).1 = ew at *
  have EN := Lib.hid EN
  have RN := Lib.hid RN
  clear hE hR hO
  go_enter Try.func6, Try.ntmps6
  go_wp2_with fail
  refine (alive_any _).mono ?_
  rintro e w2 ⟨rfl, hb2⟩
  have rk := RK.out
  have q0 := lim_cell w2 w2.heap.size 42 (.int .i64 2) rfl (by rfl)
  have q1 := lim_cell w2 w2.heap.size 43 (.int .i64 31) rfl (by rfl)
  have q2 := lim_cell w2 w2.heap.size 44 (.int .i64 31) rfl (by rfl)
  have q3 := lim_cell w2 w2.heap.size 45 (.int .i64 31) rfl (by rfl)
  have q4 := lim_cell w2 w2.heap.size 46 (.int .i64 0) rfl (by rfl)
  have q5 := lim_cell w2 w2.heap.size 47 (.int .i64 0) rfl (by rfl)
  have q6 := lim_cell w2 w2.heap.size 48 (.int .i64 0) rfl (by rfl)
  go_wp2_with fail
  refine (EN.out _).mono ?_
  rintro e w3 ⟨rfl, hb3⟩
  have hB3 := Lib.hid (((below_al w2 (.cells limCells 23)).alloc (by simp) (.cells #[.int .i64 2, .int .i64 31, .int .i64 31, .int .i64 32, .int .i64 0, .int .i64 0, .int .i64 0] 23)).trans (hb3.mono (by simp; omega)))
  have hq3 : ∀ o, w3.cell? ⟨w2.heap.size + 1, o, none⟩ = ((w2.alloc (.cells limCells 23)).alloc (.cells #[.int .i64 2, .int .i64 31, .int .i64 31, .int .i64 32, .int .i64 0, .int .i64 0, .int .i64 0] 23)).cell? ⟨w2.heap.size + 1, o, none⟩ := fun o => hb3.cell (p := ⟨w2.heap.size + 1, o, none⟩) (by simp)
  have hsz : (w2.alloc (.cells limCells 23)).heap.size = w2.heap.size + 1 := by simp
  have q3 : ∀ o, w3.cell? ⟨w2.heap.size + 1, o, none⟩ = (#[.int .i64 2, .int .i64 31, .int .i64 31, .int .i64 32, .int .i64 0, .int .i64 0, .int .i64 0] : Array Value)[o]? := fun o => by rw [hq3, ← hsz]; simp [World.cell?_alloc_new]
  clear hq3 hsz q0 q1 q2 q4 q5 q6
  have r0 := q3 0
  have r1 := q3 1
  have r2 := q3 2
  have r3 := q3 3
  have r4 := q3 4
  have r5 := q3 5
  have r6 := q3 6
  clear q3
  simp at r0 r1 r2 r3 r4 r5 r6
  go_wp2_with fail
  refine (RN.out _).mono ?_
  rintro e w4 ⟨rfl, hb4⟩
  have hB4 := Lib.hid (hb2.trans ((hB3.out.trans (hb4.mono hB3.out.size)).mono hb2.size))
  go_wp2_with (go_at_call 19; refine (num_any _ _).mono ?_; rintro e w' ⟨rfl, rfl⟩)
  go_ret
  exact ⟨rfl, hB4.out⟩
set_option maxRecDepth 20000 in
set_option maxHeartbeats 3200000 in
theorem lim_7_false (w : World) : Calls Try.prog 6 #[.int .i64 7, .bool false] w fun e w' => e = .returned (.bool true) ∧ Below w.heap.size w w' := by
  have RK := Lib.hid run_lims
  have hE : (encode ⟨1, 0, 0, 0, 3, 0, 0⟩).2 = 0 := by decide +kernel
  have hR : right ⟨1, 0, 0, 0, 3, 0, 0⟩ = true := by decide +kernel
  have hO : okIn ⟨1, 0, 0, 0, 3, 0, 0⟩ := by unfold okIn i64b; decide
  have EN := fun w => encode_any ⟨1, 0, 0, 0, 3, 0, 0⟩ w hO
  have RN := fun w => right_at ⟨1, 0, 0, 0, 3, 0, 0⟩ w hO
  rw [hE] at EN
  rw [hR] at RN
  generalize (encode ⟨1, 0, 0, 0, 3, 0, 0⟩).1 = ew at *
  have EN := Lib.hid EN
  have RN := Lib.hid RN
  clear hE hR hO
  go_enter Try.func6, Try.ntmps6
  go_wp2_with fail
  refine (alive_any _).mono ?_
  rintro e w2 ⟨rfl, hb2⟩
  have rk := RK.out
  have q0 := lim_cell w2 w2.heap.size 49 (.int .i64 1) rfl (by rfl)
  have q1 := lim_cell w2 w2.heap.size 50 (.int .i64 0) rfl (by rfl)
  have q2 := lim_cell w2 w2.heap.size 51 (.int .i64 0) rfl (by rfl)
  have q3 := lim_cell w2 w2.heap.size 52 (.int .i64 0) rfl (by rfl)
  have q4 := lim_cell w2 w2.heap.size 53 (.int .i64 3) rfl (by rfl)
  have q5 := lim_cell w2 w2.heap.size 54 (.int .i64 0) rfl (by rfl)
  have q6 := lim_cell w2 w2.heap.size 55 (.int .i64 0) rfl (by rfl)
  go_wp2_with fail
  refine (EN.out _).mono ?_
  rintro e w3 ⟨rfl, hb3⟩
  have hB3 := Lib.hid (((below_al w2 (.cells limCells 23)).alloc (by simp) (.cells #[.int .i64 1, .int .i64 0, .int .i64 0, .int .i64 0, .int .i64 3, .int .i64 0, .int .i64 0] 23)).trans (hb3.mono (by simp; omega)))
  have hq3 : ∀ o, w3.cell? ⟨w2.heap.size + 1, o, none⟩ = ((w2.alloc (.cells limCells 23)).alloc (.cells #[.int .i64 1, .int .i64 0, .int .i64 0, .int .i64 0, .int .i64 3, .int .i64 0, .int .i64 0] 23)).cell? ⟨w2.heap.size + 1, o, none⟩ := fun o => hb3.cell (p := ⟨w2.heap.size + 1, o, none⟩) (by simp)
  have hsz : (w2.alloc (.cells limCells 23)).heap.size = w2.heap.size + 1 := by simp
  have q3 : ∀ o, w3.cell? ⟨w2.heap.size + 1, o, none⟩ = (#[.int .i64 1, .int .i64 0, .int .i64 0, .int .i64 0, .int .i64 3, .int .i64 0, .int .i64 0] : Array Value)[o]? := fun o => by rw [hq3, ← hsz]; simp [World.cell?_alloc_new]
  clear hq3 hsz q0 q1 q2 q4 q5 q6
  have r0 := q3 0
  have r1 := q3 1
  have r2 := q3 2
  have r3 := q3 3
  have r4 := q3 4
  have r5 := q3 5
  have r6 := q3 6
  clear q3
  simp at r0 r1 r2 r3 r4 r5 r6
  go_wp2_with fail
  refine (RN.out _).mono ?_
  rintro e w4 ⟨rfl, hb4⟩
  have hB4 := Lib.hid (hb2.trans ((hB3.out.trans (hb4.mono hB3.out.size)).mono hb2.size))
  go_wp2_with (go_at_call 19; refine (num_any _ _).mono ?_; rintro e w' ⟨rfl, rfl⟩)
  go_ret
  exact ⟨rfl, hB4.out⟩
set_option maxRecDepth 20000 in
set_option maxHeartbeats 3200000 in
theorem lim_7_true (w : World) : Calls Try.prog 6 #[.int .i64 7, .bool true] w fun e w' => e = .returned (.bool true) ∧ Below w.heap.size w w' := by
  have RK := Lib.hid run_lims
  have hE : (encode ⟨1, 0, 0, 0, 4, 0, 0⟩).2 = 1 := by decide +kernel
  have hR : right ⟨1, 0, 0, 0, 4, 0, 0⟩ = false := by decide +kernel
  have hO : okIn ⟨1, 0, 0, 0, 4, 0, 0⟩ := by unfold okIn i64b; decide
  have EN := fun w => encode_any ⟨1, 0, 0, 0, 4, 0, 0⟩ w hO
  have RN := fun w => right_at ⟨1, 0, 0, 0, 4, 0, 0⟩ w hO
  rw [hE] at EN
  rw [hR] at RN
  generalize (encode ⟨1, 0, 0, 0, 4, 0, 0⟩).1 = ew at *
  have EN := Lib.hid EN
  have RN := Lib.hid RN
  clear hE hR hO
  go_enter Try.func6, Try.ntmps6
  go_wp2_with fail
  refine (alive_any _).mono ?_
  rintro e w2 ⟨rfl, hb2⟩
  have rk := RK.out
  have q0 := lim_cell w2 w2.heap.size 49 (.int .i64 1) rfl (by rfl)
  have q1 := lim_cell w2 w2.heap.size 50 (.int .i64 0) rfl (by rfl)
  have q2 := lim_cell w2 w2.heap.size 51 (.int .i64 0) rfl (by rfl)
  have q3 := lim_cell w2 w2.heap.size 52 (.int .i64 0) rfl (by rfl)
  have q4 := lim_cell w2 w2.heap.size 53 (.int .i64 3) rfl (by rfl)
  have q5 := lim_cell w2 w2.heap.size 54 (.int .i64 0) rfl (by rfl)
  have q6 := lim_cell w2 w2.heap.size 55 (.int .i64 0) rfl (by rfl)
  go_wp2_with fail
  refine (EN.out _).mono ?_
  rintro e w3 ⟨rfl, hb3⟩
  have hB3 := Lib.hid (((below_al w2 (.cells limCells 23)).alloc (by simp) (.cells #[.int .i64 1, .int .i64 0, .int .i64 0, .int .i64 0, .int .i64 4, .int .i64 0, .int .i64 0] 23)).trans (hb3.mono (by simp; omega)))
  have hq3 : ∀ o, w3.cell? ⟨w2.heap.size + 1, o, none⟩ = ((w2.alloc (.cells limCells 23)).alloc (.cells #[.int .i64 1, .int .i64 0, .int .i64 0, .int .i64 0, .int .i64 4, .int .i64 0, .int .i64 0] 23)).cell? ⟨w2.heap.size + 1, o, none⟩ := fun o => hb3.cell (p := ⟨w2.heap.size + 1, o, none⟩) (by simp)
  have hsz : (w2.alloc (.cells limCells 23)).heap.size = w2.heap.size + 1 := by simp
  have q3 : ∀ o, w3.cell? ⟨w2.heap.size + 1, o, none⟩ = (#[.int .i64 1, .int .i64 0, .int .i64 0, .int .i64 0, .int .i64 4, .int .i64 0, .int .i64 0] : Array Value)[o]? := fun o => by rw [hq3, ← hsz]; simp [World.cell?_alloc_new]
  clear hq3 hsz q0 q1 q2 q4 q5 q6
  have r0 := q3 0
  have r1 := q3 1
  have r2 := q3 2
  have r3 := q3 3
  have r4 := q3 4
  have r5 := q3 5
  have r6 := q3 6
  clear q3
  simp at r0 r1 r2 r3 r4 r5 r6
  go_wp2_with fail
  refine (RN.out _).mono ?_
  rintro e w4 ⟨rfl, hb4⟩
  have hB4 := Lib.hid (hb2.trans ((hB3.out.trans (hb4.mono hB3.out.size)).mono hb2.size))
  go_wp2_with (go_at_call 19; refine (num_any _ _).mono ?_; rintro e w' ⟨rfl, rfl⟩)
  go_ret
  exact ⟨rfl, hB4.out⟩

theorem walkLimits (which : Int) (over : Bool) (w : World) (w0 : (Lit.int .i64 which).wf = true) :
    Calls Try.prog 6 #[.int .i64 which, .bool over] w fun e w' => e = .returned (.bool true) ∧ Below w.heap.size w w' := by
  by_cases hb : 0 ≤ which ∧ which < 8
  · obtain rfl | rfl | rfl | rfl | rfl | rfl | rfl | rfl : which = 0 ∨ which = 1 ∨ which = 2 ∨ which = 3 ∨ which = 4 ∨ which = 5 ∨ which = 6 ∨ which = 7 := by omega
    all_goals cases over
    · exact lim_0_false w
    · exact lim_0_true w
    · exact lim_1_false w
    · exact lim_1_true w
    · exact lim_2_false w
    · exact lim_2_true w
    · exact lim_3_false w
    · exact lim_3_true w
    · exact lim_4_false w
    · exact lim_4_true w
    · exact lim_5_false w
    · exact lim_5_true w
    · exact lim_6_false w
    · exact lim_6_true w
    · exact lim_7_false w
    · exact lim_7_true w
  · clear w0
    obtain h | ⟨h, h'⟩ : which < 0 ∨ (0 ≤ which ∧ 7 < which) := by omega
    all_goals
      clear hb
      go_enter Try.func6, Try.ntmps6
      go_wp2_with fail
      refine (alive_any _).mono ?_
      rintro e w2 ⟨rfl, hb2⟩
      go_wp2_with fail
      go_ret
      exact ⟨rfl, hb2⟩
end
end Go.Proofs.Ytfbfoooligbcfaa.A64M
