/-
  WALKS: cofferdamref1's core: where an instruction's word lies.
-/
import Derived.Test.YtkohichiojmakaaEmitEvent
import Derived.Test.YtkohichiojmakaaGHeld
import Derived.IntWalk
namespace Go.Proofs.Ytkohichiojmakaa.EmX
set_option linter.unusedVariables false
set_option linter.unusedSimpArgs false
open Go.RowKit Cm Mm Ow Me Rm A64 Alu AluG Em EmM EmW
attribute [local go_sem ↓] Go.wp_at_zero Go.wp_at_succ exec_load_regs exec_store_regs

theorem plc_own {N : Nat} (hN : N ≤ 64) (n : Nat) : plc N (1048576 + 8 * (n : Int)) = none := by
  unfold plc
  rw [if_neg (by omega)]
theorem plc_base {N : Nat} (hN : N = 1) : plc N 4096 = some 0 := by
  subst hN; rfl
theorem coSmall {w : World} {q mq : Nat} {F : List Nat} {s : Cr} (h : Co w q mq F s) : s.now.length ≤ 64 := by
  obtain ⟨k, hm⟩ := h.mem
  exact hm.lens.2.2.2

set_option maxRecDepth 20000 in
set_option maxHeartbeats 3200000 in
theorem where_12 {w : World} {q mq : Nat} {F : List Nat} {s : Cr} (h : Co w q mq F s) (d a b s0 c : Int) (n : Nat) (ha : reg s.r a = 1048576#64) (hn : n < 512) :
    Calls Try.prog 85 #[.pointer (some ⟨q, 0, none⟩), .agg #[.int .i64 12, .int .i64 d, .int .i64 a, .int .i64 b, .int .i64 s0, .int .i64 c, .int .i64 (n : Int)]] w fun e w' => e = .returned (.tuple #[.int .i64 (1048576 + 8 * (n : Int)), .bool false, .int .i64 (n : Int)]) ∧ Below w.heap.size w w' := by
  have H := Lib.hid h
  have hlt := h.lt
  have BK := Lib.hid (below_al w (.cells #[.int .i64 12, .int .i64 d, .int .i64 a, .int .i64 b, .int .i64 s0, .int .i64 c, .int .i64 (n : Int)] 45))
  obtain ⟨W, hW⟩ : ∃ W, w.alloc (.cells #[.int .i64 12, .int .i64 d, .int .i64 a, .int .i64 b, .int .i64 s0, .int .i64 c, .int .i64 (n : Int)] 45) = W := ⟨_, rfl⟩
  have hbx := heap_alloc_new w (.cells #[.int .i64 12, .int .i64 d, .int .i64 a, .int .i64 b, .int .i64 s0, .int .i64 c, .int .i64 (n : Int)] 45)
  rw [hW] at BK hbx
  have x0 : W.cell? ⟨w.heap.size, 0, none⟩ = some (.int .i64 12) := by simp only [World.cell?, hbx]; simp
  have x2 : W.cell? ⟨w.heap.size, 2, none⟩ = some (.int .i64 a) := by simp only [World.cell?, hbx]; simp
  have x6 : W.cell? ⟨w.heap.size, 6, none⟩ = some (.int .i64 (n : Int)) := by simp only [World.cell?, hbx]; simp
  have hwl : w.heap.size < W.heap.size := by rw [← hW]; simp
  have C0 := Lib.hid (H.out.keep BK.out)
  clear h hbx
  go_enter Try.func85, Try.ntmps85
  go_wp2_with fail
  try rw [hW]
  clear hW
  have C1 := Lib.hid (C0.out.keep ((Below.refl _ _).drew))
  obtain ⟨r1, r2⟩ := Cohas C1.out
  refine Hd.start 6 (fun w' => HasV w' (.pointer (some ⟨q, 2, none⟩)) ∧ cellsV w' (.pointer (some ⟨q, 2, none⟩)) = rgA s.r ∧ w'.cell? ⟨w.heap.size, 2, none⟩ = some (.int .i64 a)) (by kernel_rfl) ?_
  have SA : HasV W.drew (.pointer (some ⟨q, 2, none⟩)) ∧ cellsV W.drew (.pointer (some ⟨q, 2, none⟩)) = rgA s.r ∧ W.drew.cell? ⟨w.heap.size, 2, none⟩ = some (.int .i64 a) := ⟨r1, r2, x2⟩
  refine Hd.take (i := 0) (v := ?v0) rfl (by decide +kernel) (by decide +kernel) (fun _ _ _ h => h) rfl ?hy0 SA ?rest0
  case hy0 =>
    intro wq hSw
    obtain ⟨s1, s2, s3⟩ := hSw
    go_simp
    try with_reducible rfl
  try simp only [Act.put, List.setIfInBounds_toArray, List.set_cons_zero, List.set_cons_succ]
  refine Hd.take (i := 1) (v := ?v1) rfl (by decide +kernel) (by decide +kernel) (fun _ _ _ h => h) rfl ?hy1 SA ?rest1
  case hy1 =>
    intro wq hSw
    obtain ⟨s1, s2, s3⟩ := hSw
    go_simp
    try with_reducible rfl
  try simp only [Act.put, List.setIfInBounds_toArray, List.set_cons_zero, List.set_cons_succ]
  refine Hd.take (i := 2) (v := ?v2) rfl (by decide +kernel) (by decide +kernel) (fun _ _ _ h => h) rfl ?hy2 SA ?rest2
  case hy2 =>
    intro wq hSw
    obtain ⟨s1, s2, s3⟩ := hSw
    go_simp
    try with_reducible rfl
  try simp only [Act.put, List.setIfInBounds_toArray, List.set_cons_zero, List.set_cons_succ]
  refine Hd.take (i := 3) (v := ?v3) rfl (by decide +kernel) (by decide +kernel) (fun _ _ _ h => h) rfl ?hy3 SA ?rest3
  case hy3 =>
    intro wq hSw
    obtain ⟨s1, s2, s3⟩ := hSw
    go_simp
    try with_reducible rfl
  try simp only [Act.put, List.setIfInBounds_toArray, List.set_cons_zero, List.set_cons_succ]
  refine Hd.take (i := 4) (v := ?v4) rfl (by decide +kernel) (by decide +kernel) (fun _ _ _ h => h) rfl ?hy4 SA ?rest4
  case hy4 =>
    intro wq hSw
    obtain ⟨s1, s2, s3⟩ := hSw
    go_simp
    try with_reducible rfl
  try simp only [Act.put, List.setIfInBounds_toArray, List.set_cons_zero, List.set_cons_succ]
  refine Hd.take (i := 5) (v := ?v5) rfl (by decide +kernel) (by decide +kernel) (fun _ _ _ h => h) rfl ?hy5 SA ?rest5
  case hy5 =>
    intro wq hSw
    obtain ⟨s1, s2, s3⟩ := hSw
    go_simp
    try with_reducible rfl
  try simp only [Act.put, List.setIfInBounds_toArray, List.set_cons_zero, List.set_cons_succ]
  refine Hd.one (i := 6) rfl (by kernel_rfl) rfl (fun K hK => ?_)
  go_simp
  refine (rget_any s.r a _ C1.out.ok).mono ?_
  rintro e w2 ⟨rfl, hb2⟩
  rw [ha, show ((1048576#64).toNat : Int) = 1048576 from rfl]
  have C2 := Lib.hid (C1.out.keep hb2)
  have y0 := (hb2.cell (p := ⟨w.heap.size, 0, none⟩) hwl).trans x0
  have y6 := (hb2.cell (p := ⟨w.heap.size, 6, none⟩) hwl).trans x6
  have B2 := Lib.hid (BK.out.drew.trans (hb2.mono BK.out.size))
  refine hK _ _ (fun h => absurd h (by omega)) ?_
  clear hK K hb2 SA r1 r2 x0 x2 x6 C1 C0
  try simp only [Act.put, List.setIfInBounds_toArray, List.set_cons_zero, List.set_cons_succ]
  refine Hd.one (i := 7) rfl (by kernel_rfl) rfl (fun K hK => ?_)
  go_simp
  refine hK _ _ (fun h => absurd h (by omega)) ?_
  clear hK K
  try simp only [Act.put, List.setIfInBounds_toArray, List.set_cons_zero, List.set_cons_succ]
  refine Hd.done (by kernel_rfl) ?_ _
  have pc0 := C2.out.c0
  have i1 : IntKind.u64.wrap (n : Int) = (n : Int) := IntWalk.u64_in _ ⟨by omega, by omega⟩
  have i2 : IntKind.u64.wrap (8 * (n : Int)) = 8 * (n : Int) := IntWalk.u64_in _ ⟨by omega, by omega⟩
  have i3 : IntKind.u64.wrap (1048576 + 8 * (n : Int)) = 1048576 + 8 * (n : Int) := IntWalk.u64_in _ ⟨by omega, by omega⟩
  have i4 : IntKind.i64.wrap (1048576 + 8 * (n : Int)) = 1048576 + 8 * (n : Int) := IntWalk.i64_in _ ⟨by omega, by omega⟩
  have i5 : IntKind.i64.wrap (1048576 + 8 * (n : Int) - 1048576) = 8 * (n : Int) := by rw [IntWalk.i64_in _ ⟨by omega, by omega⟩]; omega
  obtain ⟨kp, hmem⟩ := C2.out.mem
  have PN := Lib.hid (plc_own (coSmall C2.out) n)
  have RD := Lib.hid (rread_any mq _ (1048576 + 8 * (n : Int)) F _ kp _ w2 (by omega) (by omega) hmem)
  rw [PN.out] at RD
  clear hmem
  go_wp2_with fail
  refine RD.out.mono ?_
  rintro e w3 ⟨rfl, rfl⟩
  clear RD
  go_wp2_with fail
  go_ret3
  exact ⟨rfl, B2.out⟩

set_option maxRecDepth 20000 in
set_option maxHeartbeats 3200000 in
theorem where_13 {w : World} {q mq : Nat} {F : List Nat} {s : Cr} (h : Co w q mq F s) (d a b s0 c : Int) (n : Nat) (ha : reg s.r a = 1048576#64) (hn : n < 512) :
    Calls Try.prog 85 #[.pointer (some ⟨q, 0, none⟩), .agg #[.int .i64 13, .int .i64 d, .int .i64 a, .int .i64 b, .int .i64 s0, .int .i64 c, .int .i64 (n : Int)]] w fun e w' => e = .returned (.tuple #[.int .i64 (1048576 + 8 * (n : Int)), .bool false, .int .i64 (n : Int)]) ∧ Below w.heap.size w w' := by
  have H := Lib.hid h
  have hlt := h.lt
  have BK := Lib.hid (below_al w (.cells #[.int .i64 13, .int .i64 d, .int .i64 a, .int .i64 b, .int .i64 s0, .int .i64 c, .int .i64 (n : Int)] 45))
  obtain ⟨W, hW⟩ : ∃ W, w.alloc (.cells #[.int .i64 13, .int .i64 d, .int .i64 a, .int .i64 b, .int .i64 s0, .int .i64 c, .int .i64 (n : Int)] 45) = W := ⟨_, rfl⟩
  have hbx := heap_alloc_new w (.cells #[.int .i64 13, .int .i64 d, .int .i64 a, .int .i64 b, .int .i64 s0, .int .i64 c, .int .i64 (n : Int)] 45)
  rw [hW] at BK hbx
  have x0 : W.cell? ⟨w.heap.size, 0, none⟩ = some (.int .i64 13) := by simp only [World.cell?, hbx]; simp
  have x2 : W.cell? ⟨w.heap.size, 2, none⟩ = some (.int .i64 a) := by simp only [World.cell?, hbx]; simp
  have x6 : W.cell? ⟨w.heap.size, 6, none⟩ = some (.int .i64 (n : Int)) := by simp only [World.cell?, hbx]; simp
  have hwl : w.heap.size < W.heap.size := by rw [← hW]; simp
  have C0 := Lib.hid (H.out.keep BK.out)
  clear h hbx
  go_enter Try.func85, Try.ntmps85
  go_wp2_with fail
  try rw [hW]
  clear hW
  have C1 := Lib.hid (C0.out.keep ((Below.refl _ _).drew))
  obtain ⟨r1, r2⟩ := Cohas C1.out
  refine Hd.start 6 (fun w' => HasV w' (.pointer (some ⟨q, 2, none⟩)) ∧ cellsV w' (.pointer (some ⟨q, 2, none⟩)) = rgA s.r ∧ w'.cell? ⟨w.heap.size, 2, none⟩ = some (.int .i64 a)) (by kernel_rfl) ?_
  have SA : HasV W.drew (.pointer (some ⟨q, 2, none⟩)) ∧ cellsV W.drew (.pointer (some ⟨q, 2, none⟩)) = rgA s.r ∧ W.drew.cell? ⟨w.heap.size, 2, none⟩ = some (.int .i64 a) := ⟨r1, r2, x2⟩
  refine Hd.take (i := 0) (v := ?v0) rfl (by decide +kernel) (by decide +kernel) (fun _ _ _ h => h) rfl ?hy0 SA ?rest0
  case hy0 =>
    intro wq hSw
    obtain ⟨s1, s2, s3⟩ := hSw
    go_simp
    try with_reducible rfl
  try simp only [Act.put, List.setIfInBounds_toArray, List.set_cons_zero, List.set_cons_succ]
  refine Hd.take (i := 1) (v := ?v1) rfl (by decide +kernel) (by decide +kernel) (fun _ _ _ h => h) rfl ?hy1 SA ?rest1
  case hy1 =>
    intro wq hSw
    obtain ⟨s1, s2, s3⟩ := hSw
    go_simp
    try with_reducible rfl
  try simp only [Act.put, List.setIfInBounds_toArray, List.set_cons_zero, List.set_cons_succ]
  refine Hd.take (i := 2) (v := ?v2) rfl (by decide +kernel) (by decide +kernel) (fun _ _ _ h => h) rfl ?hy2 SA ?rest2
  case hy2 =>
    intro wq hSw
    obtain ⟨s1, s2, s3⟩ := hSw
    go_simp
    try with_reducible rfl
  try simp only [Act.put, List.setIfInBounds_toArray, List.set_cons_zero, List.set_cons_succ]
  refine Hd.take (i := 3) (v := ?v3) rfl (by decide +kernel) (by decide +kernel) (fun _ _ _ h => h) rfl ?hy3 SA ?rest3
  case hy3 =>
    intro wq hSw
    obtain ⟨s1, s2, s3⟩ := hSw
    go_simp
    try with_reducible rfl
  try simp only [Act.put, List.setIfInBounds_toArray, List.set_cons_zero, List.set_cons_succ]
  refine Hd.take (i := 4) (v := ?v4) rfl (by decide +kernel) (by decide +kernel) (fun _ _ _ h => h) rfl ?hy4 SA ?rest4
  case hy4 =>
    intro wq hSw
    obtain ⟨s1, s2, s3⟩ := hSw
    go_simp
    try with_reducible rfl
  try simp only [Act.put, List.setIfInBounds_toArray, List.set_cons_zero, List.set_cons_succ]
  refine Hd.take (i := 5) (v := ?v5) rfl (by decide +kernel) (by decide +kernel) (fun _ _ _ h => h) rfl ?hy5 SA ?rest5
  case hy5 =>
    intro wq hSw
    obtain ⟨s1, s2, s3⟩ := hSw
    go_simp
    try with_reducible rfl
  try simp only [Act.put, List.setIfInBounds_toArray, List.set_cons_zero, List.set_cons_succ]
  refine Hd.one (i := 6) rfl (by kernel_rfl) rfl (fun K hK => ?_)
  go_simp
  refine (rget_any s.r a _ C1.out.ok).mono ?_
  rintro e w2 ⟨rfl, hb2⟩
  rw [ha, show ((1048576#64).toNat : Int) = 1048576 from rfl]
  have C2 := Lib.hid (C1.out.keep hb2)
  have y0 := (hb2.cell (p := ⟨w.heap.size, 0, none⟩) hwl).trans x0
  have y6 := (hb2.cell (p := ⟨w.heap.size, 6, none⟩) hwl).trans x6
  have B2 := Lib.hid (BK.out.drew.trans (hb2.mono BK.out.size))
  refine hK _ _ (fun h => absurd h (by omega)) ?_
  clear hK K hb2 SA r1 r2 x0 x2 x6 C1 C0
  try simp only [Act.put, List.setIfInBounds_toArray, List.set_cons_zero, List.set_cons_succ]
  refine Hd.one (i := 7) rfl (by kernel_rfl) rfl (fun K hK => ?_)
  go_simp
  refine hK _ _ (fun h => absurd h (by omega)) ?_
  clear hK K
  try simp only [Act.put, List.setIfInBounds_toArray, List.set_cons_zero, List.set_cons_succ]
  refine Hd.done (by kernel_rfl) ?_ _
  have pc0 := C2.out.c0
  have i1 : IntKind.u64.wrap (n : Int) = (n : Int) := IntWalk.u64_in _ ⟨by omega, by omega⟩
  have i2 : IntKind.u64.wrap (8 * (n : Int)) = 8 * (n : Int) := IntWalk.u64_in _ ⟨by omega, by omega⟩
  have i3 : IntKind.u64.wrap (1048576 + 8 * (n : Int)) = 1048576 + 8 * (n : Int) := IntWalk.u64_in _ ⟨by omega, by omega⟩
  have i4 : IntKind.i64.wrap (1048576 + 8 * (n : Int)) = 1048576 + 8 * (n : Int) := IntWalk.i64_in _ ⟨by omega, by omega⟩
  have i5 : IntKind.i64.wrap (1048576 + 8 * (n : Int) - 1048576) = 8 * (n : Int) := by rw [IntWalk.i64_in _ ⟨by omega, by omega⟩]; omega
  obtain ⟨kp, hmem⟩ := C2.out.mem
  have PN := Lib.hid (plc_own (coSmall C2.out) n)
  have RD := Lib.hid (rread_any mq _ (1048576 + 8 * (n : Int)) F _ kp _ w2 (by omega) (by omega) hmem)
  rw [PN.out] at RD
  clear hmem
  go_wp2_with fail
  refine RD.out.mono ?_
  rintro e w3 ⟨rfl, rfl⟩
  clear RD
  go_wp2_with fail
  go_ret3
  exact ⟨rfl, B2.out⟩

set_option maxRecDepth 20000 in
set_option maxHeartbeats 3200000 in
theorem where_16 {w : World} {q mq : Nat} {F : List Nat} {s : Cr} (h : Co w q mq F s) (d a b s0 c n : Int) (ha : reg s.r a = 4096#64) (hn : s.now.length = 1) :
    Calls Try.prog 85 #[.pointer (some ⟨q, 0, none⟩), .agg #[.int .i64 16, .int .i64 d, .int .i64 a, .int .i64 b, .int .i64 s0, .int .i64 c, .int .i64 n]] w fun e w' => e = .returned (.tuple #[.int .i64 4096, .bool true, .int .i64 (-1)]) ∧ Below w.heap.size w w' := by
  have H := Lib.hid h
  have hlt := h.lt
  have BK := Lib.hid (below_al w (.cells #[.int .i64 16, .int .i64 d, .int .i64 a, .int .i64 b, .int .i64 s0, .int .i64 c, .int .i64 n] 45))
  obtain ⟨W, hW⟩ : ∃ W, w.alloc (.cells #[.int .i64 16, .int .i64 d, .int .i64 a, .int .i64 b, .int .i64 s0, .int .i64 c, .int .i64 n] 45) = W := ⟨_, rfl⟩
  have hbx := heap_alloc_new w (.cells #[.int .i64 16, .int .i64 d, .int .i64 a, .int .i64 b, .int .i64 s0, .int .i64 c, .int .i64 n] 45)
  rw [hW] at BK hbx
  have x0 : W.cell? ⟨w.heap.size, 0, none⟩ = some (.int .i64 16) := by simp only [World.cell?, hbx]; simp
  have x2 : W.cell? ⟨w.heap.size, 2, none⟩ = some (.int .i64 a) := by simp only [World.cell?, hbx]; simp
  have x6 : W.cell? ⟨w.heap.size, 6, none⟩ = some (.int .i64 n) := by simp only [World.cell?, hbx]; simp
  have hwl : w.heap.size < W.heap.size := by rw [← hW]; simp
  have C0 := Lib.hid (H.out.keep BK.out)
  clear h hbx
  go_enter Try.func85, Try.ntmps85
  go_wp2_with fail
  try rw [hW]
  clear hW
  have C1 := Lib.hid (C0.out.keep ((Below.refl _ _).drew))
  obtain ⟨r1, r2⟩ := Cohas C1.out
  refine Hd.start 6 (fun w' => HasV w' (.pointer (some ⟨q, 2, none⟩)) ∧ cellsV w' (.pointer (some ⟨q, 2, none⟩)) = rgA s.r ∧ w'.cell? ⟨w.heap.size, 2, none⟩ = some (.int .i64 a)) (by kernel_rfl) ?_
  have SA : HasV W.drew (.pointer (some ⟨q, 2, none⟩)) ∧ cellsV W.drew (.pointer (some ⟨q, 2, none⟩)) = rgA s.r ∧ W.drew.cell? ⟨w.heap.size, 2, none⟩ = some (.int .i64 a) := ⟨r1, r2, x2⟩
  refine Hd.take (i := 0) (v := ?v0) rfl (by decide +kernel) (by decide +kernel) (fun _ _ _ h => h) rfl ?hy0 SA ?rest0
  case hy0 =>
    intro wq hSw
    obtain ⟨s1, s2, s3⟩ := hSw
    go_simp
    try with_reducible rfl
  try simp only [Act.put, List.setIfInBounds_toArray, List.set_cons_zero, List.set_cons_succ]
  refine Hd.take (i := 1) (v := ?v1) rfl (by decide +kernel) (by decide +kernel) (fun _ _ _ h => h) rfl ?hy1 SA ?rest1
  case hy1 =>
    intro wq hSw
    obtain ⟨s1, s2, s3⟩ := hSw
    go_simp
    try with_reducible rfl
  try simp only [Act.put, List.setIfInBounds_toArray, List.set_cons_zero, List.set_cons_succ]
  refine Hd.take (i := 2) (v := ?v2) rfl (by decide +kernel) (by decide +kernel) (fun _ _ _ h => h) rfl ?hy2 SA ?rest2
  case hy2 =>
    intro wq hSw
    obtain ⟨s1, s2, s3⟩ := hSw
    go_simp
    try with_reducible rfl
  try simp only [Act.put, List.setIfInBounds_toArray, List.set_cons_zero, List.set_cons_succ]
  refine Hd.take (i := 3) (v := ?v3) rfl (by decide +kernel) (by decide +kernel) (fun _ _ _ h => h) rfl ?hy3 SA ?rest3
  case hy3 =>
    intro wq hSw
    obtain ⟨s1, s2, s3⟩ := hSw
    go_simp
    try with_reducible rfl
  try simp only [Act.put, List.setIfInBounds_toArray, List.set_cons_zero, List.set_cons_succ]
  refine Hd.take (i := 4) (v := ?v4) rfl (by decide +kernel) (by decide +kernel) (fun _ _ _ h => h) rfl ?hy4 SA ?rest4
  case hy4 =>
    intro wq hSw
    obtain ⟨s1, s2, s3⟩ := hSw
    go_simp
    try with_reducible rfl
  try simp only [Act.put, List.setIfInBounds_toArray, List.set_cons_zero, List.set_cons_succ]
  refine Hd.take (i := 5) (v := ?v5) rfl (by decide +kernel) (by decide +kernel) (fun _ _ _ h => h) rfl ?hy5 SA ?rest5
  case hy5 =>
    intro wq hSw
    obtain ⟨s1, s2, s3⟩ := hSw
    go_simp
    try with_reducible rfl
  try simp only [Act.put, List.setIfInBounds_toArray, List.set_cons_zero, List.set_cons_succ]
  refine Hd.one (i := 6) rfl (by kernel_rfl) rfl (fun K hK => ?_)
  go_simp
  refine (rget_any s.r a _ C1.out.ok).mono ?_
  rintro e w2 ⟨rfl, hb2⟩
  rw [ha, show ((4096#64).toNat : Int) = 4096 from rfl]
  have C2 := Lib.hid (C1.out.keep hb2)
  have y0 := (hb2.cell (p := ⟨w.heap.size, 0, none⟩) hwl).trans x0
  have y6 := (hb2.cell (p := ⟨w.heap.size, 6, none⟩) hwl).trans x6
  have B2 := Lib.hid (BK.out.drew.trans (hb2.mono BK.out.size))
  refine hK _ _ (fun h => absurd h (by omega)) ?_
  clear hK K hb2 SA r1 r2 x0 x2 x6 C1 C0
  try simp only [Act.put, List.setIfInBounds_toArray, List.set_cons_zero, List.set_cons_succ]
  refine Hd.one (i := 7) rfl (by kernel_rfl) rfl (fun K hK => ?_)
  go_simp
  refine hK _ _ (fun h => absurd h (by omega)) ?_
  clear hK K
  try simp only [Act.put, List.setIfInBounds_toArray, List.set_cons_zero, List.set_cons_succ]
  refine Hd.done (by kernel_rfl) ?_ _
  have pc0 := C2.out.c0
  obtain ⟨kp, hmem⟩ := C2.out.mem
  have RD := Lib.hid (rread_any mq _ 4096 F _ kp _ w2 (by omega) (by omega) hmem)
  rw [plc_base hn] at RD
  clear hmem
  go_wp2_with fail
  refine RD.out.mono ?_
  rintro e w3 ⟨rfl, rfl⟩
  clear RD
  go_wp2_with fail
  go_ret3
  exact ⟨rfl, B2.out⟩

set_option maxRecDepth 20000 in
set_option maxHeartbeats 3200000 in
theorem where_17 {w : World} {q mq : Nat} {F : List Nat} {s : Cr} (h : Co w q mq F s) (d a b s0 c n : Int) (ha : reg s.r a = 4096#64) (hn : s.now.length = 1) :
    Calls Try.prog 85 #[.pointer (some ⟨q, 0, none⟩), .agg #[.int .i64 17, .int .i64 d, .int .i64 a, .int .i64 b, .int .i64 s0, .int .i64 c, .int .i64 n]] w fun e w' => e = .returned (.tuple #[.int .i64 4096, .bool true, .int .i64 (-1)]) ∧ Below w.heap.size w w' := by
  have H := Lib.hid h
  have hlt := h.lt
  have BK := Lib.hid (below_al w (.cells #[.int .i64 17, .int .i64 d, .int .i64 a, .int .i64 b, .int .i64 s0, .int .i64 c, .int .i64 n] 45))
  obtain ⟨W, hW⟩ : ∃ W, w.alloc (.cells #[.int .i64 17, .int .i64 d, .int .i64 a, .int .i64 b, .int .i64 s0, .int .i64 c, .int .i64 n] 45) = W := ⟨_, rfl⟩
  have hbx := heap_alloc_new w (.cells #[.int .i64 17, .int .i64 d, .int .i64 a, .int .i64 b, .int .i64 s0, .int .i64 c, .int .i64 n] 45)
  rw [hW] at BK hbx
  have x0 : W.cell? ⟨w.heap.size, 0, none⟩ = some (.int .i64 17) := by simp only [World.cell?, hbx]; simp
  have x2 : W.cell? ⟨w.heap.size, 2, none⟩ = some (.int .i64 a) := by simp only [World.cell?, hbx]; simp
  have x6 : W.cell? ⟨w.heap.size, 6, none⟩ = some (.int .i64 n) := by simp only [World.cell?, hbx]; simp
  have hwl : w.heap.size < W.heap.size := by rw [← hW]; simp
  have C0 := Lib.hid (H.out.keep BK.out)
  clear h hbx
  go_enter Try.func85, Try.ntmps85
  go_wp2_with fail
  try rw [hW]
  clear hW
  have C1 := Lib.hid (C0.out.keep ((Below.refl _ _).drew))
  obtain ⟨r1, r2⟩ := Cohas C1.out
  refine Hd.start 6 (fun w' => HasV w' (.pointer (some ⟨q, 2, none⟩)) ∧ cellsV w' (.pointer (some ⟨q, 2, none⟩)) = rgA s.r ∧ w'.cell? ⟨w.heap.size, 2, none⟩ = some (.int .i64 a)) (by kernel_rfl) ?_
  have SA : HasV W.drew (.pointer (some ⟨q, 2, none⟩)) ∧ cellsV W.drew (.pointer (some ⟨q, 2, none⟩)) = rgA s.r ∧ W.drew.cell? ⟨w.heap.size, 2, none⟩ = some (.int .i64 a) := ⟨r1, r2, x2⟩
  refine Hd.take (i := 0) (v := ?v0) rfl (by decide +kernel) (by decide +kernel) (fun _ _ _ h => h) rfl ?hy0 SA ?rest0
  case hy0 =>
    intro wq hSw
    obtain ⟨s1, s2, s3⟩ := hSw
    go_simp
    try with_reducible rfl
  try simp only [Act.put, List.setIfInBounds_toArray, List.set_cons_zero, List.set_cons_succ]
  refine Hd.take (i := 1) (v := ?v1) rfl (by decide +kernel) (by decide +kernel) (fun _ _ _ h => h) rfl ?hy1 SA ?rest1
  case hy1 =>
    intro wq hSw
    obtain ⟨s1, s2, s3⟩ := hSw
    go_simp
    try with_reducible rfl
  try simp only [Act.put, List.setIfInBounds_toArray, List.set_cons_zero, List.set_cons_succ]
  refine Hd.take (i := 2) (v := ?v2) rfl (by decide +kernel) (by decide +kernel) (fun _ _ _ h => h) rfl ?hy2 SA ?rest2
  case hy2 =>
    intro wq hSw
    obtain ⟨s1, s2, s3⟩ := hSw
    go_simp
    try with_reducible rfl
  try simp only [Act.put, List.setIfInBounds_toArray, List.set_cons_zero, List.set_cons_succ]
  refine Hd.take (i := 3) (v := ?v3) rfl (by decide +kernel) (by decide +kernel) (fun _ _ _ h => h) rfl ?hy3 SA ?rest3
  case hy3 =>
    intro wq hSw
    obtain ⟨s1, s2, s3⟩ := hSw
    go_simp
    try with_reducible rfl
  try simp only [Act.put, List.setIfInBounds_toArray, List.set_cons_zero, List.set_cons_succ]
  refine Hd.take (i := 4) (v := ?v4) rfl (by decide +kernel) (by decide +kernel) (fun _ _ _ h => h) rfl ?hy4 SA ?rest4
  case hy4 =>
    intro wq hSw
    obtain ⟨s1, s2, s3⟩ := hSw
    go_simp
    try with_reducible rfl
  try simp only [Act.put, List.setIfInBounds_toArray, List.set_cons_zero, List.set_cons_succ]
  refine Hd.take (i := 5) (v := ?v5) rfl (by decide +kernel) (by decide +kernel) (fun _ _ _ h => h) rfl ?hy5 SA ?rest5
  case hy5 =>
    intro wq hSw
    obtain ⟨s1, s2, s3⟩ := hSw
    go_simp
    try with_reducible rfl
  try simp only [Act.put, List.setIfInBounds_toArray, List.set_cons_zero, List.set_cons_succ]
  refine Hd.one (i := 6) rfl (by kernel_rfl) rfl (fun K hK => ?_)
  go_simp
  refine (rget_any s.r a _ C1.out.ok).mono ?_
  rintro e w2 ⟨rfl, hb2⟩
  rw [ha, show ((4096#64).toNat : Int) = 4096 from rfl]
  have C2 := Lib.hid (C1.out.keep hb2)
  have y0 := (hb2.cell (p := ⟨w.heap.size, 0, none⟩) hwl).trans x0
  have y6 := (hb2.cell (p := ⟨w.heap.size, 6, none⟩) hwl).trans x6
  have B2 := Lib.hid (BK.out.drew.trans (hb2.mono BK.out.size))
  refine hK _ _ (fun h => absurd h (by omega)) ?_
  clear hK K hb2 SA r1 r2 x0 x2 x6 C1 C0
  try simp only [Act.put, List.setIfInBounds_toArray, List.set_cons_zero, List.set_cons_succ]
  refine Hd.one (i := 7) rfl (by kernel_rfl) rfl (fun K hK => ?_)
  go_simp
  refine hK _ _ (fun h => absurd h (by omega)) ?_
  clear hK K
  try simp only [Act.put, List.setIfInBounds_toArray, List.set_cons_zero, List.set_cons_succ]
  refine Hd.done (by kernel_rfl) ?_ _
  have pc0 := C2.out.c0
  obtain ⟨kp, hmem⟩ := C2.out.mem
  have RD := Lib.hid (rread_any mq _ 4096 F _ kp _ w2 (by omega) (by omega) hmem)
  rw [plc_base hn] at RD
  clear hmem
  go_wp2_with fail
  refine RD.out.mono ?_
  rintro e w3 ⟨rfl, rfl⟩
  clear RD
  go_wp2_with fail
  go_ret3
  exact ⟨rfl, B2.out⟩
end Go.Proofs.Ytkohichiojmakaa.EmX
