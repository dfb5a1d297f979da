/-
  WALK: the document's Alu (a move that keeps, and a condition).
-/
import Derived.Test.YtfbfoooligbcfaaAluRefA
namespace Go.Proofs.Ytfbfoooligbcfaa.AluR1
set_option linter.unusedVariables false
set_option linter.unusedSimpArgs false
open Go.RowKit Cm Mm Ow A64 Fld FldW FldR A64W A64P A64C A64T A64R A64E A64F A64Q Alu AluG AluS AluO AluK AluP AluQ AluE AluA AluR
attribute [local go_sem ↓] Go.wp_at_zero Go.wp_at_succ exec_load_regs exec_store_regs

set_option maxRecDepth 20000 in
set_option maxHeartbeats 3200000 in
theorem ralu1 (r : Rg) (d a b s c n : Int) (w : World) (ok : okR r) (hi : okIn ⟨1, d, a, b, s, c, n⟩) (hr : right ⟨1, d, a, b, s, c, n⟩ = true) (hs0 : 0 ≤ s) (hs1 : s < 4) (hn0 : 0 ≤ n) (hn1 : n < 65536) (V : BitVec 64) (hV : V = (reg r d &&& ~~~ hole ⟨1, d, a, b, s, c, n⟩) ||| Alu.part ⟨1, d, a, b, s, c, n⟩) :
    Calls Try.prog 24 #[.agg (rgA r), .agg #[.int .i64 1, .int .i64 d, .int .i64 a, .int .i64 b, .int .i64 s, .int .i64 c, .int .i64 n]] w fun e w' => e = .returned (.tuple #[.agg (rgA (setReg r d V)), .int .i64 1, .bool true]) ∧ Below w.heap.size w w' := by
  have HR := Lib.hid (part_eq hn0 ⟨1, d, a, b, s, c, n⟩ rfl rfl)
  have HO := Lib.hid (hole_eq ⟨1, d, a, b, s, c, n⟩ (s := s) rfl)
  have ok1 := setReg_ok ok d V
  have HV := Lib.hid hV
  clear hV
  have hwn : IntKind.u64.wrap n = n := by rw [IntKind.wrap_u64]; omega
  have S0 := Lib.hid (trio_has w r ⟨1, d, a, b, s, c, n⟩ ok)
  have GR := Lib.hid (fun w => rright_any ⟨1, d, a, b, s, c, n⟩ w hi)
  rw [hr] at GR
  clear hi hr
  go_enter Try.func24, Try.ntmps24
  go_upto_region 1 with (fail)
  simp only [zeros_eq]
  rw [show World.alloc (World.alloc (World.alloc w _) _) _ = trio w r ⟨1, d, a, b, s, c, n⟩ from rfl]
  generalize trio w r ⟨1, d, a, b, s, c, n⟩ = W at *
  have hq : w.heap.size + 1 ≠ w.heap.size := by omega
  have hpt : w.heap.size ≤ w.heap.size + 1 + 1 := by omega
  have hqt : w.heap.size + 1 ≠ w.heap.size + 1 + 1 := by omega
  have hnt : w.heap.size ≠ w.heap.size + 1 + 1 := by omega
  generalize w.heap.size + 1 + 1 = t at *
  generalize w.heap.size + 1 = q at *
  generalize hp : w.heap.size = p at *
  have HQ := Lib.hid hp
  clear hp
  have SB := S0.out
  have hlt := (S0.out.2.1).lt
  obtain ⟨⟨l1, l2, l3, c0, c1, c2, c3, c4, c5, c6⟩, _⟩ := SB
  go_wp2_with fail
  refine (GR.out _).mono ?_
  rintro e w1 ⟨rfl, hb1⟩
  have S1 := Lib.hid (ST.keep ok S0.out hb1 (Nat.le_of_lt hlt))
  clear l1 l2 l3 c0 c1 c2 c3 c4 c5 c6
  obtain ⟨⟨l1, l2, l3, c0, c1, c2, c3, c4, c5, c6⟩, _⟩ := S1.out
  have hpp : p ≤ p := Nat.le_refl _
  go_wp2_with fail
  refine (rget_S p w p q t r ⟨1, d, a, b, s, c, n⟩ a _ ok S1.out hpp).mono ?_
  rintro e w2 ⟨rfl, h2⟩
  have S2 := Lib.hid h2
  clear h2
  clear l1 l2 l3 c0 c1 c2 c3 c4 c5 c6
  obtain ⟨⟨l1, l2, l3, c0, c1, c2, c3, c4, c5, c6⟩, _⟩ := S2.out
  go_wp2_with fail
  refine (rget_S p w p q t r ⟨1, d, a, b, s, c, n⟩ b _ ok S2.out hpp).mono ?_
  rintro e w3 ⟨rfl, h3⟩
  have S3 := Lib.hid h3
  clear h3
  clear l1 l2 l3 c0 c1 c2 c3 c4 c5 c6
  obtain ⟨⟨l1, l2, l3, c0, c1, c2, c3, c4, c5, c6⟩, _⟩ := S3.out
  have S3d := Lib.hid (ST.drew ok S3.out)
  go_wp2_with fail
  clear l1 l2 l3 c0 c1 c2 c3 c4 c5 c6
  have SB := S3d.out
  refine Hd.start 16 (fun w' => (HasV w' (.pointer (some ⟨p, 0, none⟩)) ∧ cellsV w' (.pointer (some ⟨p, 0, none⟩)) = rgA r ∧ ThereV w' (.pointer (some ⟨t, 0, none⟩)) ∧ w'.cell? ⟨q, 0, none⟩ = some (.int .i64 1) ∧ w'.cell? ⟨q, 1, none⟩ = some (.int .i64 d) ∧ w'.cell? ⟨q, 2, none⟩ = some (.int .i64 a) ∧ w'.cell? ⟨q, 3, none⟩ = some (.int .i64 b) ∧ w'.cell? ⟨q, 4, none⟩ = some (.int .i64 s) ∧ w'.cell? ⟨q, 5, none⟩ = some (.int .i64 c) ∧ w'.cell? ⟨q, 6, none⟩ = some (.int .i64 n)) ∧ RV w' p r ∧ (∃ r0, okR r0 ∧ RV w' t r0) ∧ Vi w' q ⟨1, d, a, b, s, c, n⟩ ∧ Below p w w') (by kernel_rfl) ?_
  refine Hd.take (i := 0) (v := ?v1) rfl (by kernel_rfl) (by kernel_rfl) (fun _ _ _ h => h) rfl ?hy1 SB ?rest1
  case hy1 =>
    intro wq hSw
    try dsimp only at hSw
    go_simp
    try with_reducible rfl
  try simp only [Act.put, List.setIfInBounds_toArray, List.set_cons_zero, List.set_cons_succ]
  refine Hd.take (i := 1) (v := ?v2) rfl (by kernel_rfl) (by kernel_rfl) (fun _ _ _ h => h) rfl ?hy2 SB ?rest2
  case hy2 =>
    intro wq hSw
    try dsimp only at hSw
    go_simp
    try with_reducible rfl
  try simp only [Act.put, List.setIfInBounds_toArray, List.set_cons_zero, List.set_cons_succ]
  refine Hd.take (i := 2) (v := ?v3) rfl (by kernel_rfl) (by kernel_rfl) (fun _ _ _ h => h) rfl ?hy3 SB ?rest3
  case hy3 =>
    intro wq hSw
    try dsimp only at hSw
    go_simp
    try with_reducible rfl
  try simp only [Act.put, List.setIfInBounds_toArray, List.set_cons_zero, List.set_cons_succ]
  refine Hd.take (i := 3) (v := ?v4) rfl (by kernel_rfl) (by kernel_rfl) (fun _ _ _ h => h) rfl ?hy4 SB ?rest4
  case hy4 =>
    intro wq hSw
    try dsimp only at hSw
    go_simp
    try with_reducible rfl
  try simp only [Act.put, List.setIfInBounds_toArray, List.set_cons_zero, List.set_cons_succ]
  refine Hd.take (i := 4) (v := ?v5) rfl (by kernel_rfl) (by kernel_rfl) (fun _ _ _ h => h) rfl ?hy5 SB ?rest5
  case hy5 =>
    intro wq hSw
    try dsimp only at hSw
    go_simp
    try with_reducible rfl
  try simp only [Act.put, List.setIfInBounds_toArray, List.set_cons_zero, List.set_cons_succ]
  refine Hd.take (i := 5) (v := ?v6) rfl (by kernel_rfl) (by kernel_rfl) (fun _ _ _ h => h) rfl ?hy6 SB ?rest6
  case hy6 =>
    intro wq hSw
    try dsimp only at hSw
    go_simp
    try with_reducible rfl
  try simp only [Act.put, List.setIfInBounds_toArray, List.set_cons_zero, List.set_cons_succ]
  refine Hd.take (i := 7) (v := ?v7) rfl (by kernel_rfl) (by kernel_rfl) (fun _ _ _ h => h) rfl ?hy7 SB ?rest7
  case hy7 =>
    intro wq hSw
    try dsimp only at hSw
    go_simp
    try with_reducible rfl
  try simp only [Act.put, List.setIfInBounds_toArray, List.set_cons_zero, List.set_cons_succ]
  refine Hd.take (i := 8) (v := ?v8) rfl (by kernel_rfl) (by kernel_rfl) (fun _ _ _ h => h) rfl ?hy8 SB ?rest8
  case hy8 =>
    intro wq hSw
    try dsimp only at hSw
    go_simp
    try with_reducible rfl
  try simp only [Act.put, List.setIfInBounds_toArray, List.set_cons_zero, List.set_cons_succ]
  refine Hd.take (i := 10) (v := ?v9) rfl (by kernel_rfl) (by kernel_rfl) (fun _ _ _ h => h) rfl ?hy9 SB ?rest9
  case hy9 =>
    intro wq hSw
    try dsimp only at hSw
    go_simp
    try with_reducible rfl
  try simp only [Act.put, List.setIfInBounds_toArray, List.set_cons_zero, List.set_cons_succ]
  refine Hd.take (i := 11) (v := ?v10) rfl (by kernel_rfl) (by kernel_rfl) (fun _ _ _ h => h) rfl ?hy10 SB ?rest10
  case hy10 =>
    intro wq hSw
    try dsimp only at hSw
    go_simp
    try with_reducible rfl
  try simp only [Act.put, List.setIfInBounds_toArray, List.set_cons_zero, List.set_cons_succ]
  refine Hd.take (i := 12) (v := ?v11) rfl (by kernel_rfl) (by kernel_rfl) (fun _ _ _ h => h) rfl ?hy11 SB ?rest11
  case hy11 =>
    intro wq hSw
    try dsimp only at hSw
    go_simp
    try with_reducible rfl
  try simp only [Act.put, List.setIfInBounds_toArray, List.set_cons_zero, List.set_cons_succ]
  refine Hd.take (i := 13) (v := ?v12) rfl (by kernel_rfl) (by kernel_rfl) (fun _ _ _ h => h) rfl ?hy12 SB ?rest12
  case hy12 =>
    intro wq hSw
    try dsimp only at hSw
    go_simp
    try with_reducible rfl
  try simp only [Act.put, List.setIfInBounds_toArray, List.set_cons_zero, List.set_cons_succ]
  refine Hd.take (i := 14) (v := ?v13) rfl (by kernel_rfl) (by kernel_rfl) (fun _ _ _ h => h) rfl ?hy13 SB ?rest13
  case hy13 =>
    intro wq hSw
    try dsimp only at hSw
    go_simp
    try with_reducible rfl
  try simp only [Act.put, List.setIfInBounds_toArray, List.set_cons_zero, List.set_cons_succ]
  refine Hd.one (i := 6) rfl (by kernel_rfl) rfl (fun K hK => ?_)
  go_simp
  refine (rget_S p w p q t r ⟨1, d, a, b, s, c, n⟩ d _ ok SB hpp).mono ?_
  rintro e w4 ⟨rfl, SC⟩
  refine hK _ _ (fun _ => SC) ?_
  clear hK K
  try simp only [Act.put, List.setIfInBounds_toArray, List.set_cons_zero, List.set_cons_succ]
  refine Hd.take (i := 9) (v := ?v14) rfl (by kernel_rfl) (by kernel_rfl) (fun _ _ _ h => h) rfl ?hy14 SC ?rest14
  case hy14 =>
    intro wq hSw
    try dsimp only at hSw
    go_simp
    try with_reducible rfl
  try simp only [Act.put, List.setIfInBounds_toArray, List.set_cons_zero, List.set_cons_succ]
  refine Hd.take (i := 15) (v := ?v15) rfl (by kernel_rfl) (by kernel_rfl) (fun _ _ _ h => h) rfl ?hy15 SC ?rest15
  case hy15 =>
    intro wq hSw
    try dsimp only at hSw
    go_simp
    try with_reducible rfl
  try simp only [Act.put, List.setIfInBounds_toArray, List.set_cons_zero, List.set_cons_succ]
  rw [HR.out, HO.out, w64_andNot, w64_or, ← HV.out]
  refine Hd.one (i := 16) rfl (by kernel_rfl) rfl (fun K hK => ?_)
  go_simp
  refine (rput_S p w p q t r ⟨1, d, a, b, s, c, n⟩ d (V) _ ok SC hpp).mono ?_
  rintro e w5 ⟨rfl, SD⟩
  refine hK _ _ (fun h => absurd h (by omega)) ?_
  clear hK K
  try simp only [Act.put, List.setIfInBounds_toArray, List.set_cons_zero, List.set_cons_succ]
  have tv := RV.thereV SD.2.1 ok
  have hgood := good ok1
  refine Hd.one (i := 17) rfl (by kernel_rfl) rfl (fun K hK => ?_)
  go_simp
  refine hK _ _ (fun h => absurd h (by omega)) ?_
  clear hK K
  try simp only [Act.put, List.setIfInBounds_toArray, List.set_cons_zero, List.set_cons_succ]
  refine Hd.done (by kernel_rfl) ?_ _
  have hP := putV_put SD.2.1 ok ok1
  have S5 := Lib.hid (ST.again SD hP ok1 hpp hnt hq)
  clear tv hP
  obtain ⟨⟨l1, l2, l3, c0, c1, c2, c3, c4, c5, c6⟩, _⟩ := S5.out
  go_wp2_with fail
  have HP := Lib.hid (ST.put ok1 ok1 S5.out hnt hqt hpt)
  have hl := load_rv HP.out.2 ok1
  exact bodyPost_ret (v := .tuple #[.agg (rgA (setReg r d V)), .int .i64 1, .bool true]) (results_cell3 Try.results24 rfl hl rfl rfl) rfl ⟨rfl, by rw [HQ.out]; exact HP.out.1.2.2.2.2⟩

set_option maxRecDepth 20000 in
set_option maxHeartbeats 3200000 in
theorem ralu7true (r : Rg) (d a b s c n : Int) (w : World) (ok : okR r) (hi : okIn ⟨7, d, a, b, s, c, n⟩) (hr : right ⟨7, d, a, b, s, c, n⟩ = true) (hs0 : 0 ≤ s) (hs1 : s < 4) (hh : holds r c = true) :
    Calls Try.prog 24 #[.agg (rgA r), .agg #[.int .i64 7, .int .i64 d, .int .i64 a, .int .i64 b, .int .i64 s, .int .i64 c, .int .i64 n]] w fun e w' => e = .returned (.tuple #[.agg (rgA (setReg r d 1#64)), .int .i64 1, .bool true]) ∧ Below w.heap.size w w' := by
  have HB := Lib.hid (fun w => bit_any true w)
  have ok1 := setReg_ok ok d (1#64)
  have S0 := Lib.hid (trio_has w r ⟨7, d, a, b, s, c, n⟩ ok)
  have GR := Lib.hid (fun w => rright_any ⟨7, d, a, b, s, c, n⟩ w hi)
  rw [hr] at GR
  clear hi hr
  go_enter Try.func24, Try.ntmps24
  go_upto_region 1 with (fail)
  simp only [zeros_eq]
  rw [show World.alloc (World.alloc (World.alloc w _) _) _ = trio w r ⟨7, d, a, b, s, c, n⟩ from rfl]
  generalize trio w r ⟨7, d, a, b, s, c, n⟩ = W at *
  have hq : w.heap.size + 1 ≠ w.heap.size := by omega
  have hpt : w.heap.size ≤ w.heap.size + 1 + 1 := by omega
  have hqt : w.heap.size + 1 ≠ w.heap.size + 1 + 1 := by omega
  have hnt : w.heap.size ≠ w.heap.size + 1 + 1 := by omega
  generalize w.heap.size + 1 + 1 = t at *
  generalize w.heap.size + 1 = q at *
  generalize hp : w.heap.size = p at *
  have HQ := Lib.hid hp
  clear hp
  have SB := S0.out
  have hlt := (S0.out.2.1).lt
  obtain ⟨⟨l1, l2, l3, c0, c1, c2, c3, c4, c5, c6⟩, _⟩ := SB
  go_wp2_with fail
  refine (GR.out _).mono ?_
  rintro e w1 ⟨rfl, hb1⟩
  have S1 := Lib.hid (ST.keep ok S0.out hb1 (Nat.le_of_lt hlt))
  clear l1 l2 l3 c0 c1 c2 c3 c4 c5 c6
  obtain ⟨⟨l1, l2, l3, c0, c1, c2, c3, c4, c5, c6⟩, _⟩ := S1.out
  have hpp : p ≤ p := Nat.le_refl _
  go_wp2_with fail
  refine (rget_S p w p q t r ⟨7, d, a, b, s, c, n⟩ a _ ok S1.out hpp).mono ?_
  rintro e w2 ⟨rfl, h2⟩
  have S2 := Lib.hid h2
  clear h2
  clear l1 l2 l3 c0 c1 c2 c3 c4 c5 c6
  obtain ⟨⟨l1, l2, l3, c0, c1, c2, c3, c4, c5, c6⟩, _⟩ := S2.out
  go_wp2_with fail
  refine (rget_S p w p q t r ⟨7, d, a, b, s, c, n⟩ b _ ok S2.out hpp).mono ?_
  rintro e w3 ⟨rfl, h3⟩
  have S3 := Lib.hid h3
  clear h3
  clear l1 l2 l3 c0 c1 c2 c3 c4 c5 c6
  obtain ⟨⟨l1, l2, l3, c0, c1, c2, c3, c4, c5, c6⟩, _⟩ := S3.out
  have S3d := Lib.hid (ST.drew ok S3.out)
  go_wp2_with fail
  clear l1 l2 l3 c0 c1 c2 c3 c4 c5 c6
  have SB := S3d.out
  refine Hd.start 8 (fun w' => (HasV w' (.pointer (some ⟨p, 0, none⟩)) ∧ cellsV w' (.pointer (some ⟨p, 0, none⟩)) = rgA r ∧ ThereV w' (.pointer (some ⟨t, 0, none⟩)) ∧ w'.cell? ⟨q, 0, none⟩ = some (.int .i64 7) ∧ w'.cell? ⟨q, 1, none⟩ = some (.int .i64 d) ∧ w'.cell? ⟨q, 2, none⟩ = some (.int .i64 a) ∧ w'.cell? ⟨q, 3, none⟩ = some (.int .i64 b) ∧ w'.cell? ⟨q, 4, none⟩ = some (.int .i64 s) ∧ w'.cell? ⟨q, 5, none⟩ = some (.int .i64 c) ∧ w'.cell? ⟨q, 6, none⟩ = some (.int .i64 n)) ∧ RV w' p r ∧ (∃ r0, okR r0 ∧ RV w' t r0) ∧ Vi w' q ⟨7, d, a, b, s, c, n⟩ ∧ Below p w w') (by kernel_rfl) ?_
  refine Hd.take (i := 0) (v := ?v16) rfl (by kernel_rfl) (by kernel_rfl) (fun _ _ _ h => h) rfl ?hy16 SB ?rest16
  case hy16 =>
    intro wq hSw
    try dsimp only at hSw
    go_simp
    try with_reducible rfl
  try simp only [Act.put, List.setIfInBounds_toArray, List.set_cons_zero, List.set_cons_succ]
  refine Hd.take (i := 1) (v := ?v17) rfl (by kernel_rfl) (by kernel_rfl) (fun _ _ _ h => h) rfl ?hy17 SB ?rest17
  case hy17 =>
    intro wq hSw
    try dsimp only at hSw
    go_simp
    try with_reducible rfl
  try simp only [Act.put, List.setIfInBounds_toArray, List.set_cons_zero, List.set_cons_succ]
  refine Hd.take (i := 2) (v := ?v18) rfl (by kernel_rfl) (by kernel_rfl) (fun _ _ _ h => h) rfl ?hy18 SB ?rest18
  case hy18 =>
    intro wq hSw
    try dsimp only at hSw
    go_simp
    try with_reducible rfl
  try simp only [Act.put, List.setIfInBounds_toArray, List.set_cons_zero, List.set_cons_succ]
  refine Hd.take (i := 3) (v := ?v19) rfl (by kernel_rfl) (by kernel_rfl) (fun _ _ _ h => h) rfl ?hy19 SB ?rest19
  case hy19 =>
    intro wq hSw
    try dsimp only at hSw
    go_simp
    try with_reducible rfl
  try simp only [Act.put, List.setIfInBounds_toArray, List.set_cons_zero, List.set_cons_succ]
  refine Hd.take (i := 4) (v := ?v20) rfl (by kernel_rfl) (by kernel_rfl) (fun _ _ _ h => h) rfl ?hy20 SB ?rest20
  case hy20 =>
    intro wq hSw
    try dsimp only at hSw
    go_simp
    try with_reducible rfl
  try simp only [Act.put, List.setIfInBounds_toArray, List.set_cons_zero, List.set_cons_succ]
  refine Hd.take (i := 5) (v := ?v21) rfl (by kernel_rfl) (by kernel_rfl) (fun _ _ _ h => h) rfl ?hy21 SB ?rest21
  case hy21 =>
    intro wq hSw
    try dsimp only at hSw
    go_simp
    try with_reducible rfl
  try simp only [Act.put, List.setIfInBounds_toArray, List.set_cons_zero, List.set_cons_succ]
  refine Hd.one (i := 6) rfl (by kernel_rfl) rfl (fun K hK => ?_)
  go_simp
  refine (rholds_S p w p q t r ⟨7, d, a, b, s, c, n⟩ c _ ok SB hpp).mono ?_
  rintro e w4 ⟨rfl, SC⟩
  refine hK _ _ (fun _ => SC) ?_
  clear hK K
  try simp only [Act.put, List.setIfInBounds_toArray, List.set_cons_zero, List.set_cons_succ]
  rw [hh]
  refine Hd.one (i := 7) rfl (by kernel_rfl) rfl (fun K hK => ?_)
  go_simp
  refine (HB.out _).mono ?_
  rintro e w4b ⟨rfl, rfl⟩
  refine hK _ _ (fun _ => SC) ?_
  clear hK K
  try simp only [Act.put, List.setIfInBounds_toArray, List.set_cons_zero, List.set_cons_succ]
  refine Hd.one (i := 8) rfl (by kernel_rfl) rfl (fun K hK => ?_)
  go_simp
  refine (rput_S p w p q t r ⟨7, d, a, b, s, c, n⟩ d (1#64) _ ok SC hpp).mono ?_
  rintro e w5 ⟨rfl, SD⟩
  refine hK _ _ (fun h => absurd h (by omega)) ?_
  clear hK K
  try simp only [Act.put, List.setIfInBounds_toArray, List.set_cons_zero, List.set_cons_succ]
  have tv := RV.thereV SD.2.1 ok
  have hgood := good ok1
  refine Hd.one (i := 9) rfl (by kernel_rfl) rfl (fun K hK => ?_)
  go_simp
  refine hK _ _ (fun h => absurd h (by omega)) ?_
  clear hK K
  try simp only [Act.put, List.setIfInBounds_toArray, List.set_cons_zero, List.set_cons_succ]
  refine Hd.done (by kernel_rfl) ?_ _
  have hP := putV_put SD.2.1 ok ok1
  have S5 := Lib.hid (ST.again SD hP ok1 hpp hnt hq)
  clear tv hP
  obtain ⟨⟨l1, l2, l3, c0, c1, c2, c3, c4, c5, c6⟩, _⟩ := S5.out
  go_wp2_with fail
  have HP := Lib.hid (ST.put ok1 ok1 S5.out hnt hqt hpt)
  have hl := load_rv HP.out.2 ok1
  exact bodyPost_ret (v := .tuple #[.agg (rgA (setReg r d 1#64)), .int .i64 1, .bool true]) (results_cell3 Try.results24 rfl hl rfl rfl) rfl ⟨rfl, by rw [HQ.out]; exact HP.out.1.2.2.2.2⟩

set_option maxRecDepth 20000 in
set_option maxHeartbeats 3200000 in
theorem ralu7false (r : Rg) (d a b s c n : Int) (w : World) (ok : okR r) (hi : okIn ⟨7, d, a, b, s, c, n⟩) (hr : right ⟨7, d, a, b, s, c, n⟩ = true) (hs0 : 0 ≤ s) (hs1 : s < 4) (hh : holds r c = false) :
    Calls Try.prog 24 #[.agg (rgA r), .agg #[.int .i64 7, .int .i64 d, .int .i64 a, .int .i64 b, .int .i64 s, .int .i64 c, .int .i64 n]] w fun e w' => e = .returned (.tuple #[.agg (rgA (setReg r d 0#64)), .int .i64 1, .bool true]) ∧ Below w.heap.size w w' := by
  have HB := Lib.hid (fun w => bit_any false w)
  have ok1 := setReg_ok ok d (0#64)
  have S0 := Lib.hid (trio_has w r ⟨7, d, a, b, s, c, n⟩ ok)
  have GR := Lib.hid (fun w => rright_any ⟨7, d, a, b, s, c, n⟩ w hi)
  rw [hr] at GR
  clear hi hr
  go_enter Try.func24, Try.ntmps24
  go_upto_region 1 with (fail)
  simp only [zeros_eq]
  rw [show World.alloc (World.alloc (World.alloc w _) _) _ = trio w r ⟨7, d, a, b, s, c, n⟩ from rfl]
  generalize trio w r ⟨7, d, a, b, s, c, n⟩ = W at *
  have hq : w.heap.size + 1 ≠ w.heap.size := by omega
  have hpt : w.heap.size ≤ w.heap.size + 1 + 1 := by omega
  have hqt : w.heap.size + 1 ≠ w.heap.size + 1 + 1 := by omega
  have hnt : w.heap.size ≠ w.heap.size + 1 + 1 := by omega
  generalize w.heap.size + 1 + 1 = t at *
  generalize w.heap.size + 1 = q at *
  generalize hp : w.heap.size = p at *
  have HQ := Lib.hid hp
  clear hp
  have SB := S0.out
  have hlt := (S0.out.2.1).lt
  obtain ⟨⟨l1, l2, l3, c0, c1, c2, c3, c4, c5, c6⟩, _⟩ := SB
  go_wp2_with fail
  refine (GR.out _).mono ?_
  rintro e w1 ⟨rfl, hb1⟩
  have S1 := Lib.hid (ST.keep ok S0.out hb1 (Nat.le_of_lt hlt))
  clear l1 l2 l3 c0 c1 c2 c3 c4 c5 c6
  obtain ⟨⟨l1, l2, l3, c0, c1, c2, c3, c4, c5, c6⟩, _⟩ := S1.out
  have hpp : p ≤ p := Nat.le_refl _
  go_wp2_with fail
  refine (rget_S p w p q t r ⟨7, d, a, b, s, c, n⟩ a _ ok S1.out hpp).mono ?_
  rintro e w2 ⟨rfl, h2⟩
  have S2 := Lib.hid h2
  clear h2
  clear l1 l2 l3 c0 c1 c2 c3 c4 c5 c6
  obtain ⟨⟨l1, l2, l3, c0, c1, c2, c3, c4, c5, c6⟩, _⟩ := S2.out
  go_wp2_with fail
  refine (rget_S p w p q t r ⟨7, d, a, b, s, c, n⟩ b _ ok S2.out hpp).mono ?_
  rintro e w3 ⟨rfl, h3⟩
  have S3 := Lib.hid h3
  clear h3
  clear l1 l2 l3 c0 c1 c2 c3 c4 c5 c6
  obtain ⟨⟨l1, l2, l3, c0, c1, c2, c3, c4, c5, c6⟩, _⟩ := S3.out
  have S3d := Lib.hid (ST.drew ok S3.out)
  go_wp2_with fail
  clear l1 l2 l3 c0 c1 c2 c3 c4 c5 c6
  have SB := S3d.out
  refine Hd.start 8 (fun w' => (HasV w' (.pointer (some ⟨p, 0, none⟩)) ∧ cellsV w' (.pointer (some ⟨p, 0, none⟩)) = rgA r ∧ ThereV w' (.pointer (some ⟨t, 0, none⟩)) ∧ w'.cell? ⟨q, 0, none⟩ = some (.int .i64 7) ∧ w'.cell? ⟨q, 1, none⟩ = some (.int .i64 d) ∧ w'.cell? ⟨q, 2, none⟩ = some (.int .i64 a) ∧ w'.cell? ⟨q, 3, none⟩ = some (.int .i64 b) ∧ w'.cell? ⟨q, 4, none⟩ = some (.int .i64 s) ∧ w'.cell? ⟨q, 5, none⟩ = some (.int .i64 c) ∧ w'.cell? ⟨q, 6, none⟩ = some (.int .i64 n)) ∧ RV w' p r ∧ (∃ r0, okR r0 ∧ RV w' t r0) ∧ Vi w' q ⟨7, d, a, b, s, c, n⟩ ∧ Below p w w') (by kernel_rfl) ?_
  refine Hd.take (i := 0) (v := ?v22) rfl (by kernel_rfl) (by kernel_rfl) (fun _ _ _ h => h) rfl ?hy22 SB ?rest22
  case hy22 =>
    intro wq hSw
    try dsimp only at hSw
    go_simp
    try with_reducible rfl
  try simp only [Act.put, List.setIfInBounds_toArray, List.set_cons_zero, List.set_cons_succ]
  refine Hd.take (i := 1) (v := ?v23) rfl (by kernel_rfl) (by kernel_rfl) (fun _ _ _ h => h) rfl ?hy23 SB ?rest23
  case hy23 =>
    intro wq hSw
    try dsimp only at hSw
    go_simp
    try with_reducible rfl
  try simp only [Act.put, List.setIfInBounds_toArray, List.set_cons_zero, List.set_cons_succ]
  refine Hd.take (i := 2) (v := ?v24) rfl (by kernel_rfl) (by kernel_rfl) (fun _ _ _ h => h) rfl ?hy24 SB ?rest24
  case hy24 =>
    intro wq hSw
    try dsimp only at hSw
    go_simp
    try with_reducible rfl
  try simp only [Act.put, List.setIfInBounds_toArray, List.set_cons_zero, List.set_cons_succ]
  refine Hd.take (i := 3) (v := ?v25) rfl (by kernel_rfl) (by kernel_rfl) (fun _ _ _ h => h) rfl ?hy25 SB ?rest25
  case hy25 =>
    intro wq hSw
    try dsimp only at hSw
    go_simp
    try with_reducible rfl
  try simp only [Act.put, List.setIfInBounds_toArray, List.set_cons_zero, List.set_cons_succ]
  refine Hd.take (i := 4) (v := ?v26) rfl (by kernel_rfl) (by kernel_rfl) (fun _ _ _ h => h) rfl ?hy26 SB ?rest26
  case hy26 =>
    intro wq hSw
    try dsimp only at hSw
    go_simp
    try with_reducible rfl
  try simp only [Act.put, List.setIfInBounds_toArray, List.set_cons_zero, List.set_cons_succ]
  refine Hd.take (i := 5) (v := ?v27) rfl (by kernel_rfl) (by kernel_rfl) (fun _ _ _ h => h) rfl ?hy27 SB ?rest27
  case hy27 =>
    intro wq hSw
    try dsimp only at hSw
    go_simp
    try with_reducible rfl
  try simp only [Act.put, List.setIfInBounds_toArray, List.set_cons_zero, List.set_cons_succ]
  refine Hd.one (i := 6) rfl (by kernel_rfl) rfl (fun K hK => ?_)
  go_simp
  refine (rholds_S p w p q t r ⟨7, d, a, b, s, c, n⟩ c _ ok SB hpp).mono ?_
  rintro e w4 ⟨rfl, SC⟩
  refine hK _ _ (fun _ => SC) ?_
  clear hK K
  try simp only [Act.put, List.setIfInBounds_toArray, List.set_cons_zero, List.set_cons_succ]
  rw [hh]
  refine Hd.one (i := 7) rfl (by kernel_rfl) rfl (fun K hK => ?_)
  go_simp
  refine (HB.out _).mono ?_
  rintro e w4b ⟨rfl, rfl⟩
  refine hK _ _ (fun _ => SC) ?_
  clear hK K
  try simp only [Act.put, List.setIfInBounds_toArray, List.set_cons_zero, List.set_cons_succ]
  refine Hd.one (i := 8) rfl (by kernel_rfl) rfl (fun K hK => ?_)
  go_simp
  refine (rput_S p w p q t r ⟨7, d, a, b, s, c, n⟩ d (0#64) _ ok SC hpp).mono ?_
  rintro e w5 ⟨rfl, SD⟩
  refine hK _ _ (fun h => absurd h (by omega)) ?_
  clear hK K
  try simp only [Act.put, List.setIfInBounds_toArray, List.set_cons_zero, List.set_cons_succ]
  have tv := RV.thereV SD.2.1 ok
  have hgood := good ok1
  refine Hd.one (i := 9) rfl (by kernel_rfl) rfl (fun K hK => ?_)
  go_simp
  refine hK _ _ (fun h => absurd h (by omega)) ?_
  clear hK K
  try simp only [Act.put, List.setIfInBounds_toArray, List.set_cons_zero, List.set_cons_succ]
  refine Hd.done (by kernel_rfl) ?_ _
  have hP := putV_put SD.2.1 ok ok1
  have S5 := Lib.hid (ST.again SD hP ok1 hpp hnt hq)
  clear tv hP
  obtain ⟨⟨l1, l2, l3, c0, c1, c2, c3, c4, c5, c6⟩, _⟩ := S5.out
  go_wp2_with fail
  have HP := Lib.hid (ST.put ok1 ok1 S5.out hnt hqt hpt)
  have hl := load_rv HP.out.2 ok1
  exact bodyPost_ret (v := .tuple #[.agg (rgA (setReg r d 0#64)), .int .i64 1, .bool true]) (results_cell3 Try.results24 rfl hl rfl rfl) rfl ⟨rfl, by rw [HQ.out]; exact HP.out.1.2.2.2.2⟩

end Go.Proofs.Ytfbfoooligbcfaa.AluR1
