/-
  WALK: package alu: reckon.
-/
import Derived.Test.YtfbfoooligbcfaaAluStep
import Derived.Test.YtfbfoooligbcfaaAluOps
namespace Go.Proofs.Ytfbfoooligbcfaa.AluK
set_option linter.unusedVariables false
set_option linter.unusedSimpArgs false
open Go.RowKit Cm Mm Ow A64 Fld FldW A64W A64P A64C A64T A64R A64E Alu AluG AluS AluO
attribute [local go_sem ↓] Go.wp_at_zero Go.wp_at_succ exec_load_regs exec_store_regs

/-- the cells of registers and of an instruction; nothing elder has turned -/
abbrev SK (w0 : World) (p q : Nat) (r : Rg) (i : In) (w' : World) : Prop := (HasV w' (.pointer (some ⟨p, 0, none⟩)) ∧ cellsV w' (.pointer (some ⟨p, 0, none⟩)) = rgA r ∧ w'.cell? ⟨q, 0, none⟩ = some (.int .i64 i.kind) ∧ w'.cell? ⟨q, 1, none⟩ = some (.int .i64 i.d) ∧ w'.cell? ⟨q, 2, none⟩ = some (.int .i64 i.a) ∧ w'.cell? ⟨q, 3, none⟩ = some (.int .i64 i.b) ∧ w'.cell? ⟨q, 4, none⟩ = some (.int .i64 i.s) ∧ w'.cell? ⟨q, 5, none⟩ = some (.int .i64 i.c) ∧ w'.cell? ⟨q, 6, none⟩ = some (.int .i64 i.n)) ∧ RV w' p r ∧ Vi w' q i ∧ Below w0.heap.size w0 w'
theorem SK.init {w0 w : World} {p q : Nat} {r : Rg} {i : In} (ok : okR r) (h : RV w p r) (hv : Vi w q i) (hb : Below w0.heap.size w0 w) : SK w0 p q r i w := by
  obtain ⟨c0, c1, c2, c3, c4, c5, c6⟩ := hv.cells
  obtain ⟨l1, l2⟩ := RV.hasV h ok
  exact ⟨⟨l1, l2, c0, c1, c2, c3, c4, c5, c6⟩, h, hv, hb⟩
theorem SK.keep {w0 w w' : World} {p q : Nat} {r : Rg} {i : In} (ok : okR r) (h : SK w0 p q r i w) (hb : Below w.heap.size w w') : SK w0 p q r i w' := by
  obtain ⟨_, hr, hv, hz⟩ := h
  exact SK.init ok (hr.keep hb) (hv.keep hb) (hz.trans (hb.mono hz.size))
theorem get_S (w0 : World) (p q : Nat) (r : Rg) (i : In) (n : Int) (w : World) (ok : okR r) (h : SK w0 p q r i w) :
    Calls Try.prog 25 #[.agg (rgA r), .int .i64 n] w fun e w' => e = .returned (.int .u64 ((reg r n).toNat : Int)) ∧ SK w0 p q r i w' :=
  (get_any r n w ok).mono fun e w' ⟨h1, h2⟩ => ⟨h1, h.keep ok h2⟩

theorem mul_mod_left (a b m : Int) : a * b % m = a % m * b % m := by
  rw [Int.mul_emod a b m, Int.mul_emod (a % m) b m, Int.emod_emod_of_dvd _ (Int.dvd_refl _)]
theorem part_eq {n s : Int} (hn : 0 ≤ n) (i : In) (h1 : i.n = n) (h2 : i.s = s) : IntKind.u64.wrap (n * 2 ^ (16 * s).toNat) = ((Alu.part i).toNat : Int) := by
  obtain ⟨k, rfl⟩ := Int.eq_ofNat_of_zero_le hn
  rw [IntKind.wrap_u64, Alu.part, h1, h2, BitVec.toNat_shiftLeft, Nat.shiftLeft_eq, BitVec.toNat_ofInt]
  have e : (16 * s).toNat = 16 * s.toNat := by omega
  rw [e]
  have e2 : (((k : Int) % ((2 ^ 64 : Nat) : Int)).toNat : Int) = (k : Int) % ((2 ^ 64 : Nat) : Int) := Int.toNat_of_nonneg (Int.emod_nonneg _ (by decide))
  rw [Int.natCast_emod, Int.natCast_mul, e2, Int.natCast_pow]
  simp
  exact mul_mod_left _ _ _
theorem hole_eq {s : Int} (i : In) (h2 : i.s = s) : IntKind.u64.wrap (65535 * 2 ^ (16 * s).toNat) = ((hole i).toNat : Int) := by
  rw [IntKind.wrap_u64, hole, h2, BitVec.toNat_shiftLeft, Nat.shiftLeft_eq]
  have e : (16 * s).toNat = 16 * s.toNat := by omega
  rw [e, Int.natCast_emod, Int.natCast_mul, Int.natCast_pow]
  simp
theorem SK.quiet {w0 w : World} {p q : Nat} {r : Rg} {i : In} (ok : okR r) (h : SK w0 p q r i w) (n : Nat) : SK w0 p q r i (w.drewN n) := h.keep ok (below_drawn w n)

set_option maxRecDepth 20000 in
set_option maxHeartbeats 3200000 in
theorem reckon0 (r : Rg) (d a b s c n : Int) (w : World) (ok : okR r) (hs0 : 0 ≤ s) (hs1 : s < 4) (hn0 : 0 ≤ n) (hn1 : n < 65536) :
    Calls Try.prog 42 #[.agg (rgA r), .agg #[.int .i64 0, .int .i64 d, .int .i64 a, .int .i64 b, .int .i64 s, .int .i64 c, .int .i64 n]] w fun e w' => e = .returned (.int .u64 ((reckon r ⟨0, d, a, b, s, c, n⟩).toNat : Int)) ∧ Below w.heap.size w w' := by
  have HR := Lib.hid (part_eq hn0 ⟨0, d, a, b, s, c, n⟩ rfl rfl)
  obtain ⟨h1, h2, hb⟩ := duo_has w r ⟨0, d, a, b, s, c, n⟩
  have S0 := Lib.hid (SK.keep ok (SK.init ok h1 h2 hb) ((Below.refl _ _).drew))
  clear h1 h2 hb
  go_enter Try.func42, Try.ntmps42
  go_upto_region 1 with (fail)
  rw [show World.alloc (World.alloc w _) _ = duo w r ⟨0, d, a, b, s, c, n⟩ from rfl]
  generalize duo w r ⟨_, d, a, b, s, c, n⟩ = W at *
  have SB := S0.out
  clear S0
  go_region_held3 (fun w' => (HasV w' (.pointer (some ⟨w.heap.size, 0, none⟩)) ∧ cellsV w' (.pointer (some ⟨w.heap.size, 0, none⟩)) = rgA r ∧ w'.cell? ⟨w.heap.size + 1, 0, none⟩ = some (.int .i64 0) ∧ w'.cell? ⟨w.heap.size + 1, 1, none⟩ = some (.int .i64 d) ∧ w'.cell? ⟨w.heap.size + 1, 2, none⟩ = some (.int .i64 a) ∧ w'.cell? ⟨w.heap.size + 1, 3, none⟩ = some (.int .i64 b) ∧ w'.cell? ⟨w.heap.size + 1, 4, none⟩ = some (.int .i64 s) ∧ w'.cell? ⟨w.heap.size + 1, 5, none⟩ = some (.int .i64 c) ∧ w'.cell? ⟨w.heap.size + 1, 6, none⟩ = some (.int .i64 n)) ∧ RV w' w.heap.size r ∧ Vi w' (w.heap.size + 1) ⟨0, d, a, b, s, c, n⟩ ∧ Below w.heap.size w w') (with_reducible assumption)
    (first
      | (go_at_call 25; with_reducible refine (get_S w w.heap.size (w.heap.size + 1) r ⟨0, d, a, b, s, c, n⟩ _ _ ok (by with_reducible assumption)).mono ?_; rintro e wx ⟨rfl, SC⟩))
  go_wp2_with fail
  go_quiet (fail)
  have SD := SK.quiet ok SC nq
  clear SB
  go_wp2_with fail
  go_ret
  exact ⟨ret1 HR.out, SD.2.2.2⟩

set_option maxRecDepth 20000 in
set_option maxHeartbeats 3200000 in
theorem reckon1 (r : Rg) (d a b s c n : Int) (w : World) (ok : okR r) (hs0 : 0 ≤ s) (hs1 : s < 4) (hn0 : 0 ≤ n) (hn1 : n < 65536) :
    Calls Try.prog 42 #[.agg (rgA r), .agg #[.int .i64 1, .int .i64 d, .int .i64 a, .int .i64 b, .int .i64 s, .int .i64 c, .int .i64 n]] w fun e w' => e = .returned (.int .u64 ((reckon r ⟨1, d, a, b, s, c, n⟩).toNat : Int)) ∧ Below w.heap.size w w' := by
  have HR := Lib.hid (part_eq hn0 ⟨1, d, a, b, s, c, n⟩ rfl rfl)
  have HO := Lib.hid (hole_eq ⟨1, d, a, b, s, c, n⟩ (s := s) rfl)
  obtain ⟨h1, h2, hb⟩ := duo_has w r ⟨1, d, a, b, s, c, n⟩
  have S0 := Lib.hid (SK.keep ok (SK.init ok h1 h2 hb) ((Below.refl _ _).drew))
  clear h1 h2 hb
  go_enter Try.func42, Try.ntmps42
  go_upto_region 1 with (fail)
  rw [show World.alloc (World.alloc w _) _ = duo w r ⟨1, d, a, b, s, c, n⟩ from rfl]
  generalize duo w r ⟨_, d, a, b, s, c, n⟩ = W at *
  have SB := S0.out
  clear S0
  go_region_held3 (fun w' => (HasV w' (.pointer (some ⟨w.heap.size, 0, none⟩)) ∧ cellsV w' (.pointer (some ⟨w.heap.size, 0, none⟩)) = rgA r ∧ w'.cell? ⟨w.heap.size + 1, 0, none⟩ = some (.int .i64 1) ∧ w'.cell? ⟨w.heap.size + 1, 1, none⟩ = some (.int .i64 d) ∧ w'.cell? ⟨w.heap.size + 1, 2, none⟩ = some (.int .i64 a) ∧ w'.cell? ⟨w.heap.size + 1, 3, none⟩ = some (.int .i64 b) ∧ w'.cell? ⟨w.heap.size + 1, 4, none⟩ = some (.int .i64 s) ∧ w'.cell? ⟨w.heap.size + 1, 5, none⟩ = some (.int .i64 c) ∧ w'.cell? ⟨w.heap.size + 1, 6, none⟩ = some (.int .i64 n)) ∧ RV w' w.heap.size r ∧ Vi w' (w.heap.size + 1) ⟨1, d, a, b, s, c, n⟩ ∧ Below w.heap.size w w') (with_reducible assumption)
    (first
      | (go_at_call 25; with_reducible refine (get_S w w.heap.size (w.heap.size + 1) r ⟨1, d, a, b, s, c, n⟩ _ _ ok (by with_reducible assumption)).mono ?_; rintro e wx ⟨rfl, SC⟩))
  go_wp2_with fail
  go_quiet (fail)
  have SD := SK.quiet ok SC nq
  clear SB
  have SE := Lib.hid (SK.keep ok SD ((Below.refl _ _).drew))
  have SE2 := Lib.hid (SK.quiet ok SC (nq + 1))
  clear SC
  go_wp2_with fail
  have SB := SE.out
  have SC := SE2.out
  clear SE SE2
  go_region_held3 (fun w' => (HasV w' (.pointer (some ⟨w.heap.size, 0, none⟩)) ∧ cellsV w' (.pointer (some ⟨w.heap.size, 0, none⟩)) = rgA r ∧ w'.cell? ⟨w.heap.size + 1, 0, none⟩ = some (.int .i64 1) ∧ w'.cell? ⟨w.heap.size + 1, 1, none⟩ = some (.int .i64 d) ∧ w'.cell? ⟨w.heap.size + 1, 2, none⟩ = some (.int .i64 a) ∧ w'.cell? ⟨w.heap.size + 1, 3, none⟩ = some (.int .i64 b) ∧ w'.cell? ⟨w.heap.size + 1, 4, none⟩ = some (.int .i64 s) ∧ w'.cell? ⟨w.heap.size + 1, 5, none⟩ = some (.int .i64 c) ∧ w'.cell? ⟨w.heap.size + 1, 6, none⟩ = some (.int .i64 n)) ∧ RV w' w.heap.size r ∧ Vi w' (w.heap.size + 1) ⟨1, d, a, b, s, c, n⟩ ∧ Below w.heap.size w w') (with_reducible assumption)
    (first
      | (go_at_call 25; with_reducible refine (get_S w w.heap.size (w.heap.size + 1) r ⟨1, d, a, b, s, c, n⟩ _ _ ok (by with_reducible assumption)).mono ?_; rintro e wx ⟨rfl, SC⟩))
  go_wp2_with fail
  go_ret
  exact ⟨ret1 (by rw [HR.out, HO.out, w64_andNot, w64_or]; rfl), SC.2.2.2⟩

set_option maxRecDepth 20000 in
set_option maxHeartbeats 3200000 in
theorem reckon2 (r : Rg) (d a b s c n : Int) (w : World) (ok : okR r) (hs0 : 0 ≤ s) (hs1 : s < 4) (hn0 : 0 ≤ n) (hn1 : n < 65536) :
    Calls Try.prog 42 #[.agg (rgA r), .agg #[.int .i64 2, .int .i64 d, .int .i64 a, .int .i64 b, .int .i64 s, .int .i64 c, .int .i64 n]] w fun e w' => e = .returned (.int .u64 ((reckon r ⟨2, d, a, b, s, c, n⟩).toNat : Int)) ∧ Below w.heap.size w w' := by
  obtain ⟨h1, h2, hb⟩ := duo_has w r ⟨2, d, a, b, s, c, n⟩
  have S0 := Lib.hid (SK.keep ok (SK.init ok h1 h2 hb) ((Below.refl _ _).drew))
  clear h1 h2 hb
  go_enter Try.func42, Try.ntmps42
  go_upto_region 1 with (fail)
  rw [show World.alloc (World.alloc w _) _ = duo w r ⟨2, d, a, b, s, c, n⟩ from rfl]
  generalize duo w r ⟨_, d, a, b, s, c, n⟩ = W at *
  have SB := S0.out
  clear S0
  go_region_held3 (fun w' => (HasV w' (.pointer (some ⟨w.heap.size, 0, none⟩)) ∧ cellsV w' (.pointer (some ⟨w.heap.size, 0, none⟩)) = rgA r ∧ w'.cell? ⟨w.heap.size + 1, 0, none⟩ = some (.int .i64 2) ∧ w'.cell? ⟨w.heap.size + 1, 1, none⟩ = some (.int .i64 d) ∧ w'.cell? ⟨w.heap.size + 1, 2, none⟩ = some (.int .i64 a) ∧ w'.cell? ⟨w.heap.size + 1, 3, none⟩ = some (.int .i64 b) ∧ w'.cell? ⟨w.heap.size + 1, 4, none⟩ = some (.int .i64 s) ∧ w'.cell? ⟨w.heap.size + 1, 5, none⟩ = some (.int .i64 c) ∧ w'.cell? ⟨w.heap.size + 1, 6, none⟩ = some (.int .i64 n)) ∧ RV w' w.heap.size r ∧ Vi w' (w.heap.size + 1) ⟨2, d, a, b, s, c, n⟩ ∧ Below w.heap.size w w') (with_reducible assumption)
    (first
      | (go_at_call 25; with_reducible refine (get_S w w.heap.size (w.heap.size + 1) r ⟨2, d, a, b, s, c, n⟩ _ _ ok (by with_reducible assumption)).mono ?_; rintro e wx ⟨rfl, SC⟩))
  go_wp2_with fail
  go_quiet (fail)
  have SD := SK.quiet ok SC nq
  clear SB
  go_wp2_with fail
  go_ret
  exact ⟨ret1 (by rw [IntKind.wrap_u64, w64_add]; rfl), SD.2.2.2⟩

set_option maxRecDepth 20000 in
set_option maxHeartbeats 3200000 in
theorem reckon3 (r : Rg) (d a b s c n : Int) (w : World) (ok : okR r) (hs0 : 0 ≤ s) (hs1 : s < 4) (hn0 : 0 ≤ n) (hn1 : n < 65536) :
    Calls Try.prog 42 #[.agg (rgA r), .agg #[.int .i64 3, .int .i64 d, .int .i64 a, .int .i64 b, .int .i64 s, .int .i64 c, .int .i64 n]] w fun e w' => e = .returned (.int .u64 ((reckon r ⟨3, d, a, b, s, c, n⟩).toNat : Int)) ∧ Below w.heap.size w w' := by
  obtain ⟨h1, h2, hb⟩ := duo_has w r ⟨3, d, a, b, s, c, n⟩
  have S0 := Lib.hid (SK.keep ok (SK.init ok h1 h2 hb) ((Below.refl _ _).drew))
  clear h1 h2 hb
  go_enter Try.func42, Try.ntmps42
  go_upto_region 1 with (fail)
  rw [show World.alloc (World.alloc w _) _ = duo w r ⟨3, d, a, b, s, c, n⟩ from rfl]
  generalize duo w r ⟨_, d, a, b, s, c, n⟩ = W at *
  have SB := S0.out
  clear S0
  go_region_held3 (fun w' => (HasV w' (.pointer (some ⟨w.heap.size, 0, none⟩)) ∧ cellsV w' (.pointer (some ⟨w.heap.size, 0, none⟩)) = rgA r ∧ w'.cell? ⟨w.heap.size + 1, 0, none⟩ = some (.int .i64 3) ∧ w'.cell? ⟨w.heap.size + 1, 1, none⟩ = some (.int .i64 d) ∧ w'.cell? ⟨w.heap.size + 1, 2, none⟩ = some (.int .i64 a) ∧ w'.cell? ⟨w.heap.size + 1, 3, none⟩ = some (.int .i64 b) ∧ w'.cell? ⟨w.heap.size + 1, 4, none⟩ = some (.int .i64 s) ∧ w'.cell? ⟨w.heap.size + 1, 5, none⟩ = some (.int .i64 c) ∧ w'.cell? ⟨w.heap.size + 1, 6, none⟩ = some (.int .i64 n)) ∧ RV w' w.heap.size r ∧ Vi w' (w.heap.size + 1) ⟨3, d, a, b, s, c, n⟩ ∧ Below w.heap.size w w') (with_reducible assumption)
    (first
      | (go_at_call 25; with_reducible refine (get_S w w.heap.size (w.heap.size + 1) r ⟨3, d, a, b, s, c, n⟩ _ _ ok (by with_reducible assumption)).mono ?_; rintro e wx ⟨rfl, SC⟩))
  go_wp2_with fail
  go_quiet (fail)
  have SD := SK.quiet ok SC nq
  clear SB
  go_wp2_with fail
  go_ret
  exact ⟨ret1 (by rw [IntKind.wrap_u64, w64_sub]; rfl), SD.2.2.2⟩

set_option maxRecDepth 20000 in
set_option maxHeartbeats 3200000 in
theorem reckon4 (r : Rg) (d a b s c n : Int) (w : World) (ok : okR r) (hs0 : 0 ≤ s) (hs1 : s < 4) (hn0 : 0 ≤ n) (hn1 : n < 65536) :
    Calls Try.prog 42 #[.agg (rgA r), .agg #[.int .i64 4, .int .i64 d, .int .i64 a, .int .i64 b, .int .i64 s, .int .i64 c, .int .i64 n]] w fun e w' => e = .returned (.int .u64 ((reckon r ⟨4, d, a, b, s, c, n⟩).toNat : Int)) ∧ Below w.heap.size w w' := by
  obtain ⟨h1, h2, hb⟩ := duo_has w r ⟨4, d, a, b, s, c, n⟩
  have S0 := Lib.hid (SK.keep ok (SK.init ok h1 h2 hb) ((Below.refl _ _).drew))
  clear h1 h2 hb
  go_enter Try.func42, Try.ntmps42
  go_upto_region 1 with (fail)
  rw [show World.alloc (World.alloc w _) _ = duo w r ⟨4, d, a, b, s, c, n⟩ from rfl]
  generalize duo w r ⟨_, d, a, b, s, c, n⟩ = W at *
  have SB := S0.out
  clear S0
  go_region_held3 (fun w' => (HasV w' (.pointer (some ⟨w.heap.size, 0, none⟩)) ∧ cellsV w' (.pointer (some ⟨w.heap.size, 0, none⟩)) = rgA r ∧ w'.cell? ⟨w.heap.size + 1, 0, none⟩ = some (.int .i64 4) ∧ w'.cell? ⟨w.heap.size + 1, 1, none⟩ = some (.int .i64 d) ∧ w'.cell? ⟨w.heap.size + 1, 2, none⟩ = some (.int .i64 a) ∧ w'.cell? ⟨w.heap.size + 1, 3, none⟩ = some (.int .i64 b) ∧ w'.cell? ⟨w.heap.size + 1, 4, none⟩ = some (.int .i64 s) ∧ w'.cell? ⟨w.heap.size + 1, 5, none⟩ = some (.int .i64 c) ∧ w'.cell? ⟨w.heap.size + 1, 6, none⟩ = some (.int .i64 n)) ∧ RV w' w.heap.size r ∧ Vi w' (w.heap.size + 1) ⟨4, d, a, b, s, c, n⟩ ∧ Below w.heap.size w w') (with_reducible assumption)
    (first
      | (go_at_call 25; with_reducible refine (get_S w w.heap.size (w.heap.size + 1) r ⟨4, d, a, b, s, c, n⟩ _ _ ok (by with_reducible assumption)).mono ?_; rintro e wx ⟨rfl, SC⟩))
  go_wp2_with fail
  go_quiet (fail)
  have SD := SK.quiet ok SC nq
  clear SB
  go_wp2_with fail
  go_ret
  exact ⟨ret1 (by rw [IntKind.wrap_u64, w64_mul]; rfl), SD.2.2.2⟩

set_option maxRecDepth 20000 in
set_option maxHeartbeats 3200000 in
theorem reckon5 (r : Rg) (d a b s c n : Int) (w : World) (ok : okR r) (hs0 : 0 ≤ s) (hs1 : s < 4) (hn0 : 0 ≤ n) (hn1 : n < 65536) :
    Calls Try.prog 42 #[.agg (rgA r), .agg #[.int .i64 5, .int .i64 d, .int .i64 a, .int .i64 b, .int .i64 s, .int .i64 c, .int .i64 n]] w fun e w' => e = .returned (.int .u64 ((reckon r ⟨5, d, a, b, s, c, n⟩).toNat : Int)) ∧ Below w.heap.size w w' := by
  obtain ⟨h1, h2, hb⟩ := duo_has w r ⟨5, d, a, b, s, c, n⟩
  have S0 := Lib.hid (SK.keep ok (SK.init ok h1 h2 hb) ((Below.refl _ _).drew))
  clear h1 h2 hb
  go_enter Try.func42, Try.ntmps42
  go_upto_region 1 with (fail)
  rw [show World.alloc (World.alloc w _) _ = duo w r ⟨5, d, a, b, s, c, n⟩ from rfl]
  generalize duo w r ⟨_, d, a, b, s, c, n⟩ = W at *
  have SB := S0.out
  clear S0
  go_region_held3 (fun w' => (HasV w' (.pointer (some ⟨w.heap.size, 0, none⟩)) ∧ cellsV w' (.pointer (some ⟨w.heap.size, 0, none⟩)) = rgA r ∧ w'.cell? ⟨w.heap.size + 1, 0, none⟩ = some (.int .i64 5) ∧ w'.cell? ⟨w.heap.size + 1, 1, none⟩ = some (.int .i64 d) ∧ w'.cell? ⟨w.heap.size + 1, 2, none⟩ = some (.int .i64 a) ∧ w'.cell? ⟨w.heap.size + 1, 3, none⟩ = some (.int .i64 b) ∧ w'.cell? ⟨w.heap.size + 1, 4, none⟩ = some (.int .i64 s) ∧ w'.cell? ⟨w.heap.size + 1, 5, none⟩ = some (.int .i64 c) ∧ w'.cell? ⟨w.heap.size + 1, 6, none⟩ = some (.int .i64 n)) ∧ RV w' w.heap.size r ∧ Vi w' (w.heap.size + 1) ⟨5, d, a, b, s, c, n⟩ ∧ Below w.heap.size w w') (with_reducible assumption)
    (first
      | (go_at_call 25; with_reducible refine (get_S w w.heap.size (w.heap.size + 1) r ⟨5, d, a, b, s, c, n⟩ _ _ ok (by with_reducible assumption)).mono ?_; rintro e wx ⟨rfl, SC⟩))
  go_wp2_with fail
  go_quiet (fail)
  have SD := SK.quiet ok SC nq
  clear SB
  go_wp2_with fail
  go_ret
  exact ⟨ret1 (by rw [w64_and]; rfl), SD.2.2.2⟩

set_option maxRecDepth 20000 in
set_option maxHeartbeats 3200000 in
theorem reckon7 (r : Rg) (kd d a b s c n : Int) (w : World) (ok : okR r) (hs0 : 0 ≤ s) (hs1 : s < 4) (hn0 : 0 ≤ n) (hn1 : n < 65536) (h0 : (kd == 0) = false) (h1 : (kd == 1) = false) (h2 : (kd == 2) = false) (h3 : (kd == 3) = false) (h4 : (kd == 4) = false) (h5 : (kd == 5) = false) :
    Calls Try.prog 42 #[.agg (rgA r), .agg #[.int .i64 kd, .int .i64 d, .int .i64 a, .int .i64 b, .int .i64 s, .int .i64 c, .int .i64 n]] w fun e w' => e = .returned (.int .u64 ((reckon r ⟨kd, d, a, b, s, c, n⟩).toNat : Int)) ∧ Below w.heap.size w w' := by
  have HR : reckon r ⟨kd, d, a, b, s, c, n⟩ = if holds r c then 1 else 0 := by
    simp only [beq_eq_false_iff_ne, ne_eq] at h0 h1 h2 h3 h4 h5
    simp only [reckon]
    rw [if_neg h0, if_neg h1, if_neg h2, if_neg h3, if_neg h4, if_neg h5]
  have HR := Lib.hid HR
  have HH := Lib.hid (fun w => holds_any r c w ok)
  obtain ⟨g1, g2, hb⟩ := duo_has w r ⟨kd, d, a, b, s, c, n⟩
  have S0 := Lib.hid (SK.keep ok (SK.init ok g1 g2 hb) ((Below.refl _ _).drew))
  clear g1 g2 hb
  go_enter Try.func42, Try.ntmps42
  go_upto_region 1 with (fail)
  rw [show World.alloc (World.alloc w _) _ = duo w r ⟨kd, d, a, b, s, c, n⟩ from rfl]
  generalize duo w r ⟨kd, d, a, b, s, c, n⟩ = W at *
  have SB := S0.out
  clear S0
  go_region_held3 (fun w' => (HasV w' (.pointer (some ⟨w.heap.size, 0, none⟩)) ∧ cellsV w' (.pointer (some ⟨w.heap.size, 0, none⟩)) = rgA r ∧ w'.cell? ⟨w.heap.size + 1, 0, none⟩ = some (.int .i64 kd) ∧ w'.cell? ⟨w.heap.size + 1, 1, none⟩ = some (.int .i64 d) ∧ w'.cell? ⟨w.heap.size + 1, 2, none⟩ = some (.int .i64 a) ∧ w'.cell? ⟨w.heap.size + 1, 3, none⟩ = some (.int .i64 b) ∧ w'.cell? ⟨w.heap.size + 1, 4, none⟩ = some (.int .i64 s) ∧ w'.cell? ⟨w.heap.size + 1, 5, none⟩ = some (.int .i64 c) ∧ w'.cell? ⟨w.heap.size + 1, 6, none⟩ = some (.int .i64 n)) ∧ RV w' w.heap.size r ∧ Vi w' (w.heap.size + 1) ⟨kd, d, a, b, s, c, n⟩ ∧ Below w.heap.size w w') (with_reducible assumption)
    (first
      | (go_at_call 25; with_reducible refine (get_S w w.heap.size (w.heap.size + 1) r ⟨kd, d, a, b, s, c, n⟩ _ _ ok (by with_reducible assumption)).mono ?_; rintro e wx ⟨rfl, SC⟩))
  go_wp2_with fail
  go_quiet (fail)
  have SD := SK.quiet ok SC nq
  clear SB
  cases hh : holds r c
  all_goals
    rw [hh] at HR HH
    go_wp2_with fail
    refine (HH.out _).mono ?_
    rintro e w' ⟨rfl, hb2⟩
    go_wp2_with fail
    go_ret
    exact ⟨by rw [HR.out]; rfl, SD.2.2.2.trans (hb2.mono SD.2.2.2.size)⟩

theorem reckon_any (r : Rg) (kd d a b s c n : Int) (w : World) (ok : okR r) (hs0 : 0 ≤ s) (hs1 : s < 4) (hn0 : 0 ≤ n) (hn1 : n < 65536) :
    Calls Try.prog 42 #[.agg (rgA r), .agg #[.int .i64 kd, .int .i64 d, .int .i64 a, .int .i64 b, .int .i64 s, .int .i64 c, .int .i64 n]] w fun e w' => e = .returned (.int .u64 ((reckon r ⟨kd, d, a, b, s, c, n⟩).toNat : Int)) ∧ Below w.heap.size w w' := by
  by_cases h0 : kd = 0
  · subst h0; exact reckon0 r d a b s c n w ok hs0 hs1 hn0 hn1
  by_cases h1 : kd = 1
  · subst h1; exact reckon1 r d a b s c n w ok hs0 hs1 hn0 hn1
  by_cases h2 : kd = 2
  · subst h2; exact reckon2 r d a b s c n w ok hs0 hs1 hn0 hn1
  by_cases h3 : kd = 3
  · subst h3; exact reckon3 r d a b s c n w ok hs0 hs1 hn0 hn1
  by_cases h4 : kd = 4
  · subst h4; exact reckon4 r d a b s c n w ok hs0 hs1 hn0 hn1
  by_cases h5 : kd = 5
  · subst h5; exact reckon5 r d a b s c n w ok hs0 hs1 hn0 hn1
  · exact reckon7 r kd d a b s c n w ok hs0 hs1 hn0 hn1 (by simpa using h0) (by simpa using h1) (by simpa using h2) (by simpa using h3) (by simpa using h4) (by simpa using h5)
end Go.Proofs.Ytfbfoooligbcfaa.AluK
