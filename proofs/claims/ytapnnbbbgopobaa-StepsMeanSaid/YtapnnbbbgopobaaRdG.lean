/-
  WALKS: the reference's reader: a statement.
-/
import Derived.Test.YtapnnbbbgopobaaG10
import Derived.Deep.WholeRow
import Derived.Deep.CutBlock
import Derived.Deep.DeepCutAuto
set_option linter.unusedVariables false
set_option linter.unusedSimpArgs false
namespace Go.Proofs.Ytapnnbbbgopobaa.Rr
open Go.RowKit Cm Mm Ow Me Ml Lg Lx
theorem ix_123 (W : World) : (Instr.index 9 (.string ⟨#[123]⟩) (.int .i64 0)).run Try.prog W = .ok (.int .u8 123) W := by kernel_rfl
theorem ix_125 (W : World) : (Instr.index 9 (.string ⟨#[125]⟩) (.int .i64 0)).run Try.prog W = .ok (.int .u8 125) W := by kernel_rfl
theorem ix_59 (W : World) : (Instr.index 9 (.string ⟨#[59]⟩) (.int .i64 0)).run Try.prog W = .ok (.int .u8 59) W := by kernel_rfl
theorem ix_115_101_116 (W : World) : (Instr.index 9 (.string ⟨#[115, 101, 116]⟩) (.int .i64 0)).run Try.prog W = .ok (.int .u8 115) W := by kernel_rfl
theorem ix_108_111_97_100 (W : World) : (Instr.index 9 (.string ⟨#[108, 111, 97, 100]⟩) (.int .i64 0)).run Try.prog W = .ok (.int .u8 108) W := by kernel_rfl
theorem ix_115_116_111_114_101 (W : World) : (Instr.index 9 (.string ⟨#[115, 116, 111, 114, 101]⟩) (.int .i64 0)).run Try.prog W = .ok (.int .u8 115) W := by kernel_rfl
theorem ix_99_97_115 (W : World) : (Instr.index 9 (.string ⟨#[99, 97, 115]⟩) (.int .i64 0)).run Try.prog W = .ok (.int .u8 99) W := by kernel_rfl
theorem ix_102_101_110_99_101 (W : World) : (Instr.index 9 (.string ⟨#[102, 101, 110, 99, 101]⟩) (.int .i64 0)).run Try.prog W = .ok (.int .u8 102) W := by kernel_rfl
theorem ix_111_117_116 (W : World) : (Instr.index 9 (.string ⟨#[111, 117, 116]⟩) (.int .i64 0)).run Try.prog W = .ok (.int .u8 111) W := by kernel_rfl
theorem ix_105_102 (W : World) : (Instr.index 9 (.string ⟨#[105, 102]⟩) (.int .i64 0)).run Try.prog W = .ok (.int .u8 105) W := by kernel_rfl
theorem ix_101_108_115_101 (W : World) : (Instr.index 9 (.string ⟨#[101, 108, 115, 101]⟩) (.int .i64 0)).run Try.prog W = .ok (.int .u8 101) W := by kernel_rfl
theorem ix_119_104_105_108_101 (W : World) : (Instr.index 9 (.string ⟨#[119, 104, 105, 108, 101]⟩) (.int .i64 0)).run Try.prog W = .ok (.int .u8 119) W := by kernel_rfl
structure So (k : Nat) : Prop where
  go : ∀ {w : World} {q : Nat} {f : Fx} {at_ : Nat} {e bad : Int} (h : Rd w q f at_ e bad) (hn : f.n ≤ 20000) (hk : f.n - at_ ≤ k) (d : Int) (hd0 : 0 ≤ d) (hd : d + k ≤ 100000), Calls Try.prog 69 #[.pointer (some ⟨q, 0, none⟩), .int .i64 d] w (StmtA w q f at_ e)
structure Bo (k : Nat) : Prop where
  go : ∀ {w : World} {q : Nat} {f : Fx} {at_ : Nat} {e bad : Int} (h : Rd w q f at_ e bad) (hn : f.n ≤ 20000) (hk : f.n - at_ ≤ k) (d : Int) (hd0 : 0 ≤ d) (hd : d + k ≤ 100000), Calls Try.prog 49 #[.pointer (some ⟨q, 0, none⟩), .int .i64 d] w (BodyA w q f at_ e)
set_option maxRecDepth 20000 in
set_option maxHeartbeats 6400000 in
theorem stmt_of (k : Nat) (IH : ∀ j, j < k → Bo j) : So k := by
  refine ⟨fun {w q f at_ e bad} h hn hk d hd0 hd => ?_⟩
  have hq := h.qlt
  have IHH := Lib.hid IH
  have B0 := Lib.hid (below_new w (.cells #[.int .i64 0, .int .i64 0, .string ⟨#[]⟩, .string ⟨#[]⟩, .int .i64 0, .int .u64 0, .int .u8 0, .string ⟨#[]⟩, .slice none 0 0, .int .i64 0, .int .u64 0, .int .u8 0, .string ⟨#[]⟩, .slice none 0 0, .int .i64 0, .int .u64 0, .int .u8 0, .string ⟨#[]⟩, .slice none 0 0, .slice none 0 0, .slice none 0 0] 122))
  have H0 := Lib.hid (h.keep (below_new w (.cells #[.int .i64 0, .int .i64 0, .string ⟨#[]⟩, .string ⟨#[]⟩, .int .i64 0, .int .u64 0, .int .u8 0, .string ⟨#[]⟩, .slice none 0 0, .int .i64 0, .int .u64 0, .int .u8 0, .string ⟨#[]⟩, .slice none 0 0, .int .i64 0, .int .u64 0, .int .u8 0, .string ⟨#[]⟩, .slice none 0 0, .slice none 0 0, .slice none 0 0] 122)))
  have HK := Lib.hid hk
  have HD := Lib.hid hd
  clear h IH hk hd
  go_enter Try.func69, Try.ntmps69
  go_wp2_with fail
  refine (now_any H0.out).mono ?_
  rintro en w1 ⟨kd, tx, nn, a2, rfl, hb1, -, -⟩
  rename_i K1 hK1 K hK
  refine hK _ _ ?_
  clear hK K
  have HK1 := Lib.hid hK1
  clear hK1
  have hfd : ∀ W : World, (Instr.field 63 (.agg #[.int .i64 kd, .string tx, .int .u64 nn, .int .i64 a2]) 3).run Try.prog W = .ok (.int .i64 a2) W := fun W => fd_any kd tx nn a2 W
  refine wpList_plain rfl fun K2 hK2 => ?_
  have HK2 := Lib.hid hK2
  clear hK2
  go_wp2_with fail
  refine HK2.out _ _ ?_
  clear HK2 K2
  refine wpList_plain rfl fun K3 hK3 => ?_
  have HK3 := Lib.hid hK3
  clear hK3
  go_wp2_with fail
  refine HK3.out _ _ ?_
  clear HK3 K3
  refine wpList_plain rfl fun K4 hK4 => ?_
  have HK4 := Lib.hid hK4
  clear hK4
  go_wp2_with fail
  refine HK4.out _ _ ?_
  clear HK4 K4
  refine wpList_store_row rfl 122 (.tmp 5) (.tmp 10) rfl w1.heap.size #[.int .i64 0, .int .i64 a2, .string ⟨#[]⟩, .string ⟨#[]⟩, .int .i64 0, .int .u64 0, .int .u8 0, .string ⟨#[]⟩, .slice none 0 0, .int .i64 0, .int .u64 0, .int .u8 0, .string ⟨#[]⟩, .slice none 0 0, .int .i64 0, .int .u64 0, .int .u8 0, .string ⟨#[]⟩, .slice none 0 0, .slice none 0 0, .slice none 0 0] rfl rfl 122 _ (heap_alloc_new w1 (.cells #[.int .i64 0, .int .i64 0, .string ⟨#[]⟩, .string ⟨#[]⟩, .int .i64 0, .int .u64 0, .int .u8 0, .string ⟨#[]⟩, .slice none 0 0, .int .i64 0, .int .u64 0, .int .u8 0, .string ⟨#[]⟩, .slice none 0 0, .int .i64 0, .int .u64 0, .int .u8 0, .string ⟨#[]⟩, .slice none 0 0, .slice none 0 0, .slice none 0 0] 122)) (by kernel_rfl) rfl (by as_aux_lemma => (apply one21 <;> rfl)) ?_
  rw [World.setRow_alloc_new]
  apply wpList_nil
  refine HK1.out _ _ ?_
  clear HK1 K1
  have bn := below_new w1 (.cells #[.int .i64 0, .int .i64 a2, .string ⟨#[]⟩, .string ⟨#[]⟩, .int .i64 0, .int .u64 0, .int .u8 0, .string ⟨#[]⟩, .slice none 0 0, .int .i64 0, .int .u64 0, .int .u8 0, .string ⟨#[]⟩, .slice none 0 0, .int .i64 0, .int .u64 0, .int .u8 0, .string ⟨#[]⟩, .slice none 0 0, .slice none 0 0, .slice none 0 0] 122)
  have hs0 : (w.alloc (.cells #[.int .i64 0, .int .i64 0, .string ⟨#[]⟩, .string ⟨#[]⟩, .int .i64 0, .int .u64 0, .int .u8 0, .string ⟨#[]⟩, .slice none 0 0, .int .i64 0, .int .u64 0, .int .u8 0, .string ⟨#[]⟩, .slice none 0 0, .int .i64 0, .int .u64 0, .int .u8 0, .string ⟨#[]⟩, .slice none 0 0, .slice none 0 0, .slice none 0 0] 122)).heap.size = w.heap.size + 1 := by simp
  have hs1 := hb1.size
  have R6 := Lib.hid (H0.out.keep (hb1.trans (bn.mono hs1)))
  have O6 := Lib.hid (Only.of_below (F := [q]) (hb1.trans (bn.mono hs1)))
  have hx6 := heap_alloc_new w1 (.cells #[.int .i64 0, .int .i64 a2, .string ⟨#[]⟩, .string ⟨#[]⟩, .int .i64 0, .int .u64 0, .int .u8 0, .string ⟨#[]⟩, .slice none 0 0, .int .i64 0, .int .u64 0, .int .u8 0, .string ⟨#[]⟩, .slice none 0 0, .int .i64 0, .int .u64 0, .int .u8 0, .string ⟨#[]⟩, .slice none 0 0, .slice none 0 0, .slice none 0 0] 122)
  have hg4 := heap_alloc_new w (.cells #[.int .i64 0, .int .i64 0, .string ⟨#[]⟩, .string ⟨#[]⟩, .int .i64 0, .int .u64 0, .int .u8 0, .string ⟨#[]⟩, .slice none 0 0, .int .i64 0, .int .u64 0, .int .u8 0, .string ⟨#[]⟩, .slice none 0 0, .int .i64 0, .int .u64 0, .int .u8 0, .string ⟨#[]⟩, .slice none 0 0, .slice none 0 0, .slice none 0 0] 122)
  obtain ⟨w0, hw0⟩ : ∃ w0, (w.alloc (.cells #[.int .i64 0, .int .i64 0, .string ⟨#[]⟩, .string ⟨#[]⟩, .int .i64 0, .int .u64 0, .int .u8 0, .string ⟨#[]⟩, .slice none 0 0, .int .i64 0, .int .u64 0, .int .u8 0, .string ⟨#[]⟩, .slice none 0 0, .int .i64 0, .int .u64 0, .int .u8 0, .string ⟨#[]⟩, .slice none 0 0, .slice none 0 0, .slice none 0 0] 122)) = w0 := ⟨_, rfl⟩
  rw [hw0] at H0 hs0 hs1 O6 B0 hg4
  have OB := Lib.hid (Only.of_below (F := [q]) B0.out)
  have S0 : Hid (SI w0 q w1.heap.size f e (w1.alloc (.cells #[.int .i64 0, .int .i64 a2, .string ⟨#[]⟩, .string ⟨#[]⟩, .int .i64 0, .int .u64 0, .int .u8 0, .string ⟨#[]⟩, .slice none 0 0, .int .i64 0, .int .u64 0, .int .u8 0, .string ⟨#[]⟩, .slice none 0 0, .int .i64 0, .int .u64 0, .int .u8 0, .string ⟨#[]⟩, .slice none 0 0, .slice none 0 0, .slice none 0 0] 122)) at_ e bad 3) := Lib.hid (si_new R6.out O6.out (by omega) (by omega) hx6)
  have HG4 := Lib.hid hg4
  clear hb1 bn R6 O6 hx6 H0 hg4
  go_upto_block 0 with fail
  obtain ⟨W, hW⟩ : ∃ W, w1.alloc (.cells #[.int .i64 0, .int .i64 a2, .string ⟨#[]⟩, .string ⟨#[]⟩, .int .i64 0, .int .u64 0, .int .u8 0, .string ⟨#[]⟩, .slice none 0 0, .int .i64 0, .int .u64 0, .int .u8 0, .string ⟨#[]⟩, .slice none 0 0, .int .i64 0, .int .u64 0, .int .u8 0, .string ⟨#[]⟩, .slice none 0 0, .slice none 0 0, .slice none 0 0] 122) = W := ⟨_, rfl⟩
  rw [hW] at S0
  try rw [hw0]
  try rw [hW]
  clear hW hw0
  have hqg0 := S0.out.hqg
  have hlt0 := S0.out.rd.lt
  generalize hg5 : w1.heap.size = g5 at *
  clear hg5
  generalize hg4 : w.heap.size = g4 at *
  have i1 : IntKind.i64.wrap (d + 1) = d + 1 := IntWalk.i64_in _ ⟨by omega, by have := HD.out; omega⟩
  go_cut [6] (fun t6 wx => ∃ (bt : Bool) (at2 : Nat) (e2 bad2 : Int) (N : Nat), t6 = .bool bt ∧ SI w0 q g5 f e wx at2 e2 bad2 N ∧ at_ ≤ at2 ∧ (e2 = 0 → at_ < at2 ∧ N + 4 * at_ < 4 * at2))
  case first =>
    go_wp2_with fail
    refine (take_any S0.out.rd hn ⟨#[115, 101, 116]⟩ 115 ix_115_101_116).mono ?_
    rintro en w1x ⟨bb, at1, rfl, hr, ho, ht, hf⟩
    have S1 := Lib.hid (S0.out.call hr ho id)
    clear hr ho S0
    cases bb
    rotate_left
    · have Z1 : at_ < at1 := by have := (ht rfl).2; omega
      have V1 : 3 + 4 * at_ < 4 * at1 := by have := (ht rfl).2; omega
      clear ht hf
      go_wp2_with fail
      refine (name_any S1.out.rd hn).mono ?_
      rintro en w2x ⟨nm2, at2, e2, bad2, rfl, hr, ho, hat, hok, hsz⟩
      have Z2 : at_ < at2 := Nat.lt_of_lt_of_le Z1 hat
      have V2 : 3 + 4 * at_ < 4 * at2 := by have := V1; omega
      have T2 := S1.out.call hr ho (fun h0 => (hok h0).1)
      have hfr := T2.free
      obtain ⟨c0, hc0⟩ := T2.cell 2 (by omega)
      have S2 := Lib.hid (T2.name nm2 hsz)
      clear S1 T2 hr ho hok hat hsz
      go_upto_region 6 with fail
      obtain ⟨W2, hW⟩ : ∃ W2, w2x.setCell ⟨g5, 2, none⟩ (.string nm2) = W2 := ⟨_, rfl⟩
      rw [hW] at S2
      try rw [hW]
      clear hW hfr hc0
      go_wp2_with fail
      have hl3 := S2.out.lt
      refine (eo0.go S2.out.rd hn).mono ?_
      rintro en w3x ⟨vs, at3, e3, bad3, rfl, ⟨v0, v1, v2, v3, vA, vm, vc, rfl⟩, hr, ho, hat, hok⟩
      have Z3 : at_ < at3 := Nat.lt_of_lt_of_le Z2 hat
      have V3 : (3 + (at3 - at2)) + 4 * at_ < 4 * at3 := by have := V2; omega
      have T3 := S2.out.call hr ho (fun h0 => (hok h0).1)
      have hfr := T3.free
      obtain ⟨c0, hc0⟩ := T3.cell 9 (by omega)
      obtain ⟨c1, hc1⟩ := T3.cell 10 (by omega)
      obtain ⟨c2, hc2⟩ := T3.cell 11 (by omega)
      obtain ⟨c3, hc3⟩ := T3.cell 12 (by omega)
      obtain ⟨c4, hc4⟩ := T3.cell 13 (by omega)
      have S3 := Lib.hid (T3.setX v0 v1 v2 v3 vA vm vc (at3 - at2) (fun h0 => by obtain ⟨-, -, x, hx, hlx⟩ := hok h0; exact ⟨x, exV_low (by omega) hx, by omega⟩))
      clear S2 T3 hr ho hok hat
      go_wp2_with fail
      go_meet
      case rel => exact ⟨true, at3, _, _, (3 + (at3 - at2)), rfl, S3.out, Nat.le_of_lt Z3, fun _ => ⟨Z3, V3⟩⟩
    rw [hf rfl] at S1
    clear ht hf
    go_wp2_with fail
    refine (take_any S1.out.rd hn ⟨#[108, 111, 97, 100]⟩ 108 ix_108_111_97_100).mono ?_
    rintro en w4x ⟨bb, at4, rfl, hr, ho, ht, hf⟩
    have S4 := Lib.hid (S1.out.call hr ho id)
    clear hr ho S1
    cases bb
    rotate_left
    · have Z4 : at_ < at4 := by have := (ht rfl).2; omega
      have V4 : 3 + 4 * at_ < 4 * at4 := by have := (ht rfl).2; omega
      clear ht hf
      go_upto_region 8 with fail
      have hfr := S4.out.free
      obtain ⟨c0, hc0⟩ := S4.out.cell 0 (by omega)
      have S5 := Lib.hid (S4.out.kind 1)
      clear S4
      go_upto_region 9 with fail
      obtain ⟨W5, hW⟩ : ∃ W5, w4x.setCell ⟨g5, 0, none⟩ (.int .i64 1) = W5 := ⟨_, rfl⟩
      rw [hW] at S5
      try rw [hW]
      clear hW hfr hc0
      go_wp2_with fail
      refine (name_any S5.out.rd hn).mono ?_
      rintro en w6x ⟨nm6, at6, e6, bad6, rfl, hr, ho, hat, hok, hsz⟩
      have Z6 : at_ < at6 := Nat.lt_of_lt_of_le Z4 hat
      have V6 : 3 + 4 * at_ < 4 * at6 := by have := V4; omega
      have T6 := S5.out.call hr ho (fun h0 => (hok h0).1)
      have hfr := T6.free
      obtain ⟨c0, hc0⟩ := T6.cell 2 (by omega)
      have S6 := Lib.hid (T6.name nm6 hsz)
      clear S5 T6 hr ho hok hat hsz
      go_upto_region 10 with fail
      obtain ⟨W6, hW⟩ : ∃ W6, w6x.setCell ⟨g5, 2, none⟩ (.string nm6) = W6 := ⟨_, rfl⟩
      rw [hW] at S6
      try rw [hW]
      clear hW hfr hc0
      go_wp2_with fail
      refine (place_any S6.out hn).mono ?_
      rintro en w7x ⟨rfl, at7, e7, bad7, N7, hS, hat, hok, hN⟩
      have Z7 : at_ < at7 := Nat.lt_of_lt_of_le Z6 hat
      have S7 := Lib.hid hS
      have V7 : N7 + 4 * at_ < 4 * at7 := by have := V6; omega
      clear hS hok hat hN S6
      go_wp2_with fail
      go_meet
      case rel => exact ⟨true, at7, _, _, N7, rfl, S7.out, Nat.le_of_lt Z7, fun _ => ⟨Z7, V7⟩⟩
    rw [hf rfl] at S4
    clear ht hf
    go_wp2_with fail
    refine (take_any S4.out.rd hn ⟨#[115, 116, 111, 114, 101]⟩ 115 ix_115_116_111_114_101).mono ?_
    rintro en w8x ⟨bb, at8, rfl, hr, ho, ht, hf⟩
    have S8 := Lib.hid (S4.out.call hr ho id)
    clear hr ho S4
    cases bb
    rotate_left
    · have Z8 : at_ < at8 := by have := (ht rfl).2; omega
      have V8 : 3 + 4 * at_ < 4 * at8 := by have := (ht rfl).2; omega
      clear ht hf
      go_upto_region 12 with fail
      have hfr := S8.out.free
      obtain ⟨c0, hc0⟩ := S8.out.cell 0 (by omega)
      have S9 := Lib.hid (S8.out.kind 2)
      clear S8
      go_upto_region 13 with fail
      obtain ⟨W9, hW⟩ : ∃ W9, w8x.setCell ⟨g5, 0, none⟩ (.int .i64 2) = W9 := ⟨_, rfl⟩
      rw [hW] at S9
      try rw [hW]
      clear hW hfr hc0
      go_wp2_with fail
      refine (place_any S9.out hn).mono ?_
      rintro en w10x ⟨rfl, at10, e10, bad10, N10, hS, hat, hok, hN⟩
      have Z10 : at_ < at10 := Nat.lt_of_lt_of_le Z8 hat
      have S10 := Lib.hid hS
      have V10 : N10 + 4 * at_ < 4 * at10 := by have := V8; omega
      clear hS hok hat hN S9
      go_wp2_with fail
      have hl11 := S10.out.lt
      refine (eo0.go S10.out.rd hn).mono ?_
      rintro en w11x ⟨vs, at11, e11, bad11, rfl, ⟨v0, v1, v2, v3, vA, vm, vc, rfl⟩, hr, ho, hat, hok⟩
      have Z11 : at_ < at11 := Nat.lt_of_lt_of_le Z10 hat
      have V11 : (N10 + (at11 - at10)) + 4 * at_ < 4 * at11 := by have := V10; omega
      have T11 := S10.out.call hr ho (fun h0 => (hok h0).1)
      have hfr := T11.free
      obtain ⟨c0, hc0⟩ := T11.cell 9 (by omega)
      obtain ⟨c1, hc1⟩ := T11.cell 10 (by omega)
      obtain ⟨c2, hc2⟩ := T11.cell 11 (by omega)
      obtain ⟨c3, hc3⟩ := T11.cell 12 (by omega)
      obtain ⟨c4, hc4⟩ := T11.cell 13 (by omega)
      have S11 := Lib.hid (T11.setX v0 v1 v2 v3 vA vm vc (at11 - at10) (fun h0 => by obtain ⟨-, -, x, hx, hlx⟩ := hok h0; exact ⟨x, exV_low (by omega) hx, by omega⟩))
      clear S10 T11 hr ho hok hat
      go_wp2_with fail
      go_meet
      case rel => exact ⟨true, at11, _, _, (N10 + (at11 - at10)), rfl, S11.out, Nat.le_of_lt Z11, fun _ => ⟨Z11, V11⟩⟩
    rw [hf rfl] at S8
    clear ht hf
    go_wp2_with fail
    refine (take_any S8.out.rd hn ⟨#[99, 97, 115]⟩ 99 ix_99_97_115).mono ?_
    rintro en w12x ⟨bb, at12, rfl, hr, ho, ht, hf⟩
    have S12 := Lib.hid (S8.out.call hr ho id)
    clear hr ho S8
    cases bb
    rotate_left
    · have Z12 : at_ < at12 := by have := (ht rfl).2; omega
      have V12 : 3 + 4 * at_ < 4 * at12 := by have := (ht rfl).2; omega
      clear ht hf
      go_upto_region 16 with fail
      have hfr := S12.out.free
      obtain ⟨c0, hc0⟩ := S12.out.cell 0 (by omega)
      have S13 := Lib.hid (S12.out.kind 3)
      clear S12
      go_upto_region 17 with fail
      obtain ⟨W13, hW⟩ : ∃ W13, w12x.setCell ⟨g5, 0, none⟩ (.int .i64 3) = W13 := ⟨_, rfl⟩
      rw [hW] at S13
      try rw [hW]
      clear hW hfr hc0
      go_wp2_with fail
      refine (name_any S13.out.rd hn).mono ?_
      rintro en w14x ⟨nm14, at14, e14, bad14, rfl, hr, ho, hat, hok, hsz⟩
      have Z14 : at_ < at14 := Nat.lt_of_lt_of_le Z12 hat
      have V14 : 3 + 4 * at_ < 4 * at14 := by have := V12; omega
      have T14 := S13.out.call hr ho (fun h0 => (hok h0).1)
      have hfr := T14.free
      obtain ⟨c0, hc0⟩ := T14.cell 2 (by omega)
      have S14 := Lib.hid (T14.name nm14 hsz)
      clear S13 T14 hr ho hok hat hsz
      go_upto_region 18 with fail
      obtain ⟨W14, hW⟩ : ∃ W14, w14x.setCell ⟨g5, 2, none⟩ (.string nm14) = W14 := ⟨_, rfl⟩
      rw [hW] at S14
      try rw [hW]
      clear hW hfr hc0
      go_wp2_with fail
      refine (place_any S14.out hn).mono ?_
      rintro en w15x ⟨rfl, at15, e15, bad15, N15, hS, hat, hok, hN⟩
      have Z15 : at_ < at15 := Nat.lt_of_lt_of_le Z14 hat
      have S15 := Lib.hid hS
      have V15 : N15 + 4 * at_ < 4 * at15 := by have := V14; omega
      clear hS hok hat hN S14
      go_wp2_with fail
      have hl16 := S15.out.lt
      refine (eo0.go S15.out.rd hn).mono ?_
      rintro en w16x ⟨vs, at16, e16, bad16, rfl, ⟨v0, v1, v2, v3, vA, vm, vc, rfl⟩, hr, ho, hat, hok⟩
      have Z16 : at_ < at16 := Nat.lt_of_lt_of_le Z15 hat
      have V16 : (N15 + (at16 - at15)) + 4 * at_ < 4 * at16 := by have := V15; omega
      have T16 := S15.out.call hr ho (fun h0 => (hok h0).1)
      have hfr := T16.free
      obtain ⟨c0, hc0⟩ := T16.cell 9 (by omega)
      obtain ⟨c1, hc1⟩ := T16.cell 10 (by omega)
      obtain ⟨c2, hc2⟩ := T16.cell 11 (by omega)
      obtain ⟨c3, hc3⟩ := T16.cell 12 (by omega)
      obtain ⟨c4, hc4⟩ := T16.cell 13 (by omega)
      have S16 := Lib.hid (T16.setX v0 v1 v2 v3 vA vm vc (at16 - at15) (fun h0 => by obtain ⟨-, -, x, hx, hlx⟩ := hok h0; exact ⟨x, exV_low (by omega) hx, by omega⟩))
      clear S15 T16 hr ho hok hat
      go_upto_region 20 with fail
      obtain ⟨W16, hW⟩ : ∃ W16, (((((w16x.setCell ⟨g5, 9, none⟩ (.int .i64 v0)).setCell ⟨g5, 10, none⟩ (.int .u64 v1)).setCell ⟨g5, 11, none⟩ (.int .u8 v2)).setCell ⟨g5, 12, none⟩ (.string v3)).setCell ⟨g5, 13, none⟩ (.slice vA vm vc)) = W16 := ⟨_, rfl⟩
      rw [hW] at S16
      try rw [hW]
      clear hW hfr hc0 hc1 hc2 hc3 hc4
      go_wp2_with fail
      have hl17 := S16.out.lt
      refine (eo0.go S16.out.rd hn).mono ?_
      rintro en w17x ⟨vs, at17, e17, bad17, rfl, ⟨v0, v1, v2, v3, vA, vm, vc, rfl⟩, hr, ho, hat, hok⟩
      have Z17 : at_ < at17 := Nat.lt_of_lt_of_le Z16 hat
      have V17 : ((N15 + (at16 - at15)) + (at17 - at16)) + 4 * at_ < 4 * at17 := by have := V16; omega
      have T17 := S16.out.call hr ho (fun h0 => (hok h0).1)
      have hfr := T17.free
      obtain ⟨c0, hc0⟩ := T17.cell 14 (by omega)
      obtain ⟨c1, hc1⟩ := T17.cell 15 (by omega)
      obtain ⟨c2, hc2⟩ := T17.cell 16 (by omega)
      obtain ⟨c3, hc3⟩ := T17.cell 17 (by omega)
      obtain ⟨c4, hc4⟩ := T17.cell 18 (by omega)
      have S17 := Lib.hid (T17.setY v0 v1 v2 v3 vA vm vc (at17 - at16) (fun h0 => by obtain ⟨-, -, x, hx, hlx⟩ := hok h0; exact ⟨x, exV_low (by omega) hx, by omega⟩))
      clear S16 T17 hr ho hok hat
      go_wp2_with fail
      go_meet
      case rel => exact ⟨true, at17, _, _, ((N15 + (at16 - at15)) + (at17 - at16)), rfl, S17.out, Nat.le_of_lt Z17, fun _ => ⟨Z17, V17⟩⟩
    rw [hf rfl] at S12
    clear ht hf
    go_wp2_with fail
    refine (take_any S12.out.rd hn ⟨#[102, 101, 110, 99, 101]⟩ 102 ix_102_101_110_99_101).mono ?_
    rintro en w18x ⟨bb, at18, rfl, hr, ho, ht, hf⟩
    have S18 := Lib.hid (S12.out.call hr ho id)
    clear hr ho S12
    cases bb
    rotate_left
    · have Z18 : at_ < at18 := by have := (ht rfl).2; omega
      have V18 : 3 + 4 * at_ < 4 * at18 := by have := (ht rfl).2; omega
      clear ht hf
      go_upto_region 22 with fail
      have hfr := S18.out.free
      obtain ⟨c0, hc0⟩ := S18.out.cell 0 (by omega)
      have S19 := Lib.hid (S18.out.kind 4)
      clear S18
      go_wp2_with fail
      go_meet
      case rel => exact ⟨true, at18, _, _, 3, rfl, S19.out, Nat.le_of_lt Z18, fun _ => ⟨Z18, V18⟩⟩
    rw [hf rfl] at S18
    clear ht hf
    go_wp2_with fail
    refine (take_any S18.out.rd hn ⟨#[111, 117, 116]⟩ 111 ix_111_117_116).mono ?_
    rintro en w20x ⟨bb, at20, rfl, hr, ho, ht, hf⟩
    have S20 := Lib.hid (S18.out.call hr ho id)
    clear hr ho S18
    cases bb
    rotate_left
    · have Z20 : at_ < at20 := by have := (ht rfl).2; omega
      have V20 : 3 + 4 * at_ < 4 * at20 := by have := (ht rfl).2; omega
      clear ht hf
      go_upto_region 24 with fail
      have hfr := S20.out.free
      obtain ⟨c0, hc0⟩ := S20.out.cell 0 (by omega)
      have S21 := Lib.hid (S20.out.kind 5)
      clear S20
      go_upto_region 25 with fail
      obtain ⟨W21, hW⟩ : ∃ W21, w20x.setCell ⟨g5, 0, none⟩ (.int .i64 5) = W21 := ⟨_, rfl⟩
      rw [hW] at S21
      try rw [hW]
      clear hW hfr hc0
      go_wp2_with fail
      have hl22 := S21.out.lt
      refine (eo0.go S21.out.rd hn).mono ?_
      rintro en w22x ⟨vs, at22, e22, bad22, rfl, ⟨v0, v1, v2, v3, vA, vm, vc, rfl⟩, hr, ho, hat, hok⟩
      have Z22 : at_ < at22 := Nat.lt_of_lt_of_le Z20 hat
      have V22 : (3 + (at22 - at20)) + 4 * at_ < 4 * at22 := by have := V20; omega
      have T22 := S21.out.call hr ho (fun h0 => (hok h0).1)
      have hfr := T22.free
      obtain ⟨c0, hc0⟩ := T22.cell 9 (by omega)
      obtain ⟨c1, hc1⟩ := T22.cell 10 (by omega)
      obtain ⟨c2, hc2⟩ := T22.cell 11 (by omega)
      obtain ⟨c3, hc3⟩ := T22.cell 12 (by omega)
      obtain ⟨c4, hc4⟩ := T22.cell 13 (by omega)
      have S22 := Lib.hid (T22.setX v0 v1 v2 v3 vA vm vc (at22 - at20) (fun h0 => by obtain ⟨-, -, x, hx, hlx⟩ := hok h0; exact ⟨x, exV_low (by omega) hx, by omega⟩))
      clear S21 T22 hr ho hok hat
      go_wp2_with fail
      go_meet
      case rel => exact ⟨true, at22, _, _, (3 + (at22 - at20)), rfl, S22.out, Nat.le_of_lt Z22, fun _ => ⟨Z22, V22⟩⟩
    rw [hf rfl] at S20
    clear ht hf
    go_wp2_with fail
    refine (take_any S20.out.rd hn ⟨#[105, 102]⟩ 105 ix_105_102).mono ?_
    rintro en w23x ⟨bb, at23, rfl, hr, ho, ht, hf⟩
    have S23 := Lib.hid (S20.out.call hr ho id)
    clear hr ho S20
    cases bb
    rotate_left
    · have Z23 : at_ < at23 := by have := (ht rfl).2; omega
      have V23 : 3 + 4 * at_ < 4 * at23 := by have := (ht rfl).2; omega
      clear ht hf
      go_upto_region 27 with fail
      have hfr := S23.out.free
      obtain ⟨c0, hc0⟩ := S23.out.cell 0 (by omega)
      have S24 := Lib.hid (S23.out.kind 6)
      clear S23
      go_upto_region 28 with fail
      obtain ⟨W24, hW⟩ : ∃ W24, w23x.setCell ⟨g5, 0, none⟩ (.int .i64 6) = W24 := ⟨_, rfl⟩
      rw [hW] at S24
      try rw [hW]
      clear hW hfr hc0
      go_wp2_with fail
      have hl25 := S24.out.lt
      refine (eo0.go S24.out.rd hn).mono ?_
      rintro en w25x ⟨vs, at25, e25, bad25, rfl, ⟨v0, v1, v2, v3, vA, vm, vc, rfl⟩, hr, ho, hat, hok⟩
      have Z25 : at_ < at25 := Nat.lt_of_lt_of_le Z23 hat
      have V25 : (3 + (at25 - at23)) + 4 * at_ < 4 * at25 := by have := V23; omega
      have T25 := S24.out.call hr ho (fun h0 => (hok h0).1)
      have hfr := T25.free
      obtain ⟨c0, hc0⟩ := T25.cell 9 (by omega)
      obtain ⟨c1, hc1⟩ := T25.cell 10 (by omega)
      obtain ⟨c2, hc2⟩ := T25.cell 11 (by omega)
      obtain ⟨c3, hc3⟩ := T25.cell 12 (by omega)
      obtain ⟨c4, hc4⟩ := T25.cell 13 (by omega)
      have S25 := Lib.hid (T25.setX v0 v1 v2 v3 vA vm vc (at25 - at23) (fun h0 => by obtain ⟨-, -, x, hx, hlx⟩ := hok h0; exact ⟨x, exV_low (by omega) hx, by omega⟩))
      clear S24 T25 hr ho hok hat
      go_upto_region 29 with fail
      obtain ⟨W25, hW⟩ : ∃ W25, (((((w25x.setCell ⟨g5, 9, none⟩ (.int .i64 v0)).setCell ⟨g5, 10, none⟩ (.int .u64 v1)).setCell ⟨g5, 11, none⟩ (.int .u8 v2)).setCell ⟨g5, 12, none⟩ (.string v3)).setCell ⟨g5, 13, none⟩ (.slice vA vm vc)) = W25 := ⟨_, rfl⟩
      rw [hW] at S25
      try rw [hW]
      clear hW hfr hc0 hc1 hc2 hc3 hc4
      go_wp2_with fail
      have hl26 := S25.out.lt
      have hr26 := S25.out.rd.lt
      refine ((IHH.out (f.n - at25) (by have := HK.out; omega)).go S25.out.rd hn (Nat.le_refl _) (d + 1) (by omega) (by have := HD.out; have := HK.out; omega)).mono ?_
      rintro en w26x ⟨A, nb, cb, at26, e26, bad26, rfl, hr, ho, hat, hok⟩
      have Z26 : at_ < at26 := Nat.lt_of_lt_of_le Z25 hat
      have V26 : ((3 + (at25 - at23)) + 4 * (at26 - at25)) + 4 * at_ < 4 * at26 := by have := V25; omega
      have T26 := S25.out.call hr ho (fun h0 => (hok h0).1)
      have hfr := T26.free
      obtain ⟨c0, hc0⟩ := T26.cell 19 (by omega)
      have S26 := Lib.hid (T26.setB A nb cb (4 * (at26 - at25)) (fun h0 => by obtain ⟨-, b, hb, hlb⟩ := hok h0; exact ⟨b, hb.low (by omega), by omega⟩))
      clear S25 T26 hr ho hok hat
      go_upto_region 30 with fail
      obtain ⟨W26, hW⟩ : ∃ W26, w26x.setCell ⟨g5, 19, none⟩ (.slice A nb cb) = W26 := ⟨_, rfl⟩
      rw [hW] at S26
      try rw [hW]
      clear hW hfr hc0
      go_wp2_with fail
      refine (take_any S26.out.rd hn ⟨#[101, 108, 115, 101]⟩ 101 ix_101_108_115_101).mono ?_
      rintro en w27x ⟨bb, at27, rfl, hr, ho, ht, hf⟩
      have S27 := Lib.hid (S26.out.call hr ho id)
      clear hr ho S26
      cases bb
      rotate_left
      · have Z27 : at_ < at27 := by have := (ht rfl).2; omega
        have V27 : ((3 + (at25 - at23)) + 4 * (at26 - at25)) + 4 * at_ < 4 * at27 := by have := (ht rfl).2; have := V26; omega
        clear ht hf
        go_wp2_with fail
        have hl28 := S27.out.lt
        have hr28 := S27.out.rd.lt
        refine ((IHH.out (f.n - at27) (by have := HK.out; omega)).go S27.out.rd hn (Nat.le_refl _) (d + 1) (by omega) (by have := HD.out; have := HK.out; omega)).mono ?_
        rintro en w28x ⟨A, nb, cb, at28, e28, bad28, rfl, hr, ho, hat, hok⟩
        have Z28 : at_ < at28 := Nat.lt_of_lt_of_le Z27 hat
        have V28 : (((3 + (at25 - at23)) + 4 * (at26 - at25)) + 4 * (at28 - at27)) + 4 * at_ < 4 * at28 := by have := V27; omega
        have T28 := S27.out.call hr ho (fun h0 => (hok h0).1)
        have hfr := T28.free
        obtain ⟨c0, hc0⟩ := T28.cell 20 (by omega)
        have S28 := Lib.hid (T28.setE A nb cb (4 * (at28 - at27)) (fun h0 => by obtain ⟨-, b, hb, hlb⟩ := hok h0; exact ⟨b, hb.low (by omega), by omega⟩))
        clear S27 T28 hr ho hok hat
        go_wp2_with fail
        go_meet
        case rel => exact ⟨false, at28, _, _, (((3 + (at25 - at23)) + 4 * (at26 - at25)) + 4 * (at28 - at27)), rfl, S28.out, Nat.le_of_lt Z28, fun _ => ⟨Z28, V28⟩⟩
      rw [hf rfl] at S27
      clear ht hf
      go_wp2_with fail
      go_meet
      case rel => exact ⟨false, _, _, _, _, rfl, S27.out, Nat.le_of_lt Z26, fun _ => ⟨Z26, V26⟩⟩
    rw [hf rfl] at S23
    clear ht hf
    go_wp2_with fail
    refine (take_any S23.out.rd hn ⟨#[119, 104, 105, 108, 101]⟩ 119 ix_119_104_105_108_101).mono ?_
    rintro en w29x ⟨bb, at29, rfl, hr, ho, ht, hf⟩
    have S29 := Lib.hid (S23.out.call hr ho id)
    clear hr ho S23
    cases bb
    rotate_left
    · have Z29 : at_ < at29 := by have := (ht rfl).2; omega
      have V29 : 3 + 4 * at_ < 4 * at29 := by have := (ht rfl).2; omega
      clear ht hf
      go_upto_region 34 with fail
      have hfr := S29.out.free
      obtain ⟨c0, hc0⟩ := S29.out.cell 0 (by omega)
      have S30 := Lib.hid (S29.out.kind 7)
      clear S29
      go_upto_region 35 with fail
      obtain ⟨W30, hW⟩ : ∃ W30, w29x.setCell ⟨g5, 0, none⟩ (.int .i64 7) = W30 := ⟨_, rfl⟩
      rw [hW] at S30
      try rw [hW]
      clear hW hfr hc0
      go_wp2_with fail
      have hl31 := S30.out.lt
      refine (eo0.go S30.out.rd hn).mono ?_
      rintro en w31x ⟨vs, at31, e31, bad31, rfl, ⟨v0, v1, v2, v3, vA, vm, vc, rfl⟩, hr, ho, hat, hok⟩
      have Z31 : at_ < at31 := Nat.lt_of_lt_of_le Z29 hat
      have V31 : (3 + (at31 - at29)) + 4 * at_ < 4 * at31 := by have := V29; omega
      have T31 := S30.out.call hr ho (fun h0 => (hok h0).1)
      have hfr := T31.free
      obtain ⟨c0, hc0⟩ := T31.cell 9 (by omega)
      obtain ⟨c1, hc1⟩ := T31.cell 10 (by omega)
      obtain ⟨c2, hc2⟩ := T31.cell 11 (by omega)
      obtain ⟨c3, hc3⟩ := T31.cell 12 (by omega)
      obtain ⟨c4, hc4⟩ := T31.cell 13 (by omega)
      have S31 := Lib.hid (T31.setX v0 v1 v2 v3 vA vm vc (at31 - at29) (fun h0 => by obtain ⟨-, -, x, hx, hlx⟩ := hok h0; exact ⟨x, exV_low (by omega) hx, by omega⟩))
      clear S30 T31 hr ho hok hat
      go_upto_region 36 with fail
      obtain ⟨W31, hW⟩ : ∃ W31, (((((w31x.setCell ⟨g5, 9, none⟩ (.int .i64 v0)).setCell ⟨g5, 10, none⟩ (.int .u64 v1)).setCell ⟨g5, 11, none⟩ (.int .u8 v2)).setCell ⟨g5, 12, none⟩ (.string v3)).setCell ⟨g5, 13, none⟩ (.slice vA vm vc)) = W31 := ⟨_, rfl⟩
      rw [hW] at S31
      try rw [hW]
      clear hW hfr hc0 hc1 hc2 hc3 hc4
      go_wp2_with fail
      have hl32 := S31.out.lt
      have hr32 := S31.out.rd.lt
      refine ((IHH.out (f.n - at31) (by have := HK.out; omega)).go S31.out.rd hn (Nat.le_refl _) (d + 1) (by omega) (by have := HD.out; have := HK.out; omega)).mono ?_
      rintro en w32x ⟨A, nb, cb, at32, e32, bad32, rfl, hr, ho, hat, hok⟩
      have Z32 : at_ < at32 := Nat.lt_of_lt_of_le Z31 hat
      have V32 : ((3 + (at31 - at29)) + 4 * (at32 - at31)) + 4 * at_ < 4 * at32 := by have := V31; omega
      have T32 := S31.out.call hr ho (fun h0 => (hok h0).1)
      have hfr := T32.free
      obtain ⟨c0, hc0⟩ := T32.cell 19 (by omega)
      have S32 := Lib.hid (T32.setB A nb cb (4 * (at32 - at31)) (fun h0 => by obtain ⟨-, b, hb, hlb⟩ := hok h0; exact ⟨b, hb.low (by omega), by omega⟩))
      clear S31 T32 hr ho hok hat
      go_wp2_with fail
      go_meet
      case rel => exact ⟨false, at32, _, _, ((3 + (at31 - at29)) + 4 * (at32 - at31)), rfl, S32.out, Nat.le_of_lt Z32, fun _ => ⟨Z32, V32⟩⟩
    rw [hf rfl] at S29
    clear ht hf
    go_wp2_with fail
    refine (fail_any S29.out.rd 2 (by decide)).mono ?_
    rintro en w33x ⟨rfl, e33, bad33, hr, hne, ho⟩
    have S33 := Lib.hid (S29.out.call hr ho (fun h0 => absurd h0 hne))
    go_wp2_with fail
    go_meet
    case rel => exact ⟨true, _, e33, bad33, _, rfl, S33.out, Nat.le_refl _, fun h => absurd h hne⟩
  case rest =>
    obtain ⟨bt, at2, e2, bad2, N, rfl, hS, hat2, hok2⟩ := hcut
    have S := Lib.hid hS
    have HO2 := Lib.hid hok2
    clear hS hok2 hfd
    cases bt
    ·
      obtain ⟨k2, a3, nm, cl, vi, vx, vy, BA, bn, bc, EA, en2, ec, hV⟩ := S.out
      obtain ⟨i1, i2, i3, i4, iA, im, ic, rfl⟩ := hV.si
      obtain ⟨x1, x2, x3, x4, xA, xm, xc, rfl⟩ := hV.sx
      obtain ⟨y1, y2, y3, y4, yA, ym, yc, rfl⟩ := hV.sy
      have hz4 := (hV.on.block g4 (by omega) (by simp; omega)).trans HG4.out
      have hcs := hV.cs
      have HV := Lib.hid hV
      have HZ := Lib.hid hz4
      have HC := Lib.hid hcs
      clear hV hz4 hcs S
      go_upto_region 40 with fail
      apply wp_region_lit
      refine wpList_load_row rfl 122 (.tmp 5) rfl g5 rfl 122 #[.int .i64 k2, .int .i64 a3, .string nm, .string cl, .int .i64 i1, .int .u64 i2, .int .u8 i3, .string i4, .slice iA im ic, .int .i64 x1, .int .u64 x2, .int .u8 x3, .string x4, .slice xA xm xc, .int .i64 y1, .int .u64 y2, .int .u8 y3, .string y4, .slice yA ym yc, .slice BA bn bc, .slice EA en2 ec] (0, 0) _ HC.out Try.underlying122 rfl (by kernel_rfl) ?_
      refine wpList_store_row rfl 122 (.tmp 4) (.tmp 100) rfl g4 #[.int .i64 k2, .int .i64 a3, .string nm, .string cl, .int .i64 i1, .int .u64 i2, .int .u8 i3, .string i4, .slice iA im ic, .int .i64 x1, .int .u64 x2, .int .u8 x3, .string x4, .slice xA xm xc, .int .i64 y1, .int .u64 y2, .int .u8 y3, .string y4, .slice yA ym yc, .slice BA bn bc, .slice EA en2 ec] rfl rfl 122 _ HZ.out (by kernel_rfl) rfl (by as_aux_lemma => (apply one21 <;> rfl)) ?_
      obtain ⟨W9, hW9⟩ : ∃ W9, wc.setRow g4 #[.int .i64 k2, .int .i64 a3, .string nm, .string cl, .int .i64 i1, .int .u64 i2, .int .u8 i3, .string i4, .slice iA im ic, .int .i64 x1, .int .u64 x2, .int .u8 x3, .string x4, .slice xA xm xc, .int .i64 y1, .int .u64 y2, .int .u8 y3, .string y4, .slice yA ym yc, .slice BA bn bc, .slice EA en2 ec] = W9 := ⟨_, rfl⟩
      have hc9 := setRow_heap wc g4 _ #[.int .i64 k2, .int .i64 a3, .string nm, .string cl, .int .i64 i1, .int .u64 i2, .int .u8 i3, .string i4, .slice iA im ic, .int .i64 x1, .int .u64 x2, .int .u8 x3, .string x4, .slice xA xm xc, .int .i64 y1, .int .u64 y2, .int .u8 y3, .string y4, .slice yA ym yc, .slice BA bn bc, .slice EA en2 ec] 122 _ HZ.out
      have O21 : Only [g4] wc (wc.setRow g4 #[.int .i64 k2, .int .i64 a3, .string nm, .string cl, .int .i64 i1, .int .u64 i2, .int .u8 i3, .string i4, .slice iA im ic, .int .i64 x1, .int .u64 x2, .int .u8 x3, .string x4, .slice xA xm xc, .int .i64 y1, .int .u64 y2, .int .u8 y3, .string y4, .slice yA ym yc, .slice BA bn bc, .slice EA en2 ec]) := ⟨rfl, rfl, rfl, by simp [World.setRow], fun k hk hn => setRow_other wc g4 k _ (by simpa using hn)⟩
      rw [hW9] at hc9 O21
      try rw [hW9]
      have HC9 := Lib.hid hc9
      have HO21 := Lib.hid O21
      clear hW9 hc9 O21
      go_wp2_with fail
      have O21 := HO21.out
      refine stmt_ret (g := g4) rfl HC9.out ?_
      refine ⟨k2, a3, nm, cl, _, _, _, BA, bn, bc, EA, en2, ec, at2, e2, _, rfl, HV.out.si, HV.out.sx, HV.out.sy, HV.out.rd.only O21 (fun x hx => by simp at hx; omega), ((OB.out.seq HV.out.on).trans (F' := [g4]) O21 (fun x hx => by simp at hx; subst hx; exact .inr (Nat.le_of_eq hg4))), hat2, fun h0 => ?_⟩
      obtain ⟨he0, hS⟩ := HV.out.ok h0
      obtain ⟨i, x, y, b, b2, hi, hx, hy, hb, hb2, hw⟩ := hS.only O21 (fun x hx => by simp at hx; omega)
      exact ⟨he0, (HO2.out h0).1, ⟨k2, a3, nm, cl, i, x, y⟩, b, b2, (by have := (HO2.out h0).2; unfold wtS; dsimp only; omega), _, _, _, _, _, _, _, _, _, rfl, exV_low (by omega) hi, exV_low (by omega) hx, exV_low (by omega) hy, HV.out.ns, HV.out.ls, hb.low (by omega), hb2.low (by omega)⟩
    · go_wp2_with fail
      refine (want_any S.out.rd hn ⟨#[59]⟩ 59 ix_59).mono ?_
      rintro en w9 ⟨rfl, at9, e9, bad9, hr, ho, hat, hok⟩
      have S9 := Lib.hid (S.out.call hr ho (fun h0 => (hok h0).1))
      have HO9 := Lib.hid hok
      clear hr ho hok S
      obtain ⟨k2, a3, nm, cl, vi, vx, vy, BA, bn, bc, EA, en2, ec, hV⟩ := S9.out
      obtain ⟨i1, i2, i3, i4, iA, im, ic, rfl⟩ := hV.si
      obtain ⟨x1, x2, x3, x4, xA, xm, xc, rfl⟩ := hV.sx
      obtain ⟨y1, y2, y3, y4, yA, ym, yc, rfl⟩ := hV.sy
      have hz4 := (hV.on.block g4 (by omega) (by simp; omega)).trans HG4.out
      have hcs := hV.cs
      have HV := Lib.hid hV
      have HZ := Lib.hid hz4
      have HC := Lib.hid hcs
      clear hV hz4 hcs S9
      go_upto_region 40 with fail
      apply wp_region_lit
      refine wpList_load_row rfl 122 (.tmp 5) rfl g5 rfl 122 #[.int .i64 k2, .int .i64 a3, .string nm, .string cl, .int .i64 i1, .int .u64 i2, .int .u8 i3, .string i4, .slice iA im ic, .int .i64 x1, .int .u64 x2, .int .u8 x3, .string x4, .slice xA xm xc, .int .i64 y1, .int .u64 y2, .int .u8 y3, .string y4, .slice yA ym yc, .slice BA bn bc, .slice EA en2 ec] (0, 0) _ HC.out Try.underlying122 rfl (by kernel_rfl) ?_
      refine wpList_store_row rfl 122 (.tmp 4) (.tmp 100) rfl g4 #[.int .i64 k2, .int .i64 a3, .string nm, .string cl, .int .i64 i1, .int .u64 i2, .int .u8 i3, .string i4, .slice iA im ic, .int .i64 x1, .int .u64 x2, .int .u8 x3, .string x4, .slice xA xm xc, .int .i64 y1, .int .u64 y2, .int .u8 y3, .string y4, .slice yA ym yc, .slice BA bn bc, .slice EA en2 ec] rfl rfl 122 _ HZ.out (by kernel_rfl) rfl (by as_aux_lemma => (apply one21 <;> rfl)) ?_
      obtain ⟨W9, hW9⟩ : ∃ W9, w9.setRow g4 #[.int .i64 k2, .int .i64 a3, .string nm, .string cl, .int .i64 i1, .int .u64 i2, .int .u8 i3, .string i4, .slice iA im ic, .int .i64 x1, .int .u64 x2, .int .u8 x3, .string x4, .slice xA xm xc, .int .i64 y1, .int .u64 y2, .int .u8 y3, .string y4, .slice yA ym yc, .slice BA bn bc, .slice EA en2 ec] = W9 := ⟨_, rfl⟩
      have hc9 := setRow_heap w9 g4 _ #[.int .i64 k2, .int .i64 a3, .string nm, .string cl, .int .i64 i1, .int .u64 i2, .int .u8 i3, .string i4, .slice iA im ic, .int .i64 x1, .int .u64 x2, .int .u8 x3, .string x4, .slice xA xm xc, .int .i64 y1, .int .u64 y2, .int .u8 y3, .string y4, .slice yA ym yc, .slice BA bn bc, .slice EA en2 ec] 122 _ HZ.out
      have O21 : Only [g4] w9 (w9.setRow g4 #[.int .i64 k2, .int .i64 a3, .string nm, .string cl, .int .i64 i1, .int .u64 i2, .int .u8 i3, .string i4, .slice iA im ic, .int .i64 x1, .int .u64 x2, .int .u8 x3, .string x4, .slice xA xm xc, .int .i64 y1, .int .u64 y2, .int .u8 y3, .string y4, .slice yA ym yc, .slice BA bn bc, .slice EA en2 ec]) := ⟨rfl, rfl, rfl, by simp [World.setRow], fun k hk hn => setRow_other w9 g4 k _ (by simpa using hn)⟩
      rw [hW9] at hc9 O21
      try rw [hW9]
      have HC9 := Lib.hid hc9
      have HO21 := Lib.hid O21
      clear hW9 hc9 O21
      go_wp2_with fail
      have O21 := HO21.out
      refine stmt_ret (g := g4) rfl HC9.out ?_
      refine ⟨k2, a3, nm, cl, _, _, _, BA, bn, bc, EA, en2, ec, at9, e9, _, rfl, HV.out.si, HV.out.sx, HV.out.sy, HV.out.rd.only O21 (fun x hx => by simp at hx; omega), ((OB.out.seq HV.out.on).trans (F' := [g4]) O21 (fun x hx => by simp at hx; subst hx; exact .inr (Nat.le_of_eq hg4))), by omega, fun h0 => ?_⟩
      obtain ⟨he0, hS⟩ := HV.out.ok h0
      obtain ⟨i, x, y, b, b2, hi, hx, hy, hb, hb2, hw⟩ := hS.only O21 (fun x hx => by simp at hx; omega)
      exact ⟨he0, Nat.lt_of_lt_of_le (HO2.out (HO9.out h0).1).1 hat, ⟨k2, a3, nm, cl, i, x, y⟩, b, b2, (by have := (HO2.out (HO9.out h0).1).2; unfold wtS; dsimp only; omega), _, _, _, _, _, _, _, _, _, rfl, exV_low (by omega) hi, exV_low (by omega) hx, exV_low (by omega) hy, HV.out.ns, HV.out.ls, hb.low (by omega), hb2.low (by omega)⟩
end Go.Proofs.Ytapnnbbbgopobaa.Rr
