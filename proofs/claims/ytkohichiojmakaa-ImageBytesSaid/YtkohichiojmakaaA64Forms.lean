/-
  WALK: a64.forms: the table, in a row of its own.
-/
import Derived.Test.YtkohichiojmakaaA64Walks
import Derived.Great.BuildSlice
namespace Go.Proofs.Ytkohichiojmakaa.A64T
set_option linter.unusedVariables false
set_option linter.unusedSimpArgs false
open Go.RowKit Cm Mm Ow A64 FldW A64W

/-- the three registers' fields lie in the variables p, q, r; nothing elder has turned -/
abbrev S6 (w0 : World) (p q r : Nat) (w' : World) : Prop := (w'.cell? ⟨p, 0, none⟩ = some (.int .i64 0) ∧ w'.cell? ⟨p, 1, none⟩ = some (.int .i64 5) ∧ w'.cell? ⟨q, 0, none⟩ = some (.int .i64 5) ∧ w'.cell? ⟨q, 1, none⟩ = some (.int .i64 5) ∧ w'.cell? ⟨r, 0, none⟩ = some (.int .i64 16) ∧ w'.cell? ⟨r, 1, none⟩ = some (.int .i64 5)) ∧ Below w0.heap.size w0 w'
theorem heap_al (w : World) (o : Obj) : (w.alloc o).heap = w.heap.push o := rfl
theorem S6.keep {w0 w w' : World} {p q r : Nat} (h : S6 w0 p q r w) (hb : Below w.heap.size w w') : S6 w0 p q r w' := by
  obtain ⟨⟨h1, h2, h3, h4, h5, h6⟩, h7⟩ := h
  have k : ∀ (x : Addr) (u : Value), w.cell? x = some u → w'.cell? x = some u := fun x u hx => by
    rw [World.cell?_of_block (hb.block _ (World.block_lt_of_cell? w x hx))]; exact hx
  exact ⟨⟨k _ _ h1, k _ _ h2, k _ _ h3, k _ _ h4, k _ _ h5, k _ _ h6⟩, h7.trans (hb.mono h7.size)⟩
theorem half_S (w0 : World) (p q r : Nat) (x : Int) (w : World) (h : S6 w0 p q r w) :
    Calls Try.prog 94 #[.int .u32 x, .pointer (some ⟨p, 0, none⟩)] w fun e w' => e = .returned (.agg #[.int .u32 x, .int .i64 0, .int .i64 5, .int .i64 0, .int .i64 0, .int .i64 0, .int .i64 0, .int .i64 21, .int .i64 2, .int .i64 5, .int .i64 16, .int .i64 0, .int .i64 0, .bool false, .bool false]) ∧ S6 w0 p q r w' :=
  (half_any x p w ⟨h.1.1, h.1.2.1⟩).mono fun e w' ⟨h1, h2⟩ => ⟨h1, h.keep h2⟩
theorem three_S (w0 : World) (p q r : Nat) (x : Int) (w : World) (h : S6 w0 p q r w) :
    Calls Try.prog 95 #[.int .u32 x, .pointer (some ⟨p, 0, none⟩), .pointer (some ⟨q, 0, none⟩), .pointer (some ⟨r, 0, none⟩)] w fun e w' => e = .returned (.agg #[.int .u32 x, .int .i64 0, .int .i64 5, .int .i64 5, .int .i64 5, .int .i64 16, .int .i64 5, .int .i64 0, .int .i64 0, .int .i64 0, .int .i64 0, .int .i64 0, .int .i64 0, .bool false, .bool false]) ∧ S6 w0 p q r w' :=
  (three_any x p q r w ⟨h.1.1, h.1.2.1⟩ ⟨h.1.2.2.1, h.1.2.2.2.1⟩ ⟨h.1.2.2.2.2.1, h.1.2.2.2.2.2⟩).mono fun e w' ⟨h1, h2⟩ => ⟨h1, h.keep h2⟩
theorem zeroN_S (w0 : World) (p q r : Nat) (x : Int) (w : World) (h : S6 w0 p q r w) :
    Calls Try.prog 96 #[.int .u32 x] w fun e w' => e = .returned (.agg #[.int .u32 x, .int .i64 0, .int .i64 0, .int .i64 0, .int .i64 5, .int .i64 0, .int .i64 0, .int .i64 0, .int .i64 0, .int .i64 5, .int .i64 19, .int .i64 0, .int .i64 0, .bool true, .bool false]) ∧ S6 w0 p q r w' :=
  (zeroN_any x  w ).mono fun e w' ⟨h1, h2⟩ => ⟨h1, h.keep h2⟩
theorem far_S (w0 : World) (p q r : Nat) (x : Int) (w : World) (h : S6 w0 p q r w) :
    Calls Try.prog 97 #[.int .u32 x, .pointer (some ⟨p, 0, none⟩), .pointer (some ⟨q, 0, none⟩)] w fun e w' => e = .returned (.agg #[.int .u32 x, .int .i64 0, .int .i64 5, .int .i64 5, .int .i64 5, .int .i64 0, .int .i64 0, .int .i64 0, .int .i64 0, .int .i64 10, .int .i64 12, .int .i64 0, .int .i64 0, .bool false, .bool false]) ∧ S6 w0 p q r w' :=
  (far_any x p q w ⟨h.1.1, h.1.2.1⟩ ⟨h.1.2.2.1, h.1.2.2.2.1⟩).mono fun e w' ⟨h1, h2⟩ => ⟨h1, h.keep h2⟩
theorem two_S (w0 : World) (p q r : Nat) (x : Int) (w : World) (h : S6 w0 p q r w) :
    Calls Try.prog 98 #[.int .u32 x, .pointer (some ⟨p, 0, none⟩), .pointer (some ⟨q, 0, none⟩)] w fun e w' => e = .returned (.agg #[.int .u32 x, .int .i64 0, .int .i64 5, .int .i64 5, .int .i64 5, .int .i64 0, .int .i64 0, .int .i64 0, .int .i64 0, .int .i64 0, .int .i64 0, .int .i64 0, .int .i64 0, .bool false, .bool false]) ∧ S6 w0 p q r w' :=
  (two_any x p q w ⟨h.1.1, h.1.2.1⟩ ⟨h.1.2.2.1, h.1.2.2.2.1⟩).mono fun e w' ⟨h1, h2⟩ => ⟨h1, h.keep h2⟩
theorem bare_S (w0 : World) (p q r : Nat) (x : Int) (w : World) (h : S6 w0 p q r w) :
    Calls Try.prog 99 #[.int .u32 x] w fun e w' => e = .returned (.agg #[.int .u32 x, .int .i64 0, .int .i64 0, .int .i64 0, .int .i64 0, .int .i64 0, .int .i64 0, .int .i64 0, .int .i64 0, .int .i64 0, .int .i64 0, .int .i64 0, .int .i64 0, .bool false, .bool false]) ∧ S6 w0 p q r w' :=
  (bare_any x  w ).mono fun e w' ⟨h1, h2⟩ => ⟨h1, h.keep h2⟩
theorem register_S (w0 : World) (p q r : Nat) (k : Int) (w : World) (h : S6 w0 p q r w) : Calls Try.prog 93 #[.int .i64 k] w fun e w' => e = .returned (.agg #[.int .i64 k, .int .i64 5]) ∧ S6 w0 p q r w' :=
  (register_any k w).mono fun e w' ⟨h1, h2⟩ => ⟨h1, h.keep (by rw [h2]; exact (Below.refl _ _).alloc (Nat.le_refl _) _)⟩

/-- the table's cells -/
def tableCells : Array Value := (table.map fmL).flatten.toArray
theorem form_info : (Try.prog.info? 150).map (fun i => (i.zero, i.size)) = some (some (.agg #[.int .u32 0, .int .i64 0, .int .i64 0, .int .i64 0, .int .i64 0, .int .i64 0, .int .i64 0, .int .i64 0, .int .i64 0, .int .i64 0, .int .i64 0, .int .i64 0, .int .i64 0, .bool false, .bool false]), 15) := by kernel_rfl
theorem run_table (w : World) : (Instr.buildSlice 145 24 #[(0, .agg #[.int .u32 3531603968, .int .i64 0, .int .i64 5, .int .i64 0, .int .i64 0, .int .i64 0, .int .i64 0, .int .i64 21, .int .i64 2, .int .i64 5, .int .i64 16, .int .i64 0, .int .i64 0, .bool false, .bool false]),
    (1, .agg #[.int .u32 4068474880, .int .i64 0, .int .i64 5, .int .i64 0, .int .i64 0, .int .i64 0, .int .i64 0, .int .i64 21, .int .i64 2, .int .i64 5, .int .i64 16, .int .i64 0, .int .i64 0, .bool false, .bool false]),
    (2, .agg #[.int .u32 2332033024, .int .i64 0, .int .i64 5, .int .i64 5, .int .i64 5, .int .i64 16, .int .i64 5, .int .i64 0, .int .i64 0, .int .i64 0, .int .i64 0, .int .i64 0, .int .i64 0, .bool false, .bool false]),
    (3, .agg #[.int .u32 3405774848, .int .i64 0, .int .i64 5, .int .i64 5, .int .i64 5, .int .i64 16, .int .i64 5, .int .i64 0, .int .i64 0, .int .i64 0, .int .i64 0, .int .i64 0, .int .i64 0, .bool false, .bool false]),
    (4, .agg #[.int .u32 2600500224, .int .i64 0, .int .i64 5, .int .i64 5, .int .i64 5, .int .i64 16, .int .i64 5, .int .i64 0, .int .i64 0, .int .i64 0, .int .i64 0, .int .i64 0, .int .i64 0, .bool false, .bool false]),
    (5, .agg #[.int .u32 2315255808, .int .i64 0, .int .i64 5, .int .i64 5, .int .i64 5, .int .i64 16, .int .i64 5, .int .i64 0, .int .i64 0, .int .i64 0, .int .i64 0, .int .i64 0, .int .i64 0, .bool false, .bool false]),
    (6, .agg #[.int .u32 3942645791, .int .i64 0, .int .i64 0, .int .i64 5, .int .i64 5, .int .i64 16, .int .i64 5, .int .i64 0, .int .i64 0, .int .i64 0, .int .i64 0, .int .i64 0, .int .i64 0, .bool false, .bool false]),
    (7, .agg #[.int .u32 2594113504, .int .i64 0, .int .i64 5, .int .i64 0, .int .i64 0, .int .i64 0, .int .i64 0, .int .i64 0, .int .i64 0, .int .i64 0, .int .i64 0, .int .i64 12, .int .i64 4, .bool false, .bool true]),
    (8, .agg #[.int .u32 335544320, .int .i64 0, .int .i64 0, .int .i64 0, .int .i64 0, .int .i64 0, .int .i64 0, .int .i64 0, .int .i64 0, .int .i64 0, .int .i64 26, .int .i64 0, .int .i64 0, .bool true, .bool false]),
    (9, .agg #[.int .u32 1409286144, .int .i64 0, .int .i64 0, .int .i64 0, .int .i64 0, .int .i64 0, .int .i64 0, .int .i64 0, .int .i64 0, .int .i64 5, .int .i64 19, .int .i64 0, .int .i64 4, .bool true, .bool false]),
    (10, .agg #[.int .u32 3019898880, .int .i64 0, .int .i64 0, .int .i64 0, .int .i64 5, .int .i64 0, .int .i64 0, .int .i64 0, .int .i64 0, .int .i64 5, .int .i64 19, .int .i64 0, .int .i64 0, .bool true, .bool false]),
    (11, .agg #[.int .u32 3036676096, .int .i64 0, .int .i64 0, .int .i64 0, .int .i64 5, .int .i64 0, .int .i64 0, .int .i64 0, .int .i64 0, .int .i64 5, .int .i64 19, .int .i64 0, .int .i64 0, .bool true, .bool false]),
    (12, .agg #[.int .u32 4181721088, .int .i64 0, .int .i64 5, .int .i64 5, .int .i64 5, .int .i64 0, .int .i64 0, .int .i64 0, .int .i64 0, .int .i64 10, .int .i64 12, .int .i64 0, .int .i64 0, .bool false, .bool false]),
    (13, .agg #[.int .u32 4177526784, .int .i64 0, .int .i64 5, .int .i64 5, .int .i64 5, .int .i64 0, .int .i64 0, .int .i64 0, .int .i64 0, .int .i64 10, .int .i64 12, .int .i64 0, .int .i64 0, .bool false, .bool false]),
    (14, .agg #[.int .u32 3370122240, .int .i64 0, .int .i64 5, .int .i64 5, .int .i64 5, .int .i64 0, .int .i64 0, .int .i64 0, .int .i64 0, .int .i64 0, .int .i64 0, .int .i64 0, .int .i64 0, .bool false, .bool false]),
    (15, .agg #[.int .u32 3365927936, .int .i64 0, .int .i64 5, .int .i64 5, .int .i64 5, .int .i64 0, .int .i64 0, .int .i64 0, .int .i64 0, .int .i64 0, .int .i64 0, .int .i64 0, .int .i64 0, .bool false, .bool false]),
    (16, .agg #[.int .u32 3361700864, .int .i64 0, .int .i64 5, .int .i64 5, .int .i64 5, .int .i64 0, .int .i64 0, .int .i64 0, .int .i64 0, .int .i64 0, .int .i64 0, .int .i64 0, .int .i64 0, .bool false, .bool false]),
    (17, .agg #[.int .u32 3355474944, .int .i64 0, .int .i64 5, .int .i64 5, .int .i64 5, .int .i64 0, .int .i64 0, .int .i64 16, .int .i64 5, .int .i64 0, .int .i64 0, .int .i64 0, .int .i64 0, .bool false, .bool false]),
    (18, .agg #[.int .u32 3573758911, .int .i64 0, .int .i64 0, .int .i64 0, .int .i64 0, .int .i64 0, .int .i64 0, .int .i64 0, .int .i64 0, .int .i64 0, .int .i64 0, .int .i64 0, .int .i64 0, .bool false, .bool false]),
    (19, .agg #[.int .u32 3573758879, .int .i64 0, .int .i64 0, .int .i64 0, .int .i64 0, .int .i64 0, .int .i64 0, .int .i64 0, .int .i64 0, .int .i64 0, .int .i64 0, .int .i64 0, .int .i64 0, .bool false, .bool false]),
    (20, .agg #[.int .u32 3574299680, .int .i64 0, .int .i64 0, .int .i64 0, .int .i64 5, .int .i64 0, .int .i64 0, .int .i64 0, .int .i64 0, .int .i64 0, .int .i64 0, .int .i64 0, .int .i64 0, .bool false, .bool false]),
    (21, .agg #[.int .u32 3573751839, .int .i64 0, .int .i64 0, .int .i64 0, .int .i64 0, .int .i64 0, .int .i64 0, .int .i64 0, .int .i64 0, .int .i64 0, .int .i64 0, .int .i64 0, .int .i64 0, .bool false, .bool false]),
    (22, .agg #[.int .u32 3560964096, .int .i64 0, .int .i64 0, .int .i64 0, .int .i64 0, .int .i64 0, .int .i64 0, .int .i64 0, .int .i64 0, .int .i64 0, .int .i64 0, .int .i64 0, .int .i64 0, .bool false, .bool false]),
    (23, .agg #[.int .u32 3556769793, .int .i64 0, .int .i64 0, .int .i64 0, .int .i64 0, .int .i64 0, .int .i64 0, .int .i64 0, .int .i64 0, .int .i64 0, .int .i64 0, .int .i64 0, .int .i64 0, .bool false, .bool false])]).run Try.prog w = .ok (.slice (some ⟨w.heap.size, 0, none⟩) 24 24) (w.alloc (.cells tableCells 150)) := by
  cases hi : Try.prog.info? 150 with
  | none => have := form_info; rw [hi] at this; cases this
  | some i =>
    have h := form_info
    rw [hi] at h
    simp only [Option.map_some, Option.some.injEq, Prod.mk.injEq] at h
    exact run_buildSlice w _ _ 24 _ tableCells i _ Try.underlying145 hi h.1 (by rw [h.2]; decide) (by rw [h.2]; decide) (by rw [h.2]; kernel_rfl)

section
attribute [-go_sem] Instr.buildSlice
set_option maxRecDepth 20000 in
set_option maxHeartbeats 6400000 in
theorem forms_any (w : World) : Calls Try.prog 69 #[] w fun e w' => ∃ g, e = .returned (.slice (some ⟨g, 0, none⟩) 24 24) ∧ w.heap.size ≤ g ∧ w'.heap[g]? = some (.cells tableCells 150 (0, 0)) ∧ Below w.heap.size w w' := by
  have S0 : S6 w (w.heap.size + 1 + 1 + 1) (w.heap.size + 1 + 1 + 1 + 1) (w.heap.size + 1 + 1 + 1 + 1 + 1) ((((((w.alloc (.cells #[.int .i64 0, .int .i64 5] 148)).alloc (.cells #[.int .i64 5, .int .i64 5] 148)).alloc (.cells #[.int .i64 16, .int .i64 5] 148)).alloc (.cells #[.int .i64 0, .int .i64 5] 148)).alloc (.cells #[.int .i64 5, .int .i64 5] 148)).alloc (.cells #[.int .i64 16, .int .i64 5] 148)).drew := by
    refine ⟨?_, by go_grown⟩
    simp only [World.cell?, heap_drew, heap_al, Array.getElem?_push, Array.size_push]
    refine ⟨?_, ?_, ?_, ?_, ?_, ?_⟩ <;> simp
  have HS := Lib.hid S0; clear S0
  go_enter Try.func69, Try.ntmps69
  go_wp2_with fail
  refine (register_any 0 _).mono ?_
  rintro e w1 ⟨rfl, rfl⟩
  go_wp2_with fail
  refine (register_any 5 _).mono ?_
  rintro e w1 ⟨rfl, rfl⟩
  go_wp2_with fail
  refine (register_any 16 _).mono ?_
  rintro e w1 ⟨rfl, rfl⟩
  go_wp2_with fail
  generalize ((((((w.alloc (.cells #[.int .i64 0, .int .i64 5] 148)).alloc (.cells #[.int .i64 5, .int .i64 5] 148)).alloc (.cells #[.int .i64 16, .int .i64 5] 148)).alloc (.cells #[.int .i64 0, .int .i64 5] 148)).alloc (.cells #[.int .i64 5, .int .i64 5] 148)).alloc (.cells #[.int .i64 16, .int .i64 5] 148)) = wb at *
  generalize w.heap.size + 1 + 1 + 1 + 1 + 1 = r at *
  generalize w.heap.size + 1 + 1 + 1 + 1 = q at *
  generalize w.heap.size + 1 + 1 + 1 = p at *
  have SB := HS.out
  have RT := run_table
  go_region_held3 (fun w' => (w'.cell? ⟨p, 0, none⟩ = some (.int .i64 0) ∧ w'.cell? ⟨p, 1, none⟩ = some (.int .i64 5) ∧ w'.cell? ⟨q, 0, none⟩ = some (.int .i64 5) ∧ w'.cell? ⟨q, 1, none⟩ = some (.int .i64 5) ∧ w'.cell? ⟨r, 0, none⟩ = some (.int .i64 16) ∧ w'.cell? ⟨r, 1, none⟩ = some (.int .i64 5)) ∧ Below w.heap.size w w') (first | assumption | exact S6.keep SC ((Below.refl _ _).alloc (Nat.le_refl _) _))
    (first
      | (go_at_call 94; refine (half_S w p q r _ _ (by assumption)).mono ?_; rintro e wx ⟨rfl, SC⟩)
      | (go_at_call 95; refine (three_S w p q r _ _ (by assumption)).mono ?_; rintro e wx ⟨rfl, SC⟩)
      | (go_at_call 96; refine (zeroN_S w p q r _ _ (by assumption)).mono ?_; rintro e wx ⟨rfl, SC⟩)
      | (go_at_call 97; refine (far_S w p q r _ _ (by assumption)).mono ?_; rintro e wx ⟨rfl, SC⟩)
      | (go_at_call 98; refine (two_S w p q r _ _ (by assumption)).mono ?_; rintro e wx ⟨rfl, SC⟩)
      | (go_at_call 99; refine (bare_S w p q r _ _ (by assumption)).mono ?_; rintro e wx ⟨rfl, SC⟩)
      | (go_at_call 93; refine (register_S w p q r _ _ (by assumption)).mono ?_; rintro e wx ⟨rfl, SC⟩))
  go_wp2_with fail
  go_returns
  exact ⟨_, rfl, SC.2.size, heap_alloc_new _ _, SC.2.trans ((Below.refl _ _).alloc SC.2.size _)⟩
end
end Go.Proofs.Ytkohichiojmakaa.A64T
