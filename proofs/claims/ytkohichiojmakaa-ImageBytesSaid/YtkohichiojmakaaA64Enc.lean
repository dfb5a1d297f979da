/-
  WALKS: package a64: Encode.
-/
import Derived.Test.YtkohichiojmakaaA64Top
namespace Go.Proofs.Ytkohichiojmakaa.A64E
set_option linter.unusedVariables false
set_option linter.unusedSimpArgs false
open Go.RowKit Cm Mm Ow A64 Fld FldW A64W A64P A64C A64T A64R
attribute [local go_sem ↓] Go.wp_at_zero Go.wp_at_succ

theorem encF_at (f : Fm) (i : In) (w : World) (hg : good f = true) :
    Calls Try.prog 73 #[.agg #[.int .u32 (f.word.toNat : Int), .int .i64 (f.d.1 : Nat), .int .i64 (f.d.2 : Nat), .int .i64 (f.a.1 : Nat), .int .i64 (f.a.2 : Nat), .int .i64 (f.b.1 : Nat), .int .i64 (f.b.2 : Nat), .int .i64 (f.s.1 : Nat), .int .i64 (f.s.2 : Nat), .int .i64 (f.n.1 : Nat), .int .i64 (f.n.2 : Nat), .int .i64 (f.c.1 : Nat), .int .i64 (f.c.2 : Nat), .bool f.signed, .bool f.turned], .agg #[.int .i64 i.kind, .int .i64 i.d, .int .i64 i.a, .int .i64 i.b, .int .i64 i.s, .int .i64 i.c, .int .i64 i.n]] w fun e w' => e = .returned (.int .u32 ((encF f i).toNat : Int)) ∧ Below w.heap.size w w' := encF_any f i w hg
theorem right_at (i : In) (w : World) (hi : okIn i) :
    Calls Try.prog 51 #[.agg #[.int .i64 i.kind, .int .i64 i.d, .int .i64 i.a, .int .i64 i.b, .int .i64 i.s, .int .i64 i.c, .int .i64 i.n]] w fun e w' => e = .returned (.bool (right i)) ∧ Below w.heap.size w w' := right_any i w hi
/-- a variable that has an instruction -/
def Vi (w : World) (p : Nat) (i : In) : Prop := ∀ j, w.cell? ⟨p, j, none⟩ = (#[Value.int .i64 i.kind, Value.int .i64 i.d, Value.int .i64 i.a, Value.int .i64 i.b, Value.int .i64 i.s, Value.int .i64 i.c, Value.int .i64 i.n] : Array Value)[j]?
theorem Vi.keep {w w' : World} {p : Nat} {i : In} (h : Vi w p i) (hb : Below w.heap.size w w') : Vi w' p i := fun j => by
  have h0 := h 0
  have : p < w.heap.size := World.block_lt_of_cell? w ⟨p, 0, none⟩ h0
  exact (hb.cell (p := ⟨p, j, none⟩) this).trans (h j)
theorem Vi.lt {w : World} {p : Nat} {i : In} (h : Vi w p i) : p < w.heap.size := World.block_lt_of_cell? w ⟨p, 0, none⟩ (h 0)
theorem vi_new (w : World) (i : In) (p : Nat) (t : TypeId) (hp : w.heap.size = p) : Vi (w.alloc (.cells #[.int .i64 i.kind, .int .i64 i.d, .int .i64 i.a, .int .i64 i.b, .int .i64 i.s, .int .i64 i.c, .int .i64 i.n] t)) p i := fun j => by
  subst hp; simp [World.cell?_alloc_new]
theorem Vi.cells {w : World} {p : Nat} {i : In} (h : Vi w p i) : w.cell? ⟨p, 0, none⟩ = some (.int .i64 i.kind) ∧ w.cell? ⟨p, 1, none⟩ = some (.int .i64 i.d) ∧ w.cell? ⟨p, 2, none⟩ = some (.int .i64 i.a) ∧ w.cell? ⟨p, 3, none⟩ = some (.int .i64 i.b) ∧ w.cell? ⟨p, 4, none⟩ = some (.int .i64 i.s) ∧ w.cell? ⟨p, 5, none⟩ = some (.int .i64 i.c) ∧ w.cell? ⟨p, 6, none⟩ = some (.int .i64 i.n) := ⟨h 0, h 1, h 2, h 3, h 4, h 5, h 6⟩

set_option maxRecDepth 20000 in
set_option maxHeartbeats 3200000 in
theorem encode_any (i : In) (w : World) (hi : okIn i) :
    Calls Try.prog 53 #[.agg #[.int .i64 i.kind, .int .i64 i.d, .int .i64 i.a, .int .i64 i.b, .int .i64 i.s, .int .i64 i.c, .int .i64 i.n]] w fun e w' => e = .returned (.tuple #[.int .u32 ((encode i).1.toNat : Int), .int .i64 (encode i).2]) ∧ Below w.heap.size w w' := by
  obtain ⟨W, hW⟩ : ∃ W, W = w.alloc (.cells #[.int .i64 i.kind, .int .i64 i.d, .int .i64 i.a, .int .i64 i.b, .int .i64 i.s, .int .i64 i.c, .int .i64 i.n] 45) := ⟨_, rfl⟩
  have hB : Below w.heap.size w W := by rw [hW]; exact (Below.refl _ _).alloc (Nat.le_refl _) _
  have hV : Vi W w.heap.size i := by rw [hW]; exact vi_new _ _ _ _ rfl
  have HV := Lib.hid hV
  have HW := Lib.hid hW
  have HI := Lib.hid hi
  clear hV hW hi
  cases hr : right i
  · have he : encode i = (0, 1) := by unfold encode; rw [hr]; rfl
    have he := Lib.hid he
    go_enter Try.func53, Try.ntmps53
    go_wp2_with fail
    rw [← HW.out]
    refine (right_at i _ HI.out).mono ?_
    rintro e w2 ⟨rfl, hb2⟩
    rw [hr]
    go_wp2_with fail
    go_ret2
    exact ⟨by rw [he.out]; rfl, hB.trans (hb2.mono hB.size)⟩
  · obtain ⟨k, hk24, hk, hrf⟩ := right_kind hr
    have he := Lib.hid (encode_of k i hk24 hk hrf)
    have hg := Lib.hid (good_all k hk24)
    have hki := Lib.hid (show i.kind.toNat = k by omega)
    have t0 : (0 : Int) ≤ i.kind := by omega
    have t2 : i.kind < 24 := by omega
    clear hk hrf
    go_enter Try.func53, Try.ntmps53
    go_wp2_with fail
    rw [← HW.out]
    refine (right_at i _ HI.out).mono ?_
    rintro e w2 ⟨rfl, hb2⟩
    rw [hr]
    obtain ⟨c0, c1, c2, c3, c4, c5, c6⟩ := (HV.out.keep hb2).cells
    have hV2 := Lib.hid ((HV.out.keep hb2).keep ((Below.refl _ _).drew))
    have t3 := hki.out
    go_wp2_with fail
    go_region_with (first
      | (go_at_call 69; refine (forms_any _).mono ?_; rintro e w3 ⟨g, rfl, hge, hgt, hb3⟩; obtain ⟨f0, f1, f2, f3, f4, f5, f6, f7, f8, f9, f10, f11, f12, f13, f14⟩ := form_cells hgt hk24; obtain ⟨d0, d1, d2, d3, d4, d5, d6⟩ := (hV2.out.keep hb3).cells; clear hgt)
      | (go_at_call 73; refine (encF_at (form k) i _ hg.out).mono ?_; rintro e w4 ⟨rfl, hb4⟩))
    all_goals go_wp2_with fail
    all_goals go_ret2
    all_goals exact ⟨by rw [he.out]; rfl, (hB.trans (hb2.mono hB.size)).trans (((((Below.refl _ _).drew).trans hb3).trans (hb4.mono hb3.size)).mono (Nat.le_trans hB.size hb2.size))⟩
end Go.Proofs.Ytkohichiojmakaa.A64E
