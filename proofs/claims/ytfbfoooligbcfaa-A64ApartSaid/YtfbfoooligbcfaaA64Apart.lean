/-
  WALK: the law A64Apart.
-/
import Derived.Test.YtfbfoooligbcfaaA64Laws
namespace Go.Proofs.Ytfbfoooligbcfaa.A64X
set_option linter.unusedVariables false
set_option linter.unusedSimpArgs false
open Go.RowKit Go.WideShapes Go.ChangeShapes Cm Mm Ow A64 Fld FldW A64W A64P A64C A64T A64R A64E A64D A64H A64Q A64G A64L

theorem first_diff (a b : In) (h : a ≠ b) : (a.kind == b.kind) = false ∨ ((a.kind == b.kind) = true ∧ (a.d == b.d) = false) ∨ ((a.kind == b.kind) = true ∧ (a.d == b.d) = true ∧ (a.a == b.a) = false) ∨ ((a.kind == b.kind) = true ∧ (a.d == b.d) = true ∧ (a.a == b.a) = true ∧ (a.b == b.b) = false) ∨ ((a.kind == b.kind) = true ∧ (a.d == b.d) = true ∧ (a.a == b.a) = true ∧ (a.b == b.b) = true ∧ (a.s == b.s) = false) ∨ ((a.kind == b.kind) = true ∧ (a.d == b.d) = true ∧ (a.a == b.a) = true ∧ (a.b == b.b) = true ∧ (a.s == b.s) = true ∧ (a.c == b.c) = false) ∨ ((a.kind == b.kind) = true ∧ (a.d == b.d) = true ∧ (a.a == b.a) = true ∧ (a.b == b.b) = true ∧ (a.s == b.s) = true ∧ (a.c == b.c) = true ∧ (a.n == b.n) = false) := by
  obtain ⟨a0, a1, a2, a3, a4, a5, a6⟩ := a
  obtain ⟨b0, b1, b2, b3, b4, b5, b6⟩ := b
  simp only [beq_iff_eq, beq_eq_false_iff_ne]
  simp only [ne_eq, In.mk.injEq] at h
  omega
theorem apart_ways (a b : In) (ra : right a = true) (rb : right b = true) (xa xb : BitVec 32) (ha : (encode a).1 = xa) (hb : (encode b).1 = xb) :
    (((xa.toNat : Int) == (xb.toNat : Int)) = true ∧ ((a.kind == b.kind) = true ∧ (a.d == b.d) = true ∧ (a.a == b.a) = true ∧ (a.b == b.b) = true ∧ (a.s == b.s) = true ∧ (a.c == b.c) = true ∧ (a.n == b.n) = true)) ∨ (((xa.toNat : Int) == (xb.toNat : Int)) = false ∧ ((a.kind == b.kind) = false ∨ ((a.kind == b.kind) = true ∧ (a.d == b.d) = false) ∨ ((a.kind == b.kind) = true ∧ (a.d == b.d) = true ∧ (a.a == b.a) = false) ∨ ((a.kind == b.kind) = true ∧ (a.d == b.d) = true ∧ (a.a == b.a) = true ∧ (a.b == b.b) = false) ∨ ((a.kind == b.kind) = true ∧ (a.d == b.d) = true ∧ (a.a == b.a) = true ∧ (a.b == b.b) = true ∧ (a.s == b.s) = false) ∨ ((a.kind == b.kind) = true ∧ (a.d == b.d) = true ∧ (a.a == b.a) = true ∧ (a.b == b.b) = true ∧ (a.s == b.s) = true ∧ (a.c == b.c) = false) ∨ ((a.kind == b.kind) = true ∧ (a.d == b.d) = true ∧ (a.a == b.a) = true ∧ (a.b == b.b) = true ∧ (a.s == b.s) = true ∧ (a.c == b.c) = true ∧ (a.n == b.n) = false))) := by
  have hin := encode_inj a b ra rb
  rw [ha, hb] at hin
  by_cases e : a = b
  · have e2 := hin.2 e
    subst e e2
    exact .inl ⟨by simp, by simp⟩
  · refine .inr ⟨?_, first_diff a b e⟩
    rw [w32_eq]
    exact decide_eq_false (fun x => e (hin.1 x))

set_option maxHeartbeats 6400000 in
set_option maxRecDepth 100000 in
theorem walkApart {H : Type} {enc : TypeId × Value → H} {d0 d1 : DataW H} {P0 P1 : List MemPlace} {r : Reach} {b0 : Nat} (v0 v1 : Value) (w : World)
    (k0 : DataW.Trod enc Try.prog w 0 (fun _ => true) true 23 v0 d0 P0) (ok0 : Value.okWide Try.prog w r b0 23 v0)
    (k1 : DataW.Trod enc Try.prog w 0 (fun _ => true) true 23 v1 d1 P1) (ok1 : Value.okWide Try.prog w r b0 23 v1) :
    Calls Try.prog 7 #[v0, v1] w fun e w' => e = .returned (.bool true) ∧ Below w.heap.size w w' := by
  obtain ⟨a, rfl, ha⟩ := open_ins k0 ok0
  obtain ⟨b, rfl, hb⟩ := open_ins k1 ok1
  clear k0 ok0 k1 ok1
  obtain ⟨W, hW⟩ : ∃ W, W = (w.alloc (.cells #[.int .i64 a.kind, .int .i64 a.d, .int .i64 a.a, .int .i64 a.b, .int .i64 a.s, .int .i64 a.c, .int .i64 a.n] 23)).alloc (.cells #[.int .i64 b.kind, .int .i64 b.d, .int .i64 b.a, .int .i64 b.b, .int .i64 b.s, .int .i64 b.c, .int .i64 b.n] 23) := ⟨_, rfl⟩
  have hB : Below w.heap.size w W := by rw [hW]; exact (below_al _ _).alloc (by simp) _
  have hV : Vi W w.heap.size a := by rw [hW]; exact (vi_new _ _ _ _ rfl).keep (below_al _ _)
  have hU : Vi W (w.heap.size + 1) b := by rw [hW]; exact vi_new _ _ _ _ (by simp)
  have HV := Lib.hid hV
  have HU := Lib.hid hU
  have HW := Lib.hid hW
  have HA := Lib.hid ha
  have HB := Lib.hid hb
  clear hV hU hW ha hb
  cases ra : right a
  · go_enter Try.func7, Try.ntmps7
    go_wp2_with fail
    rw [← HW.out]
    refine (alive_any _).mono ?_
    rintro e w2 ⟨rfl, hb2⟩
    have B2 := Lib.hid hb2
    obtain ⟨c0, c1, c2, c3, c4, c5, c6⟩ := (HV.out.keep B2.out).cells
    go_wp2_with fail
    refine (rright_any a _ HA.out).mono ?_
    rintro e w3 ⟨rfl, hb3⟩
    rw [ra]
    have B3 := Lib.hid (B2.out.trans (hb3.mono B2.out.size))
    go_wp2_with fail
    go_ret
    exact ⟨rfl, hB.trans (B3.out.mono hB.size)⟩
  · cases rb : right b
    · go_enter Try.func7, Try.ntmps7
      go_wp2_with fail
      rw [← HW.out]
      refine (alive_any _).mono ?_
      rintro e w2 ⟨rfl, hb2⟩
      have B2 := Lib.hid hb2
      obtain ⟨c0, c1, c2, c3, c4, c5, c6⟩ := (HV.out.keep B2.out).cells
      go_wp2_with fail
      refine (rright_any a _ HA.out).mono ?_
      rintro e w3 ⟨rfl, hb3⟩
      rw [ra]
      have B3 := Lib.hid (B2.out.trans (hb3.mono B2.out.size))
      clear c0 c1 c2 c3 c4 c5 c6
      obtain ⟨d0, d1, d2, d3, d4, d5, d6⟩ := (HU.out.keep B3.out).cells
      go_wp2_with fail
      refine (rright_any b _ HB.out).mono ?_
      rintro e w4 ⟨rfl, hb4⟩
      rw [rb]
      have B4 := Lib.hid (B3.out.trans (hb4.mono B3.out.size))
      go_wp2_with fail
      go_ret
      exact ⟨rfl, hB.trans (B4.out.mono hB.size)⟩
    · have ea := (decode_encode a ra).2
      have eb := (decode_encode b rb).2
      have EA := fun w => encode_any a w HA.out
      have EB := fun w => encode_any b w HB.out
      rw [ea] at EA
      rw [eb] at EB
      have D := apart_ways a b ra rb _ _ rfl rfl
      generalize (encode a).1 = xa at *
      generalize (encode b).1 = xb at *
      have EA := Lib.hid EA
      have EB := Lib.hid EB
      clear ea eb
      rcases D with ⟨q, g0, g1, g2, g3, g4, g5, g6⟩ | ⟨q, g0 | ⟨g0, g1⟩ | ⟨g0, g1, g2⟩ | ⟨g0, g1, g2, g3⟩ | ⟨g0, g1, g2, g3, g4⟩ | ⟨g0, g1, g2, g3, g4, g5⟩ | ⟨g0, g1, g2, g3, g4, g5, g6⟩⟩
      all_goals
        go_enter Try.func7, Try.ntmps7
        go_wp2_with fail
        rw [← HW.out]
        refine (alive_any _).mono ?_
        rintro e w2 ⟨rfl, hb2⟩
        have B2 := Lib.hid hb2
        obtain ⟨c0, c1, c2, c3, c4, c5, c6⟩ := (HV.out.keep B2.out).cells
        go_wp2_with fail
        refine (rright_any a _ HA.out).mono ?_
        rintro e w3 ⟨rfl, hb3⟩
        rw [ra]
        have B3 := Lib.hid (B2.out.trans (hb3.mono B2.out.size))
        clear c0 c1 c2 c3 c4 c5 c6
        obtain ⟨d0, d1, d2, d3, d4, d5, d6⟩ := (HU.out.keep B3.out).cells
        go_wp2_with fail
        refine (rright_any b _ HB.out).mono ?_
        rintro e w4 ⟨rfl, hb4⟩
        rw [rb]
        have B4 := Lib.hid (B3.out.trans (hb4.mono B3.out.size))
        clear d0 d1 d2 d3 d4 d5 d6
        obtain ⟨c0, c1, c2, c3, c4, c5, c6⟩ := (HV.out.keep B4.out).cells
        go_wp2_with fail
        refine (EA.out _).mono ?_
        rintro e w5 ⟨rfl, hb5⟩
        have B5 := Lib.hid (B4.out.trans (hb5.mono B4.out.size))
        clear c0 c1 c2 c3 c4 c5 c6
        obtain ⟨d0, d1, d2, d3, d4, d5, d6⟩ := (HU.out.keep B5.out).cells
        go_wp2_with fail
        refine (EB.out _).mono ?_
        rintro e w6 ⟨rfl, hb6⟩
        have B6 := Lib.hid (B5.out.trans (hb6.mono B5.out.size))
        clear d0 d1 d2 d3 d4 d5 d6
        obtain ⟨c0, c1, c2, c3, c4, c5, c6⟩ := (HV.out.keep B6.out).cells
        obtain ⟨d0, d1, d2, d3, d4, d5, d6⟩ := (HU.out.keep B6.out).cells
        go_wp2_with (go_at_call 19; refine (num_any _ _).mono ?_; rintro e w' ⟨rfl, rfl⟩)
        go_ret
        exact ⟨rfl, hB.trans (B6.out.mono hB.size)⟩
end Go.Proofs.Ytfbfoooligbcfaa.A64X
