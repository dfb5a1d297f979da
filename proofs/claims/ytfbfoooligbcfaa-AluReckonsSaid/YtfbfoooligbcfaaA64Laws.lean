/-
  WALKS: chapter 2: its example, and the laws A64Encodes and A64Apart.
-/
import Derived.Test.YtfbfoooligbcfaaA64Decode
import Derived.Test.YtfbfoooligbcfaaA64RefEnc
namespace Go.Proofs.Ytfbfoooligbcfaa.A64L
set_option linter.unusedVariables false
set_option linter.unusedSimpArgs false
open Go.RowKit Go.WideShapes Go.ChangeShapes Cm Mm Ow A64 Fld FldW A64W A64P A64C A64T A64R A64E A64D A64H A64Q A64G

theorem num_any (k : Int) (w : World) : Calls Try.prog 19 #[.int .i64 k] w fun e w' => e = .returned (.int .i64 k) ∧ w = w' := by
  go_enter Try.func19, Try.ntmps19
  go_wp2
  go_ret
  exact ⟨rfl, rfl⟩
theorem enc_nop : encode ⟨21, 0, 0, 0, 0, 0, 0⟩ = (3573751839#32, 0) := by decide +kernel
theorem dec_movz : A64.decode 3531604000#32 = (⟨0, 0, 0, 0, 0, 0, 1⟩, 0) := by decide +kernel
theorem enc_nop_any (w : World) : Calls Try.prog 16 #[.agg #[.int .i64 21, .int .i64 0, .int .i64 0, .int .i64 0, .int .i64 0, .int .i64 0, .int .i64 0]] w fun e w' => e = .returned (.tuple #[.int .u32 3573751839, .int .i64 0]) ∧ Below w.heap.size w w' := by
  refine (encode_any ⟨21, 0, 0, 0, 0, 0, 0⟩ w (by unfold okIn i64b; decide)).mono ?_
  rintro e w' ⟨rfl, hb⟩
  rw [enc_nop]
  exact ⟨rfl, hb⟩
theorem dec_movz_any (w : World) : Calls Try.prog 20 #[.int .u32 3531604000] w fun e w' => e = .returned (.tuple #[.agg #[.int .i64 0, .int .i64 0, .int .i64 0, .int .i64 0, .int .i64 0, .int .i64 0, .int .i64 1], .int .i64 0]) ∧ Below w.heap.size w w' := by
  have h := decode_any 3531604000#32 w
  rw [dec_movz] at h
  exact h
set_option maxHeartbeats 1600000 in
theorem alive_any (w : World) : Calls Try.prog 14 #[] w fun e w' => e = .returned (.bool true) ∧ Below w.heap.size w w' := by
  go_enter Try.func14, Try.ntmps14
  go_wp2_with fail
  refine (enc_nop_any w).mono ?_
  rintro e w2 ⟨rfl, hb2⟩
  go_wp2_with fail
  refine (dec_movz_any w2).mono ?_
  rintro e w3 ⟨rfl, hb3⟩
  go_wp2_with (go_at_call 19; refine (num_any _ _).mono ?_; rintro e w' ⟨rfl, rfl⟩)
  go_ret
  exact ⟨rfl, hb2.trans ((hb3.trans (below_al _ _ |>.mono hb3.size)).mono hb2.size)⟩

theorem agg_of {P : Program} {w : World} {r : Reach} {b : Nat} {t : TypeId} {v : Value} {fs : Array Field} (hs : P.underlying t = some (.struct fs)) (hv : Value.okWide P w r b t v) : ∃ l : List Value, v = .agg l.toArray := by
  obtain ⟨cs, rfl, _⟩ := okWide_struct hs hv
  exact ⟨cs.toList, by simp⟩
set_option maxRecDepth 100000 in
theorem open_ins {H : Type} {enc : TypeId × Value → H} {w : World} {v : Value} {d : DataW H} {p : List MemPlace} {r : Reach} {b0 : Nat}
    (h : DataW.Trod enc Try.prog w 0 (fun _ => true) true 23 v d p) (hok : Value.okWide Try.prog w r b0 23 v) :
    ∃ i : In, v = .agg #[.int .i64 i.kind, .int .i64 i.d, .int .i64 i.a, .int .i64 i.b, .int .i64 i.s, .int .i64 i.c, .int .i64 i.n] ∧ okIn i := by
  obtain ⟨l', rfl⟩ := agg_of Try.underlying23 hok
  obtain ⟨fuel, hf⟩ := h
  obtain ⟨hlen, hg⟩ := struct_cells Try.underlying23 (by kernel_rfl) (by kernel_rfl) hf
  simp [Value.cells] at hlen hg
  match l', hlen with
  | [u0, u1, u2, u3, u4, u5, u6], _ =>
    obtain ⟨_, _, _, g0⟩ := hg 0 _ rfl
    obtain ⟨_, _, _, g1⟩ := hg 1 _ rfl
    obtain ⟨_, _, _, g2⟩ := hg 2 _ rfl
    obtain ⟨_, _, _, g3⟩ := hg 3 _ rfl
    obtain ⟨_, _, _, g4⟩ := hg 4 _ rfl
    obtain ⟨_, _, _, g5⟩ := hg 5 _ rfl
    obtain ⟨_, _, _, g6⟩ := hg 6 _ rfl
    obtain ⟨z0, e0, _, h0⟩ := DataW.trod_int Try.underlying3 g0
    obtain ⟨z1, e1, _, h1⟩ := DataW.trod_int Try.underlying3 g1
    obtain ⟨z2, e2, _, h2⟩ := DataW.trod_int Try.underlying3 g2
    obtain ⟨z3, e3, _, h3⟩ := DataW.trod_int Try.underlying3 g3
    obtain ⟨z4, e4, _, h4⟩ := DataW.trod_int Try.underlying3 g4
    obtain ⟨z5, e5, _, h5⟩ := DataW.trod_int Try.underlying3 g5
    obtain ⟨z6, e6, _, h6⟩ := DataW.trod_int Try.underlying3 g6
    simp at e0 e1 e2 e3 e4 e5 e6
    subst e0 e1 e2 e3 e4 e5 e6
    exact ⟨⟨z0, z1, z2, z3, z4, z5, z6⟩, rfl, i64_bounds h0, i64_bounds h1, i64_bounds h2, i64_bounds h3, i64_bounds h4, i64_bounds h5, i64_bounds h6⟩

set_option maxHeartbeats 3200000 in
set_option maxRecDepth 100000 in
theorem walkEncodes {H : Type} {enc : TypeId × Value → H} {d0 : DataW H} {P0 : List MemPlace} {r : Reach} {b0 : Nat} (v0 : Value) (w : World)
    (k0 : DataW.Trod enc Try.prog w 0 (fun _ => true) true 23 v0 d0 P0) (ok0 : Value.okWide Try.prog w r b0 23 v0) :
    Calls Try.prog 3 #[v0] w fun e w' => e = .returned (.bool true) ∧ Below w.heap.size w w' := by
  obtain ⟨i, rfl, hi⟩ := open_ins k0 ok0
  clear k0 ok0
  obtain ⟨W, hW⟩ : ∃ W, W = w.alloc (.cells #[.int .i64 i.kind, .int .i64 i.d, .int .i64 i.a, .int .i64 i.b, .int .i64 i.s, .int .i64 i.c, .int .i64 i.n] 23) := ⟨_, rfl⟩
  have hB : Below w.heap.size w W := by rw [hW]; exact below_al _ _
  have hV : Vi W w.heap.size i := by rw [hW]; exact vi_new _ _ _ _ rfl
  have HV := Lib.hid hV
  have HW := Lib.hid hW
  have HI := Lib.hid hi
  clear hV hW hi
  cases hr : right i
  all_goals
    go_enter Try.func3, Try.ntmps3
    go_wp2_with fail
    rw [← HW.out]
    refine (alive_any _).mono ?_
    rintro e w2 ⟨rfl, hb2⟩
    have B2 := Lib.hid hb2
    obtain ⟨c0, c1, c2, c3, c4, c5, c6⟩ := (HV.out.keep B2.out).cells
    go_wp2_with fail
    refine (rright_any i _ HI.out).mono ?_
    rintro e w3 ⟨rfl, hb3⟩
    rw [hr]
    have B3 := Lib.hid (B2.out.trans (hb3.mono B2.out.size))
    clear c0 c1 c2 c3 c4 c5 c6
    obtain ⟨c0, c1, c2, c3, c4, c5, c6⟩ := (HV.out.keep B3.out).cells
    go_wp2_with fail
    refine (encode_any i _ HI.out).mono ?_
    rintro e w4 ⟨rfl, hb4⟩
    have B4 := Lib.hid (B3.out.trans (hb4.mono B3.out.size))
    clear c0 c1 c2 c3 c4 c5 c6
    obtain ⟨c0, c1, c2, c3, c4, c5, c6⟩ := (HV.out.keep B4.out).cells
    go_wp2_with fail
    refine (rencode_any i _ HI.out).mono ?_
    rintro e w5 ⟨rfl, hb5⟩
    have B5 := Lib.hid (B4.out.trans (hb5.mono B4.out.size))
    clear c0 c1 c2 c3 c4 c5 c6
    obtain ⟨c0, c1, c2, c3, c4, c5, c6⟩ := (HV.out.keep B5.out).cells
    go_wp2_with fail
    refine (right_at i _ HI.out).mono ?_
    rintro e w6 ⟨rfl, hb6⟩
    rw [hr]
    have B6 := Lib.hid (B5.out.trans (hb6.mono B5.out.size))
    clear c0 c1 c2 c3 c4 c5 c6
    obtain ⟨c0, c1, c2, c3, c4, c5, c6⟩ := (HV.out.keep B6.out).cells
  · have he : encode i = (0, 1) := by unfold encode; rw [hr]; rfl
    rw [he]
    go_wp2_with (go_at_call 19; refine (num_any _ _).mono ?_; rintro e w' ⟨rfl, rfl⟩)
    go_ret
    exact ⟨rfl, hB.trans (B6.out.mono hB.size)⟩
  · obtain ⟨hde, he2⟩ := decode_encode i hr
    have he3 : encode i = ((encode i).1, 0) := by rw [← he2]
    have D := fun w => decode_any (encode i).1 w
    rw [hde] at D
    rw [he2]
    generalize (encode i).1 = ew at *
    have D := Lib.hid D
    clear hde he2 he3
    go_wp2_with (first | (go_at_call 19; refine (num_any _ _).mono ?_; rintro e w' ⟨rfl, rfl⟩) | (go_at_call 20; refine (D.out _).mono ?_; rintro e w7 ⟨rfl, hb7⟩; have B7 := Lib.hid (B6.out.trans (hb7.mono B6.out.size)); obtain ⟨d0, d1, d2, d3, d4, d5, d6⟩ := (HV.out.keep B7.out).cells; have hlt := (HV.out.keep B7.out).lt; clear c0 c1 c2 c3 c4 c5 c6))
    go_ret
    exact ⟨rfl, hB.trans ((B7.out.trans ((below_al _ _).mono B7.out.size)).mono hB.size)⟩
end Go.Proofs.Ytfbfoooligbcfaa.A64L
