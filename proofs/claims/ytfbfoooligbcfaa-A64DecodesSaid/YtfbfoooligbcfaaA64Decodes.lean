/-
  WALK: the law A64Decodes.
-/
import Derived.Test.YtfbfoooligbcfaaA64RefDec
import Derived.Test.YtfbfoooligbcfaaA64Laws
namespace Go.Proofs.Ytfbfoooligbcfaa.A64Y
set_option linter.unusedVariables false
set_option linter.unusedSimpArgs false
open Go.RowKit Go.WideShapes Go.ChangeShapes Cm Mm Ow A64 Fld FldW A64W A64P A64C A64T A64R A64E A64D A64H A64Q A64G A64L A64V

theorem dec_case (W : BitVec 32) : (A64.decode W).2 = 8 ∧ (A64.decode W).1 = zeroIn ∨ (A64.decode W).2 = 0 ∧ okIn (A64.decode W).1 ∧ encode (A64.decode W).1 = (W, 0) ∧ right (A64.decode W).1 = true := by
  unfold A64.decode
  cases h : kindOf W with
  | none => exact .inl ⟨rfl, rfl⟩
  | some k =>
    obtain ⟨hk, he, hr⟩ := encode_decode W k h
    exact .inr ⟨rfl, okIn_dec k W hk, he, hr⟩
set_option maxHeartbeats 3200000 in
set_option maxRecDepth 100000 in
theorem walk (u : Int) (w : World) (hu : (Lit.int .u32 u).wf = true) :
    Calls Try.prog 4 #[.int .u32 u] w fun e w' => e = .returned (.bool true) ∧ Below w.heap.size w w' := by
  obtain ⟨W, rfl⟩ := w32_word hu
  clear hu
  have D1 := fun w => decode_any W w
  have D2 := fun w => rdecode_any W w
  have hc := dec_case W
  generalize A64.decode W = r at *
  obtain ⟨i, e0⟩ := r
  simp only at D1 D2 hc
  have D1 := Lib.hid D1
  have D2 := Lib.hid D2
  rcases hc with ⟨rfl, rfl⟩ | ⟨rfl, hi, he, hr⟩
  · generalize zeroIn = i at *
    go_enter Try.func4, Try.ntmps4
    go_wp2_with fail
    refine (A64L.alive_any _).mono ?_
    rintro e w1 ⟨rfl, hb1⟩
    have B1 := Lib.hid hb1
    clear hb1
    go_wp2_with fail
    refine (D1.out _).mono ?_
    rintro e w2 ⟨rfl, hb2⟩
    have B2 := Lib.hid (B1.out.trans (hb2.mono B1.out.size))
    clear hb2
    have B2a := Lib.hid (B2.out.alloc B2.out.size (.cells #[.int .i64 i.kind, .int .i64 i.d, .int .i64 i.a, .int .i64 i.b, .int .i64 i.s, .int .i64 i.c, .int .i64 i.n] 23))
    have V2 := Lib.hid (vi_new w2 i _ 23 rfl)
    go_wp2_with fail
    refine (D2.out _).mono ?_
    rintro e w3 ⟨rfl, hb3⟩
    have B3 := Lib.hid (B2a.out.trans (hb3.mono B2a.out.size))
    have V3 := Lib.hid (V2.out.keep hb3)
    clear hb3
    have B3a := Lib.hid (B3.out.alloc B3.out.size (.cells #[.int .i64 i.kind, .int .i64 i.d, .int .i64 i.a, .int .i64 i.b, .int .i64 i.s, .int .i64 i.c, .int .i64 i.n] 23))
    have V3a := Lib.hid (V3.out.keep (below_al w3 (.cells #[.int .i64 i.kind, .int .i64 i.d, .int .i64 i.a, .int .i64 i.b, .int .i64 i.s, .int .i64 i.c, .int .i64 i.n] 23)))
    have hlt := V3.out.lt
    obtain ⟨c0, c1, c2, c3, c4, c5, c6⟩ := V3a.out.cells
    go_wp2_with (go_at_call 19; refine (num_any _ _).mono ?_; rintro e w' ⟨rfl, rfl⟩)
    go_ret
    exact ⟨rfl, B3a.out⟩
  · have C1 := Lib.hid (fun w => encode_any i w hi)
    have C2 := Lib.hid (fun w => right_at i w hi)
    rw [he] at C1
    rw [hr] at C2
    clear hi he hr
    go_enter Try.func4, Try.ntmps4
    go_wp2_with fail
    refine (A64L.alive_any _).mono ?_
    rintro e w1 ⟨rfl, hb1⟩
    have B1 := Lib.hid hb1
    clear hb1
    go_wp2_with fail
    refine (D1.out _).mono ?_
    rintro e w2 ⟨rfl, hb2⟩
    have B2 := Lib.hid (B1.out.trans (hb2.mono B1.out.size))
    clear hb2
    have B2a := Lib.hid (B2.out.alloc B2.out.size (.cells #[.int .i64 i.kind, .int .i64 i.d, .int .i64 i.a, .int .i64 i.b, .int .i64 i.s, .int .i64 i.c, .int .i64 i.n] 23))
    have V2 := Lib.hid (vi_new w2 i _ 23 rfl)
    go_wp2_with fail
    refine (D2.out _).mono ?_
    rintro e w3 ⟨rfl, hb3⟩
    have B3 := Lib.hid (B2a.out.trans (hb3.mono B2a.out.size))
    have V3 := Lib.hid (V2.out.keep hb3)
    clear hb3
    have B3a := Lib.hid (B3.out.alloc B3.out.size (.cells #[.int .i64 i.kind, .int .i64 i.d, .int .i64 i.a, .int .i64 i.b, .int .i64 i.s, .int .i64 i.c, .int .i64 i.n] 23))
    have V3a := Lib.hid (V3.out.keep (below_al w3 (.cells #[.int .i64 i.kind, .int .i64 i.d, .int .i64 i.a, .int .i64 i.b, .int .i64 i.s, .int .i64 i.c, .int .i64 i.n] 23)))
    have hlt := V3.out.lt
    obtain ⟨c0, c1, c2, c3, c4, c5, c6⟩ := V3a.out.cells
    go_wp2_with (go_at_call 19; refine (num_any _ _).mono ?_; rintro e w' ⟨rfl, rfl⟩)
    refine (C1.out _).mono ?_
    rintro e w4 ⟨rfl, hb4⟩
    have B4 := Lib.hid (B3a.out.trans (hb4.mono B3a.out.size))
    have V4 := Lib.hid (V3a.out.keep hb4)
    clear hb4 c0 c1 c2 c3 c4 c5 c6
    obtain ⟨c0, c1, c2, c3, c4, c5, c6⟩ := V4.out.cells
    go_wp2_with (go_at_call 19; refine (num_any _ _).mono ?_; rintro e w' ⟨rfl, rfl⟩)
    refine (C2.out _).mono ?_
    rintro e w5 ⟨rfl, hb5⟩
    go_wp2_with fail
    go_ret
    exact ⟨rfl, B4.out.trans (hb5.mono B4.out.size)⟩
end Go.Proofs.Ytfbfoooligbcfaa.A64Y
