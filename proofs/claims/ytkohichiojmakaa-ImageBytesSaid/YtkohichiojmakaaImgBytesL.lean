/-
  WALK: the law ImageBytes.
-/
import Derived.Test.YtkohichiojmakaaByteIm
import Derived.Test.YtkohichiojmakaaImgShort
import Derived.Test.YtkohichiojmakaaImgSame
namespace Go.Proofs.Ytkohichiojmakaa.ImB
set_option linter.unusedVariables false
set_option linter.unusedSimpArgs false
open Go.RowKit Go.WideShapes Go.ChangeShapes Cm Mm Ow Ow2 Ow3 A64 A64W A64P Pat InW PatW Img ImC ImR ImN ImA ImJ ImW Byt ByW ByR ByS ByF ByI ByM

set_option maxRecDepth 20000 in
set_option maxHeartbeats 6400000 in
theorem walk {H : Type} {enc : TypeId × Value → H} {d0 : DataW H} {P0 : List MemPlace} {rc : Reach} {b0 : Nat} (v0 : Value) (w : World)
    (k0 : DataW.Trod enc Try.prog w 0 (fun _ => true) true 27 v0 d0 P0) (ok0 : Value.okWide Try.prog w rc b0 27 v0) :
    Calls Try.prog 4 #[v0] w fun e w' => e = .returned (.bool true) ∧ Below w.heap.size w w' := by
  obtain ⟨x, y, E, n, ec, C, m, cc, en, co, rfl, hE, hC⟩ := ImZ.open_image k0 ok0
  clear k0 ok0
  have hle := Lib.hid hE.1
  have hlc := Lib.hid hC.1
  obtain ⟨W, hW⟩ : ∃ W, W = w.alloc (.cells #[.int .i64 x, .int .i64 y, .slice E n ec, .slice C m cc] 27) := ⟨_, rfl⟩
  have hB : Below w.heap.size w W := by rw [hW]; exact (Below.refl _ _).alloc (Nat.le_refl _) _
  have HX : Hid (Xm W w.heap.size x y (.slice E n ec) (.slice C m cc)) := Lib.hid (by rw [hW]; exact xm_new _ _ _ _ _ _ _ rfl)
  have HE := Lib.hid (hE.keep hB)
  have HC := Lib.hid (hC.keep hB)
  have HW := Lib.hid hW
  have HB := Lib.hid hB
  clear hW hB hE hC
  go_enter Try.func4, Try.ntmps4
  go_upto_region 1 with (fail)
  rw [← HW.out]
  go_wp2_with fail
  refine (alive_any W).mono ?_
  rintro e w1 ⟨rfl, hb1⟩
  have B1 := Lib.hid (HB.out.trans (hb1.mono HB.out.size))
  have X1 := Lib.hid (HX.out.keep hb1)
  have E1 := Lib.hid (HE.out.keep hb1)
  have C1 := Lib.hid (HC.out.keep hb1)
  obtain ⟨q0, q1, q2, q3, qf⟩ := X1.out
  clear hb1 qf
  by_cases hin : m ≤ 300 ∧ n ≤ 20
  · obtain ⟨i1, i2⟩ := hin
    have t1 : decide (300 < (m : Int)) = false := by simp; omega
    have t2 : decide (20 < (n : Int)) = false := by simp; omega
    go_wp2_with fail
    refine (ImQ.rright_any x y E C n ec m cc en co w1 E1.out C1.out).mono ?_
    rintro e w2 ⟨rfl, hb2⟩
    have B2 := Lib.hid (B1.out.trans (hb2.mono B1.out.size))
    have X2 := Lib.hid (X1.out.keep hb2)
    have E2 := Lib.hid (E1.out.keep hb2)
    have C2 := Lib.hid (C1.out.keep hb2)
    clear q0 q1 q2 q3 hb2
    obtain ⟨q0, q1, q2, q3, qf⟩ := X2.out
    clear qf
    go_wp2_with fail
    refine (bytes_any x y E C n ec m cc en co w2 E2.out C2.out).mono ?_
    rintro e w3 ⟨A3, m3, c3, rfl, hnil3, hown3, hb3⟩
    have B3 := Lib.hid (B2.out.trans (hb3.mono B2.out.size))
    have X3 := Lib.hid (X2.out.keep hb3)
    have E3 := Lib.hid (E2.out.keep hb3)
    have C3 := Lib.hid (C2.out.keep hb3)
    have I3 := Lib.hid (isB_own hown3)
    have N3 := Lib.hid hnil3
    clear q0 q1 q2 q3 hb3 hown3 hnil3
    obtain ⟨q0, q1, q2, q3, qf⟩ := X3.out
    clear qf
    cases hrt : right' ⟨x, y, en, co⟩
    · have heq : rbytes ⟨x, y, en, co⟩ = ([], 1) := by unfold rbytes; rw [hrt]; rfl
      rw [heq] at I3 ⊢
      obtain rfl : m3 = 0 := by have := I3.out.1; simpa using this.symm
      obtain rfl := N3.out rfl
      have HR := Lib.hid hrt
      have V3 := conv_any I3.out (fun _ => rfl)
      clear heq N3
      go_wp2_with fail
      refine (rbytes_no x y E C n ec m cc en co w3 E3.out C3.out HR.out).mono ?_
      rintro e w4 ⟨rfl, hb4⟩
      have B4 := Lib.hid (B3.out.trans (hb4.mono B3.out.size))
      have X4 := Lib.hid (X3.out.keep hb4)
      have E4 := Lib.hid (E3.out.keep hb4)
      have C4 := Lib.hid (C3.out.keep hb4)
      have I4 := Lib.hid (I3.out.keep hb4)
      clear q0 q1 q2 q3 hb4 V3
      obtain ⟨q0, q1, q2, q3, qf⟩ := X4.out
      clear qf
      go_wp2_with fail
      refine (right_any x y E C n ec m cc en co w4 E4.out C4.out).mono ?_
      rw [HR.out]
      rintro e w5 ⟨rfl, hb5⟩
      have B5 := Lib.hid (B4.out.trans (hb5.mono B4.out.size))
      have V5 := conv_any (I4.out.keep hb5) (fun _ => rfl)
      have V5' := conv_any (w := w5) (A := none) (n := 0) (c := 0) (l := []) ⟨rfl, Sl.nil _ _ _⟩ (fun _ => rfl)
      clear q0 q1 q2 q3 hb5 hrt
      go_wp2_with fail
      refine (ImA.num_any 1 w5).mono ?_
      rintro e w6 ⟨rfl, rfl⟩
      go_wp2_with fail
      go_ret
      exact ⟨rfl, B5.out⟩
    · have heq : rbytes ⟨x, y, en, co⟩ = (bytesI ⟨x, y, en, co⟩, 0) := by unfold rbytes; rw [hrt]; rfl
      have HR := Lib.hid hrt
      have HQ := Lib.hid heq
      rw [heq] at I3 ⊢
      have hlb := bytes_len hrt
      rw [show (⟨x, y, en, co⟩ : Im).entry.length = n from hle.out, show (⟨x, y, en, co⟩ : Im).code.length = m from hlc.out] at hlb
      have hall := Lib.hid (read_all hrt)
      have hm3 : m3 = 13 + 4 * n + 4 * m := by rw [← I3.out.1, hlb]
      have M3 := Lib.hid hm3
      have HL := Lib.hid hlb
      generalize bytesI ⟨x, y, en, co⟩ = L at *
      clear heq N3 hrt hlb hm3
      go_wp2_with fail
      refine (rbytes_any x y E C n ec m cc en co w3 E3.out C3.out).mono ?_
      rw [HQ.out]
      rintro e w4 ⟨A4, m4, c4, rfl, hown4, hb4⟩
      have B4 := Lib.hid (B3.out.trans (hb4.mono B3.out.size))
      have X4 := Lib.hid (X3.out.keep hb4)
      have E4 := Lib.hid (E3.out.keep hb4)
      have C4 := Lib.hid (C3.out.keep hb4)
      have I4 := Lib.hid (I3.out.keep hb4)
      have J4 := Lib.hid (isB_own hown4)
      have M4 : Hid (m4 = 13 + 4 * n + 4 * m) := Lib.hid (by have := J4.out.1; rw [← this]; exact HL.out)
      clear q0 q1 q2 q3 hb4 hown4
      obtain ⟨q0, q1, q2, q3, qf⟩ := X4.out
      clear qf
      go_wp2_with fail
      refine (right_any x y E C n ec m cc en co w4 E4.out C4.out).mono ?_
      rw [HR.out]
      rintro e w5 ⟨rfl, hb5⟩
      have B5 := Lib.hid (B4.out.trans (hb5.mono B4.out.size))
      have X5 := Lib.hid (X4.out.keep hb5)
      have E5 := Lib.hid (E4.out.keep hb5)
      have C5 := Lib.hid (C4.out.keep hb5)
      have I5 := Lib.hid (I4.out.keep hb5)
      have V5 := conv_any I5.out (fun h => by have := M3.out; omega)
      have V5' := conv_any (J4.out.keep hb5) (fun h => by have := M4.out; omega)
      clear q0 q1 q2 q3 hb5
      obtain ⟨q0, q1, q2, q3, qf⟩ := X5.out
      clear qf
      go_wp2_with fail
      refine (ImA.num_any 0 w5).mono ?_
      rintro e w6 ⟨rfl, rfl⟩
      go_wp2_with fail
      refine (read_any A3 m3 c3 L w5 I5.out (by have := M3.out; omega)).mono ?_
      rw [hall.out]
      rintro e w7 ⟨E7, n7, ec7, C7, m7, cc7, rfl, hE7, hC7, hb7⟩
      have ln7 := hE7.1
      have lm7 := hC7.1
      obtain rfl : n = n7 := by rw [← ln7]; exact hle.out.symm
      obtain rfl : m = m7 := by rw [← lm7]; exact hlc.out.symm
      obtain ⟨W8, hW8⟩ : ∃ W8, w7.alloc (.cells #[.int .i64 x, .int .i64 y, .slice E7 n ec7, .slice C7 m cc7] 27) = W8 := ⟨_, rfl⟩
      have h78 : Below w7.heap.size w7 W8 := by rw [← hW8]; exact below_al _ _
      have B8 := Lib.hid (B5.out.trans ((hb7.trans (h78.mono hb7.size)).mono B5.out.size))
      have X8 := Lib.hid ((X5.out.keep hb7).keep h78)
      have Y8 : Hid (Xm W8 w7.heap.size x y (.slice E7 n ec7) (.slice C7 m cc7)) := Lib.hid (by rw [← hW8]; exact xm_new _ _ _ _ _ _ _ rfl)
      have E8 := Lib.hid ((E5.out.keep hb7).keep h78)
      have C8 := Lib.hid ((C5.out.keep hb7).keep h78)
      have F8 := Lib.hid (hE7.keep h78)
      have D8 := Lib.hid (hC7.keep h78)
      have HW8 := Lib.hid hW8
      clear q0 q1 q2 q3 hb7 h78 hW8 hE7 hC7 ln7 lm7 V5 V5'
      go_upto_region 12 with (fail)
      rw [HW8.out]
      obtain ⟨q0, q1, q2, q3, qf⟩ := X8.out
      obtain ⟨r0, r1, r2, r3, rf⟩ := Y8.out
      clear qf rf
      go_wp2_with fail
      refine (ImA.num_any 0 W8).mono ?_
      rintro e w9 ⟨rfl, rfl⟩
      go_wp2_with fail
      refine (ImS.sim_any x y E E7 C C7 n ec ec7 m cc cc7 en co W8 E8.out F8.out C8.out D8.out (by omega) (by omega)).mono ?_
      rintro e w10 ⟨rfl, hb10⟩
      have B10 := Lib.hid (B8.out.trans (hb10.mono B8.out.size))
      clear hb10
      go_wp2_with fail
      go_ret
      exact ⟨rfl, B10.out⟩
  · obtain h1 | ⟨h1, h2⟩ : decide (300 < (m : Int)) = true ∨ (decide (300 < (m : Int)) = false ∧ decide (20 < (n : Int)) = true) := by simp; omega
    all_goals
      clear hin
      go_wp2_with fail
      go_ret
      exact ⟨rfl, B1.out⟩
end Go.Proofs.Ytkohichiojmakaa.ImB
