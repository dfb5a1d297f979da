/-
  WALKS: chapter 4's helper of the laws, the line of an address, and CellsPlaces.
-/
import Derived.Test.YtgadjmojebhlgaaCells
namespace Go.Proofs.Ytgadjmojebhlgaa.ClL
set_option linter.unusedVariables false
set_option linter.unusedSimpArgs false
open Go.RowKit Cm Mm Ow Me Rm Cl

def line (a : Int) : Int := if a < 4096 then -1 else (a - 4096) / 64

theorem cline_any (a : Int) (w : World) (h1 : -9223372036854775808 ≤ a) (h2 : a ≤ 9223372036854775807) :
    Calls Try.prog 39 #[.int .i64 a] w fun e w' => e = .returned (.int .i64 (line a)) ∧ w = w' := by
  by_cases h : a < 4096
  · have e : line a = -1 := if_pos h
    have E := Lib.hid e; clear e
    go_enter Try.func39, Try.ntmps39
    go_wp2
    go_ret
    exact ⟨by rw [E.out]; rfl, rfl⟩
  · have e : line a = (a - 4096) / 64 := if_neg h
    have E := Lib.hid e; clear e
    go_enter Try.func39, Try.ntmps39
    go_wp2
    go_ret
    exact ⟨by rw [E.out]; rfl, rfl⟩

theorem alive_any (w : World) : Calls Try.prog 34 #[] w fun e w' => e = .returned (.bool true) ∧ Below w.heap.size w w' := by
  have e1 : words 1 = 1 := by decide
  have e2 : plc 1 4096 = some 0 := by decide
  have N := cnew_any 1 w
  rw [e1] at N
  have HN := Lib.hid N; clear N
  go_enter Try.func34, Try.ntmps34
  go_wp2_with fail
  refine HN.out.mono ?_
  rintro e w1 ⟨p, F, rfl, M1, hF, hb1⟩
  have R1 := cread_any p 1 4096 F _ _ _ w1 (by omega) (by omega) M1
  have W1 := cwrite_any p 1 4096 5 F _ _ _ w1 (by omega) (by omega) M1
  rw [e2] at R1 W1
  have HR := Lib.hid R1; clear R1
  have HW := Lib.hid W1; clear W1 M1 e1 e2
  go_wp2_with fail
  refine HR.out.mono ?_
  rintro e w2 ⟨rfl, rfl⟩
  rw [show rd (zeros 1) (some 0) = 0 from rfl]
  go_wp2_with fail
  refine HW.out.mono ?_
  rintro e w3 ⟨rfl, M3, O3⟩
  have R3 := cread_any p 1 4096 F _ _ _ w3 (by omega) (by omega) M3
  rw [show plc 1 4096 = some 0 by decide, show rd (put (zeros 1) (some 0) 5) (some 0) = 5 from rfl] at R3
  have HR3 := Lib.hid R3; clear R3 M3
  go_wp2_with fail
  refine HR3.out.mono ?_
  rintro e w4 ⟨rfl, rfl⟩
  go_wp2_with fail
  go_ret
  exact ⟨rfl, hb1.trans (O3.below hF hb1.size)⟩

set_option maxHeartbeats 1600000 in
theorem walkPlaces (a0 a1 : Int) (w : World) (w0 : (Lit.int .i64 a0).wf = true) (w1 : (Lit.int .i64 a1).wf = true) :
    Calls Try.prog 11 #[.int .i64 a0, .int .i64 a1] w fun e w' => e = .returned (.bool true) ∧ Below w.heap.size w w' := by
  obtain ⟨l1, u1⟩ := i64_bounds w0
  obtain ⟨l2, u2⟩ := i64_bounds w1
  clear w0 w1
  by_cases hb : 0 ≤ a0 ∧ a0 ≤ 64
  · obtain ⟨b1, b2⟩ := hb
    obtain ⟨n, rfl⟩ := Int.eq_ofNat_of_zero_le b1
    have e1 : words (n : Int) = n := by unfold words; omega
    have N : ∀ w, Calls Try.prog 35 #[.int .i64 (n : Int)] w (Made 66 n w) := fun w => by
      have := cnew_any (n : Int) w
      rwa [e1] at this
    have L := fun w => cline_any a1 w l2 u2
    have HN := Lib.hid N; clear N
    have HL := Lib.hid L; clear L
    clear e1
    cases ho : plc n a1 with
    | none =>
      have T := plc_none ho
      have HO := Lib.hid ho; clear ho
      have hv : rd (tick (zeros n) none) none = 0 := rfl
      have HV0 := Lib.hid hv; clear hv
      obtain h | ⟨h, h'⟩ | ⟨h, h', h''⟩ := T
      · skip
        have e2 : line a1 = -1 := if_pos h
        rw [e2] at HL
        clear e2
        go_enter Try.func11, Try.ntmps11
        go_wp2_with fail
        refine (alive_any w).mono ?_
        rintro e w2 ⟨rfl, hb2⟩
        go_wp2_with fail
        refine (HN.out w2).mono ?_
        rintro e w3 ⟨p, F, rfl, M3, hF, hb3⟩
        have R := cread_any p n a1 F _ _ _ w3 l2 u2 M3
        have W := cwrite_any p n a1 1 F _ _ _ w3 l2 u2 M3
        rw [HO.out] at R W
        have HR := Lib.hid R; clear R
        have HW := Lib.hid W; clear W M3
        go_wp2_with fail
        refine HR.out.mono ?_
        rintro e w4 ⟨rfl, rfl⟩
        go_wp2_with fail
        refine HW.out.mono ?_
        rintro e w5 ⟨rfl, M5, O5⟩
        have V := cversion_any p n a1 F _ _ _ w5 l2 u2 M5
        rw [HO.out, HV0.out] at V
        have HV := Lib.hid V; clear V M5
        go_wp2_with fail
        refine HV.out.mono ?_
        rintro e w6 ⟨rfl, rfl⟩
        go_wp2_with fail
        refine (HL.out _).mono ?_
        rintro e w7 ⟨rfl, rfl⟩
        go_wp2_with fail
        go_ret
        exact ⟨rfl, hb2.trans ((hb3.trans (O5.below hF hb3.size)).mono hb2.size)⟩
      · have t1 : a1 < 4096 + 8 * (n : Int) ∨ ¬ a1 < 4096 + 8 * (n : Int) := by omega
        have t2 : (a1 % 8 == 0) = false := by rw [beq_eq_false_iff_ne]; omega
        clear h'
        rcases t1 with t1 | t1
        all_goals
          have e2 : line a1 = (a1 - 4096) / 64 := if_neg (by omega)
          rw [e2] at HL
          clear e2
          go_enter Try.func11, Try.ntmps11
          go_wp2_with fail
          refine (alive_any w).mono ?_
          rintro e w2 ⟨rfl, hb2⟩
          go_wp2_with fail
          refine (HN.out w2).mono ?_
          rintro e w3 ⟨p, F, rfl, M3, hF, hb3⟩
          have R := cread_any p n a1 F _ _ _ w3 l2 u2 M3
          have W := cwrite_any p n a1 1 F _ _ _ w3 l2 u2 M3
          rw [HO.out] at R W
          have HR := Lib.hid R; clear R
          have HW := Lib.hid W; clear W M3
          go_wp2_with fail
          refine HR.out.mono ?_
          rintro e w4 ⟨rfl, rfl⟩
          go_wp2_with fail
          refine HW.out.mono ?_
          rintro e w5 ⟨rfl, M5, O5⟩
          have V := cversion_any p n a1 F _ _ _ w5 l2 u2 M5
          rw [HO.out, HV0.out] at V
          have HV := Lib.hid V; clear V M5
          go_wp2_with fail
          refine HV.out.mono ?_
          rintro e w6 ⟨rfl, rfl⟩
          go_wp2_with fail
          refine (HL.out _).mono ?_
          rintro e w7 ⟨rfl, rfl⟩
          go_wp2_with fail
          go_ret
          exact ⟨rfl, hb2.trans ((hb3.trans (O5.below hF hb3.size)).mono hb2.size)⟩
      · have t1 : ¬ a1 < 4096 + 8 * (n : Int) := by omega
        clear h' h''
        have e2 : line a1 = (a1 - 4096) / 64 := if_neg (by omega)
        rw [e2] at HL
        clear e2
        go_enter Try.func11, Try.ntmps11
        go_wp2_with fail
        refine (alive_any w).mono ?_
        rintro e w2 ⟨rfl, hb2⟩
        go_wp2_with fail
        refine (HN.out w2).mono ?_
        rintro e w3 ⟨p, F, rfl, M3, hF, hb3⟩
        have R := cread_any p n a1 F _ _ _ w3 l2 u2 M3
        have W := cwrite_any p n a1 1 F _ _ _ w3 l2 u2 M3
        rw [HO.out] at R W
        have HR := Lib.hid R; clear R
        have HW := Lib.hid W; clear W M3
        go_wp2_with fail
        refine HR.out.mono ?_
        rintro e w4 ⟨rfl, rfl⟩
        go_wp2_with fail
        refine HW.out.mono ?_
        rintro e w5 ⟨rfl, M5, O5⟩
        have V := cversion_any p n a1 F _ _ _ w5 l2 u2 M5
        rw [HO.out, HV0.out] at V
        have HV := Lib.hid V; clear V M5
        go_wp2_with fail
        refine HV.out.mono ?_
        rintro e w6 ⟨rfl, rfl⟩
        go_wp2_with fail
        refine (HL.out _).mono ?_
        rintro e w7 ⟨rfl, rfl⟩
        go_wp2_with fail
        go_ret
        exact ⟨rfl, hb2.trans ((hb3.trans (O5.below hF hb3.size)).mono hb2.size)⟩
    | some i =>
      obtain ⟨k1, k2, k3, k4⟩ := plc_some ho
      have HO := Lib.hid ho; clear ho
      have hv : rd (tick (zeros n) (some i)) (some i) = 1 := by simp [rd, tick, zeros, k4]; decide +kernel
      have HV0 := Lib.hid hv; clear hv
      have t1 : a1 < 4096 + 8 * (n : Int) := by omega
      have t2 : (a1 % 8 == 0) = true := by rw [beq_iff_eq]; omega
      clear k2 k3
      · skip
        have e2 : line a1 = (a1 - 4096) / 64 := if_neg (by omega)
        rw [e2] at HL
        clear e2
        go_enter Try.func11, Try.ntmps11
        go_wp2_with fail
        refine (alive_any w).mono ?_
        rintro e w2 ⟨rfl, hb2⟩
        go_wp2_with fail
        refine (HN.out w2).mono ?_
        rintro e w3 ⟨p, F, rfl, M3, hF, hb3⟩
        have R := cread_any p n a1 F _ _ _ w3 l2 u2 M3
        have W := cwrite_any p n a1 1 F _ _ _ w3 l2 u2 M3
        rw [HO.out] at R W
        have HR := Lib.hid R; clear R
        have HW := Lib.hid W; clear W M3
        go_wp2_with fail
        refine HR.out.mono ?_
        rintro e w4 ⟨rfl, rfl⟩
        go_wp2_with fail
        refine HW.out.mono ?_
        rintro e w5 ⟨rfl, M5, O5⟩
        have V := cversion_any p n a1 F _ _ _ w5 l2 u2 M5
        rw [HO.out, HV0.out] at V
        have HV := Lib.hid V; clear V M5
        go_wp2_with fail
        refine HV.out.mono ?_
        rintro e w6 ⟨rfl, rfl⟩
        go_wp2_with fail
        refine (HL.out _).mono ?_
        rintro e w7 ⟨rfl, rfl⟩
        go_wp2_with fail
        go_ret
        exact ⟨rfl, hb2.trans ((hb3.trans (O5.below hF hb3.size)).mono hb2.size)⟩
  · obtain h | h : a0 < 0 ∨ 64 < a0 := by omega
    all_goals
      go_enter Try.func11, Try.ntmps11
      go_wp2_with fail
      refine (alive_any w).mono ?_
      rintro e w2 ⟨rfl, hb2⟩
      go_wp2_with fail
      go_ret
      exact ⟨rfl, hb2⟩
end Go.Proofs.Ytgadjmojebhlgaa.ClL
