/-
  WALKS: the reference's functions of chapter 1, each once.
-/
import Derived.Test.YtkohichiojmakaaProg
import Derived.Test.YtkohichiojmakaaGPlain
namespace Go.Proofs.Ytkohichiojmakaa.FldR
set_option linter.unusedVariables false
set_option linter.unusedSimpArgs false
open Go.RowKit Cm Fld FldW

theorem rcut_any (n lo hi : Int) (w : World) (h : lo ≤ hi) :
    Calls Try.prog 61 #[.int .i64 n, .int .i64 lo, .int .i64 hi] w fun e w' => e = .returned (.int .i64 (max lo (min n hi))) ∧ w = w' := by
  go_enter Try.func61, Try.ntmps61
  go_wp2
  all_goals go_ret
  all_goals exact ⟨ret1 (by omega), rfl⟩

theorem low_num' (n : Nat) (h : n ≤ 32) : ((2 : Int) ^ n - 1) % 4294967296 = ((low n).toNat : Int) := by
  rw [← low_num n h, Int.emod_sub_emod]

theorem ones_any (n : Nat) (w : World) (h3 : (n : Int) ≤ 32) :
    Calls Try.prog 91 #[.int .i64 n] w fun e w' => e = .returned (.int .u32 ((low n).toNat : Int)) ∧ w = w' := by
  by_cases hn : (32 : Int) ≤ n
  · obtain rfl : n = 32 := by omega
    go_enter Try.func91, Try.ntmps91
    go_wp2
    go_ret
    exact ⟨ret1 (by rw [low_toNat 32 (by decide)]; rfl), rfl⟩
  · go_enter Try.func91, Try.ntmps91
    go_wp2
    go_ret
    exact ⟨ret1 (low_num' n (by omega)), rfl⟩

theorem shl_and (x y : BitVec 32) (k : Nat) : (x &&& y) <<< k = (x <<< k) &&& (y <<< k) := by
  refine Fld.ext fun i hi => ?_
  simp only [BitVec.getLsbD_shiftLeft, BitVec.getLsbD_and, hi, decide_true, Bool.true_and]
  by_cases h : i < k <;> simp [h]

theorem clamp_ca (a : Int) : max 0 (min a 32) = (ca a : Int) := by unfold ca; omega
theorem clamp_cn (a n : Int) : max 0 (min n (32 - (ca a : Int))) = (cn a n : Int) := by unfold ca cn; omega

theorem rget_any (x : Int) (W : BitVec 32) (a n : Int) (w : World) (hx : x = W.toNat) (h1 : -9223372036854775808 ≤ a) (h2 : a ≤ 9223372036854775807) (h3 : -9223372036854775808 ≤ n) (h4 : n ≤ 9223372036854775807) :
    Calls Try.prog 65 #[.int .u32 x, .int .i64 a, .int .i64 n] w fun e w' => e = .returned (.int .u32 (get W (ca a) (cn a n)).toNat) ∧ w = w' := by
  subst hx
  have k1 := ca_le a
  have k2 := cn_le a n
  have C1 : ∀ w : World, Calls Try.prog 61 #[.int .i64 a, .int .i64 0, .int .i64 32] w fun e w' => e = .returned (.int .i64 (ca a)) ∧ w = w' := fun w => by
    have := rcut_any a 0 32 w (by omega)
    rwa [clamp_ca] at this
  have C2 : ∀ w : World, Calls Try.prog 61 #[.int .i64 n, .int .i64 0, .int .i64 (32 - (ca a : Int))] w fun e w' => e = .returned (.int .i64 (cn a n)) ∧ w = w' := fun w => by
    have := rcut_any n 0 (32 - (ca a : Int)) w (by omega)
    rwa [clamp_cn] at this
  have D1 := Lib.hid C1; clear C1
  have D2 := Lib.hid C2; clear C2
  go_enter Try.func65, Try.ntmps65
  go_wp2_with fail
  refine (D1.out _).mono ?_
  rintro e w' ⟨rfl, rfl⟩
  go_wp2_with fail
  refine (D2.out _).mono ?_
  rintro e w' ⟨rfl, rfl⟩
  go_wp2_with (go_at_call 91; refine (ones_any _ _ (by omega)).mono ?_; rintro e w' ⟨rfl, rfl⟩)
  go_ret
  exact ⟨ret1 (by simp only [w32_shr, w32_and]; rfl), rfl⟩

theorem rput_any (x : Int) (W : BitVec 32) (a n v : Int) (w : World) (hx : x = W.toNat) (h1 : -9223372036854775808 ≤ a) (h2 : a ≤ 9223372036854775807) (h3 : -9223372036854775808 ≤ n) (h4 : n ≤ 9223372036854775807) :
    Calls Try.prog 64 #[.int .u32 x, .int .i64 a, .int .i64 n, .int .i64 v] w fun e w' => e = .returned (.int .u32 (put W (ca a) (cn a n) (BitVec.ofInt 32 v)).toNat) ∧ w = w' := by
  subst hx
  have k1 := ca_le a
  have k2 := cn_le a n
  have C1 : ∀ w : World, Calls Try.prog 61 #[.int .i64 a, .int .i64 0, .int .i64 32] w fun e w' => e = .returned (.int .i64 (ca a)) ∧ w = w' := fun w => by
    have := rcut_any a 0 32 w (by omega)
    rwa [clamp_ca] at this
  have C2 : ∀ w : World, Calls Try.prog 61 #[.int .i64 n, .int .i64 0, .int .i64 (32 - (ca a : Int))] w fun e w' => e = .returned (.int .i64 (cn a n)) ∧ w = w' := fun w => by
    have := rcut_any n 0 (32 - (ca a : Int)) w (by omega)
    rwa [clamp_cn] at this
  have D1 := Lib.hid C1; clear C1
  have D2 := Lib.hid C2; clear C2
  go_enter Try.func64, Try.ntmps64
  go_wp2_with fail
  refine (D1.out _).mono ?_
  rintro e w' ⟨rfl, rfl⟩
  go_wp2_with fail
  refine (D2.out _).mono ?_
  rintro e w' ⟨rfl, rfl⟩
  go_wp2_with (go_at_call 91; refine (ones_any _ _ (by omega)).mono ?_; rintro e w' ⟨rfl, rfl⟩)
  go_ret
  have e : IntKind.u64.wrap v % 4294967296 = v % 4294967296 := by rw [IntKind.wrap_u64]; omega
  exact ⟨ret1 (by rw [e, w32_of v]; simp only [w32_shl, w32_and, w32_or, w32_andNot]; rw [shl_and]; rfl), rfl⟩

theorem ge_eq {g n : Nat} : decide ((2 : Int) ^ (n - 1) ≤ (g : Int)) = decide (2 ^ (n - 1) ≤ g) := by
  rw [pow_nat]
  by_cases h : 2 ^ (n - 1) ≤ g
  · rw [decide_eq_true h]; exact decide_eq_true (by omega)
  · rw [decide_eq_false h]; exact decide_eq_false (by omega)

theorem rsigned_any (x : Int) (W : BitVec 32) (a n : Int) (w : World) (hx : x = W.toNat) (h1 : -9223372036854775808 ≤ a) (h2 : a ≤ 9223372036854775807) (h3 : -9223372036854775808 ≤ n) (h4 : n ≤ 9223372036854775807) :
    Calls Try.prog 66 #[.int .u32 x, .int .i64 a, .int .i64 n] w fun e w' => e = .returned (.int .i64 (sgn (get W (ca a) (cn a n)).toNat (cn a n))) ∧ w = w' := by
  subst hx
  have k1 := ca_le a
  have k2 := cn_le a n
  have k3 : cn a n ≤ 32 := by omega
  have gl := get_lt W (ca a) (cn a n) k3
  have gi := (get W (ca a) (cn a n)).isLt
  have C1 : ∀ w : World, Calls Try.prog 61 #[.int .i64 a, .int .i64 0, .int .i64 32] w fun e w' => e = .returned (.int .i64 (ca a)) ∧ w = w' := fun w => by
    have := rcut_any a 0 32 w (by omega)
    rwa [clamp_ca] at this
  have C2 : ∀ w : World, Calls Try.prog 61 #[.int .i64 n, .int .i64 0, .int .i64 (32 - (ca a : Int))] w fun e w' => e = .returned (.int .i64 (cn a n)) ∧ w = w' := fun w => by
    have := rcut_any n 0 (32 - (ca a : Int)) w (by omega)
    rwa [clamp_cn] at this
  have R : ∀ w : World, Calls Try.prog 65 #[.int .u32 W.toNat, .int .i64 (ca a), .int .i64 (cn a n)] w fun e w' => e = .returned (.int .u32 (get W (ca a) (cn a n)).toNat) ∧ w = w' := by
    intro w
    have := rget_any W.toNat W (ca a) (cn a n) w rfl (by omega) (by omega) (by omega) (by omega)
    rwa [ca_ca, cn_cn] at this
  generalize hG : (get W (ca a) (cn a n)).toNat = G at *
  have hp := p64 k3
  have hp1 : wrap64 ((2 : Int) ^ (cn a n - 1)) = 2 ^ (cn a n - 1) := p64 (by omega)
  have hs := sgn_num gl k3
  clear hG
  have D1 := Lib.hid C1; clear C1
  have D2 := Lib.hid C2; clear C2
  have HR := Lib.hid R; clear R
  have gl' := Lib.hid gl; clear gl
  by_cases hn : 0 < (cn a n : Int)
  · by_cases hh : 2 ^ (cn a n - 1) ≤ G
    · have H1 := Lib.hid (sgn_high (by omega) hh)
      have hq : (2 : Int) ^ (cn a n - 1) ≤ (G : Int) := by rw [pow_nat]; omega
      clear hh
      go_enter Try.func66, Try.ntmps66
      go_wp2_with fail
      refine (D1.out _).mono ?_
      rintro e w' ⟨rfl, rfl⟩
      go_wp2_with fail
      refine (D2.out _).mono ?_
      rintro e w' ⟨rfl, rfl⟩
      go_wp2_with (go_at_call 65; refine (HR.out _).mono ?_; rintro e w' ⟨rfl, rfl⟩)
      go_ret
      exact ⟨ret1 (hs.trans H1.out.symm), rfl⟩
    · have H1 := Lib.hid (sgn_low (g := G) (n := cn a n) (fun h => hh h.2))
      have hq : (G : Int) < (2 : Int) ^ (cn a n - 1) := by rw [pow_nat]; omega
      clear hh
      go_enter Try.func66, Try.ntmps66
      go_wp2_with fail
      refine (D1.out _).mono ?_
      rintro e w' ⟨rfl, rfl⟩
      go_wp2_with fail
      refine (D2.out _).mono ?_
      rintro e w' ⟨rfl, rfl⟩
      go_wp2_with (go_at_call 65; refine (HR.out _).mono ?_; rintro e w' ⟨rfl, rfl⟩)
      go_ret
      exact ⟨ret1 H1.out.symm, rfl⟩
  · have H1 := Lib.hid (sgn_low (g := G) (n := cn a n) (fun h => hn (by omega)))
    go_enter Try.func66, Try.ntmps66
    go_wp2_with fail
    refine (D1.out _).mono ?_
    rintro e w' ⟨rfl, rfl⟩
    go_wp2_with fail
    refine (D2.out _).mono ?_
    rintro e w' ⟨rfl, rfl⟩
    go_wp2_with (go_at_call 65; refine (HR.out _).mono ?_; rintro e w' ⟨rfl, rfl⟩)
    go_ret
    exact ⟨ret1 H1.out.symm, rfl⟩

theorem clamp0 (n : Int) : max 0 (min n 32) = (cn 0 n : Int) := (cn0 n).symm

theorem rfits_any (v n : Int) (w : World) (h1 : -9223372036854775808 ≤ v) (h2 : v ≤ 9223372036854775807) :
    Calls Try.prog 71 #[.int .i64 v, .int .i64 n] w fun e w' => e = .returned (.bool (fits v (cn 0 n))) ∧ w = w' := by
  have k2 := cn_le 0 n
  have k3 : cn 0 n ≤ 32 := by omega
  have hp := p64 k3
  have C1 : ∀ w : World, Calls Try.prog 61 #[.int .i64 n, .int .i64 0, .int .i64 32] w fun e w' => e = .returned (.int .i64 (cn 0 n)) ∧ w = w' := fun w => by
    have := rcut_any n 0 32 w (by omega)
    rwa [clamp0] at this
  have D1 := Lib.hid C1; clear C1
  go_enter Try.func71, Try.ntmps71
  go_wp2_with (go_at_call 61; refine (D1.out _).mono ?_; rintro e w' ⟨rfl, rfl⟩)
  all_goals go_ret
  all_goals refine ⟨retb ?_, rfl⟩
  all_goals unfold fits
  all_goals (by_cases h0 : 0 ≤ v <;> simp [h0] <;> omega)

theorem rfitsSigned_any (v n : Int) (w : World) (h1 : -9223372036854775808 ≤ v) (h2 : v ≤ 9223372036854775807) :
    Calls Try.prog 72 #[.int .i64 v, .int .i64 n] w fun e w' => e = .returned (.bool (fitsS v (cn 0 n))) ∧ w = w' := by
  have k2 := cn_le 0 n
  have k3 : cn 0 n ≤ 32 := by omega
  have C1 : ∀ w : World, Calls Try.prog 61 #[.int .i64 n, .int .i64 0, .int .i64 32] w fun e w' => e = .returned (.int .i64 (cn 0 n)) ∧ w = w' := fun w => by
    have := rcut_any n 0 32 w (by omega)
    rwa [clamp0] at this
  have D1 := Lib.hid C1; clear C1
  by_cases hn : cn 0 n = 0
  · have hb : ((cn 0 n : Int) == 0) = true := by rw [hn]; rfl
    go_enter Try.func72, Try.ntmps72
    go_wp2_with (go_at_call 61; refine (D1.out _).mono ?_; rintro e w' ⟨rfl, rfl⟩)
    go_ret
    refine ⟨retb ?_, rfl⟩
    unfold fitsS
    rw [if_pos hn]
    by_cases h0 : v = 0 <;> simp [h0]
  · have hb : ((cn 0 n : Int) == 0) = false := by rw [beq_eq_false_iff_ne]; omega
    have hz := Lib.hid hn
    have hp : wrap64 ((2 : Int) ^ (cn 0 n - 1)) = 2 ^ (cn 0 n - 1) := p64 (by omega)
    have hm : wrap64 (-(2 : Int) ^ (cn 0 n - 1)) = -2 ^ (cn 0 n - 1) :=
      IntWalk.wrap64_in _ ⟨by have := pow_ile (n := cn 0 n - 1) (by omega); omega, by have := pow_ipos (cn 0 n - 1); omega⟩
    have hi : 1 ≤ (cn 0 n : Int) := by omega
    clear hn
    go_enter Try.func72, Try.ntmps72
    go_wp2_with (go_at_call 61; refine (D1.out _).mono ?_; rintro e w' ⟨rfl, rfl⟩)
    all_goals go_ret
    all_goals refine ⟨retb ?_, rfl⟩
    all_goals unfold fitsS
    all_goals rw [if_neg hz.out]
    all_goals (by_cases h0 : -2 ^ (cn 0 n - 1) ≤ v <;> simp [h0] <;> omega)
end Go.Proofs.Ytkohichiojmakaa.FldR
