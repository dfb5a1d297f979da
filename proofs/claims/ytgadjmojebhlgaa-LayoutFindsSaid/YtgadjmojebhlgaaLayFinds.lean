/-
  WALK: the law LayoutFinds.
-/
import Derived.Test.YtgadjmojebhlgaaLayLaws
import Derived.Test.YtgadjmojebhlgaaOwn
namespace Go.Proofs.Ytgadjmojebhlgaa.LayF
set_option linter.unusedVariables false
set_option linter.unusedSimpArgs false
open Go.RowKit Cm Mm Lay LayL Ow

theorem elCl : El Try.prog 27 34 2 24 := by
  obtain ⟨i, h1, h2, h3, h4⟩ := info_parts (P := Try.prog) (e := 34) (z := .agg #[.string ⟨#[]⟩, .int .i64 0]) (size := 2) (bytes := 24) (by kernel_rfl)
  exact ⟨Try.underlying27, ⟨i, _, h1, h2, h3, h4, rfl⟩, by decide⟩

def abc : ByteArray := ⟨#[97, 98, 99, 100, 101, 102, 103, 104]⟩
def letter (j : Nat) : ByteArray := abc.extract j (j + 1)
def lay (s : Int) (k : Nat) : List Cl := (List.range k).map fun i => (letter (i / 2), s)
theorem lay_len (s : Int) (k : Nat) : (lay s k).length = k := by simp [lay]
theorem lay_snoc (s : Int) (k : Nat) : lay s (k + 1) = lay s k ++ [(letter (k / 2), s)] := by simp [lay, List.range_succ]
theorem lay_get (s : Int) (n k : Nat) (h : k < n) : (lay s n).getD k zero = (letter (k / 2), s) := by simp [lay, List.getD, h]

theorem run_letter (k : Nat) (h : k < 16) (wx : World) : (Instr.slice 9 (.string ⟨#[97, 98, 99, 100, 101, 102, 103, 104]⟩) (some (.int .i64 ((k : Int) / 2))) (some (.int .i64 ((k : Int) / 2 + 1))) none).run Try.prog wx = .ok (.string (letter (k / 2))) wx := by
  have := run_slice_string (P := Try.prog) wx 9 abc .i64 .i64 ((k : Int) / 2) ((k : Int) / 2 + 1) Try.underlying9 (by omega) (by omega) (by rw [show (abc.size : Int) = 8 from rfl]; omega)
  rw [show ((k : Int) / 2).toNat = k / 2 by omega, show ((k : Int) / 2 + 1).toNat = k / 2 + 1 by omega] at this
  exact this

/-- which letters are alike -/
theorem letter_eq : ∀ a, a < 8 → ∀ b, b < 8 → ((letter a).toList == (letter b).toList) = decide (a = b) := by decide +kernel
theorem letter_z : ∀ a, a < 8 → ((letter a).toList == [122]) = false := by decide +kernel
theorem letter_size (j : Nat) : (letter j).size ≤ maxLen := by
  unfold letter abc maxLen
  have : ((⟨#[97, 98, 99, 100, 101, 102, 103, 104]⟩ : ByteArray).extract j (j + 1)).size ≤ 8 := by
    rw [ByteArray.size_extract]
    have : (⟨#[97, 98, 99, 100, 101, 102, 103, 104]⟩ : ByteArray).size = 8 := rfl
    omega
  omega

theorem find_lay (s : Int) (n k : Nat) (h : k < n) (hn : n ≤ 16) : find (lay s n) (letter (k / 2)).toList = ((k / 2 * 2 : Nat) : Int) := by
  refine find_some _ _ _ (by rw [lay_len]; omega) (fun i hi => ?_) ?_
  · rw [lay_get s n i (by omega), letter_eq _ (by omega) _ (by omega)]
    exact decide_eq_false (by omega)
  · rw [lay_get s n _ (by omega), letter_eq _ (by omega) _ (by omega)]
    exact decide_eq_true (by omega)
theorem find_z (s : Int) (n : Nat) (hn : n ≤ 16) : find (lay s n) [122] = -1 := by
  refine find_none _ _ (fun i hi => ?_)
  rw [lay_len] at hi
  rw [lay_get s n i hi]
  exact letter_z _ (by omega)
theorem words_lay (s : Int) (h1 : 1 ≤ s) (h2 : s ≤ 64) (k : Nat) : words (lay s k) = (k : Int) * s := by
  induction k with
  | zero => simp [lay, words]
  | succ k ih =>
    rw [lay_snoc]
    have e : words (lay s k ++ [(letter (k / 2), s)]) = words (lay s k) + s := by
      unfold words
      rw [List.map_append, List.sum_append]
      simp [one]
      omega
    rw [e, ih, Int.natCast_add, Int.add_mul]
    simp
theorem place_lay (s : Int) (h1 : 1 ≤ s) (h2 : s ≤ 64) (n k : Nat) (h : k < n) : place (lay s n) (k : Int) = 4096 + 8 * ((k : Int) * s) := by
  unfold place
  rw [lay_len, if_pos ⟨by omega, by omega⟩, Int.toNat_natCast]
  have e : (lay s n).take k = lay s k := by
    unfold lay
    rw [← List.map_take, List.take_range]
    congr 2
    omega
  rw [e, words_lay s h1 h2]
/-- the cells that were made may be read -/
theorem isCl_lay {w : World} {B : Nat} {A : Option Addr} {n c : Nat} {s : Int} (hown : Own w B 34 2 A n c ((lay s n).map cells)) (h1 : 1 ≤ s) (h2 : s ≤ 64) : IsCl w A n c (lay s n) := by
  refine ⟨lay_len s n, hown.sl.ext fun i hi => ?_, fun i hi => ?_⟩
  · simp [List.getD, lay, hi, cells]
  · rw [lay_get s n i hi]
    exact ⟨letter_size _, by omega, by omega⟩

set_option maxHeartbeats 3200000 in
theorem finds (n s : Int) (w : World) (h1 : -9223372036854775808 ≤ n) (h2 : n ≤ 9223372036854775807) (h3 : -9223372036854775808 ≤ s) (h4 : s ≤ 9223372036854775807) :
    Calls Try.prog 6 #[.int .i64 n, .int .i64 s] w fun e w' => e = .returned (.bool true) ∧ Below w.heap.size w w' := by
  by_cases hb : 1 ≤ n ∧ n ≤ 16 ∧ 1 ≤ s ∧ s ≤ 64
  · obtain ⟨b1, b2, b3, b4⟩ := hb
    obtain ⟨n, rfl⟩ := Int.eq_ofNat_of_zero_le (show 0 ≤ n by omega)
    go_enter Try.func6, Try.ntmps6
    go_wp2_with (go_at_call 18; refine (alive_any _).mono ?_; rintro e w1 ⟨rfl, hb1⟩)
    have hz1 := hb1.size
    go_loopw [6, 7] (fun v i wr => ∃ (k c : Nat) (A : Option Addr), k ≤ n ∧ i = .int .i64 k ∧ v = .slice A k c ∧ Own wr w.heap.size 34 2 A k c ((lay s k).map cells) ∧ Below w.heap.size w wr) (fun _ i _ => n - (intOf i).toNat)
    case atStart => exact ⟨0, 0, none, by omega, rfl, rfl, Own.nil _ _ _ _, hb1⟩
    case round =>
      obtain ⟨k, c, A, hk, rfl, rfl, hown, hbel⟩ := hrel
      have hsz := hbel.size
      by_cases hkn : (k : Int) < n
      · have hsl := run_letter k (by omega)
        go_wp2_with (at_builtin; refine wpList_app1 _ rfl _ _ rfl elCl w.heap.size A k c _ rfl hown (cells (letter (k / 2), s)) rfl rfl (by intro u hu; simp [cells] at hu; rcases hu with rfl | rfl <;> rfl) (by unfold maxLen; omega) (by omega) (by omega) ?_; intro A2 c2 w2 hown2 hbel2)
        go_roundw
        case rel => exact ⟨k + 1, c2, A2, by omega, by go_num, rfl, by rw [lay_snoc, List.map_append]; exact hown2, hbel.trans hbel2⟩
        case measure => simp [intOf]; omega
      · obtain rfl : k = n := by omega
        have C := Lib.hid (isCl_lay hown b3 b4)
        clear hown
        obtain ⟨wo, rfl⟩ : ∃ wo : World, wo = wr := ⟨_, rfl⟩
        go_wp2
        go_loopw [8] (fun i wr => ∃ (j : Nat), j ≤ k ∧ i = .int .i64 j ∧ Below wo.heap.size wo wr) (fun i _ => k - (intOf i).toNat)
        case atStart => exact ⟨0, by omega, rfl, Below.refl _ _⟩
        case round =>
          obtain ⟨j, hj, rfl, hbel2⟩ := hrel
          have C1 := Lib.hid (C.out.keep hbel2)
          by_cases hjk : (j : Int) < k
          · have F := Lib.hid (find_lay s k j (by omega) (by omega))
            have P := Lib.hid (place_lay s b3 b4 k j (by omega))
            obtain ⟨b, o, rfl, _, g0, g1, _⟩ := C1.out.cell (k := j) (by omega)
            rw [lay_get s k j (by omega)] at g0 g1
            have m1 : 0 ≤ (j : Int) * s := Int.mul_nonneg (by omega) (by omega)
            have m2 : (j : Int) * s ≤ 1024 := by
              have := Int.mul_le_mul (show (j : Int) ≤ 16 by omega) b4 (by omega) (by omega)
              omega
            have m3 : 8 * (j : Int) * s = 8 * ((j : Int) * s) := by rw [Int.mul_assoc]
            go_wp2_with fail
            refine (lfind_any _ _ _ _ _ _ C1.out (by omega)).mono ?_
            rintro e w3 ⟨rfl, hb3⟩
            have C2 := Lib.hid (C1.out.keep hb3)
            rw [F.out]
            go_wp2_with fail
            refine (line_any _ _ _ _ _ _ C2.out (by omega)).mono ?_
            rintro e w4 ⟨rfl, hb4⟩
            have C3 := Lib.hid (C2.out.keep hb4)
            rw [show (place (lay s k) (j : Int) - 4096) / 64 = (j : Int) * s / 8 by rw [P.out]; omega]
            go_wp2_with fail
            refine (at_any _ _ _ _ _ _ C3.out (by omega)).mono ?_
            rintro e w5 ⟨rfl, hb5⟩
            rw [P.out]
            go_wp2_with fail
            go_roundw
            case rel => exact ⟨j + 1, by omega, by go_num, below_seq (below_seq (below_seq hbel2 (hb3.mono (Nat.le_refl _))) (hb4.mono (Nat.le_refl _))) (hb5.mono (Nat.le_refl _))⟩
            case measure => simp [intOf]; omega
          · obtain rfl : j = k := by omega
            have F := Lib.hid (find_z s j (by omega))
            have W := Lib.hid (words_lay s b3 b4 j)
            have m1 : 0 ≤ (j : Int) * s := Int.mul_nonneg (by omega) (by omega)
            have m2 : (j : Int) * s ≤ 1024 := by
              have := Int.mul_le_mul (show (j : Int) ≤ 16 by omega) b4 (by omega) (by omega)
              omega
            go_wp2_with fail
            refine (lfind_any _ _ _ _ _ _ C1.out (by omega)).mono ?_
            rintro e w3 ⟨rfl, hb3⟩
            have C2 := Lib.hid (C1.out.keep hb3)
            rw [show (ByteArray.toList { data := #[122] }) = [122] by decide +kernel, F.out]
            go_wp2_with fail
            refine (words_any _ _ _ _ _ C2.out (by omega)).mono ?_
            rintro e w4 ⟨rfl, hb4⟩
            rw [W.out]
            go_wp2_with fail
            go_ret
            exact ⟨rfl, hbel.trans (((hbel2.trans (hb3.mono hbel2.size)).trans (hb4.mono (Nat.le_trans hbel2.size hb3.size))).mono hsz)⟩
  · obtain h | ⟨_, h⟩ | ⟨_, _, h⟩ | ⟨_, _, _, h⟩ : n < 1 ∨ (1 ≤ n ∧ 16 < n) ∨ (1 ≤ n ∧ n ≤ 16 ∧ s < 1) ∨ (1 ≤ n ∧ n ≤ 16 ∧ 1 ≤ s ∧ 64 < s) := by omega
    all_goals clear hb
    all_goals
      go_enter Try.func6, Try.ntmps6
      go_wp2_with (go_at_call 18; refine (alive_any _).mono ?_; rintro e w1 ⟨rfl, hb1⟩)
      go_ret
      exact ⟨rfl, hb1⟩

theorem walk (a0 a1 : Int) (w : World) (w0 : (Lit.int .i64 a0).wf = true) (w1 : (Lit.int .i64 a1).wf = true) :
    Calls Try.prog 6 #[.int .i64 a0, .int .i64 a1] w fun e w' => e = .returned (.bool true) ∧ Below w.heap.size w w' := by
  obtain ⟨l0, u0⟩ := i64_bounds w0
  obtain ⟨l1, u1⟩ := i64_bounds w1
  exact finds a0 a1 w l0 u0 l1 u1
end Go.Proofs.Ytgadjmojebhlgaa.LayF
