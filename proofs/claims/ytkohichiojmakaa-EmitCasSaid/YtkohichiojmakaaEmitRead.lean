/-
  WALKS: package emit: read, target, keep, constant.
-/
import Derived.Test.YtkohichiojmakaaEmitPut
namespace Go.Proofs.Ytkohichiojmakaa.EmR
set_option linter.unusedVariables false
set_option linter.unusedSimpArgs false
open Go.RowKit Cm Mm Ow A64 A64W Stp Em InW EmW EmP

section
variable {w0 w : World} {q X : Nat} {PA : Option Addr} {pn pc : Nat} {p : List Pl} {L : List In} {lb : List Int}
/-- instructions were put -/
def PutL (w0 w : World) (q X : Nat) (PA : Option Addr) (pn pc : Nat) (p : List Pl) (L : List In) (lb : List Int) (w' : World) : Prop := ∃ X', Ms w0 w' q X' PA pn pc p L lb ∧ Far w w' q X X'
set_option maxHeartbeats 1600000 in
theorem read_any (h : Ms w0 w q X PA pn pc p L lb) (v k : Int) (hk : 0 ≤ k ∧ k ≤ 2) (hn : 0 ≤ (placeOf p v).n ∧ (placeOf p v).n ≤ 1000) (hL : L.length ≤ 3900) :
    Calls Try.prog 77 #[.pointer (some ⟨q, 0, none⟩), .int .i64 v, .int .i64 k] w fun e w' => e = .returned (.int .i64 (rdR p v k)) ∧ PutL w0 w q X PA pn pc p (L ++ rdI p v k) lb w' := by
  have PL := Lib.hid (place_any h v)
  have H := Lib.hid h
  clear h
  unfold rdI rdR
  generalize placeOf p v = pl at *
  obtain ⟨sl, n⟩ := pl
  dsimp only at hn
  cases sl
  · simp only [Bool.false_eq_true, if_false]
    go_enter Try.func77, Try.ntmps77
    go_wp2_with fail
    refine PL.out.mono ?_
    rintro e w2 ⟨rfl, hb2⟩
    have B2 := Lib.hid hb2
    clear hb2
    go_wp2_with fail
    go_ret
    refine ⟨rfl, X, ?_, ?_⟩
    · rw [List.append_nil]
      exact H.out.keep (B2.out.trans ((below_al w2 _).mono B2.out.size))
    · exact Far.below (B2.out.trans ((below_al w2 _).mono B2.out.size))
  · simp only [if_true]
    go_enter Try.func77, Try.ntmps77
    go_wp2_with fail
    refine PL.out.mono ?_
    rintro e w2 ⟨rfl, hb2⟩
    have B2 := Lib.hid (hb2.trans ((below_al w2 (.cells #[.bool true, .int .i64 n] 67)).mono hb2.size))
    clear hb2
    go_wp2_with fail
    refine (put_any (H.out.keep B2.out) 12 (17 + k) 28 0 0 0 n (by omega)).mono ?_
    rintro e w3 ⟨rfl, X', hM, hF⟩
    have HM := Lib.hid hM
    have HF := Lib.hid hF
    clear hM hF
    go_wp2_with fail
    go_ret
    exact ⟨rfl, X', HM.out, Far.after B2.out HF.out⟩
set_option maxHeartbeats 1600000 in
theorem target_any (h : Ms w0 w q X PA pn pc p L lb) (v : Int) (hn : 0 ≤ (placeOf p v).n ∧ (placeOf p v).n ≤ 1000) :
    Calls Try.prog 75 #[.pointer (some ⟨q, 0, none⟩), .int .i64 v] w fun e w' => e = .returned (.int .i64 (tgR p v)) ∧ Below w.heap.size w w' := by
  have PL := Lib.hid (place_any h v)
  clear h
  unfold tgR
  generalize placeOf p v = pl at *
  obtain ⟨sl, n⟩ := pl
  dsimp only at hn
  cases sl
  all_goals
    simp only [Bool.false_eq_true, if_false, if_true]
    go_enter Try.func75, Try.ntmps75
    go_wp2_with fail
    refine PL.out.mono ?_
    rintro e w2 ⟨rfl, hb2⟩
    have B2 := Lib.hid hb2
    clear hb2
    go_wp2_with fail
    go_ret
    exact ⟨rfl, B2.out.trans ((below_al w2 _).mono B2.out.size)⟩
set_option maxHeartbeats 1600000 in
theorem keep_any (h : Ms w0 w q X PA pn pc p L lb) (v : Int) (hL : L.length ≤ 3900) :
    Calls Try.prog 76 #[.pointer (some ⟨q, 0, none⟩), .int .i64 v] w fun e w' => e = .returned (.tuple #[]) ∧ PutL w0 w q X PA pn pc p (L ++ kpI p v) lb w' := by
  have PL := Lib.hid (place_any h v)
  have H := Lib.hid h
  clear h
  unfold kpI
  generalize placeOf p v = pl at *
  obtain ⟨sl, n⟩ := pl
  cases sl
  · simp only [Bool.false_eq_true, if_false]
    go_enter Try.func76, Try.ntmps76
    go_wp2_with fail
    refine PL.out.mono ?_
    rintro e w2 ⟨rfl, hb2⟩
    have B2 := Lib.hid hb2
    clear hb2
    go_wp2_with fail
    go_end0
    refine ⟨rfl, X, ?_, ?_⟩
    · rw [List.append_nil]
      exact H.out.keep (B2.out.trans ((below_al w2 _).mono B2.out.size))
    · exact Far.below (B2.out.trans ((below_al w2 _).mono B2.out.size))
  · simp only [if_true]
    go_enter Try.func76, Try.ntmps76
    go_wp2_with fail
    refine PL.out.mono ?_
    rintro e w2 ⟨rfl, hb2⟩
    have B2 := Lib.hid (hb2.trans ((below_al w2 (.cells #[.bool true, .int .i64 n] 67)).mono hb2.size))
    clear hb2
    go_wp2_with fail
    refine (put_any (H.out.keep B2.out) 13 20 28 0 0 0 n (by omega)).mono ?_
    rintro e w3 ⟨rfl, X', hM, hF⟩
    have HM := Lib.hid hM
    have HF := Lib.hid hF
    clear hM hF
    go_wp2_with fail
    go_end0
    exact ⟨rfl, X', HM.out, Far.after B2.out HF.out⟩
/-! a constant -/
def cI (d : Int) (v : BitVec 64) : Nat → List In
  | 0 => [⟨0, d, 0, 0, 0, 0, (chunk v 0).toNat⟩]
  | k + 1 => cI d v k ++ movk d v (k + 1)
theorem cI_all (d : Int) (v : BitVec 64) : cI d v 3 = constI d v := by simp [cI, constI]
theorem cI_len (d : Int) (v : BitVec 64) : ∀ k, (cI d v k).length ≤ k + 1
  | 0 => by simp [cI]
  | k + 1 => by
    have := cI_len d v k
    simp only [cI, List.length_append]
    unfold movk
    split
    · simp; omega
    · simp; omega
theorem chunk_and (v : BitVec 64) : bits .and .u64 (v.toNat : Int) 65535 = ((chunk v 0).toNat : Int) := by
  have := Alu.w64_and v 65535#64
  rw [show ((65535#64).toNat : Int) = 65535 from rfl] at this
  rw [this]
  unfold chunk
  rw [mask16]
  simp
theorem chunk_shr (v : BitVec 64) (k : Nat) : bits .and .u64 ((v.toNat : Int) / 2 ^ (16 * k)) 65535 = ((chunk v k).toNat : Int) := by
  rw [Alu.w64_shr]
  have := Alu.w64_and (v >>> (16 * k)) 65535#64
  rw [show ((65535#64).toNat : Int) = 65535 from rfl] at this
  rw [this]
  unfold chunk
  rw [mask16]
set_option maxHeartbeats 3200000 in
theorem constant_any (h : Ms w0 w q X PA pn pc p L lb) (d : Int) (v : BitVec 64) (hL : L.length ≤ 3800) :
    Calls Try.prog 74 #[.pointer (some ⟨q, 0, none⟩), .int .i64 d, .int .u64 (v.toNat : Int)] w fun e w' => e = .returned (.tuple #[]) ∧ PutL w0 w q X PA pn pc p (L ++ constI d v) lb w' := by
  have H := Lib.hid h
  have c0 := chunk_and v
  have l0 := chunk_lt v 0
  have i0 : IntKind.i64.wrap ((chunk v 0).toNat : Int) = ((chunk v 0).toNat : Int) := IntWalk.i64_in _ ⟨by omega, by omega⟩
  obtain ⟨z, hz⟩ : ∃ z, (chunk v 0).toNat = z := ⟨_, rfl⟩
  rw [hz] at c0 l0 i0
  have HZ := Lib.hid hz
  clear h hz
  go_enter Try.func74, Try.ntmps74
  go_wp2_with fail
  refine (put_any H.out 0 d 0 0 0 0 z (by omega)).mono ?_
  rintro e w2 ⟨rfl, X2, hM2, hF2⟩
  have M2 : Hid (Ms w0 w2 q X2 PA pn pc p (L ++ cI d v 0) lb) := Lib.hid (by rw [← HZ.out] at hM2; exact hM2)
  have F2 := Lib.hid hF2
  clear hM2 hF2 c0 l0 i0
  go_wp2_with fail
  go_loopw [6] (fun i wr => ∃ (k X' : Nat), 1 ≤ k ∧ k ≤ 4 ∧ i = .int .i64 k ∧ Ms w0 wr q X' PA pn pc p (L ++ cI d v (k - 1)) lb ∧ Far w wr q X X') (fun i _ => 4 - (intOf i).toNat)
  case atStart => exact ⟨1, X2, by omega, by omega, rfl, M2.out, F2.out⟩
  case round =>
    obtain ⟨k, X', hk1, hk4, rfl, hM, hF⟩ := hrel
    have MM := Lib.hid hM
    have FF := Lib.hid hF
    clear hM hF M2 F2
    by_cases hk : k < 4
    · have d0 : decide ((k : Int) < 4) = true := decide_eq_true (by omega)
      have c1 := chunk_shr v k
      have l1 := chunk_lt v k
      have j0 : (2 : Int) ^ (16 * (k : Int)).toNat = 2 ^ (16 * k) := by
        have : (16 * (k : Int)).toNat = 16 * k := by omega
        rw [this]
      have i1 : IntKind.i64.wrap ((chunk v k).toNat : Int) = ((chunk v k).toNat : Int) := IntWalk.i64_in _ ⟨by omega, by omega⟩
      have hc : cI d v (k + 1 - 1) = cI d v (k - 1) ++ movk d v k := by
        obtain ⟨k, rfl⟩ : ∃ j, k = j + 1 := ⟨k - 1, by omega⟩
        rfl
      have HC := Lib.hid hc
      have hln := cI_len d v (k - 1)
      have HLN : Hid ((L ++ cI d v (k - 1)).length ≤ 4000) := Lib.hid (by rw [List.length_append]; omega)
      clear hc hln
      by_cases hz : (chunk v k).toNat = 0
      · have HM : Hid (movk d v k = []) := Lib.hid (by unfold movk; rw [if_pos hz])
        rw [hz] at c1 i1
        clear hz l1
        go_wp2_with fail
        go_roundw
        case rel => exact ⟨k + 1, X', by omega, by omega, by go_num, by rw [HC.out, HM.out, List.append_nil]; exact MM.out, FF.out⟩
        case measure => simp [intOf]; omega
      · have HM : Hid (movk d v k = [⟨1, d, 0, 0, k, 0, (chunk v k).toNat⟩]) := Lib.hid (by unfold movk; rw [if_neg hz])
        obtain ⟨z, hzz⟩ : ∃ z, (chunk v k).toNat = z := ⟨_, rfl⟩
        rw [hzz] at HM c1 l1 i1 hz
        have hz' : ¬ ((z : Int) = 0) := by omega
        clear hzz
        go_wp2_with fail
        refine (put_any MM.out 1 d 0 0 k 0 z HLN.out).mono ?_
        rintro e w3 ⟨rfl, X3, hM3, hF3⟩
        have M3 := Lib.hid hM3
        have F3 := Lib.hid (FF.out.trans hF3)
        clear hM3 hF3
        go_wp2_with fail
        go_roundw
        case rel => exact ⟨k + 1, X3, by omega, by omega, by go_num, by rw [HC.out, HM.out, ← List.append_assoc]; exact M3.out, F3.out⟩
        case measure => simp [intOf]; omega
    · obtain rfl : k = 4 := by omega
      go_wp2_with fail
      go_end0
      exact ⟨rfl, X', by rw [← cI_all]; exact MM.out, FF.out⟩
end
end Go.Proofs.Ytkohichiojmakaa.EmR
