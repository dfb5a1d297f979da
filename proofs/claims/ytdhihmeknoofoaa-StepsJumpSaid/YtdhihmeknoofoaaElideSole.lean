/-
  WALKS: which cells are sole.
-/
import Derived.Test.YtdhihmeknoofoaaElideMore
namespace Go.Proofs.Ytdhihmeknoofoaa.ElS
set_option linter.unusedVariables false
set_option linter.unusedSimpArgs false
open Go.RowKit Go.WideShapes Go.ChangeShapes Cm Mm Ow Stp StW StC StM StF ElW ElR StO ElM

def boL (b : Bool) : List Value := [.bool b]
theorem elBo : El Try.prog 57 4 1 1 := by
  obtain ⟨i, h1, h2, h3, h4⟩ := info_parts (P := Try.prog) (e := 4) (z := .bool false) (size := 1) (bytes := 1) (by kernel_rfl)
  exact ⟨Try.underlying57, ⟨i, _, h1, h2, h3, h4, rfl⟩, by decide⟩
theorem isBo_own {w : World} {B : Nat} {A : Option Addr} {n c : Nat} {l : List Bool} (h : Own w B 4 1 A n c (l.map boL)) : IsBo w A n c l := by
  have hl : l.length = n := by simpa using h.len
  refine ⟨hl, h.sl.ext fun i hi => ?_⟩
  simp [List.getD, show i < l.length by omega, boL]
/-- the codes' steps -/
def stepsOf (l : List Cd) : List (List St) := l.map (·.l)
theorem stepsOf_len (l : List Cd) : (stepsOf l).length = l.length := by simp [stepsOf]
theorem stepsOf_get (l : List Cd) (k : Nat) : (stepsOf l).getD k [] = (l.getD k zeroCd).l := by
  unfold stepsOf List.getD
  rw [List.getElem?_map]
  cases l[k]? <;> rfl
def GaveB (w : World) (L : List Bool) (e : Ending) (w' : World) : Prop :=
  ∃ A m c, e = .returned (.slice A m c) ∧ Own w' w.heap.size 4 1 A m c (L.map boL) ∧ Below w.heap.size w w'
theorem bo_each (b : Bool) : ∀ y ∈ [boL b], y.length = 1 := fun y hy => by simp at hy; subst hy; rfl
theorem bo_ones (b : Bool) : ∀ y ∈ [boL b], ∀ u ∈ y, u.oneCell' = true := fun y hy u hu => by
  simp at hy; subst hy; simp [boL] at hu; subst hu; rfl

section
attribute [local go_sem] if_min if_max
set_option maxHeartbeats 3200000 in
theorem sole_any (A : Option Addr) (n cap : Nat) (cells : Int) (l : List Cd) (w : World) (h : IsCd w A n cap l) (hn : n ≤ 65536) (hN : ∀ i, i < n → (l.getD i zeroCd).n ≤ 65536) :
    Calls Try.prog 39 #[.slice A n cap, .int .i64 cells] w (GaveB w (soles (stepsOf l) cells)) := by
  have hl := Lib.hid h.1
  have hS := Lib.hid h
  have HN := Lib.hid hN
  clear hN h
  obtain ⟨M, hM⟩ : ∃ M, M = cutN cells := ⟨_, rfl⟩
  have hM16 : M ≤ 16 := by rw [hM]; unfold cutN; omega
  have hMM : max 0 (min cells 16) = (M : Int) := by rw [hM]; unfold cutN; omega
  have HM := Lib.hid hM; clear hM
  go_enter Try.func39, Try.ntmps39
  go_wp2
  have HMM := Lib.hid hMM; clear hMM
  go_loopw [5, 13] (fun v i wr => ∃ (k c : Nat) (A' : Option Addr), k ≤ M ∧ i = .int .i64 k ∧ v = .slice A' k c ∧ Own wr w.heap.size 4 1 A' k c ((solesN (stepsOf l) k).map boL) ∧ Below w.heap.size w wr) (fun _ i _ => M - (intOf i).toNat)
  case atStart => exact ⟨0, 0, none, by omega, rfl, rfl, Own.nil _ _ _ _, Below.refl _ _⟩
  case round =>
    obtain ⟨k, c, A', hk, rfl, rfl, hown, hbel⟩ := hrel
    have hsz := hbel.size
    by_cases hkM : (k : Int) < M
    · have HO := Lib.hid hown; clear hown
      obtain ⟨wo, rfl⟩ : ∃ wo : World, wo = wr := ⟨_, rfl⟩
      go_wp2
      go_loopw [7, 18] (fun q j wr => ∃ (i : Nat), i ≤ n ∧ j = .int .i64 i ∧ q = .int .i64 (many ((stepsOf l).take i) k : Nat) ∧ Below wo.heap.size wo wr) (fun _ j _ => n - (intOf j).toNat)
      case atStart => exact ⟨0, by omega, rfl, rfl, Below.refl _ _⟩
      case round =>
        obtain ⟨i, hi, rfl, rfl, hbel2⟩ := hrel
        have hsz2 := hbel2.size
        have hmb : many ((stepsOf l).take i) k ≤ i := by
          unfold many
          have := List.countP_le_length (p := fun l => asks l k) (l := (stepsOf l).take i)
          have := List.length_take_le i (stepsOf l)
          omega
        by_cases hin : i < n
        · have hms := Lib.hid (many_snoc (stepsOf l) k i (by rw [stepsOf_len]; have := hl.out; omega))
          rw [stepsOf_get] at hms
          obtain ⟨b, o, rfl, hb, s0, s1, s2, _, _, hI⟩ := ((hS.out.keep hbel).keep hbel2).cell (k := i) (by omega)
          have hNi := HN.out i hin
          generalize hc : l.getD i zeroCd = cd at *
          clear hc
          generalize many ((stepsOf l).take i) k = q at *
          obtain ⟨cx, cy, cA, cn, ccap, cl⟩ := cd
          have HI := Lib.hid (hI.keep (below_al wr (.cells #[.int .i64 cx, .int .i64 cy, .slice cA cn ccap] 24)))
          have i1 : (i : Int) < n := by omega
          cases ha : asks cl k
          all_goals
            go_wp2_with fail
            refine (asks_any cx cy k cA cn ccap cl _ HI.out hNi).mono ?_
            rintro e w5 ⟨rfl, hb5⟩
            rw [ha]
            have hb6 : Below wr.heap.size wr w5 := (below_al _ _).trans (hb5.mono (by simp))
            go_wp2_with fail
            go_roundw
            case rel => exact ⟨i + 1, by omega, by go_num, by rw [hms.out, ha]; go_num, hbel2.trans (hb6.mono hsz2)⟩
            case measure => simp [intOf]; omega
        · obtain rfl : i = n := by omega
          have e : (stepsOf l).take i = stepsOf l := by rw [← hl.out, ← stepsOf_len]; exact List.take_length
          have e2 := Lib.hid (solesN_snoc (stepsOf l) k)
          rw [e] at *
          clear e
          generalize hq : many (stepsOf l) k = q at *
          have HQ := Lib.hid hq; clear hq
          by_cases hq1 : (q : Int) ≤ 1
          · have hd : decide (q ≤ 1) = true := decide_eq_true (by omega)
            have hd := Lib.hid hd
            go_wp2_with (at_builtin; refine Ow2.wpList_appN _ rfl _ _ rfl elBo w.heap.size A' k c 1 wr.heap.size _ [boL true] rfl rfl (HO.out.keep hbel2) rfl rfl (bo_each true) (bo_ones true) (by unfold maxLen; omega) (by omega) (by omega) _ rfl ?_; intro A4 c4 w4 hown4 hbel4 hkp4 hat4; have HO4 := Lib.hid hown4; clear hown4 hkp4 hat4)
            go_roundw
            case rel => exact ⟨k + 1, c4, A4, by omega, by go_num, rfl, by rw [e2.out, List.map_append, hd.out]; exact HO4.out, (hbel.trans (hbel2.mono hsz)).trans hbel4⟩
            case measure => simp [intOf]; omega
          · have hd : decide (q ≤ 1) = false := decide_eq_false (by omega)
            have hd := Lib.hid hd
            go_wp2_with (at_builtin; refine Ow2.wpList_appN _ rfl _ _ rfl elBo w.heap.size A' k c 1 wr.heap.size _ [boL false] rfl rfl (HO.out.keep hbel2) rfl rfl (bo_each false) (bo_ones false) (by unfold maxLen; omega) (by omega) (by omega) _ rfl ?_; intro A4 c4 w4 hown4 hbel4 hkp4 hat4; have HO4 := Lib.hid hown4; clear hown4 hkp4 hat4)
            go_roundw
            case rel => exact ⟨k + 1, c4, A4, by omega, by go_num, rfl, by rw [e2.out, List.map_append, hd.out]; exact HO4.out, (hbel.trans (hbel2.mono hsz)).trans hbel4⟩
            case measure => simp [intOf]; omega
    · obtain rfl : k = M := by omega
      have HO := Lib.hid hown; clear hown
      go_wp2_with fail
      go_ret
      exact ⟨A', k, c, rfl, by unfold soles; rw [← HM.out]; exact HO.out, hbel⟩
end

set_option maxHeartbeats 3200000 in
theorem rsole_any (A : Option Addr) (n cap : Nat) (cells : Int) (l : List Cd) (w : World) (h : IsCd w A n cap l) (hn : n ≤ 65536) (hN : ∀ i, i < n → (l.getD i zeroCd).n ≤ 65536) :
    Calls Try.prog 40 #[.slice A n cap, .int .i64 cells] w (GaveB w (soles (stepsOf l) cells)) := by
  have hl := Lib.hid h.1
  have hS := Lib.hid h
  have HN := Lib.hid hN
  clear hN h
  obtain ⟨M, hM⟩ : ∃ M, M = cutN cells := ⟨_, rfl⟩
  have hM16 : M ≤ 16 := by rw [hM]; unfold cutN; omega
  have hMM : max 0 (min cells 16) = (M : Int) := by rw [hM]; unfold cutN; omega
  have HM := Lib.hid hM; clear hM
  have CU := fun w => rcut_any cells 0 16 w (by omega)
  rw [hMM] at CU
  have CU := Lib.hid CU
  clear hMM
  go_enter Try.func40, Try.ntmps40
  go_wp2_with fail
  refine (CU.out _).mono ?_
  rintro e w2 ⟨rfl, rfl⟩
  go_wp2_with fail
  go_loopw [6, 7] (fun v i wr => ∃ (k c : Nat) (A' : Option Addr), k ≤ M ∧ i = .int .i64 k ∧ v = .slice A' k c ∧ Own wr w.heap.size 4 1 A' k c ((solesN (stepsOf l) k).map boL) ∧ Below w.heap.size w wr) (fun _ i _ => M - (intOf i).toNat)
  case atStart => exact ⟨0, 0, none, by omega, rfl, rfl, Own.nil _ _ _ _, Below.refl _ _⟩
  case round =>
    obtain ⟨k, c, A', hk, rfl, rfl, hown, hbel⟩ := hrel
    have hsz := hbel.size
    by_cases hkM : (k : Int) < M
    · have HO := Lib.hid hown; clear hown
      obtain ⟨wo, rfl⟩ : ∃ wo : World, wo = wr := ⟨_, rfl⟩
      go_wp2
      go_loopw [8, 9] (fun q j wr => ∃ (i : Nat), i ≤ n ∧ j = .int .i64 i ∧ q = .int .i64 (many ((stepsOf l).take i) k : Nat) ∧ Below wo.heap.size wo wr) (fun _ j _ => n - (intOf j).toNat)
      case atStart => exact ⟨0, by omega, rfl, rfl, Below.refl _ _⟩
      case round =>
        obtain ⟨i, hi, rfl, rfl, hbel2⟩ := hrel
        have hsz2 := hbel2.size
        have hmb : many ((stepsOf l).take i) k ≤ i := by
          unfold many
          have := List.countP_le_length (p := fun l => asks l k) (l := (stepsOf l).take i)
          have := List.length_take_le i (stepsOf l)
          omega
        by_cases hin : i < n
        · have hms := Lib.hid (many_snoc (stepsOf l) k i (by rw [stepsOf_len]; have := hl.out; omega))
          rw [stepsOf_get] at hms
          obtain ⟨b, o, rfl, hb, s0, s1, s2, _, _, hI⟩ := ((hS.out.keep hbel).keep hbel2).cell (k := i) (by omega)
          have hNi := HN.out i hin
          have hcap := hS.out.2.1.le
          generalize hc : l.getD i zeroCd = cd at *
          clear hc
          generalize many ((stepsOf l).take i) k = q at *
          obtain ⟨cx, cy, cA, cn, ccap, cl⟩ := cd
          have HI := Lib.hid hI; clear hI
          have hcl := Lib.hid HI.out.1
          have S2 := Lib.hid s2
          have i1 : (i : Int) < n := by omega
          obtain ⟨w6, rfl⟩ : ∃ w6 : World, w6 = wr := ⟨_, rfl⟩
          go_wp2
          go_loopw [10, 11] (fun q j wr => ∃ (p : Nat), p ≤ cn ∧ j = .int .i64 p ∧ q = .bool (asks (cl.take p) k) ∧ Below w6.heap.size w6 wr) (fun _ j _ => cn - (intOf j).toNat)
          case atStart => exact ⟨0, by omega, rfl, rfl, Below.refl _ _⟩
          case round =>
            obtain ⟨p, hp, rfl, rfl, hbel3⟩ := hrel
            have hsz3 := hbel3.size
            have s2' := (hbel3.cell (p := ⟨b, o + i * 3 + 2, none⟩) hb).trans S2.out
            by_cases hpn : p < cn
            · have has := Lib.hid (asks_snoc cl k p (by have := hcl.out; omega))
              obtain ⟨b2, o2, rfl, hb2, t0, t1, t2, t3, t4, t5, t6, t7, t8⟩ := (HI.out.keep hbel3).cell (k := p) (by omega)
              generalize hc : cl.getD p zeroSt = s at *
              clear hc
              have i2 : (p : Int) < cn := by omega
              cases ha : asks (cl.take p) k
              · cases hacc : access s
                · go_wp2_with fail
                  refine (raccess_any s.kind _).mono ?_
                  rintro e w3 ⟨rfl, rfl⟩
                  rw [acc_kind, hacc]
                  go_wp2_with fail
                  go_roundw
                  case rel => exact ⟨p + 1, by omega, by go_num, by rw [has.out, ha, hacc]; rfl, hbel3⟩
                  case measure => simp [intOf]; omega
                · cases hce : (s.cell == (k : Int))
                  all_goals
                    go_wp2_with fail
                    refine (raccess_any s.kind _).mono ?_
                    rintro e w3 ⟨rfl, rfl⟩
                    rw [acc_kind, hacc]
                    go_wp2_with fail
                    go_roundw
                    case rel => exact ⟨p + 1, by omega, by go_num, by rw [has.out, ha, hacc, hce]; rfl, hbel3⟩
                    case measure => simp [intOf]; omega
              · go_wp2_with fail
                go_roundw
                case rel => exact ⟨p + 1, by omega, by go_num, by rw [has.out, ha]; rfl, hbel3⟩
                case measure => simp [intOf]; omega
            · obtain rfl : p = cn := by omega
              have e : cl.take p = cl := by rw [← hcl.out]; exact List.take_length
              rw [e] at *
              clear e
              cases ha : asks cl k
              all_goals
                go_wp2_with fail
                go_roundw
                case rel => exact ⟨i + 1, by omega, by go_num, by rw [hms.out, ha]; go_num, hbel2.trans (hbel3.mono hsz2)⟩
                case measure => simp [intOf]; omega
        · obtain rfl : i = n := by omega
          have e : (stepsOf l).take i = stepsOf l := by rw [← hl.out, ← stepsOf_len]; exact List.take_length
          have e2 := Lib.hid (solesN_snoc (stepsOf l) k)
          rw [e] at *
          clear e
          generalize hq : many (stepsOf l) k = q at *
          clear hq
          by_cases hq1 : (q : Int) ≤ 1
          · have hd : decide (q ≤ 1) = true := decide_eq_true (by omega)
            have hd := Lib.hid hd
            go_wp2_with (at_builtin; refine Ow2.wpList_appN _ rfl _ _ rfl elBo w.heap.size A' k c 1 wr.heap.size _ [boL true] rfl rfl (HO.out.keep hbel2) rfl rfl (bo_each true) (bo_ones true) (by unfold maxLen; omega) (by omega) (by omega) _ rfl ?_; intro A4 c4 w4 hown4 hbel4 hkp4 hat4; have HO4 := Lib.hid hown4; clear hown4 hkp4 hat4)
            go_roundw
            case rel => exact ⟨k + 1, c4, A4, by omega, by go_num, rfl, by rw [e2.out, List.map_append, hd.out]; exact HO4.out, (hbel.trans (hbel2.mono hsz)).trans hbel4⟩
            case measure => simp [intOf]; omega
          · have hd : decide (q ≤ 1) = false := decide_eq_false (by omega)
            have hd := Lib.hid hd
            go_wp2_with (at_builtin; refine Ow2.wpList_appN _ rfl _ _ rfl elBo w.heap.size A' k c 1 wr.heap.size _ [boL false] rfl rfl (HO.out.keep hbel2) rfl rfl (bo_each false) (bo_ones false) (by unfold maxLen; omega) (by omega) (by omega) _ rfl ?_; intro A4 c4 w4 hown4 hbel4 hkp4 hat4; have HO4 := Lib.hid hown4; clear hown4 hkp4 hat4)
            go_roundw
            case rel => exact ⟨k + 1, c4, A4, by omega, by go_num, rfl, by rw [e2.out, List.map_append, hd.out]; exact HO4.out, (hbel.trans (hbel2.mono hsz)).trans hbel4⟩
            case measure => simp [intOf]; omega
    · obtain rfl : k = M := by omega
      have HO := Lib.hid hown; clear hown
      go_wp2_with fail
      go_ret
      exact ⟨A', k, c, rfl, by unfold soles; rw [← HM.out]; exact HO.out, hbel⟩
end Go.Proofs.Ytdhihmeknoofoaa.ElS
