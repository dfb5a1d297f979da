/-
  WALK: the law StepsJump.
-/
import Derived.Test.YtdhihmeknoofoaaJumpPlain
namespace Go.Proofs.Ytdhihmeknoofoaa.Pz
set_option linter.unusedVariables false
set_option linter.unusedSimpArgs false
open Go.RowKit Go.WideShapes Go.ChangeShapes Cm Mm Ow Ow2 Me Stp StW Rm Sp Sd Sx Sr Pn Pa Pq Pr Pm Ph StF
open ElM (Cd zeroCd cdL okCd IsCd)

theorem jmpA_snoc (k : Nat) : jmpA (k + 1) = jmpA k ++ [⟨0, (k : Int) + 1, 0, 0, 0, 0, 0, k, 0⟩] := by simp [jmpA, List.range_succ]
theorem jmpB_snoc (k : Nat) : jmpB (k + 1) = jmpB k ++ [⟨9, 0, 0, 0, 0, k, 0, 0, 0⟩, ⟨8, 0, (k : Int) + 1, 0, 0, 0, 0, 0, 0⟩] := by simp [jmpB, List.range_succ]
/-- the code, as it grows -/
structure Grow (w wr : World) (p : Nat) (A : Option Addr) (m c : Nat) (L : List St) : Prop where
  v : Vr wr p 30 0 A m c
  o : Own wr (p + 1) 31 9 A m c (L.map stL)
  b : Below w.heap.size w wr
theorem Grow.more {w w4 : World} {p : Nat} {A A2 : Option Addr} {m m2 c c2 : Nat} {L els : List St} (hw : w.heap.size ≤ p) (hv : Vr w4 p 30 0 A m c) (ho : Own w4 (p + 1) 31 9 A2 m2 c2 (L.map stL ++ els.map stL)) (hb : Below w.heap.size w w4) : Grow w (w4.setCell ⟨p, 2, none⟩ (.slice A2 m2 c2)) p A2 m2 c2 (L ++ els) :=
  ⟨hv.set A2 m2 c2, by rw [List.map_append]; exact Ow2.own_set ho (Nat.lt_succ_self p) _, hb.setCell hw _⟩
theorem jmp_u (n T : Nat) (k : Int) (hn : n ≤ 20) : CodeU (jmpC n k T) := by
  intro s hs
  simp only [jmpC, jmpA, jmpB, jmpS, List.mem_append, List.mem_map, List.mem_range, List.mem_flatten, List.mem_cons, List.not_mem_nil, or_false] at hs
  rcases hs with (⟨i, hi, rfl⟩ | rfl) | ⟨l, ⟨i, hi, rfl⟩, hs⟩
  · exact ⟨by show (0 : Int) ≤ (i : Int); omega, by show (i : Int) < 18446744073709551616; omega⟩
  · exact ⟨by show (0 : Int) ≤ 0; omega, by show (0 : Int) < 18446744073709551616; omega⟩
  · simp only [List.mem_cons, List.not_mem_nil, or_false] at hs
    rcases hs with rfl | rfl
    · exact ⟨by show (0 : Int) ≤ 0; omega, by show (0 : Int) < 18446744073709551616; omega⟩
    · exact ⟨by show (0 : Int) ≤ 0; omega, by show (0 : Int) < 18446744073709551616; omega⟩
theorem jmpWant_len (n T : Nat) : (jmpWant n T).length = n - T := by
  unfold jmpWant
  split
  · simp; omega
  · simp
theorem jmpWant_at (n T i : Nat) (h : i < n - T) : (jmpWant n T).getD i 0 = (T : Int) + i := by
  unfold jmpWant
  rw [if_neg (by omega)]
  simp [List.getD, h]
theorem jmp_done {n T : Nat} {k : Int} (h : JmpSaid n T k) : doneM (jmpM n k T (n + 1)) = true := by
  obtain ⟨h1, h2⟩ := h.done
  unfold doneM allEn
  rw [h1, h2]; rfl
set_option maxRecDepth 200000 in
set_option maxHeartbeats 6400000 in
theorem walkJump (n to : Int) (z : Bool) (w : World) (w0 : (Lit.int .i64 n).wf = true) (w1 : (Lit.int .i64 to).wf = true) :
    Calls Try.prog 14 #[.int .i64 n, .int .i64 to, .bool z] w fun e w' => e = .returned (.bool true) ∧ Below w.heap.size w w' := by
  clear w0 w1
  go_enter Try.func14, Try.ntmps14
  go_wp2_with fail
  refine (alive17_any _).mono ?_
  rintro e w2 ⟨rfl, hb2⟩
  by_cases h1 : n < 1
  · go_wp2_with fail
    go_ret
    exact ⟨rfl, hb2⟩
  by_cases h2 : 20 < n
  · go_wp2_with fail
    go_ret
    exact ⟨rfl, hb2⟩
  by_cases h3 : to < 0
  · go_wp2_with fail
    go_ret
    exact ⟨rfl, hb2⟩
  by_cases h4 : 25 < to
  · go_wp2_with fail
    go_ret
    exact ⟨rfl, hb2⟩
  obtain ⟨N, rfl⟩ := Int.eq_ofNat_of_zero_le (show 0 ≤ n by omega)
  obtain ⟨T, rfl⟩ := Int.eq_ofNat_of_zero_le (show 0 ≤ to by omega)
  have hn : 1 ≤ N ∧ N ≤ 20 := by omega
  have ht : T ≤ 25 := by omega
  obtain ⟨p, hp⟩ : ∃ p, w2.heap.size = p := ⟨_, rfl⟩
  have hpw : w.heap.size ≤ p := by rw [← hp]; exact hb2.size
  have G0 : Hid (Grow w (w2.alloc (.cells #[.int .i64 30, .int .i64 0, .slice none 0 0] 24)) p none 0 0 (jmpA 0)) := Lib.hid
    ⟨vr_new _ _ _ _ _ _ _ _ hp, Own.nil _ _ _ _, hb2.trans ((below_al w2 _).mono hb2.size)⟩
  clear hb2
  go_wp2_with fail
  go_loopw [9] (fun i wr => ∃ (k c : Nat) (A : Option Addr), k ≤ N ∧ i = .int .i64 k ∧ Grow w wr p A k c (jmpA k)) (fun i _ => N - (intOf i).toNat)
  case atStart => exact ⟨0, 0, none, by omega, rfl, G0.out⟩
  case round =>
    obtain ⟨k, c, A, hk, rfl, hG⟩ := hrel
    have HV := Lib.hid hG.v
    have HO := Lib.hid hG.o
    have HR := Lib.hid hG.o.lt
    have HB := Lib.hid hG.b
    have v2 := hG.v.c2
    have v3 := hG.v.fr
    have hpl := hG.v.lt
    have hz := hG.b.size
    clear hG G0
    by_cases hkn : k < N
    · have d0 : decide ((k : Int) < (N : Int)) = true := decide_eq_true (by omega)
      have e1 : (k : Int) % 18446744073709551616 = k := by omega

      go_wp2_with (at_builtin; refine Ow2.wpList_appN _ rfl _ _ rfl elSt (p + 1) A _ c 1 wr.heap.size _ [stL ⟨0, (k : Int) + 1, 0, 0, 0, 0, 0, k, 0⟩] rfl rfl HO.out rfl rfl (st_each [⟨0, (k : Int) + 1, 0, 0, 0, 0, 0, k, 0⟩]) (st_ones [⟨0, (k : Int) + 1, 0, 0, 0, 0, 0, k, 0⟩]) (by unfold maxLen; omega) (by omega) (by omega) _ rfl ?_; intro A2 c2 w4 hown4 hbel4 hkp4 hat4; have hv := HV.out.same (hkp4 p (by omega) (fun e => by have := (HR.out _ e).1; omega)); have vv2 := hv.c2; have vv3 := hv.fr; have HV4 := Lib.hid hv; have HO4 := Lib.hid hown4; have HB4 := Lib.hid (HB.out.trans (hbel4.mono (by omega))); clear hown4 hbel4 hkp4 hat4 hv)
      have G4 := Lib.hid (Grow.more (els := [⟨0, (k : Int) + 1, 0, 0, 0, 0, 0, k, 0⟩]) hpw HV4.out HO4.out HB4.out)
      rw [← jmpA_snoc] at G4
      go_roundw
      case rel => exact ⟨k + 1, c2, A2, by omega, by go_num, G4.out⟩
      case measure => simp [intOf]; omega
    · obtain rfl : k = N := by omega
      have d0 : decide ((k : Int) < (k : Int)) = false := decide_eq_false (by omega)
      clear hkn
      cases z

      · have hpl0 := hpl
        go_wp2_with (at_builtin; refine Ow2.wpList_appN _ rfl _ _ rfl elSt (p + 1) A _ c 1 wr.heap.size _ [stL ⟨10, 0, 0, 0, 0, (T : Int), 0, 0, 0⟩] rfl rfl HO.out rfl rfl (st_each [⟨10, 0, 0, 0, 0, (T : Int), 0, 0, 0⟩]) (st_ones [⟨10, 0, 0, 0, 0, (T : Int), 0, 0, 0⟩]) (by unfold maxLen; omega) (by omega) (by omega) _ rfl ?_; intro A2 c2 w4 hown4 hbel4 hkp4 hat4; have hv := HV.out.same (hkp4 p (by omega) (fun e => by have := (HR.out _ e).1; omega)); have vv2 := hv.c2; have vv3 := hv.fr; have HV4 := Lib.hid hv; have HO4 := Lib.hid hown4; have HB4 := Lib.hid (HB.out.trans (hbel4.mono (by omega))); clear hown4 hbel4 hkp4 hat4 hv)
        have G5 := Lib.hid (Grow.more (els := [jmpS 10 T]) hpw HV4.out HO4.out HB4.out)
        clear HV HO HR HB HV4 HO4 HB4 v2 v3 hpl hz vv2 vv3 hpl0
        go_loopw [11] (fun i wr => ∃ (j m c : Nat) (A : Option Addr), j ≤ k ∧ i = .int .i64 j ∧ m = k + 1 + 2 * j ∧ Grow w wr p A m c (jmpA k ++ [jmpS 10 T] ++ jmpB j)) (fun i _ => k - (intOf i).toNat)
        case atStart => exact ⟨0, k + 1, _, _, by omega, rfl, by omega, by rw [show jmpB 0 = [] from rfl, List.append_nil]; exact G5.out⟩
        case round =>
          obtain ⟨j, m, c, A, hj, rfl, hm, hG⟩ := hrel
          have hmb : m ≤ 61 := by omega
          have HM := Lib.hid hm
          clear hm
          have HV := Lib.hid hG.v
          have HO := Lib.hid hG.o
          have HR := Lib.hid hG.o.lt
          have HB := Lib.hid hG.b
          have v2 := hG.v.c2
          have v3 := hG.v.fr
          have hpl := hG.v.lt
          have hz := hG.b.size
          clear hG G5
          by_cases hjk : j < k
          · have d0 : decide ((j : Int) < (k : Int)) = true := decide_eq_true (by omega)
            go_wp2_with (at_builtin; refine Ow2.wpList_appN _ rfl _ _ rfl elSt (p + 1) A _ c 2 wr.heap.size _ [stL ⟨9, 0, 0, 0, 0, (j : Int), 0, 0, 0⟩, stL ⟨8, 0, (j : Int) + 1, 0, 0, 0, 0, 0, 0⟩] rfl rfl HO.out rfl rfl (st_each [⟨9, 0, 0, 0, 0, (j : Int), 0, 0, 0⟩, ⟨8, 0, (j : Int) + 1, 0, 0, 0, 0, 0, 0⟩]) (st_ones [⟨9, 0, 0, 0, 0, (j : Int), 0, 0, 0⟩, ⟨8, 0, (j : Int) + 1, 0, 0, 0, 0, 0, 0⟩]) (by unfold maxLen; omega) (by omega) (by omega) _ rfl ?_; intro A2 c2 w4 hown4 hbel4 hkp4 hat4; have hv := HV.out.same (hkp4 p (by omega) (fun e => by have := (HR.out _ e).1; omega)); have vv2 := hv.c2; have vv3 := hv.fr; have HV4 := Lib.hid hv; have HO4 := Lib.hid hown4; have HB4 := Lib.hid (HB.out.trans (hbel4.mono (by omega))); clear hown4 hbel4 hkp4 hat4 hv)
            have G6 := Lib.hid (Grow.more (els := [⟨9, 0, 0, 0, 0, (j : Int), 0, 0, 0⟩, ⟨8, 0, (j : Int) + 1, 0, 0, 0, 0, 0, 0⟩]) hpw HV4.out HO4.out HB4.out)
            rw [List.append_assoc, ← jmpB_snoc] at G6
            go_roundw
            case rel => exact ⟨j + 1, m + 2, c2, A2, by omega, by go_num, by have := HM.out; omega, G6.out⟩
            case measure => simp [intOf]; omega
          · obtain rfl : k = j := by omega
            have d0 : decide ((k : Int) < (k : Int)) = false := decide_eq_false (by omega)
            have hI : IsSt wr A m c (jmpC k 10 T) := isSt_own HO.out
            have HI := Lib.hid hI
            have SAID := Lib.hid (jmp_said (n := k) (to := T) (k := 10) (by omega) (by omega) (by omega) (by omega))
            have v0 := HV.out.c0
            have v1 := HV.out.c1
            clear hjk hI HO HR HV hj HM
            go_wp2_with fail
            have C5 := cd_lit wr 30 0 A m c (jmpC k 10 T) ⟨by decide, by decide⟩ ⟨by decide, by decide⟩ HI.out
            have b45 : Below wr.heap.size wr (wr.alloc (.cells #[.int .i64 30, .int .i64 0, .slice A m c] 24)) := (Below.refl _ _).alloc (Nat.le_refl _) _
            obtain ⟨W5, hW5⟩ : ∃ W5, wr.alloc (.cells #[.int .i64 30, .int .i64 0, .slice A m c] 24) = W5 := ⟨_, rfl⟩
            rw [hW5] at C5 b45 ⊢
            clear hW5
            have B5 := Lib.hid (HB.out.trans (b45.mono hz))
            have NW := Lib.hid (new_mine 0 0 none 0 0 [] (some ⟨wr.heap.size, 0, none⟩) 1 1 [⟨30, 0, A, m, c, jmpC k 10 T⟩] 0 W5 (nil_st _) (by omega) nil_u C5 (by omega) (fun i hi => one_n hi (by omega)) (fun i hi => by
              obtain rfl : i = 0 := by omega
              exact jmp_u k T 10 (by omega)))
            clear HI C5 b45 HB
            have hz5 := B5.out.size
            refine NW.out.mono ?_
            rintro e w6 ⟨q, rfl, hM, hb6⟩
            have hM : Mine w6 W5.heap.size q (jmpG k 10 T) (jmpM k 10 T 0) := hM
            have M6 := Lib.hid hM
            have B6 := Lib.hid (B5.out.trans (hb6.mono hz5))
            clear hM hb6 NW v0 v1 v2 v3 hpl hz d0
            go_wp2_with fail
            go_loopw [13] (fun i wr => ∃ (e : Nat), e ≤ k + 1 ∧ i = .int .i64 e ∧ Mine wr W5.heap.size q (jmpG k 10 T) (jmpM k 10 T e) ∧ Below w.heap.size w wr) (fun i _ => k + 1 - (intOf i).toNat)
            case atStart => exact ⟨0, by omega, rfl, M6.out, B6.out⟩
            case round =>
              obtain ⟨e, he, rfl, hM, hbel⟩ := hrel
              have MM := Lib.hid hM
              have BL := Lib.hid hbel
              clear hM hbel M6 B6
              have hzr := BL.out.size
              by_cases hek : e < k + 1
              · have d2 : decide ((e : Int) < (k : Int) + 1) = true := decide_eq_true (by omega)
                have hr := SAID.out.ne e hek
                have ho := SAID.out.out e (by omega)
                have HR := Lib.hid hr
                have HO := Lib.hid ho
                clear hr ho
                go_wp2_with fail
                refine (step_mine MM.out 0 (Nat.le_trans HO.out (by omega))).mono ?_
                rintro e' w7 ⟨rfl, hM7, hb7⟩
                have M7 : Hid (Mine w7 W5.heap.size q (jmpG k 10 T) (jmpM k 10 T (e + 1))) := Lib.hid (hM7 HR.out)
                have B7 := Lib.hid (BL.out.trans (hb7.mono hz5))
                clear hM7 hb7 HR HO
                go_wp2_with fail
                go_roundw
                case rel => exact ⟨e + 1, by omega, by go_num, M7.out, B7.out⟩
                case measure => simp [intOf]; omega
              · obtain rfl : e = k + 1 := by omega
                have d2 : decide (((k + 1 : Nat) : Int) < (k : Int) + 1) = false := decide_eq_false (by omega)
                have WA := Lib.hid SAID.out.want
                have DN := Lib.hid (jmp_done SAID.out)
                clear hek he
                go_wp2_with fail
                refine (out_mine MM.out (by have := SAID.out.out (k + 1) (by omega); omega)).mono ?_
                rintro e' w8 ⟨A8, n8, c8, rfl, row8, hb8⟩
                rw [WA.out] at row8
                have U8 := isU_of_row row8
                have hn8 : n8 = k - T := by rw [← U8.1, jmpWant_len]
                have UU := Lib.hid U8
                have M8 := Lib.hid (MM.out.keep hb8)
                have B8 := Lib.hid (BL.out.trans (hb8.mono hzr))
                have HL := Lib.hid SAID.out.l
                clear row8 hb8 U8 MM BL WA
                by_cases hkt : k ≤ T
                · have d3 : decide ((k : Int) ≤ (T : Int)) = true := decide_eq_true (by omega)
                  obtain rfl : n8 = 0 := by omega
                  clear hn8
                  go_wp2_with fail
                  refine (done_mine M8.out (by have := HL.out; omega)).mono ?_
                  rintro e' w9 ⟨rfl, rfl⟩
                  rw [DN.out]
                  go_wp2_with fail
                  go_ret
                  exact ⟨rfl, B8.out⟩
                · have d3 : decide ((k : Int) ≤ (T : Int)) = false := decide_eq_false (by omega)
                  have HN8 := Lib.hid hn8
                  have hn8b : n8 ≤ 20 := by omega
                  have hsub : (k : Int) - (T : Int) = (n8 : Int) := by omega
                  have HSUB := Lib.hid hsub
                  clear hn8 hsub
                  go_wp2_with fail
                  go_loop [15] (fun i => ∃ (f : Nat), f ≤ n8 ∧ i = .int .i64 f) (fun i => n8 - (intOf i).toNat)
                  case atStart => exact ⟨0, by omega, rfl⟩
                  case round =>
                    obtain ⟨f, hf, rfl⟩ := hrel
                    by_cases hfn : f < n8
                    · have d4 : decide ((f : Int) < (n8 : Int)) = true := decide_eq_true (by omega)
                      have e1 : ((T : Int) + (f : Int)) % 18446744073709551616 = (T : Int) + (f : Int) := by omega
                      obtain ⟨g, o, rfl, -, z⟩ := UU.out.cell hfn
                      rw [jmpWant_at k T f (by have := HN8.out; omega)] at z
                      have hcap := UU.out.2.le
                      go_wp2_with fail
                      go_round
                      case rel => exact ⟨f + 1, by omega, by go_num⟩
                      case measure => simp [intOf]; omega
                    · obtain rfl : f = n8 := by omega
                      have d4 : decide ((f : Int) < (f : Int)) = false := decide_eq_false (by omega)
                      have hs := HSUB.out
                      go_wp2_with fail
                      refine (done_mine M8.out (by have := HL.out; omega)).mono ?_
                      rintro e' w9 ⟨rfl, rfl⟩
                      rw [DN.out]
                      go_wp2_with fail
                      go_ret
                      exact ⟨rfl, B8.out⟩
      · have hpl0 := hpl
        go_wp2_with (at_builtin; refine Ow2.wpList_appN _ rfl _ _ rfl elSt (p + 1) A _ c 1 wr.heap.size _ [stL ⟨11, 0, 0, 0, 0, (T : Int), 0, 0, 0⟩] rfl rfl HO.out rfl rfl (st_each [⟨11, 0, 0, 0, 0, (T : Int), 0, 0, 0⟩]) (st_ones [⟨11, 0, 0, 0, 0, (T : Int), 0, 0, 0⟩]) (by unfold maxLen; omega) (by omega) (by omega) _ rfl ?_; intro A2 c2 w4 hown4 hbel4 hkp4 hat4; have hv := HV.out.same (hkp4 p (by omega) (fun e => by have := (HR.out _ e).1; omega)); have vv2 := hv.c2; have vv3 := hv.fr; have HV4 := Lib.hid hv; have HO4 := Lib.hid hown4; have HB4 := Lib.hid (HB.out.trans (hbel4.mono (by omega))); clear hown4 hbel4 hkp4 hat4 hv)
        have G5 := Lib.hid (Grow.more (els := [jmpS 11 T]) hpw HV4.out HO4.out HB4.out)
        clear HV HO HR HB HV4 HO4 HB4 v2 v3 hpl hz vv2 vv3 hpl0
        go_loopw [11] (fun i wr => ∃ (j m c : Nat) (A : Option Addr), j ≤ k ∧ i = .int .i64 j ∧ m = k + 1 + 2 * j ∧ Grow w wr p A m c (jmpA k ++ [jmpS 11 T] ++ jmpB j)) (fun i _ => k - (intOf i).toNat)
        case atStart => exact ⟨0, k + 1, _, _, by omega, rfl, by omega, by rw [show jmpB 0 = [] from rfl, List.append_nil]; exact G5.out⟩
        case round =>
          obtain ⟨j, m, c, A, hj, rfl, hm, hG⟩ := hrel
          have hmb : m ≤ 61 := by omega
          have HM := Lib.hid hm
          clear hm
          have HV := Lib.hid hG.v
          have HO := Lib.hid hG.o
          have HR := Lib.hid hG.o.lt
          have HB := Lib.hid hG.b
          have v2 := hG.v.c2
          have v3 := hG.v.fr
          have hpl := hG.v.lt
          have hz := hG.b.size
          clear hG G5
          by_cases hjk : j < k
          · have d0 : decide ((j : Int) < (k : Int)) = true := decide_eq_true (by omega)
            go_wp2_with (at_builtin; refine Ow2.wpList_appN _ rfl _ _ rfl elSt (p + 1) A _ c 2 wr.heap.size _ [stL ⟨9, 0, 0, 0, 0, (j : Int), 0, 0, 0⟩, stL ⟨8, 0, (j : Int) + 1, 0, 0, 0, 0, 0, 0⟩] rfl rfl HO.out rfl rfl (st_each [⟨9, 0, 0, 0, 0, (j : Int), 0, 0, 0⟩, ⟨8, 0, (j : Int) + 1, 0, 0, 0, 0, 0, 0⟩]) (st_ones [⟨9, 0, 0, 0, 0, (j : Int), 0, 0, 0⟩, ⟨8, 0, (j : Int) + 1, 0, 0, 0, 0, 0, 0⟩]) (by unfold maxLen; omega) (by omega) (by omega) _ rfl ?_; intro A2 c2 w4 hown4 hbel4 hkp4 hat4; have hv := HV.out.same (hkp4 p (by omega) (fun e => by have := (HR.out _ e).1; omega)); have vv2 := hv.c2; have vv3 := hv.fr; have HV4 := Lib.hid hv; have HO4 := Lib.hid hown4; have HB4 := Lib.hid (HB.out.trans (hbel4.mono (by omega))); clear hown4 hbel4 hkp4 hat4 hv)
            have G6 := Lib.hid (Grow.more (els := [⟨9, 0, 0, 0, 0, (j : Int), 0, 0, 0⟩, ⟨8, 0, (j : Int) + 1, 0, 0, 0, 0, 0, 0⟩]) hpw HV4.out HO4.out HB4.out)
            rw [List.append_assoc, ← jmpB_snoc] at G6
            go_roundw
            case rel => exact ⟨j + 1, m + 2, c2, A2, by omega, by go_num, by have := HM.out; omega, G6.out⟩
            case measure => simp [intOf]; omega
          · obtain rfl : k = j := by omega
            have d0 : decide ((k : Int) < (k : Int)) = false := decide_eq_false (by omega)
            have hI : IsSt wr A m c (jmpC k 11 T) := isSt_own HO.out
            have HI := Lib.hid hI
            have SAID := Lib.hid (jmp_said (n := k) (to := T) (k := 11) (by omega) (by omega) (by omega) (by omega))
            have v0 := HV.out.c0
            have v1 := HV.out.c1
            clear hjk hI HO HR HV hj HM
            go_wp2_with fail
            have C5 := cd_lit wr 30 0 A m c (jmpC k 11 T) ⟨by decide, by decide⟩ ⟨by decide, by decide⟩ HI.out
            have b45 : Below wr.heap.size wr (wr.alloc (.cells #[.int .i64 30, .int .i64 0, .slice A m c] 24)) := (Below.refl _ _).alloc (Nat.le_refl _) _
            obtain ⟨W5, hW5⟩ : ∃ W5, wr.alloc (.cells #[.int .i64 30, .int .i64 0, .slice A m c] 24) = W5 := ⟨_, rfl⟩
            rw [hW5] at C5 b45 ⊢
            clear hW5
            have B5 := Lib.hid (HB.out.trans (b45.mono hz))
            have NW := Lib.hid (new_mine 0 0 none 0 0 [] (some ⟨wr.heap.size, 0, none⟩) 1 1 [⟨30, 0, A, m, c, jmpC k 11 T⟩] 0 W5 (nil_st _) (by omega) nil_u C5 (by omega) (fun i hi => one_n hi (by omega)) (fun i hi => by
              obtain rfl : i = 0 := by omega
              exact jmp_u k T 11 (by omega)))
            clear HI C5 b45 HB
            have hz5 := B5.out.size
            refine NW.out.mono ?_
            rintro e w6 ⟨q, rfl, hM, hb6⟩
            have hM : Mine w6 W5.heap.size q (jmpG k 11 T) (jmpM k 11 T 0) := hM
            have M6 := Lib.hid hM
            have B6 := Lib.hid (B5.out.trans (hb6.mono hz5))
            clear hM hb6 NW v0 v1 v2 v3 hpl hz d0
            go_wp2_with fail
            go_loopw [13] (fun i wr => ∃ (e : Nat), e ≤ k + 1 ∧ i = .int .i64 e ∧ Mine wr W5.heap.size q (jmpG k 11 T) (jmpM k 11 T e) ∧ Below w.heap.size w wr) (fun i _ => k + 1 - (intOf i).toNat)
            case atStart => exact ⟨0, by omega, rfl, M6.out, B6.out⟩
            case round =>
              obtain ⟨e, he, rfl, hM, hbel⟩ := hrel
              have MM := Lib.hid hM
              have BL := Lib.hid hbel
              clear hM hbel M6 B6
              have hzr := BL.out.size
              by_cases hek : e < k + 1
              · have d2 : decide ((e : Int) < (k : Int) + 1) = true := decide_eq_true (by omega)
                have hr := SAID.out.ne e hek
                have ho := SAID.out.out e (by omega)
                have HR := Lib.hid hr
                have HO := Lib.hid ho
                clear hr ho
                go_wp2_with fail
                refine (step_mine MM.out 0 (Nat.le_trans HO.out (by omega))).mono ?_
                rintro e' w7 ⟨rfl, hM7, hb7⟩
                have M7 : Hid (Mine w7 W5.heap.size q (jmpG k 11 T) (jmpM k 11 T (e + 1))) := Lib.hid (hM7 HR.out)
                have B7 := Lib.hid (BL.out.trans (hb7.mono hz5))
                clear hM7 hb7 HR HO
                go_wp2_with fail
                go_roundw
                case rel => exact ⟨e + 1, by omega, by go_num, M7.out, B7.out⟩
                case measure => simp [intOf]; omega
              · obtain rfl : e = k + 1 := by omega
                have d2 : decide (((k + 1 : Nat) : Int) < (k : Int) + 1) = false := decide_eq_false (by omega)
                have WA := Lib.hid SAID.out.want
                have DN := Lib.hid (jmp_done SAID.out)
                clear hek he
                go_wp2_with fail
                refine (out_mine MM.out (by have := SAID.out.out (k + 1) (by omega); omega)).mono ?_
                rintro e' w8 ⟨A8, n8, c8, rfl, row8, hb8⟩
                rw [WA.out] at row8
                have U8 := isU_of_row row8
                have hn8 : n8 = k - T := by rw [← U8.1, jmpWant_len]
                have UU := Lib.hid U8
                have M8 := Lib.hid (MM.out.keep hb8)
                have B8 := Lib.hid (BL.out.trans (hb8.mono hzr))
                have HL := Lib.hid SAID.out.l
                clear row8 hb8 U8 MM BL WA
                by_cases hkt : k ≤ T
                · have d3 : decide ((k : Int) ≤ (T : Int)) = true := decide_eq_true (by omega)
                  obtain rfl : n8 = 0 := by omega
                  clear hn8
                  go_wp2_with fail
                  refine (done_mine M8.out (by have := HL.out; omega)).mono ?_
                  rintro e' w9 ⟨rfl, rfl⟩
                  rw [DN.out]
                  go_wp2_with fail
                  go_ret
                  exact ⟨rfl, B8.out⟩
                · have d3 : decide ((k : Int) ≤ (T : Int)) = false := decide_eq_false (by omega)
                  have HN8 := Lib.hid hn8
                  have hn8b : n8 ≤ 20 := by omega
                  have hsub : (k : Int) - (T : Int) = (n8 : Int) := by omega
                  have HSUB := Lib.hid hsub
                  clear hn8 hsub
                  go_wp2_with fail
                  go_loop [15] (fun i => ∃ (f : Nat), f ≤ n8 ∧ i = .int .i64 f) (fun i => n8 - (intOf i).toNat)
                  case atStart => exact ⟨0, by omega, rfl⟩
                  case round =>
                    obtain ⟨f, hf, rfl⟩ := hrel
                    by_cases hfn : f < n8
                    · have d4 : decide ((f : Int) < (n8 : Int)) = true := decide_eq_true (by omega)
                      have e1 : ((T : Int) + (f : Int)) % 18446744073709551616 = (T : Int) + (f : Int) := by omega
                      obtain ⟨g, o, rfl, -, z⟩ := UU.out.cell hfn
                      rw [jmpWant_at k T f (by have := HN8.out; omega)] at z
                      have hcap := UU.out.2.le
                      go_wp2_with fail
                      go_round
                      case rel => exact ⟨f + 1, by omega, by go_num⟩
                      case measure => simp [intOf]; omega
                    · obtain rfl : f = n8 := by omega
                      have d4 : decide ((f : Int) < (f : Int)) = false := decide_eq_false (by omega)
                      have hs := HSUB.out
                      go_wp2_with fail
                      refine (done_mine M8.out (by have := HL.out; omega)).mono ?_
                      rintro e' w9 ⟨rfl, rfl⟩
                      rw [DN.out]
                      go_wp2_with fail
                      go_ret
                      exact ⟨rfl, B8.out⟩
end Go.Proofs.Ytdhihmeknoofoaa.Pz
