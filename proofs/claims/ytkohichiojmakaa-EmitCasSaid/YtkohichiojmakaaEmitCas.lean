/-
  WALK: the law EmitCas.
-/
import Derived.Test.YtkohichiojmakaaEmitOuts
namespace Go.Proofs.Ytkohichiojmakaa.EmLk
set_option linter.unusedVariables false
set_option linter.unusedSimpArgs false
open Go.RowKit Cm Mm Ow Me Rm Fld A64 A64W A64P Stp Alu AluG Em EmM EmW EmP EmR EmS EmT EmN EmC EmX Pat InW EmL EmLc

theorem outs_mute {e : List Ev} (h : mute e) : outs e = [] := by
  unfold outs
  rw [List.filter_eq_nil_iff.2 (fun x hx => by simpa using h x hx)]
  rfl
theorem words_1 : Rm.words 1 = 1 := by decide
theorem plc_1 : plc 1 4096 = some 0 := by decide
theorem put_1 (x : BitVec 64) : Rm.put (zeros 1) (some 0) (x.toNat : Int) = nowI (born [x] [1]) := rfl
theorem tick_1 : tick (zeros 1) (some 0) = [1] := by decide +kernel
theorem hrd (x : BitVec 64) (s : Cr) (h : s.now = [x]) : rd (nowI s) (some 0) = (x.toNat : Int) := by unfold nowI; rw [h]; rfl

set_option maxRecDepth 20000 in
set_option maxHeartbeats 3200000 in
theorem walk_t (was want tj : BitVec 64) (sa sb sc sd : Bool) (w : World) (hab : was = want) :
    Calls Try.prog 10 #[.int .u64 (was.toNat : Int), .int .u64 (want.toNat : Int), .int .u64 (tj.toNat : Int), .bool sa, .bool sb, .bool sc, .bool sd] w fun e w' => e = .returned (.bool true) ∧ Below w.heap.size w w' := by
  have he : ((was.toNat : Int) == (want.toNat : Int)) = true := by rw [w64_eq]; exact decide_eq_true hab
  have hv : casV was want = 1#64 := by unfold casV; rw [if_pos hab]; rfl
  have hm : casN was want tj = tj := by unfold casN; rw [if_pos hab]
  have HVV := Lib.hid hv
  have HMM := Lib.hid hm
  clear hv hm hab
  go_enter Try.func10, Try.ntmps10
  go_wp2_with fail
  refine (alive_any _).mono ?_
  rintro e w1 ⟨rfl, hb1⟩
  have B1 := Lib.hid hb1
  clear hb1
  go_wp2_with fail
  have hS := ((isSt_lit w1 (cK want tj) (by simp [cK])).keep (EmW.below_al _ (.cells #[.int .i64 0, .int .i64 0, .slice (some ⟨w1.heap.size, 0, none⟩) 5 5] 65))).keep (EmW.below_al _ (.cells ((pK sa sb sc sd).map plL).flatten.toArray 67))
  have hP := isPl_lit ((w1.alloc (.cells ((cK want tj).map stL).flatten.toArray 62)).alloc (.cells #[.int .i64 0, .int .i64 0, .slice (some ⟨w1.heap.size, 0, none⟩) 5 5] 65)) (pK sa sb sc sd) (by simp [pK])
  rw [size_al, size_al] at hP
  refine (code_run _ _ _ 5 4 (cK want tj) (pK sa sb sc sd) hS hP (by omega) (by omega) (fun x hx => by
    simp only [pK, List.mem_cons, List.not_mem_nil, or_false] at hx
    rcases hx with rfl | rfl | rfl | rfl <;> simp) (fun s hs => by
    simp only [cK, List.mem_cons, List.not_mem_nil, or_false] at hs
    rcases hs with rfl | rfl | rfl | rfl | rfl
    · exact ok_const 0 4096#64
    · exact ok_const 1 want
    · exact ok_const 2 tj
    · exact ok_cas 3 0 1 2
    · exact ok_out 3) 0 (by rfl)).mono ?_
  rintro e w2 ⟨A2, n2, c2, LB2, rfl, hin2, hlb2, hb2⟩
  have B2 := Lib.hid (B1.out.trans (((((EmW.below_al w1 _).trans ((EmW.below_al _ _).mono (by simp))).trans ((EmW.below_al _ _).mono (by simp; omega)))).trans (hb2.mono (by simp; omega)) |>.mono B1.out.size))
  have R2 := Lib.hid (@right_K want tj sa sb sc sd)
  obtain ⟨N, sN, evm, hN20, hgo, hmute, hst, hnow⟩ := run_K was want tj 1 (sa := sa) (sb := sb) (sc := sc) (sd := sd)
  have hel := emC_le (pK sa sb sc sd) (cK want tj) (by simp [cK])
  obtain ⟨code, hcd⟩ : ∃ code, emC (pK sa sb sc sd) (cK want tj) = code := ⟨_, rfl⟩
  rw [hcd] at hin2 R2 hgo hel
  have hou : outs (evm ++ [⟨4, 0, casV was want⟩, ⟨10, 0, 0⟩]) = [casV was want] := by rw [outs_app, outs_mute hmute]; rfl
  rw [HVV.out] at hou hgo
  rw [HMM.out] at hnow
  obtain ⟨evN, hev⟩ : ∃ evN, evm ++ [⟨4, 0, 1#64⟩, ⟨10, 0, 0⟩] = evN := ⟨_, rfl⟩
  rw [hev] at hou hgo
  have HOU := Lib.hid hou
  have HNW := Lib.hid hnow
  have hnl := hin2.1
  have hn2 : n2 ≤ 1000 := by omega
  have WD := Lib.hid (PatW.rwords_any A2 n2 c2 code w2 hin2 (by omega) (fun i hi => allR_ok R2.out i (by omega)))
  rw [allR_words R2.out] at WD
  have HG := Lib.hid hgo
  have HST := Lib.hid hst
  clear hcd hS hP hin2 hlb2 hb2 B1 hgo hst hou hnow hev hmute HVV HMM
  go_wp2_with fail
  refine WD.out.mono ?_
  rintro e w3 ⟨A3, n3, c3, rfl, hO3, hb3⟩
  have hlw : n3 = n2 := by have := hO3.len; simp [wordsTo_len] at this; omega
  subst hlw
  have HC3 : Hid (IsCode w3 A3 n3 c3 code) := Lib.hid ⟨isWd_own hO3, hnl, by omega, R2.out⟩
  have B3 := Lib.hid (B2.out.trans (hb3.mono B2.out.size))
  clear hO3 hb3 B2 WD
  go_wp2_with fail
  have NM := rnew_any 1 w3 (fun w => by have := FldR.rcut_any 1 0 64 w (by omega); rwa [words_int] at this)
  refine NM.mono ?_
  rintro e w4 ⟨mq, F, rfl, hM, hF, hB⟩
  have RW := Lib.hid (rwrite_any mq (words 1) 4096 (was.toNat : Int) F _ _ _ w4 (by omega) (by omega) hM)
  have HF := Lib.hid hF
  have HB4 := Lib.hid hB
  clear NM hM hF hB
  go_wp2_with fail
  refine RW.out.mono ?_
  rintro e w5 ⟨rfl, hM5, hO5⟩
  have hM5 : Mem w5 129 mq F 1 (nowI (born [was] [1])) [0] [1] := by
    rw [words_1, plc_1, put_1, tick_1] at hM5
    exact hM5
  have B5 := Lib.hid (HB4.out.trans (hO5.below (fun x hx => HF.out x hx) HB4.out.size))
  have HM5 := Lib.hid hM5
  clear RW hM5 hO5 HB4
  go_wp2_with fail
  refine (newcore_some w5 mq F [was] [1] [0] HM5.out).mono ?_
  rintro e w6 ⟨q, rfl, hco, hq, hb6⟩
  have hql := hco.lt
  have hFl : ∀ k ∈ F, k < w6.heap.size := by obtain ⟨kp, hm⟩ := hco.mem; exact hm.lt
  have hsz5 := B5.out.size
  have L4 : Hid (Lr w3 w6.heap.size q mq F (born [was] [1]) u64T 1 none 0 0 [] w6) := Lib.hid ⟨hco, Own.nil _ _ _ _, B5.out.trans (hb6.mono B5.out.size), Nat.le_refl _, ⟨Nat.le_trans hsz5 hq, hql⟩, fun k hk => ⟨HF.out k hk, hFl k hk⟩⟩
  clear hco hb6 hFl B5 HM5
  go_wp2_with fail
  go_loopw [23, 24] (fun o i wr => ∃ (k : Nat) (s : Cr) (ev : List Ev) (E : Option Addr) (n c : Nat), k ≤ N ∧ i = .int .i64 k ∧ o = .slice E n c ∧ Goes code (born [was] [1]) k s ev ∧ (outs ev).length = n ∧ Lr w3 w6.heap.size q mq F s u64T 1 E n c ((outs ev).map uvL) wr) (fun _ i _ => N - (intOf i).toNat)
  case atStart => exact ⟨0, _, [], none, 0, 0, by omega, rfl, rfl, Goes.zero _ _, rfl, L4.out⟩
  case round =>
    obtain ⟨k, s, ev, E, n, c, hk, rfl, rfl, hg, hevn, hL⟩ := hrel
    have HGk := Lib.hid hg
    have LL := Lib.hid hL
    clear hg hL L4
    have hql4 : q < w6.heap.size := hql
    have hnk : n ≤ k := by rw [← hevn]; exact Nat.le_trans (outs_le ev) (ev_le HGk.out)
    by_cases hkN : k < N
    · obtain ⟨sj, ej, s1, e1, g1, g2, g3⟩ := HG.out.all k hkN
      obtain ⟨rfl, rfl⟩ := Goes.fun HGk.out g1
      have hs0 := Goes.st0 g2
      have p36 : wr.cell? ⟨q, 36, none⟩ = some (.int .i64 0) := by rw [LL.out.co.st, hs0]
      have d0 : decide ((k : Int) < 100) = true := decide_eq_true (by omega)
      have EX := Lib.hid (exec_any LL.out.co (HC3.out.keep LL.out.bl) g2 (ver_ok HGk.out (by omega) (by simp [born])))
      have G3 := Lib.hid g3
      have hle1 := ev_le1 g2
      clear g1 g2 g3 hs0
      go_wp2_with fail
      refine EX.out.mono ?_
      rintro e w5 ⟨E5, n5, c5, rfl, hev5, hcg⟩
      have L5 := Lib.hid (LL.out.exec hcg)
      have HV5 := Lib.hid hev5
      have hn5 : n5 ≤ 1 := by have := hev5.1; omega
      clear hev5 hcg EX p36 hle1 LL
      go_wp2_with fail
      go_loopw [23, 27] (fun o i wq => ∃ (j : Nat) (E' : Option Addr) (n' c' : Nat), j ≤ n5 ∧ i = .int .i64 j ∧ o = .slice E' n' c' ∧ (outs ev ++ outs (e1.take j)).length = n' ∧ Lr w3 w6.heap.size q mq F s1 u64T 1 E' n' c' ((outs ev ++ outs (e1.take j)).map uvL) wq ∧ (j = 0 → IsEv wq E5 n5 c5 e1)) (fun _ i _ => n5 - (intOf i).toNat)
      case atStart => exact ⟨0, E, n, c, by omega, rfl, rfl, by simpa [outs_nil] using hevn, by simpa [outs_nil] using L5.out, fun _ => HV5.out⟩
      case round =>
        obtain ⟨j, E', n', c', hj, rfl, rfl, hn', hL', hev'⟩ := hrel
        have LQ := Lib.hid hL'
        have HN := Lib.hid hn'
        clear hL' L5
        have hnn : n' ≤ k + 1 := by
          rw [← hn', List.length_append]
          have h1 := outs_le (e1.take j)
          have h2 : (e1.take j).length ≤ j := by rw [List.length_take]; omega
          omega
        clear hn'
        by_cases hjn : j < n5
        · obtain rfl : j = 0 := by omega
          obtain rfl : n5 = 1 := by omega
          have HE := Lib.hid (hev' rfl)
          obtain ⟨x, hx⟩ := List.length_eq_one_iff.1 HV5.out.1
          obtain ⟨kd, xa, xv⟩ := x
          subst hx
          clear HV5 hev'
          obtain ⟨b, o, rfl, hb, hc⟩ := HE.out.2.at_ (by omega)
          have y0 : wr.cell? ⟨b, o, none⟩ = some (.int .i64 kd) := by simpa [evL] using hc 0 (by omega) 0 (by omega)
          have y3 : wr.cell? ⟨b, o + 3, none⟩ = some (.int .u64 (xv.toNat : Int)) := by simpa [evL] using hc 0 (by omega) 3 (by omega)
          clear hc HE
          by_cases h4 : kd = 4
          · subst h4
            go_wp2_with (at_builtin; refine Ow2.wpList_appN _ rfl _ _ rfl elU64 w6.heap.size E' n' c' 1 wr.heap.size _ [uvL xv] rfl rfl LQ.out.out rfl rfl (uv_each xv) (uv_ones xv) (by unfold maxLen; omega) (by omega) LQ.out.sz _ rfl ?_; intro A9 c9 w9 hown9 hb9 hk9 hz9; have L9 := Lib.hid (LQ.out.app2 hown9 hb9 hk9); clear hown9 hb9 hk9 hz9)
            go_roundw
            case rel =>
              have hrow : (outs ev ++ outs (([⟨4, xa, xv⟩] : List Ev).take 0)).map uvL ++ [uvL xv] = (outs ev ++ outs (([⟨4, xa, xv⟩] : List Ev).take 1)).map uvL := by simp [outs]
              have hlen : (outs ev ++ outs (([⟨4, xa, xv⟩] : List Ev).take 1)).length = n' + 1 := by have := HN.out; simp [outs] at this ⊢; omega
              have := L9.out
              rw [hrow] at this
              exact ⟨1, A9, n' + 1, c9, by omega, by go_num, rfl, hlen, this, fun h => absurd h (by omega)⟩
            case measure => simp [intOf]
          · have t4 : (kd == 4) = false := by simpa using h4
            go_wp2_with fail
            go_roundw
            case rel =>
              have hrow : outs (([⟨kd, xa, xv⟩] : List Ev).take 1) = outs (([⟨kd, xa, xv⟩] : List Ev).take 0) := by show outs [⟨kd, xa, xv⟩] = outs []; rw [outs_no h4]; rfl
              exact ⟨1, E', n', c', by omega, by go_num, rfl, by rw [hrow]; exact HN.out, by rw [hrow]; exact LQ.out, fun h => absurd h (by omega)⟩
            case measure => simp [intOf]
        · obtain rfl : j = n5 := by omega
          have hte : e1.take j = e1 := List.take_of_length_le (by have := HV5.out.1; omega)
          rw [hte, ← outs_app] at LQ HN
          clear HV5 hev' hte
          go_wp2_with fail
          go_roundw
          case rel => exact ⟨k + 1, s1, ev ++ e1, E', n', c', by omega, by go_num, rfl, G3.out, HN.out, LQ.out⟩
          case measure => simp [intOf]; omega
    · obtain rfl : k = N := by omega
      obtain ⟨rfl, rfl⟩ := Goes.fun HGk.out HG.out
      rw [HOU.out] at hevn
      obtain rfl : n = 1 := hevn.symm
      rw [HOU.out] at LL
      have BB := Lib.hid (B3.out.trans (LL.out.bl.mono B3.out.size))
      have p36 : wr.cell? ⟨q, 36, none⟩ = some (.int .i64 1) := by rw [LL.out.co.st, HST.out]
      obtain ⟨g, rfl⟩ := Ow3.own_head LL.out.out (by omega)
      have x0 : wr.cell? ⟨g, 0, none⟩ = some (.int .u64 1) := (Ow3.own_cell LL.out.out (i := 0) (j := 0) (by omega) (by omega)).1
      obtain ⟨kp, hmem⟩ := LL.out.co.mem
      have hn1 : s.now.length = 1 := by rw [HNW.out]; rfl
      have RD := Lib.hid (rread_any mq _ 4096 F _ kp _ wr (by omega) (by omega) hmem)
      rw [plc_base hn1, hrd tj s HNW.out] at RD
      clear hmem kp LL HGk HG HST HC3 B3 HOU HNW
      by_cases hk20 : k < 100
      · have d0 : decide ((k : Int) < 100) = true := decide_eq_true (by omega)
        go_wp2_with fail
        refine RD.out.mono ?_
        rintro e w9 ⟨rfl, rfl⟩
        go_wp2_with fail
        go_ret
        exact ⟨rfl, BB.out⟩
      · have d0 : decide ((k : Int) < 100) = false := decide_eq_false (by omega)
        go_wp2_with fail
        refine RD.out.mono ?_
        rintro e w9 ⟨rfl, rfl⟩
        go_wp2_with fail
        go_ret
        exact ⟨rfl, BB.out⟩

set_option maxRecDepth 20000 in
set_option maxHeartbeats 3200000 in
theorem walk_f (was want tj : BitVec 64) (sa sb sc sd : Bool) (w : World) (hab : ¬ was = want) :
    Calls Try.prog 10 #[.int .u64 (was.toNat : Int), .int .u64 (want.toNat : Int), .int .u64 (tj.toNat : Int), .bool sa, .bool sb, .bool sc, .bool sd] w fun e w' => e = .returned (.bool true) ∧ Below w.heap.size w w' := by
  have he : ((was.toNat : Int) == (want.toNat : Int)) = false := by rw [w64_eq]; exact decide_eq_false hab
  have hv : casV was want = 0#64 := by unfold casV; rw [if_neg hab]; rfl
  have hm : casN was want tj = was := by unfold casN; rw [if_neg hab]
  have HVV := Lib.hid hv
  have HMM := Lib.hid hm
  clear hv hm hab
  go_enter Try.func10, Try.ntmps10
  go_wp2_with fail
  refine (alive_any _).mono ?_
  rintro e w1 ⟨rfl, hb1⟩
  have B1 := Lib.hid hb1
  clear hb1
  go_wp2_with fail
  have hS := ((isSt_lit w1 (cK want tj) (by simp [cK])).keep (EmW.below_al _ (.cells #[.int .i64 0, .int .i64 0, .slice (some ⟨w1.heap.size, 0, none⟩) 5 5] 65))).keep (EmW.below_al _ (.cells ((pK sa sb sc sd).map plL).flatten.toArray 67))
  have hP := isPl_lit ((w1.alloc (.cells ((cK want tj).map stL).flatten.toArray 62)).alloc (.cells #[.int .i64 0, .int .i64 0, .slice (some ⟨w1.heap.size, 0, none⟩) 5 5] 65)) (pK sa sb sc sd) (by simp [pK])
  rw [size_al, size_al] at hP
  refine (code_run _ _ _ 5 4 (cK want tj) (pK sa sb sc sd) hS hP (by omega) (by omega) (fun x hx => by
    simp only [pK, List.mem_cons, List.not_mem_nil, or_false] at hx
    rcases hx with rfl | rfl | rfl | rfl <;> simp) (fun s hs => by
    simp only [cK, List.mem_cons, List.not_mem_nil, or_false] at hs
    rcases hs with rfl | rfl | rfl | rfl | rfl
    · exact ok_const 0 4096#64
    · exact ok_const 1 want
    · exact ok_const 2 tj
    · exact ok_cas 3 0 1 2
    · exact ok_out 3) 0 (by rfl)).mono ?_
  rintro e w2 ⟨A2, n2, c2, LB2, rfl, hin2, hlb2, hb2⟩
  have B2 := Lib.hid (B1.out.trans (((((EmW.below_al w1 _).trans ((EmW.below_al _ _).mono (by simp))).trans ((EmW.below_al _ _).mono (by simp; omega)))).trans (hb2.mono (by simp; omega)) |>.mono B1.out.size))
  have R2 := Lib.hid (@right_K want tj sa sb sc sd)
  obtain ⟨N, sN, evm, hN20, hgo, hmute, hst, hnow⟩ := run_K was want tj 1 (sa := sa) (sb := sb) (sc := sc) (sd := sd)
  have hel := emC_le (pK sa sb sc sd) (cK want tj) (by simp [cK])
  obtain ⟨code, hcd⟩ : ∃ code, emC (pK sa sb sc sd) (cK want tj) = code := ⟨_, rfl⟩
  rw [hcd] at hin2 R2 hgo hel
  have hou : outs (evm ++ [⟨4, 0, casV was want⟩, ⟨10, 0, 0⟩]) = [casV was want] := by rw [outs_app, outs_mute hmute]; rfl
  rw [HVV.out] at hou hgo
  rw [HMM.out] at hnow
  obtain ⟨evN, hev⟩ : ∃ evN, evm ++ [⟨4, 0, 0#64⟩, ⟨10, 0, 0⟩] = evN := ⟨_, rfl⟩
  rw [hev] at hou hgo
  have HOU := Lib.hid hou
  have HNW := Lib.hid hnow
  have hnl := hin2.1
  have hn2 : n2 ≤ 1000 := by omega
  have WD := Lib.hid (PatW.rwords_any A2 n2 c2 code w2 hin2 (by omega) (fun i hi => allR_ok R2.out i (by omega)))
  rw [allR_words R2.out] at WD
  have HG := Lib.hid hgo
  have HST := Lib.hid hst
  clear hcd hS hP hin2 hlb2 hb2 B1 hgo hst hou hnow hev hmute HVV HMM
  go_wp2_with fail
  refine WD.out.mono ?_
  rintro e w3 ⟨A3, n3, c3, rfl, hO3, hb3⟩
  have hlw : n3 = n2 := by have := hO3.len; simp [wordsTo_len] at this; omega
  subst hlw
  have HC3 : Hid (IsCode w3 A3 n3 c3 code) := Lib.hid ⟨isWd_own hO3, hnl, by omega, R2.out⟩
  have B3 := Lib.hid (B2.out.trans (hb3.mono B2.out.size))
  clear hO3 hb3 B2 WD
  go_wp2_with fail
  have NM := rnew_any 1 w3 (fun w => by have := FldR.rcut_any 1 0 64 w (by omega); rwa [words_int] at this)
  refine NM.mono ?_
  rintro e w4 ⟨mq, F, rfl, hM, hF, hB⟩
  have RW := Lib.hid (rwrite_any mq (words 1) 4096 (was.toNat : Int) F _ _ _ w4 (by omega) (by omega) hM)
  have HF := Lib.hid hF
  have HB4 := Lib.hid hB
  clear NM hM hF hB
  go_wp2_with fail
  refine RW.out.mono ?_
  rintro e w5 ⟨rfl, hM5, hO5⟩
  have hM5 : Mem w5 129 mq F 1 (nowI (born [was] [1])) [0] [1] := by
    rw [words_1, plc_1, put_1, tick_1] at hM5
    exact hM5
  have B5 := Lib.hid (HB4.out.trans (hO5.below (fun x hx => HF.out x hx) HB4.out.size))
  have HM5 := Lib.hid hM5
  clear RW hM5 hO5 HB4
  go_wp2_with fail
  refine (newcore_some w5 mq F [was] [1] [0] HM5.out).mono ?_
  rintro e w6 ⟨q, rfl, hco, hq, hb6⟩
  have hql := hco.lt
  have hFl : ∀ k ∈ F, k < w6.heap.size := by obtain ⟨kp, hm⟩ := hco.mem; exact hm.lt
  have hsz5 := B5.out.size
  have L4 : Hid (Lr w3 w6.heap.size q mq F (born [was] [1]) u64T 1 none 0 0 [] w6) := Lib.hid ⟨hco, Own.nil _ _ _ _, B5.out.trans (hb6.mono B5.out.size), Nat.le_refl _, ⟨Nat.le_trans hsz5 hq, hql⟩, fun k hk => ⟨HF.out k hk, hFl k hk⟩⟩
  clear hco hb6 hFl B5 HM5
  go_wp2_with fail
  go_loopw [23, 24] (fun o i wr => ∃ (k : Nat) (s : Cr) (ev : List Ev) (E : Option Addr) (n c : Nat), k ≤ N ∧ i = .int .i64 k ∧ o = .slice E n c ∧ Goes code (born [was] [1]) k s ev ∧ (outs ev).length = n ∧ Lr w3 w6.heap.size q mq F s u64T 1 E n c ((outs ev).map uvL) wr) (fun _ i _ => N - (intOf i).toNat)
  case atStart => exact ⟨0, _, [], none, 0, 0, by omega, rfl, rfl, Goes.zero _ _, rfl, L4.out⟩
  case round =>
    obtain ⟨k, s, ev, E, n, c, hk, rfl, rfl, hg, hevn, hL⟩ := hrel
    have HGk := Lib.hid hg
    have LL := Lib.hid hL
    clear hg hL L4
    have hql4 : q < w6.heap.size := hql
    have hnk : n ≤ k := by rw [← hevn]; exact Nat.le_trans (outs_le ev) (ev_le HGk.out)
    by_cases hkN : k < N
    · obtain ⟨sj, ej, s1, e1, g1, g2, g3⟩ := HG.out.all k hkN
      obtain ⟨rfl, rfl⟩ := Goes.fun HGk.out g1
      have hs0 := Goes.st0 g2
      have p36 : wr.cell? ⟨q, 36, none⟩ = some (.int .i64 0) := by rw [LL.out.co.st, hs0]
      have d0 : decide ((k : Int) < 100) = true := decide_eq_true (by omega)
      have EX := Lib.hid (exec_any LL.out.co (HC3.out.keep LL.out.bl) g2 (ver_ok HGk.out (by omega) (by simp [born])))
      have G3 := Lib.hid g3
      have hle1 := ev_le1 g2
      clear g1 g2 g3 hs0
      go_wp2_with fail
      refine EX.out.mono ?_
      rintro e w5 ⟨E5, n5, c5, rfl, hev5, hcg⟩
      have L5 := Lib.hid (LL.out.exec hcg)
      have HV5 := Lib.hid hev5
      have hn5 : n5 ≤ 1 := by have := hev5.1; omega
      clear hev5 hcg EX p36 hle1 LL
      go_wp2_with fail
      go_loopw [23, 27] (fun o i wq => ∃ (j : Nat) (E' : Option Addr) (n' c' : Nat), j ≤ n5 ∧ i = .int .i64 j ∧ o = .slice E' n' c' ∧ (outs ev ++ outs (e1.take j)).length = n' ∧ Lr w3 w6.heap.size q mq F s1 u64T 1 E' n' c' ((outs ev ++ outs (e1.take j)).map uvL) wq ∧ (j = 0 → IsEv wq E5 n5 c5 e1)) (fun _ i _ => n5 - (intOf i).toNat)
      case atStart => exact ⟨0, E, n, c, by omega, rfl, rfl, by simpa [outs_nil] using hevn, by simpa [outs_nil] using L5.out, fun _ => HV5.out⟩
      case round =>
        obtain ⟨j, E', n', c', hj, rfl, rfl, hn', hL', hev'⟩ := hrel
        have LQ := Lib.hid hL'
        have HN := Lib.hid hn'
        clear hL' L5
        have hnn : n' ≤ k + 1 := by
          rw [← hn', List.length_append]
          have h1 := outs_le (e1.take j)
          have h2 : (e1.take j).length ≤ j := by rw [List.length_take]; omega
          omega
        clear hn'
        by_cases hjn : j < n5
        · obtain rfl : j = 0 := by omega
          obtain rfl : n5 = 1 := by omega
          have HE := Lib.hid (hev' rfl)
          obtain ⟨x, hx⟩ := List.length_eq_one_iff.1 HV5.out.1
          obtain ⟨kd, xa, xv⟩ := x
          subst hx
          clear HV5 hev'
          obtain ⟨b, o, rfl, hb, hc⟩ := HE.out.2.at_ (by omega)
          have y0 : wr.cell? ⟨b, o, none⟩ = some (.int .i64 kd) := by simpa [evL] using hc 0 (by omega) 0 (by omega)
          have y3 : wr.cell? ⟨b, o + 3, none⟩ = some (.int .u64 (xv.toNat : Int)) := by simpa [evL] using hc 0 (by omega) 3 (by omega)
          clear hc HE
          by_cases h4 : kd = 4
          · subst h4
            go_wp2_with (at_builtin; refine Ow2.wpList_appN _ rfl _ _ rfl elU64 w6.heap.size E' n' c' 1 wr.heap.size _ [uvL xv] rfl rfl LQ.out.out rfl rfl (uv_each xv) (uv_ones xv) (by unfold maxLen; omega) (by omega) LQ.out.sz _ rfl ?_; intro A9 c9 w9 hown9 hb9 hk9 hz9; have L9 := Lib.hid (LQ.out.app2 hown9 hb9 hk9); clear hown9 hb9 hk9 hz9)
            go_roundw
            case rel =>
              have hrow : (outs ev ++ outs (([⟨4, xa, xv⟩] : List Ev).take 0)).map uvL ++ [uvL xv] = (outs ev ++ outs (([⟨4, xa, xv⟩] : List Ev).take 1)).map uvL := by simp [outs]
              have hlen : (outs ev ++ outs (([⟨4, xa, xv⟩] : List Ev).take 1)).length = n' + 1 := by have := HN.out; simp [outs] at this ⊢; omega
              have := L9.out
              rw [hrow] at this
              exact ⟨1, A9, n' + 1, c9, by omega, by go_num, rfl, hlen, this, fun h => absurd h (by omega)⟩
            case measure => simp [intOf]
          · have t4 : (kd == 4) = false := by simpa using h4
            go_wp2_with fail
            go_roundw
            case rel =>
              have hrow : outs (([⟨kd, xa, xv⟩] : List Ev).take 1) = outs (([⟨kd, xa, xv⟩] : List Ev).take 0) := by show outs [⟨kd, xa, xv⟩] = outs []; rw [outs_no h4]; rfl
              exact ⟨1, E', n', c', by omega, by go_num, rfl, by rw [hrow]; exact HN.out, by rw [hrow]; exact LQ.out, fun h => absurd h (by omega)⟩
            case measure => simp [intOf]
        · obtain rfl : j = n5 := by omega
          have hte : e1.take j = e1 := List.take_of_length_le (by have := HV5.out.1; omega)
          rw [hte, ← outs_app] at LQ HN
          clear HV5 hev' hte
          go_wp2_with fail
          go_roundw
          case rel => exact ⟨k + 1, s1, ev ++ e1, E', n', c', by omega, by go_num, rfl, G3.out, HN.out, LQ.out⟩
          case measure => simp [intOf]; omega
    · obtain rfl : k = N := by omega
      obtain ⟨rfl, rfl⟩ := Goes.fun HGk.out HG.out
      rw [HOU.out] at hevn
      obtain rfl : n = 1 := hevn.symm
      rw [HOU.out] at LL
      have BB := Lib.hid (B3.out.trans (LL.out.bl.mono B3.out.size))
      have p36 : wr.cell? ⟨q, 36, none⟩ = some (.int .i64 1) := by rw [LL.out.co.st, HST.out]
      obtain ⟨g, rfl⟩ := Ow3.own_head LL.out.out (by omega)
      have x0 : wr.cell? ⟨g, 0, none⟩ = some (.int .u64 0) := (Ow3.own_cell LL.out.out (i := 0) (j := 0) (by omega) (by omega)).1
      obtain ⟨kp, hmem⟩ := LL.out.co.mem
      have hn1 : s.now.length = 1 := by rw [HNW.out]; rfl
      have RD := Lib.hid (rread_any mq _ 4096 F _ kp _ wr (by omega) (by omega) hmem)
      rw [plc_base hn1, hrd was s HNW.out] at RD
      clear hmem kp LL HGk HG HST HC3 B3 HOU HNW
      by_cases hk20 : k < 100
      · have d0 : decide ((k : Int) < 100) = true := decide_eq_true (by omega)
        go_wp2_with fail
        refine RD.out.mono ?_
        rintro e w9 ⟨rfl, rfl⟩
        go_wp2_with fail
        go_ret
        exact ⟨rfl, BB.out⟩
      · have d0 : decide ((k : Int) < 100) = false := decide_eq_false (by omega)
        go_wp2_with fail
        refine RD.out.mono ?_
        rintro e w9 ⟨rfl, rfl⟩
        go_wp2_with fail
        go_ret
        exact ⟨rfl, BB.out⟩

theorem law (was want tj : Int) (sa sb sc sd : Bool) (w : World) (h0 : (Lit.int .u64 was).wf = true) (h1 : (Lit.int .u64 want).wf = true) (h2 : (Lit.int .u64 tj).wf = true) :
    Calls Try.prog 10 #[.int .u64 was, .int .u64 want, .int .u64 tj, .bool sa, .bool sb, .bool sc, .bool sd] w fun e w' => e = .returned (.bool true) ∧ Below w.heap.size w w' := by
  obtain ⟨was, rfl⟩ := u64_word h0
  obtain ⟨want, rfl⟩ := u64_word h1
  obtain ⟨tj, rfl⟩ := u64_word h2
  by_cases hab : was = want
  · exact walk_t was want tj sa sb sc sd w hab
  · exact walk_f was want tj sa sb sc sd w hab
end Go.Proofs.Ytkohichiojmakaa.EmLk
