/-
  WALK: the law EmitConstants.
-/
import Derived.Test.YtkohichiojmakaaEmitLaw
namespace Go.Proofs.Ytkohichiojmakaa.EmLc
set_option linter.unusedVariables false
set_option linter.unusedSimpArgs false
open Go.RowKit Cm Mm Ow Me Rm Fld A64 A64W A64P Stp Alu AluG Em EmM EmW EmP EmR EmS EmT EmN EmC EmX Pat InW EmL

theorem few_C {slot : Bool} {j : Int} (h : 0 ≤ j ∧ j ≤ 15) : ∀ x ∈ pC slot j, 0 ≤ x.n ∧ x.n ≤ 1000 := fun x hx => by
  simp only [pC, List.mem_singleton] at hx
  subst hx
  simp only
  omega
theorem allR_words {l : List In} (h : AllR l) : words l = (wordsTo l l.length, 0) := by
  refine words_good ?_
  unfold wordsOk
  rw [List.all_eq_true]
  intro j hj
  rw [List.mem_range] at hj
  rw [List.getD, List.getElem?_eq_getElem hj]
  exact h _ (List.getElem_mem _)
theorem allR_ok {l : List In} (h : AllR l) : ∀ i, i < l.length → okIn (l.getD i zeroIn) := fun i hi => by
  rw [List.getD, List.getElem?_eq_getElem hi]
  exact right_ok (h _ (List.getElem_mem _))
theorem emC_le (p : List Pl) (l : List St) (h : l.length ≤ 50) : (emC p l).length ≤ 1000 := by
  have := emL_le p l
  unfold emC
  rw [List.length_append]
  simp
  omega
set_option maxRecDepth 20000 in
set_option maxHeartbeats 3200000 in
theorem walk (v : BitVec 64) (j : Int) (slot : Bool) (w : World) (hj : -9223372036854775808 ≤ j ∧ j ≤ 9223372036854775807) :
    Calls Try.prog 7 #[.int .u64 (v.toNat : Int), .int .i64 j, .bool slot] w fun e w' => e = .returned (.bool true) ∧ Below w.heap.size w w' := by
  by_cases h0 : j < 0
  · have d0 : decide (j < 0) = true := decide_eq_true h0
    go_enter Try.func7, Try.ntmps7
    go_wp2_with fail
    refine (alive_any _).mono ?_
    rintro e w1 ⟨rfl, hb1⟩
    go_wp2_with fail
    go_ret
    exact ⟨rfl, hb1⟩
  have d0 : decide (j < 0) = false := decide_eq_false h0
  by_cases h1 : 15 < j
  · have d1 : decide (15 < j) = true := decide_eq_true h1
    go_enter Try.func7, Try.ntmps7
    go_wp2_with fail
    refine (alive_any _).mono ?_
    rintro e w1 ⟨rfl, hb1⟩
    go_wp2_with fail
    go_ret
    exact ⟨rfl, hb1⟩
  have d1 : decide (15 < j) = false := decide_eq_false h1
  have hjj : 0 ≤ j ∧ j ≤ 15 := by omega
  clear h0 h1 hj
  have hj0 : 0 ≤ j := hjj.1
  have hj1 : j ≤ 15 := hjj.2
  clear hjj
  go_enter Try.func7, Try.ntmps7
  go_wp2_with fail
  refine (alive_any _).mono ?_
  rintro e w1 ⟨rfl, hb1⟩
  have B1 := Lib.hid hb1
  clear hb1
  go_wp2_with fail
  have hS := (isSt_lit w1 (cC v) (by simp [cC])).keep (EmW.below_al _ (.cells ((pC slot j).map plL).flatten.toArray 67))
  have hP := isPl_lit (w1.alloc (.cells ((cC v).map stL).flatten.toArray 62)) (pC slot j) (by simp [pC])
  rw [size_al] at hP
  refine (code_run _ _ _ 2 1 (cC v) (pC slot j) hS hP (by omega) (by omega) (few_C ⟨hj0, hj1⟩) (fun s hs => by
    simp only [cC, List.mem_cons, List.not_mem_nil, or_false] at hs
    rcases hs with rfl | rfl
    · exact ok_const 0 v
    · exact ok_out 0) 0 rfl).mono ?_
  rintro e w2 ⟨A2, n2, c2, LB2, rfl, hin2, hlb2, hb2⟩
  have R2 := Lib.hid (right_C (v := v) (slot := slot) (n := j) ⟨hj0, hj1⟩)
  obtain ⟨N, sN, hN20, hgo, hst⟩ := run_C v (slot := slot) (n := j) ⟨hj0, hj1⟩
  have hel := emC_le (pC slot j) (cC v) (by simp [cC])
  obtain ⟨code, hcd⟩ : ∃ code, emC (pC slot j) (cC v) = code := ⟨_, rfl⟩
  rw [hcd] at hin2 R2 hgo hel
  have B2 := Lib.hid (B1.out.trans ((((EmW.below_al w1 _).trans ((EmW.below_al _ _).mono (by simp))).trans (hb2.mono (by simp; omega))).mono B1.out.size))
  have hnl := hin2.1
  have hn2 : n2 ≤ 1000 := by omega
  have WD := Lib.hid (PatW.rwords_any A2 n2 c2 code w2 hin2 (by omega) (fun i hi => allR_ok R2.out i (by omega)))
  rw [allR_words R2.out] at WD
  have HG := Lib.hid hgo
  have HST := Lib.hid hst
  clear hcd hS hP hin2 hlb2 hb2 B1 hgo hst d0 d1 hj0 hj1
  go_wp2_with fail
  refine WD.out.mono ?_
  rintro e w3 ⟨A3, n3, c3, rfl, hO3, hb3⟩
  have hlw : n3 = n2 := by have := hO3.len; simp [wordsTo_len] at this; omega
  subst hlw
  have HC3 : Hid (IsCode w3 A3 n3 c3 code) := Lib.hid ⟨isWd_own hO3, hnl, by omega, R2.out⟩
  have B3 := Lib.hid (B2.out.trans (hb3.mono B2.out.size))
  clear hO3 hb3 B2 WD
  go_wp2_with fail
  refine (newcore_nil w3).mono ?_
  rintro e w4 ⟨q, mq, F, rfl, hco, hq, hF, hb4⟩
  have hql := hco.lt
  have hFl : ∀ k ∈ F, k < w4.heap.size := by obtain ⟨kp, hm⟩ := hco.mem; exact hm.lt
  have L4 : Hid (Lr w3 w4.heap.size q mq F (born [] []) 83 4 none 0 0 [] w4) := Lib.hid ⟨hco, Own.nil _ _ _ _, hb4, Nat.le_refl _, ⟨hq, hql⟩, fun k hk => ⟨hF k hk, hFl k hk⟩⟩
  clear hco hF hb4 hFl
  go_wp2_with fail
  go_loopw [13, 14] (fun o i wr => ∃ (k : Nat) (s : Cr) (ev : List Ev) (E : Option Addr) (n c : Nat), k ≤ N ∧ i = .int .i64 k ∧ o = .slice E n c ∧ Goes code (born [] []) k s ev ∧ ev.length = n ∧ Lr w3 w4.heap.size q mq F s 83 4 E n c (ev.map evL) wr) (fun _ i _ => N - (intOf i).toNat)
  case atStart => exact ⟨0, _, [], none, 0, 0, by omega, rfl, rfl, Goes.zero _ _, rfl, L4.out⟩
  case round =>
    obtain ⟨k, s, ev, E, n, c, hk, rfl, rfl, hg, hevn, hL⟩ := hrel
    have HGk := Lib.hid hg
    have LL := Lib.hid hL
    clear hg hL L4
    have hql4 : q < w4.heap.size := hql
    have hnk : n ≤ k := by rw [← hevn]; exact ev_le HGk.out
    by_cases hkN : k < N
    · obtain ⟨sj, ej, s1, e1, g1, g2, g3⟩ := HG.out.all k hkN
      obtain ⟨rfl, rfl⟩ := Goes.fun HGk.out g1
      have hs0 := Goes.st0 g2
      have p36 : wr.cell? ⟨q, 36, none⟩ = some (.int .i64 0) := by rw [LL.out.co.st, hs0]
      have d0 : decide ((k : Int) < 20) = true := decide_eq_true (by omega)
      have EX := Lib.hid (exec_any LL.out.co (HC3.out.keep LL.out.bl) g2 (ver_ok HGk.out (by omega) (by simp [born])))
      have G3 := Lib.hid g3
      have hle1 := ev_le1 g2
      clear g1 g2 g3 hs0
      go_wp2_with fail
      refine EX.out.mono ?_
      rintro e w5 ⟨E5, n5, c5, rfl, hev5, hcg⟩
      have L5 := Lib.hid (LL.out.exec hcg)
      have HV5 := Lib.hid hev5
      have hn5 : n5 ≤ 1 := by have := hev5.1; omega
      clear hev5 hcg EX p36 hle1
      go_wp2_with (at_builtin; refine wpList_app _ rfl _ _ rfl elEv w4.heap.size E n c _ rfl L5.out.out E5 n5 c5 (fun i => evL (e1.getD i zeroEv)) rfl HV5.out.2 (fun _ _ => rfl) (fun _ _ => ev_one _) (by unfold maxLen; omega) (by omega) L5.out.sz ?_; intro A9 c9 w9 hown9 hg9 hat9; have L9 := Lib.hid (L5.out.app hown9 hg9); clear hown9 hg9 hat9)
      go_roundw
      case rel =>
        have hr := ev_range e1
        rw [HV5.out.1] at hr
        exact ⟨k + 1, s1, ev ++ e1, A9, n + n5, c9, by omega, by go_num, rfl, G3.out, by rw [List.length_append, hevn, HV5.out.1], by rw [List.map_append, ← hr]; exact L9.out⟩
      case measure => simp [intOf]; omega
    · obtain rfl : k = N := by omega
      obtain ⟨rfl, rfl⟩ := Goes.fun HGk.out HG.out
      obtain rfl : n = 2 := hevn.symm
      obtain ⟨g, rfl⟩ := Ow3.own_head LL.out.out (by omega)
      have x0 : wr.cell? ⟨g, 0, none⟩ = some (.int .i64 4) := (Ow3.own_cell LL.out.out (i := 0) (j := 0) (by omega) (by omega)).1
      have x3 : wr.cell? ⟨g, 3, none⟩ = some (.int .u64 (v.toNat : Int)) := (Ow3.own_cell LL.out.out (i := 0) (j := 3) (by omega) (by omega)).1
      have x4 : wr.cell? ⟨g, 4, none⟩ = some (.int .i64 10) := (Ow3.own_cell LL.out.out (i := 1) (j := 0) (by omega) (by omega)).1
      have BB := Lib.hid (B3.out.trans (LL.out.bl.mono B3.out.size))
      have p36 : wr.cell? ⟨q, 36, none⟩ = some (.int .i64 1) := by rw [LL.out.co.st, HST.out]
      clear LL HGk HG HST HC3 B3
      by_cases hk20 : k < 20
      · have d0 : decide ((k : Int) < 20) = true := decide_eq_true (by omega)
        go_wp2_with fail
        go_ret
        exact ⟨rfl, BB.out⟩
      · have d0 : decide ((k : Int) < 20) = false := decide_eq_false (by omega)
        go_wp2_with fail
        go_ret
        exact ⟨rfl, BB.out⟩
theorem law (u j : Int) (slot : Bool) (w : World) (hu : (Lit.int .u64 u).wf = true) (hj : (Lit.int .i64 j).wf = true) :
    Calls Try.prog 7 #[.int .u64 u, .int .i64 j, .bool slot] w fun e w' => e = .returned (.bool true) ∧ Below w.heap.size w w' := by
  obtain ⟨v, rfl⟩ := u64_word hu
  exact walk v j slot w (i64_bounds hj)
end Go.Proofs.Ytkohichiojmakaa.EmLc
