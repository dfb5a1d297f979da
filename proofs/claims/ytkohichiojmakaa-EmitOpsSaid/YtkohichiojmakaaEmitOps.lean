/-
  WALK: the law EmitOps.
-/
import Derived.Test.YtkohichiojmakaaEmitConsts
namespace Go.Proofs.Ytkohichiojmakaa.EmLo
set_option linter.unusedVariables false
set_option linter.unusedSimpArgs false
open Go.RowKit Cm Mm Ow Me Rm Fld A64 A64W A64P Stp Alu AluG Em EmM EmW EmP EmR EmS EmT EmN EmC EmX Pat InW EmL EmLc

theorem ops_ne (o : Int) : True := trivial
theorem op_43 (a b : BitVec 64) : opV 43 a b = a + b := rfl
theorem op_45 (a b : BitVec 64) : opV 45 a b = a - b := rfl
theorem op_42 (a b : BitVec 64) : opV 42 a b = a * b := rfl
theorem op_38 (a b : BitVec 64) : opV 38 a b = a &&& b := rfl
theorem op_61t {a b : BitVec 64} (h : a = b) : opV 61 a b = 1 := by unfold opV; simp [h]
theorem op_61f {a b : BitVec 64} (h : ¬ a = b) : opV 61 a b = 0 := by unfold opV; simp [h]
theorem op_60t {a b : BitVec 64} (h : a.toInt < b.toInt) : opV 60 a b = 1 := by unfold opV; simp [h]
theorem op_60f {a b : BitVec 64} (h : ¬ a.toInt < b.toInt) : opV 60 a b = 0 := by unfold opV; simp [h]

set_option maxRecDepth 20000 in
set_option maxHeartbeats 3200000 in
theorem walk_43 (a b : BitVec 64) (sa sb sd : Bool) (w : World) :
    Calls Try.prog 8 #[.int .u8 43, .int .u64 (a.toNat : Int), .int .u64 (b.toNat : Int), .bool sa, .bool sb, .bool sd] w fun e w' => e = .returned (.bool true) ∧ Below w.heap.size w w' := by
  have hv : IntKind.u64.wrap ((a.toNat : Int) + b.toNat) = ((opV 43 a b).toNat : Int) := by rw [IntKind.wrap_u64, w64_add, op_43]
  obtain ⟨x, hx⟩ : ∃ x, opV 43 a b = x := ⟨_, rfl⟩
  rw [hx] at hv
  have HX := Lib.hid hx
  clear hx
  go_enter Try.func8, Try.ntmps8
  go_wp2_with fail
  refine (alive_any _).mono ?_
  rintro e w1 ⟨rfl, hb1⟩
  have B1 := Lib.hid hb1
  clear hb1
  go_wp2_with fail
  have hS := ((isSt_lit w1 (cO a b 43) (by simp [cO])).keep (EmW.below_al _ (.cells #[.int .i64 0, .int .i64 0, .slice (some ⟨w1.heap.size, 0, none⟩) 4 4] 65))).keep (EmW.below_al _ (.cells ((pO sa sb sd).map plL).flatten.toArray 67))
  have hP := isPl_lit ((w1.alloc (.cells ((cO a b 43).map stL).flatten.toArray 62)).alloc (.cells #[.int .i64 0, .int .i64 0, .slice (some ⟨w1.heap.size, 0, none⟩) 4 4] 65)) (pO sa sb sd) (by simp [pO])
  rw [size_al, size_al] at hP
  refine (code_run _ _ _ 4 3 (cO a b 43) (pO sa sb sd) hS hP (by omega) (by omega) (fun x hx => by
    simp only [pO, List.mem_cons, List.not_mem_nil, or_false] at hx
    rcases hx with rfl | rfl | rfl <;> simp) (fun s hs => by
    simp only [cO, List.mem_cons, List.not_mem_nil, or_false] at hs
    rcases hs with rfl | rfl | rfl | rfl
    · exact ok_const 1 a
    · exact ok_const 2 b
    · exact ok_op 0 1 2 43 (by omega)
    · exact ok_out 0) 0 (by rfl)).mono ?_
  rintro e w2 ⟨A2, n2, c2, LB2, rfl, hin2, hlb2, hb2⟩
  have B2 := Lib.hid (B1.out.trans (((((EmW.below_al w1 _).trans ((EmW.below_al _ _).mono (by simp))).trans ((EmW.below_al _ _).mono (by simp; omega)))).trans (hb2.mono (by simp; omega)) |>.mono B1.out.size))
  have R2 := Lib.hid (right_O (a := a) (b := b) (o := 43) (sa := sa) (sb := sb) (sd := sd) (by omega))
  obtain ⟨N, sN, hN20, hgo, hst⟩ := run_O a b (o := 43) (sa := sa) (sb := sb) (sd := sd) (by omega)
  rw [HX.out] at hgo
  have hel := emC_le (pO sa sb sd) (cO a b 43) (by simp [cO])
  obtain ⟨code, hcd⟩ : ∃ code, emC (pO sa sb sd) (cO a b 43) = code := ⟨_, rfl⟩
  rw [hcd] at hin2 R2 hgo hel
  have hnl := hin2.1
  have hn2 : n2 ≤ 1000 := by omega
  have WD := Lib.hid (PatW.rwords_any A2 n2 c2 code w2 hin2 (by omega) (fun i hi => allR_ok R2.out i (by omega)))
  rw [allR_words R2.out] at WD
  have HG := Lib.hid hgo
  have HST := Lib.hid hst
  clear hcd hS hP hin2 hlb2 hb2 B1 hgo hst
  go_wp2_with fail
  refine WD.out.mono ?_
  rintro e w3 ⟨A3, n3, c3, rfl, hO3, hb3⟩
  have hlw : n3 = n2 := by have := hO3.len; simp [wordsTo_len] at this; omega
  subst hlw
  have HC3 : Hid (IsCode w3 A3 n3 c3 code) := Lib.hid ⟨isWd_own hO3, hnl, by omega, R2.out⟩
  have B3 := Lib.hid (B2.out.trans (hb3.mono B2.out.size))
  clear hO3 hb3 B2 WD
  go_wp2_with fail
  refine (newcore_nil w3).mono ?_
  rintro e w4 ⟨q, mq, F, rfl, hco, hq, hF, hb4⟩
  have hql := hco.lt
  have hFl : ∀ k ∈ F, k < w4.heap.size := by obtain ⟨kp, hm⟩ := hco.mem; exact hm.lt
  have L4 : Hid (Lr w3 w4.heap.size q mq F (born [] []) 83 4 none 0 0 [] w4) := Lib.hid ⟨hco, Own.nil _ _ _ _, hb4, Nat.le_refl _, ⟨hq, hql⟩, fun k hk => ⟨hF k hk, hFl k hk⟩⟩
  clear hco hF hb4 hFl
  go_wp2_with fail
  go_loopw [20, 21] (fun o i wr => ∃ (k : Nat) (s : Cr) (ev : List Ev) (E : Option Addr) (n c : Nat), k ≤ N ∧ i = .int .i64 k ∧ o = .slice E n c ∧ Goes code (born [] []) k s ev ∧ ev.length = n ∧ Lr w3 w4.heap.size q mq F s 83 4 E n c (ev.map evL) wr) (fun _ i _ => N - (intOf i).toNat)
  case atStart => exact ⟨0, _, [], none, 0, 0, by omega, rfl, rfl, Goes.zero _ _, rfl, L4.out⟩
  case round =>
    obtain ⟨k, s, ev, E, n, c, hk, rfl, rfl, hg, hevn, hL⟩ := hrel
    have HGk := Lib.hid hg
    have LL := Lib.hid hL
    clear hg hL L4
    have hql4 : q < w4.heap.size := hql
    have hnk : n ≤ k := by rw [← hevn]; exact ev_le HGk.out
    by_cases hkN : k < N
    · obtain ⟨sj, ej, s1, e1, g1, g2, g3⟩ := HG.out.all k hkN
      obtain ⟨rfl, rfl⟩ := Goes.fun HGk.out g1
      have hs0 := Goes.st0 g2
      have p36 : wr.cell? ⟨q, 36, none⟩ = some (.int .i64 0) := by rw [LL.out.co.st, hs0]
      have d0 : decide ((k : Int) < 30) = true := decide_eq_true (by omega)
      have EX := Lib.hid (exec_any LL.out.co (HC3.out.keep LL.out.bl) g2 (ver_ok HGk.out (by omega) (by simp [born])))
      have G3 := Lib.hid g3
      have hle1 := ev_le1 g2
      clear g1 g2 g3 hs0
      go_wp2_with fail
      refine EX.out.mono ?_
      rintro e w5 ⟨E5, n5, c5, rfl, hev5, hcg⟩
      have L5 := Lib.hid (LL.out.exec hcg)
      have HV5 := Lib.hid hev5
      have hn5 : n5 ≤ 1 := by have := hev5.1; omega
      clear hev5 hcg EX p36 hle1
      go_wp2_with (at_builtin; refine wpList_app _ rfl _ _ rfl elEv w4.heap.size E n c _ rfl L5.out.out E5 n5 c5 (fun i => evL (e1.getD i zeroEv)) rfl HV5.out.2 (fun _ _ => rfl) (fun _ _ => ev_one _) (by unfold maxLen; omega) (by omega) L5.out.sz ?_; intro A9 c9 w9 hown9 hg9 hat9; have L9 := Lib.hid (L5.out.app hown9 hg9); clear hown9 hg9 hat9)
      go_roundw
      case rel =>
        have hr := ev_range e1
        rw [HV5.out.1] at hr
        exact ⟨k + 1, s1, ev ++ e1, A9, n + n5, c9, by omega, by go_num, rfl, G3.out, by rw [List.length_append, hevn, HV5.out.1], by rw [List.map_append, ← hr]; exact L9.out⟩
      case measure => simp [intOf]; omega
    · obtain rfl : k = N := by omega
      obtain ⟨rfl, rfl⟩ := Goes.fun HGk.out HG.out
      obtain rfl : n = 2 := hevn.symm
      obtain ⟨g, rfl⟩ := Ow3.own_head LL.out.out (by omega)
      have x3 : wr.cell? ⟨g, 3, none⟩ = some (.int .u64 (x.toNat : Int)) := (Ow3.own_cell LL.out.out (i := 0) (j := 3) (by omega) (by omega)).1
      have BB := Lib.hid (B3.out.trans (LL.out.bl.mono B3.out.size))
      have p36 : wr.cell? ⟨q, 36, none⟩ = some (.int .i64 1) := by rw [LL.out.co.st, HST.out]
      clear LL HGk HG HST HC3 B3
      
      by_cases hk20 : k < 30
      · have d0 : decide ((k : Int) < 30) = true := decide_eq_true (by omega)
        go_wp2_with fail
        go_ret
        exact ⟨rfl, BB.out⟩
      · have d0 : decide ((k : Int) < 30) = false := decide_eq_false (by omega)
        go_wp2_with fail
        go_ret
        exact ⟨rfl, BB.out⟩

set_option maxRecDepth 20000 in
set_option maxHeartbeats 3200000 in
theorem walk_45 (a b : BitVec 64) (sa sb sd : Bool) (w : World) :
    Calls Try.prog 8 #[.int .u8 45, .int .u64 (a.toNat : Int), .int .u64 (b.toNat : Int), .bool sa, .bool sb, .bool sd] w fun e w' => e = .returned (.bool true) ∧ Below w.heap.size w w' := by
  have hv : IntKind.u64.wrap ((a.toNat : Int) - b.toNat) = ((opV 45 a b).toNat : Int) := by rw [IntKind.wrap_u64, w64_sub, op_45]
  obtain ⟨x, hx⟩ : ∃ x, opV 45 a b = x := ⟨_, rfl⟩
  rw [hx] at hv
  have HX := Lib.hid hx
  clear hx
  go_enter Try.func8, Try.ntmps8
  go_wp2_with fail
  refine (alive_any _).mono ?_
  rintro e w1 ⟨rfl, hb1⟩
  have B1 := Lib.hid hb1
  clear hb1
  go_wp2_with fail
  have hS := ((isSt_lit w1 (cO a b 45) (by simp [cO])).keep (EmW.below_al _ (.cells #[.int .i64 0, .int .i64 0, .slice (some ⟨w1.heap.size, 0, none⟩) 4 4] 65))).keep (EmW.below_al _ (.cells ((pO sa sb sd).map plL).flatten.toArray 67))
  have hP := isPl_lit ((w1.alloc (.cells ((cO a b 45).map stL).flatten.toArray 62)).alloc (.cells #[.int .i64 0, .int .i64 0, .slice (some ⟨w1.heap.size, 0, none⟩) 4 4] 65)) (pO sa sb sd) (by simp [pO])
  rw [size_al, size_al] at hP
  refine (code_run _ _ _ 4 3 (cO a b 45) (pO sa sb sd) hS hP (by omega) (by omega) (fun x hx => by
    simp only [pO, List.mem_cons, List.not_mem_nil, or_false] at hx
    rcases hx with rfl | rfl | rfl <;> simp) (fun s hs => by
    simp only [cO, List.mem_cons, List.not_mem_nil, or_false] at hs
    rcases hs with rfl | rfl | rfl | rfl
    · exact ok_const 1 a
    · exact ok_const 2 b
    · exact ok_op 0 1 2 45 (by omega)
    · exact ok_out 0) 0 (by rfl)).mono ?_
  rintro e w2 ⟨A2, n2, c2, LB2, rfl, hin2, hlb2, hb2⟩
  have B2 := Lib.hid (B1.out.trans (((((EmW.below_al w1 _).trans ((EmW.below_al _ _).mono (by simp))).trans ((EmW.below_al _ _).mono (by simp; omega)))).trans (hb2.mono (by simp; omega)) |>.mono B1.out.size))
  have R2 := Lib.hid (right_O (a := a) (b := b) (o := 45) (sa := sa) (sb := sb) (sd := sd) (by omega))
  obtain ⟨N, sN, hN20, hgo, hst⟩ := run_O a b (o := 45) (sa := sa) (sb := sb) (sd := sd) (by omega)
  rw [HX.out] at hgo
  have hel := emC_le (pO sa sb sd) (cO a b 45) (by simp [cO])
  obtain ⟨code, hcd⟩ : ∃ code, emC (pO sa sb sd) (cO a b 45) = code := ⟨_, rfl⟩
  rw [hcd] at hin2 R2 hgo hel
  have hnl := hin2.1
  have hn2 : n2 ≤ 1000 := by omega
  have WD := Lib.hid (PatW.rwords_any A2 n2 c2 code w2 hin2 (by omega) (fun i hi => allR_ok R2.out i (by omega)))
  rw [allR_words R2.out] at WD
  have HG := Lib.hid hgo
  have HST := Lib.hid hst
  clear hcd hS hP hin2 hlb2 hb2 B1 hgo hst
  go_wp2_with fail
  refine WD.out.mono ?_
  rintro e w3 ⟨A3, n3, c3, rfl, hO3, hb3⟩
  have hlw : n3 = n2 := by have := hO3.len; simp [wordsTo_len] at this; omega
  subst hlw
  have HC3 : Hid (IsCode w3 A3 n3 c3 code) := Lib.hid ⟨isWd_own hO3, hnl, by omega, R2.out⟩
  have B3 := Lib.hid (B2.out.trans (hb3.mono B2.out.size))
  clear hO3 hb3 B2 WD
  go_wp2_with fail
  refine (newcore_nil w3).mono ?_
  rintro e w4 ⟨q, mq, F, rfl, hco, hq, hF, hb4⟩
  have hql := hco.lt
  have hFl : ∀ k ∈ F, k < w4.heap.size := by obtain ⟨kp, hm⟩ := hco.mem; exact hm.lt
  have L4 : Hid (Lr w3 w4.heap.size q mq F (born [] []) 83 4 none 0 0 [] w4) := Lib.hid ⟨hco, Own.nil _ _ _ _, hb4, Nat.le_refl _, ⟨hq, hql⟩, fun k hk => ⟨hF k hk, hFl k hk⟩⟩
  clear hco hF hb4 hFl
  go_wp2_with fail
  go_loopw [20, 21] (fun o i wr => ∃ (k : Nat) (s : Cr) (ev : List Ev) (E : Option Addr) (n c : Nat), k ≤ N ∧ i = .int .i64 k ∧ o = .slice E n c ∧ Goes code (born [] []) k s ev ∧ ev.length = n ∧ Lr w3 w4.heap.size q mq F s 83 4 E n c (ev.map evL) wr) (fun _ i _ => N - (intOf i).toNat)
  case atStart => exact ⟨0, _, [], none, 0, 0, by omega, rfl, rfl, Goes.zero _ _, rfl, L4.out⟩
  case round =>
    obtain ⟨k, s, ev, E, n, c, hk, rfl, rfl, hg, hevn, hL⟩ := hrel
    have HGk := Lib.hid hg
    have LL := Lib.hid hL
    clear hg hL L4
    have hql4 : q < w4.heap.size := hql
    have hnk : n ≤ k := by rw [← hevn]; exact ev_le HGk.out
    by_cases hkN : k < N
    · obtain ⟨sj, ej, s1, e1, g1, g2, g3⟩ := HG.out.all k hkN
      obtain ⟨rfl, rfl⟩ := Goes.fun HGk.out g1
      have hs0 := Goes.st0 g2
      have p36 : wr.cell? ⟨q, 36, none⟩ = some (.int .i64 0) := by rw [LL.out.co.st, hs0]
      have d0 : decide ((k : Int) < 30) = true := decide_eq_true (by omega)
      have EX := Lib.hid (exec_any LL.out.co (HC3.out.keep LL.out.bl) g2 (ver_ok HGk.out (by omega) (by simp [born])))
      have G3 := Lib.hid g3
      have hle1 := ev_le1 g2
      clear g1 g2 g3 hs0
      go_wp2_with fail
      refine EX.out.mono ?_
      rintro e w5 ⟨E5, n5, c5, rfl, hev5, hcg⟩
      have L5 := Lib.hid (LL.out.exec hcg)
      have HV5 := Lib.hid hev5
      have hn5 : n5 ≤ 1 := by have := hev5.1; omega
      clear hev5 hcg EX p36 hle1
      go_wp2_with (at_builtin; refine wpList_app _ rfl _ _ rfl elEv w4.heap.size E n c _ rfl L5.out.out E5 n5 c5 (fun i => evL (e1.getD i zeroEv)) rfl HV5.out.2 (fun _ _ => rfl) (fun _ _ => ev_one _) (by unfold maxLen; omega) (by omega) L5.out.sz ?_; intro A9 c9 w9 hown9 hg9 hat9; have L9 := Lib.hid (L5.out.app hown9 hg9); clear hown9 hg9 hat9)
      go_roundw
      case rel =>
        have hr := ev_range e1
        rw [HV5.out.1] at hr
        exact ⟨k + 1, s1, ev ++ e1, A9, n + n5, c9, by omega, by go_num, rfl, G3.out, by rw [List.length_append, hevn, HV5.out.1], by rw [List.map_append, ← hr]; exact L9.out⟩
      case measure => simp [intOf]; omega
    · obtain rfl : k = N := by omega
      obtain ⟨rfl, rfl⟩ := Goes.fun HGk.out HG.out
      obtain rfl : n = 2 := hevn.symm
      obtain ⟨g, rfl⟩ := Ow3.own_head LL.out.out (by omega)
      have x3 : wr.cell? ⟨g, 3, none⟩ = some (.int .u64 (x.toNat : Int)) := (Ow3.own_cell LL.out.out (i := 0) (j := 3) (by omega) (by omega)).1
      have BB := Lib.hid (B3.out.trans (LL.out.bl.mono B3.out.size))
      have p36 : wr.cell? ⟨q, 36, none⟩ = some (.int .i64 1) := by rw [LL.out.co.st, HST.out]
      clear LL HGk HG HST HC3 B3
      
      by_cases hk20 : k < 30
      · have d0 : decide ((k : Int) < 30) = true := decide_eq_true (by omega)
        go_wp2_with fail
        go_ret
        exact ⟨rfl, BB.out⟩
      · have d0 : decide ((k : Int) < 30) = false := decide_eq_false (by omega)
        go_wp2_with fail
        go_ret
        exact ⟨rfl, BB.out⟩

set_option maxRecDepth 20000 in
set_option maxHeartbeats 3200000 in
theorem walk_42 (a b : BitVec 64) (sa sb sd : Bool) (w : World) :
    Calls Try.prog 8 #[.int .u8 42, .int .u64 (a.toNat : Int), .int .u64 (b.toNat : Int), .bool sa, .bool sb, .bool sd] w fun e w' => e = .returned (.bool true) ∧ Below w.heap.size w w' := by
  have hv : IntKind.u64.wrap ((a.toNat : Int) * b.toNat) = ((opV 42 a b).toNat : Int) := by rw [IntKind.wrap_u64, w64_mul, op_42]
  obtain ⟨x, hx⟩ : ∃ x, opV 42 a b = x := ⟨_, rfl⟩
  rw [hx] at hv
  have HX := Lib.hid hx
  clear hx
  go_enter Try.func8, Try.ntmps8
  go_wp2_with fail
  refine (alive_any _).mono ?_
  rintro e w1 ⟨rfl, hb1⟩
  have B1 := Lib.hid hb1
  clear hb1
  go_wp2_with fail
  have hS := ((isSt_lit w1 (cO a b 42) (by simp [cO])).keep (EmW.below_al _ (.cells #[.int .i64 0, .int .i64 0, .slice (some ⟨w1.heap.size, 0, none⟩) 4 4] 65))).keep (EmW.below_al _ (.cells ((pO sa sb sd).map plL).flatten.toArray 67))
  have hP := isPl_lit ((w1.alloc (.cells ((cO a b 42).map stL).flatten.toArray 62)).alloc (.cells #[.int .i64 0, .int .i64 0, .slice (some ⟨w1.heap.size, 0, none⟩) 4 4] 65)) (pO sa sb sd) (by simp [pO])
  rw [size_al, size_al] at hP
  refine (code_run _ _ _ 4 3 (cO a b 42) (pO sa sb sd) hS hP (by omega) (by omega) (fun x hx => by
    simp only [pO, List.mem_cons, List.not_mem_nil, or_false] at hx
    rcases hx with rfl | rfl | rfl <;> simp) (fun s hs => by
    simp only [cO, List.mem_cons, List.not_mem_nil, or_false] at hs
    rcases hs with rfl | rfl | rfl | rfl
    · exact ok_const 1 a
    · exact ok_const 2 b
    · exact ok_op 0 1 2 42 (by omega)
    · exact ok_out 0) 0 (by rfl)).mono ?_
  rintro e w2 ⟨A2, n2, c2, LB2, rfl, hin2, hlb2, hb2⟩
  have B2 := Lib.hid (B1.out.trans (((((EmW.below_al w1 _).trans ((EmW.below_al _ _).mono (by simp))).trans ((EmW.below_al _ _).mono (by simp; omega)))).trans (hb2.mono (by simp; omega)) |>.mono B1.out.size))
  have R2 := Lib.hid (right_O (a := a) (b := b) (o := 42) (sa := sa) (sb := sb) (sd := sd) (by omega))
  obtain ⟨N, sN, hN20, hgo, hst⟩ := run_O a b (o := 42) (sa := sa) (sb := sb) (sd := sd) (by omega)
  rw [HX.out] at hgo
  have hel := emC_le (pO sa sb sd) (cO a b 42) (by simp [cO])
  obtain ⟨code, hcd⟩ : ∃ code, emC (pO sa sb sd) (cO a b 42) = code := ⟨_, rfl⟩
  rw [hcd] at hin2 R2 hgo hel
  have hnl := hin2.1
  have hn2 : n2 ≤ 1000 := by omega
  have WD := Lib.hid (PatW.rwords_any A2 n2 c2 code w2 hin2 (by omega) (fun i hi => allR_ok R2.out i (by omega)))
  rw [allR_words R2.out] at WD
  have HG := Lib.hid hgo
  have HST := Lib.hid hst
  clear hcd hS hP hin2 hlb2 hb2 B1 hgo hst
  go_wp2_with fail
  refine WD.out.mono ?_
  rintro e w3 ⟨A3, n3, c3, rfl, hO3, hb3⟩
  have hlw : n3 = n2 := by have := hO3.len; simp [wordsTo_len] at this; omega
  subst hlw
  have HC3 : Hid (IsCode w3 A3 n3 c3 code) := Lib.hid ⟨isWd_own hO3, hnl, by omega, R2.out⟩
  have B3 := Lib.hid (B2.out.trans (hb3.mono B2.out.size))
  clear hO3 hb3 B2 WD
  go_wp2_with fail
  refine (newcore_nil w3).mono ?_
  rintro e w4 ⟨q, mq, F, rfl, hco, hq, hF, hb4⟩
  have hql := hco.lt
  have hFl : ∀ k ∈ F, k < w4.heap.size := by obtain ⟨kp, hm⟩ := hco.mem; exact hm.lt
  have L4 : Hid (Lr w3 w4.heap.size q mq F (born [] []) 83 4 none 0 0 [] w4) := Lib.hid ⟨hco, Own.nil _ _ _ _, hb4, Nat.le_refl _, ⟨hq, hql⟩, fun k hk => ⟨hF k hk, hFl k hk⟩⟩
  clear hco hF hb4 hFl
  go_wp2_with fail
  go_loopw [20, 21] (fun o i wr => ∃ (k : Nat) (s : Cr) (ev : List Ev) (E : Option Addr) (n c : Nat), k ≤ N ∧ i = .int .i64 k ∧ o = .slice E n c ∧ Goes code (born [] []) k s ev ∧ ev.length = n ∧ Lr w3 w4.heap.size q mq F s 83 4 E n c (ev.map evL) wr) (fun _ i _ => N - (intOf i).toNat)
  case atStart => exact ⟨0, _, [], none, 0, 0, by omega, rfl, rfl, Goes.zero _ _, rfl, L4.out⟩
  case round =>
    obtain ⟨k, s, ev, E, n, c, hk, rfl, rfl, hg, hevn, hL⟩ := hrel
    have HGk := Lib.hid hg
    have LL := Lib.hid hL
    clear hg hL L4
    have hql4 : q < w4.heap.size := hql
    have hnk : n ≤ k := by rw [← hevn]; exact ev_le HGk.out
    by_cases hkN : k < N
    · obtain ⟨sj, ej, s1, e1, g1, g2, g3⟩ := HG.out.all k hkN
      obtain ⟨rfl, rfl⟩ := Goes.fun HGk.out g1
      have hs0 := Goes.st0 g2
      have p36 : wr.cell? ⟨q, 36, none⟩ = some (.int .i64 0) := by rw [LL.out.co.st, hs0]
      have d0 : decide ((k : Int) < 30) = true := decide_eq_true (by omega)
      have EX := Lib.hid (exec_any LL.out.co (HC3.out.keep LL.out.bl) g2 (ver_ok HGk.out (by omega) (by simp [born])))
      have G3 := Lib.hid g3
      have hle1 := ev_le1 g2
      clear g1 g2 g3 hs0
      go_wp2_with fail
      refine EX.out.mono ?_
      rintro e w5 ⟨E5, n5, c5, rfl, hev5, hcg⟩
      have L5 := Lib.hid (LL.out.exec hcg)
      have HV5 := Lib.hid hev5
      have hn5 : n5 ≤ 1 := by have := hev5.1; omega
      clear hev5 hcg EX p36 hle1
      go_wp2_with (at_builtin; refine wpList_app _ rfl _ _ rfl elEv w4.heap.size E n c _ rfl L5.out.out E5 n5 c5 (fun i => evL (e1.getD i zeroEv)) rfl HV5.out.2 (fun _ _ => rfl) (fun _ _ => ev_one _) (by unfold maxLen; omega) (by omega) L5.out.sz ?_; intro A9 c9 w9 hown9 hg9 hat9; have L9 := Lib.hid (L5.out.app hown9 hg9); clear hown9 hg9 hat9)
      go_roundw
      case rel =>
        have hr := ev_range e1
        rw [HV5.out.1] at hr
        exact ⟨k + 1, s1, ev ++ e1, A9, n + n5, c9, by omega, by go_num, rfl, G3.out, by rw [List.length_append, hevn, HV5.out.1], by rw [List.map_append, ← hr]; exact L9.out⟩
      case measure => simp [intOf]; omega
    · obtain rfl : k = N := by omega
      obtain ⟨rfl, rfl⟩ := Goes.fun HGk.out HG.out
      obtain rfl : n = 2 := hevn.symm
      obtain ⟨g, rfl⟩ := Ow3.own_head LL.out.out (by omega)
      have x3 : wr.cell? ⟨g, 3, none⟩ = some (.int .u64 (x.toNat : Int)) := (Ow3.own_cell LL.out.out (i := 0) (j := 3) (by omega) (by omega)).1
      have BB := Lib.hid (B3.out.trans (LL.out.bl.mono B3.out.size))
      have p36 : wr.cell? ⟨q, 36, none⟩ = some (.int .i64 1) := by rw [LL.out.co.st, HST.out]
      clear LL HGk HG HST HC3 B3
      
      by_cases hk20 : k < 30
      · have d0 : decide ((k : Int) < 30) = true := decide_eq_true (by omega)
        go_wp2_with fail
        go_ret
        exact ⟨rfl, BB.out⟩
      · have d0 : decide ((k : Int) < 30) = false := decide_eq_false (by omega)
        go_wp2_with fail
        go_ret
        exact ⟨rfl, BB.out⟩

set_option maxRecDepth 20000 in
set_option maxHeartbeats 3200000 in
theorem walk_38 (a b : BitVec 64) (sa sb sd : Bool) (w : World) :
    Calls Try.prog 8 #[.int .u8 38, .int .u64 (a.toNat : Int), .int .u64 (b.toNat : Int), .bool sa, .bool sb, .bool sd] w fun e w' => e = .returned (.bool true) ∧ Below w.heap.size w w' := by
  have hv : bits .and .u64 (a.toNat : Int) (b.toNat : Int) = ((opV 38 a b).toNat : Int) := by rw [w64_and, op_38]
  obtain ⟨x, hx⟩ : ∃ x, opV 38 a b = x := ⟨_, rfl⟩
  rw [hx] at hv
  have HX := Lib.hid hx
  clear hx
  go_enter Try.func8, Try.ntmps8
  go_wp2_with fail
  refine (alive_any _).mono ?_
  rintro e w1 ⟨rfl, hb1⟩
  have B1 := Lib.hid hb1
  clear hb1
  go_wp2_with fail
  have hS := ((isSt_lit w1 (cO a b 38) (by simp [cO])).keep (EmW.below_al _ (.cells #[.int .i64 0, .int .i64 0, .slice (some ⟨w1.heap.size, 0, none⟩) 4 4] 65))).keep (EmW.below_al _ (.cells ((pO sa sb sd).map plL).flatten.toArray 67))
  have hP := isPl_lit ((w1.alloc (.cells ((cO a b 38).map stL).flatten.toArray 62)).alloc (.cells #[.int .i64 0, .int .i64 0, .slice (some ⟨w1.heap.size, 0, none⟩) 4 4] 65)) (pO sa sb sd) (by simp [pO])
  rw [size_al, size_al] at hP
  refine (code_run _ _ _ 4 3 (cO a b 38) (pO sa sb sd) hS hP (by omega) (by omega) (fun x hx => by
    simp only [pO, List.mem_cons, List.not_mem_nil, or_false] at hx
    rcases hx with rfl | rfl | rfl <;> simp) (fun s hs => by
    simp only [cO, List.mem_cons, List.not_mem_nil, or_false] at hs
    rcases hs with rfl | rfl | rfl | rfl
    · exact ok_const 1 a
    · exact ok_const 2 b
    · exact ok_op 0 1 2 38 (by omega)
    · exact ok_out 0) 0 (by rfl)).mono ?_
  rintro e w2 ⟨A2, n2, c2, LB2, rfl, hin2, hlb2, hb2⟩
  have B2 := Lib.hid (B1.out.trans (((((EmW.below_al w1 _).trans ((EmW.below_al _ _).mono (by simp))).trans ((EmW.below_al _ _).mono (by simp; omega)))).trans (hb2.mono (by simp; omega)) |>.mono B1.out.size))
  have R2 := Lib.hid (right_O (a := a) (b := b) (o := 38) (sa := sa) (sb := sb) (sd := sd) (by omega))
  obtain ⟨N, sN, hN20, hgo, hst⟩ := run_O a b (o := 38) (sa := sa) (sb := sb) (sd := sd) (by omega)
  rw [HX.out] at hgo
  have hel := emC_le (pO sa sb sd) (cO a b 38) (by simp [cO])
  obtain ⟨code, hcd⟩ : ∃ code, emC (pO sa sb sd) (cO a b 38) = code := ⟨_, rfl⟩
  rw [hcd] at hin2 R2 hgo hel
  have hnl := hin2.1
  have hn2 : n2 ≤ 1000 := by omega
  have WD := Lib.hid (PatW.rwords_any A2 n2 c2 code w2 hin2 (by omega) (fun i hi => allR_ok R2.out i (by omega)))
  rw [allR_words R2.out] at WD
  have HG := Lib.hid hgo
  have HST := Lib.hid hst
  clear hcd hS hP hin2 hlb2 hb2 B1 hgo hst
  go_wp2_with fail
  refine WD.out.mono ?_
  rintro e w3 ⟨A3, n3, c3, rfl, hO3, hb3⟩
  have hlw : n3 = n2 := by have := hO3.len; simp [wordsTo_len] at this; omega
  subst hlw
  have HC3 : Hid (IsCode w3 A3 n3 c3 code) := Lib.hid ⟨isWd_own hO3, hnl, by omega, R2.out⟩
  have B3 := Lib.hid (B2.out.trans (hb3.mono B2.out.size))
  clear hO3 hb3 B2 WD
  go_wp2_with fail
  refine (newcore_nil w3).mono ?_
  rintro e w4 ⟨q, mq, F, rfl, hco, hq, hF, hb4⟩
  have hql := hco.lt
  have hFl : ∀ k ∈ F, k < w4.heap.size := by obtain ⟨kp, hm⟩ := hco.mem; exact hm.lt
  have L4 : Hid (Lr w3 w4.heap.size q mq F (born [] []) 83 4 none 0 0 [] w4) := Lib.hid ⟨hco, Own.nil _ _ _ _, hb4, Nat.le_refl _, ⟨hq, hql⟩, fun k hk => ⟨hF k hk, hFl k hk⟩⟩
  clear hco hF hb4 hFl
  go_wp2_with fail
  go_loopw [20, 21] (fun o i wr => ∃ (k : Nat) (s : Cr) (ev : List Ev) (E : Option Addr) (n c : Nat), k ≤ N ∧ i = .int .i64 k ∧ o = .slice E n c ∧ Goes code (born [] []) k s ev ∧ ev.length = n ∧ Lr w3 w4.heap.size q mq F s 83 4 E n c (ev.map evL) wr) (fun _ i _ => N - (intOf i).toNat)
  case atStart => exact ⟨0, _, [], none, 0, 0, by omega, rfl, rfl, Goes.zero _ _, rfl, L4.out⟩
  case round =>
    obtain ⟨k, s, ev, E, n, c, hk, rfl, rfl, hg, hevn, hL⟩ := hrel
    have HGk := Lib.hid hg
    have LL := Lib.hid hL
    clear hg hL L4
    have hql4 : q < w4.heap.size := hql
    have hnk : n ≤ k := by rw [← hevn]; exact ev_le HGk.out
    by_cases hkN : k < N
    · obtain ⟨sj, ej, s1, e1, g1, g2, g3⟩ := HG.out.all k hkN
      obtain ⟨rfl, rfl⟩ := Goes.fun HGk.out g1
      have hs0 := Goes.st0 g2
      have p36 : wr.cell? ⟨q, 36, none⟩ = some (.int .i64 0) := by rw [LL.out.co.st, hs0]
      have d0 : decide ((k : Int) < 30) = true := decide_eq_true (by omega)
      have EX := Lib.hid (exec_any LL.out.co (HC3.out.keep LL.out.bl) g2 (ver_ok HGk.out (by omega) (by simp [born])))
      have G3 := Lib.hid g3
      have hle1 := ev_le1 g2
      clear g1 g2 g3 hs0
      go_wp2_with fail
      refine EX.out.mono ?_
      rintro e w5 ⟨E5, n5, c5, rfl, hev5, hcg⟩
      have L5 := Lib.hid (LL.out.exec hcg)
      have HV5 := Lib.hid hev5
      have hn5 : n5 ≤ 1 := by have := hev5.1; omega
      clear hev5 hcg EX p36 hle1
      go_wp2_with (at_builtin; refine wpList_app _ rfl _ _ rfl elEv w4.heap.size E n c _ rfl L5.out.out E5 n5 c5 (fun i => evL (e1.getD i zeroEv)) rfl HV5.out.2 (fun _ _ => rfl) (fun _ _ => ev_one _) (by unfold maxLen; omega) (by omega) L5.out.sz ?_; intro A9 c9 w9 hown9 hg9 hat9; have L9 := Lib.hid (L5.out.app hown9 hg9); clear hown9 hg9 hat9)
      go_roundw
      case rel =>
        have hr := ev_range e1
        rw [HV5.out.1] at hr
        exact ⟨k + 1, s1, ev ++ e1, A9, n + n5, c9, by omega, by go_num, rfl, G3.out, by rw [List.length_append, hevn, HV5.out.1], by rw [List.map_append, ← hr]; exact L9.out⟩
      case measure => simp [intOf]; omega
    · obtain rfl : k = N := by omega
      obtain ⟨rfl, rfl⟩ := Goes.fun HGk.out HG.out
      obtain rfl : n = 2 := hevn.symm
      obtain ⟨g, rfl⟩ := Ow3.own_head LL.out.out (by omega)
      have x3 : wr.cell? ⟨g, 3, none⟩ = some (.int .u64 (x.toNat : Int)) := (Ow3.own_cell LL.out.out (i := 0) (j := 3) (by omega) (by omega)).1
      have BB := Lib.hid (B3.out.trans (LL.out.bl.mono B3.out.size))
      have p36 : wr.cell? ⟨q, 36, none⟩ = some (.int .i64 1) := by rw [LL.out.co.st, HST.out]
      clear LL HGk HG HST HC3 B3
      
      by_cases hk20 : k < 30
      · have d0 : decide ((k : Int) < 30) = true := decide_eq_true (by omega)
        go_wp2_with fail
        go_ret
        exact ⟨rfl, BB.out⟩
      · have d0 : decide ((k : Int) < 30) = false := decide_eq_false (by omega)
        go_wp2_with fail
        go_ret
        exact ⟨rfl, BB.out⟩

set_option maxRecDepth 20000 in
set_option maxHeartbeats 3200000 in
theorem walk_61t (a b : BitVec 64) (sa sb sd : Bool) (w : World) (hab : a = b) :
    Calls Try.prog 8 #[.int .u8 61, .int .u64 (a.toNat : Int), .int .u64 (b.toNat : Int), .bool sa, .bool sb, .bool sd] w fun e w' => e = .returned (.bool true) ∧ Below w.heap.size w w' := by
  have hv : ((opV 61 a b).toNat : Int) = 1 := by rw [op_61t hab]; rfl
  have he : ((a.toNat : Int) == (b.toNat : Int)) = true := by rw [w64_eq]; exact decide_eq_true hab
  clear hab
  obtain ⟨x, hx⟩ : ∃ x, opV 61 a b = x := ⟨_, rfl⟩
  rw [hx] at hv
  have HX := Lib.hid hx
  clear hx
  go_enter Try.func8, Try.ntmps8
  go_wp2_with fail
  refine (alive_any _).mono ?_
  rintro e w1 ⟨rfl, hb1⟩
  have B1 := Lib.hid hb1
  clear hb1
  go_wp2_with fail
  have hS := ((isSt_lit w1 (cO a b 61) (by simp [cO])).keep (EmW.below_al _ (.cells #[.int .i64 0, .int .i64 0, .slice (some ⟨w1.heap.size, 0, none⟩) 4 4] 65))).keep (EmW.below_al _ (.cells ((pO sa sb sd).map plL).flatten.toArray 67))
  have hP := isPl_lit ((w1.alloc (.cells ((cO a b 61).map stL).flatten.toArray 62)).alloc (.cells #[.int .i64 0, .int .i64 0, .slice (some ⟨w1.heap.size, 0, none⟩) 4 4] 65)) (pO sa sb sd) (by simp [pO])
  rw [size_al, size_al] at hP
  refine (code_run _ _ _ 4 3 (cO a b 61) (pO sa sb sd) hS hP (by omega) (by omega) (fun x hx => by
    simp only [pO, List.mem_cons, List.not_mem_nil, or_false] at hx
    rcases hx with rfl | rfl | rfl <;> simp) (fun s hs => by
    simp only [cO, List.mem_cons, List.not_mem_nil, or_false] at hs
    rcases hs with rfl | rfl | rfl | rfl
    · exact ok_const 1 a
    · exact ok_const 2 b
    · exact ok_op 0 1 2 61 (by omega)
    · exact ok_out 0) 0 (by rfl)).mono ?_
  rintro e w2 ⟨A2, n2, c2, LB2, rfl, hin2, hlb2, hb2⟩
  have B2 := Lib.hid (B1.out.trans (((((EmW.below_al w1 _).trans ((EmW.below_al _ _).mono (by simp))).trans ((EmW.below_al _ _).mono (by simp; omega)))).trans (hb2.mono (by simp; omega)) |>.mono B1.out.size))
  have R2 := Lib.hid (right_O (a := a) (b := b) (o := 61) (sa := sa) (sb := sb) (sd := sd) (by omega))
  obtain ⟨N, sN, hN20, hgo, hst⟩ := run_O a b (o := 61) (sa := sa) (sb := sb) (sd := sd) (by omega)
  rw [HX.out] at hgo
  have hel := emC_le (pO sa sb sd) (cO a b 61) (by simp [cO])
  obtain ⟨code, hcd⟩ : ∃ code, emC (pO sa sb sd) (cO a b 61) = code := ⟨_, rfl⟩
  rw [hcd] at hin2 R2 hgo hel
  have hnl := hin2.1
  have hn2 : n2 ≤ 1000 := by omega
  have WD := Lib.hid (PatW.rwords_any A2 n2 c2 code w2 hin2 (by omega) (fun i hi => allR_ok R2.out i (by omega)))
  rw [allR_words R2.out] at WD
  have HG := Lib.hid hgo
  have HST := Lib.hid hst
  clear hcd hS hP hin2 hlb2 hb2 B1 hgo hst
  go_wp2_with fail
  refine WD.out.mono ?_
  rintro e w3 ⟨A3, n3, c3, rfl, hO3, hb3⟩
  have hlw : n3 = n2 := by have := hO3.len; simp [wordsTo_len] at this; omega
  subst hlw
  have HC3 : Hid (IsCode w3 A3 n3 c3 code) := Lib.hid ⟨isWd_own hO3, hnl, by omega, R2.out⟩
  have B3 := Lib.hid (B2.out.trans (hb3.mono B2.out.size))
  clear hO3 hb3 B2 WD
  go_wp2_with fail
  refine (newcore_nil w3).mono ?_
  rintro e w4 ⟨q, mq, F, rfl, hco, hq, hF, hb4⟩
  have hql := hco.lt
  have hFl : ∀ k ∈ F, k < w4.heap.size := by obtain ⟨kp, hm⟩ := hco.mem; exact hm.lt
  have L4 : Hid (Lr w3 w4.heap.size q mq F (born [] []) 83 4 none 0 0 [] w4) := Lib.hid ⟨hco, Own.nil _ _ _ _, hb4, Nat.le_refl _, ⟨hq, hql⟩, fun k hk => ⟨hF k hk, hFl k hk⟩⟩
  clear hco hF hb4 hFl
  go_wp2_with fail
  go_loopw [20, 21] (fun o i wr => ∃ (k : Nat) (s : Cr) (ev : List Ev) (E : Option Addr) (n c : Nat), k ≤ N ∧ i = .int .i64 k ∧ o = .slice E n c ∧ Goes code (born [] []) k s ev ∧ ev.length = n ∧ Lr w3 w4.heap.size q mq F s 83 4 E n c (ev.map evL) wr) (fun _ i _ => N - (intOf i).toNat)
  case atStart => exact ⟨0, _, [], none, 0, 0, by omega, rfl, rfl, Goes.zero _ _, rfl, L4.out⟩
  case round =>
    obtain ⟨k, s, ev, E, n, c, hk, rfl, rfl, hg, hevn, hL⟩ := hrel
    have HGk := Lib.hid hg
    have LL := Lib.hid hL
    clear hg hL L4
    have hql4 : q < w4.heap.size := hql
    have hnk : n ≤ k := by rw [← hevn]; exact ev_le HGk.out
    by_cases hkN : k < N
    · obtain ⟨sj, ej, s1, e1, g1, g2, g3⟩ := HG.out.all k hkN
      obtain ⟨rfl, rfl⟩ := Goes.fun HGk.out g1
      have hs0 := Goes.st0 g2
      have p36 : wr.cell? ⟨q, 36, none⟩ = some (.int .i64 0) := by rw [LL.out.co.st, hs0]
      have d0 : decide ((k : Int) < 30) = true := decide_eq_true (by omega)
      have EX := Lib.hid (exec_any LL.out.co (HC3.out.keep LL.out.bl) g2 (ver_ok HGk.out (by omega) (by simp [born])))
      have G3 := Lib.hid g3
      have hle1 := ev_le1 g2
      clear g1 g2 g3 hs0
      go_wp2_with fail
      refine EX.out.mono ?_
      rintro e w5 ⟨E5, n5, c5, rfl, hev5, hcg⟩
      have L5 := Lib.hid (LL.out.exec hcg)
      have HV5 := Lib.hid hev5
      have hn5 : n5 ≤ 1 := by have := hev5.1; omega
      clear hev5 hcg EX p36 hle1
      go_wp2_with (at_builtin; refine wpList_app _ rfl _ _ rfl elEv w4.heap.size E n c _ rfl L5.out.out E5 n5 c5 (fun i => evL (e1.getD i zeroEv)) rfl HV5.out.2 (fun _ _ => rfl) (fun _ _ => ev_one _) (by unfold maxLen; omega) (by omega) L5.out.sz ?_; intro A9 c9 w9 hown9 hg9 hat9; have L9 := Lib.hid (L5.out.app hown9 hg9); clear hown9 hg9 hat9)
      go_roundw
      case rel =>
        have hr := ev_range e1
        rw [HV5.out.1] at hr
        exact ⟨k + 1, s1, ev ++ e1, A9, n + n5, c9, by omega, by go_num, rfl, G3.out, by rw [List.length_append, hevn, HV5.out.1], by rw [List.map_append, ← hr]; exact L9.out⟩
      case measure => simp [intOf]; omega
    · obtain rfl : k = N := by omega
      obtain ⟨rfl, rfl⟩ := Goes.fun HGk.out HG.out
      obtain rfl : n = 2 := hevn.symm
      obtain ⟨g, rfl⟩ := Ow3.own_head LL.out.out (by omega)
      have x3 : wr.cell? ⟨g, 3, none⟩ = some (.int .u64 (x.toNat : Int)) := (Ow3.own_cell LL.out.out (i := 0) (j := 3) (by omega) (by omega)).1
      have BB := Lib.hid (B3.out.trans (LL.out.bl.mono B3.out.size))
      have p36 : wr.cell? ⟨q, 36, none⟩ = some (.int .i64 1) := by rw [LL.out.co.st, HST.out]
      clear LL HGk HG HST HC3 B3
      rw [hv] at x3
      by_cases hk20 : k < 30
      · have d0 : decide ((k : Int) < 30) = true := decide_eq_true (by omega)
        go_wp2_with fail
        go_ret
        exact ⟨rfl, BB.out⟩
      · have d0 : decide ((k : Int) < 30) = false := decide_eq_false (by omega)
        go_wp2_with fail
        go_ret
        exact ⟨rfl, BB.out⟩

set_option maxRecDepth 20000 in
set_option maxHeartbeats 3200000 in
theorem walk_61f (a b : BitVec 64) (sa sb sd : Bool) (w : World) (hab : ¬ a = b) :
    Calls Try.prog 8 #[.int .u8 61, .int .u64 (a.toNat : Int), .int .u64 (b.toNat : Int), .bool sa, .bool sb, .bool sd] w fun e w' => e = .returned (.bool true) ∧ Below w.heap.size w w' := by
  have hv : ((opV 61 a b).toNat : Int) = 0 := by rw [op_61f hab]; rfl
  have he : ((a.toNat : Int) == (b.toNat : Int)) = false := by rw [w64_eq]; exact decide_eq_false hab
  clear hab
  obtain ⟨x, hx⟩ : ∃ x, opV 61 a b = x := ⟨_, rfl⟩
  rw [hx] at hv
  have HX := Lib.hid hx
  clear hx
  go_enter Try.func8, Try.ntmps8
  go_wp2_with fail
  refine (alive_any _).mono ?_
  rintro e w1 ⟨rfl, hb1⟩
  have B1 := Lib.hid hb1
  clear hb1
  go_wp2_with fail
  have hS := ((isSt_lit w1 (cO a b 61) (by simp [cO])).keep (EmW.below_al _ (.cells #[.int .i64 0, .int .i64 0, .slice (some ⟨w1.heap.size, 0, none⟩) 4 4] 65))).keep (EmW.below_al _ (.cells ((pO sa sb sd).map plL).flatten.toArray 67))
  have hP := isPl_lit ((w1.alloc (.cells ((cO a b 61).map stL).flatten.toArray 62)).alloc (.cells #[.int .i64 0, .int .i64 0, .slice (some ⟨w1.heap.size, 0, none⟩) 4 4] 65)) (pO sa sb sd) (by simp [pO])
  rw [size_al, size_al] at hP
  refine (code_run _ _ _ 4 3 (cO a b 61) (pO sa sb sd) hS hP (by omega) (by omega) (fun x hx => by
    simp only [pO, List.mem_cons, List.not_mem_nil, or_false] at hx
    rcases hx with rfl | rfl | rfl <;> simp) (fun s hs => by
    simp only [cO, List.mem_cons, List.not_mem_nil, or_false] at hs
    rcases hs with rfl | rfl | rfl | rfl
    · exact ok_const 1 a
    · exact ok_const 2 b
    · exact ok_op 0 1 2 61 (by omega)
    · exact ok_out 0) 0 (by rfl)).mono ?_
  rintro e w2 ⟨A2, n2, c2, LB2, rfl, hin2, hlb2, hb2⟩
  have B2 := Lib.hid (B1.out.trans (((((EmW.below_al w1 _).trans ((EmW.below_al _ _).mono (by simp))).trans ((EmW.below_al _ _).mono (by simp; omega)))).trans (hb2.mono (by simp; omega)) |>.mono B1.out.size))
  have R2 := Lib.hid (right_O (a := a) (b := b) (o := 61) (sa := sa) (sb := sb) (sd := sd) (by omega))
  obtain ⟨N, sN, hN20, hgo, hst⟩ := run_O a b (o := 61) (sa := sa) (sb := sb) (sd := sd) (by omega)
  rw [HX.out] at hgo
  have hel := emC_le (pO sa sb sd) (cO a b 61) (by simp [cO])
  obtain ⟨code, hcd⟩ : ∃ code, emC (pO sa sb sd) (cO a b 61) = code := ⟨_, rfl⟩
  rw [hcd] at hin2 R2 hgo hel
  have hnl := hin2.1
  have hn2 : n2 ≤ 1000 := by omega
  have WD := Lib.hid (PatW.rwords_any A2 n2 c2 code w2 hin2 (by omega) (fun i hi => allR_ok R2.out i (by omega)))
  rw [allR_words R2.out] at WD
  have HG := Lib.hid hgo
  have HST := Lib.hid hst
  clear hcd hS hP hin2 hlb2 hb2 B1 hgo hst
  go_wp2_with fail
  refine WD.out.mono ?_
  rintro e w3 ⟨A3, n3, c3, rfl, hO3, hb3⟩
  have hlw : n3 = n2 := by have := hO3.len; simp [wordsTo_len] at this; omega
  subst hlw
  have HC3 : Hid (IsCode w3 A3 n3 c3 code) := Lib.hid ⟨isWd_own hO3, hnl, by omega, R2.out⟩
  have B3 := Lib.hid (B2.out.trans (hb3.mono B2.out.size))
  clear hO3 hb3 B2 WD
  go_wp2_with fail
  refine (newcore_nil w3).mono ?_
  rintro e w4 ⟨q, mq, F, rfl, hco, hq, hF, hb4⟩
  have hql := hco.lt
  have hFl : ∀ k ∈ F, k < w4.heap.size := by obtain ⟨kp, hm⟩ := hco.mem; exact hm.lt
  have L4 : Hid (Lr w3 w4.heap.size q mq F (born [] []) 83 4 none 0 0 [] w4) := Lib.hid ⟨hco, Own.nil _ _ _ _, hb4, Nat.le_refl _, ⟨hq, hql⟩, fun k hk => ⟨hF k hk, hFl k hk⟩⟩
  clear hco hF hb4 hFl
  go_wp2_with fail
  go_loopw [20, 21] (fun o i wr => ∃ (k : Nat) (s : Cr) (ev : List Ev) (E : Option Addr) (n c : Nat), k ≤ N ∧ i = .int .i64 k ∧ o = .slice E n c ∧ Goes code (born [] []) k s ev ∧ ev.length = n ∧ Lr w3 w4.heap.size q mq F s 83 4 E n c (ev.map evL) wr) (fun _ i _ => N - (intOf i).toNat)
  case atStart => exact ⟨0, _, [], none, 0, 0, by omega, rfl, rfl, Goes.zero _ _, rfl, L4.out⟩
  case round =>
    obtain ⟨k, s, ev, E, n, c, hk, rfl, rfl, hg, hevn, hL⟩ := hrel
    have HGk := Lib.hid hg
    have LL := Lib.hid hL
    clear hg hL L4
    have hql4 : q < w4.heap.size := hql
    have hnk : n ≤ k := by rw [← hevn]; exact ev_le HGk.out
    by_cases hkN : k < N
    · obtain ⟨sj, ej, s1, e1, g1, g2, g3⟩ := HG.out.all k hkN
      obtain ⟨rfl, rfl⟩ := Goes.fun HGk.out g1
      have hs0 := Goes.st0 g2
      have p36 : wr.cell? ⟨q, 36, none⟩ = some (.int .i64 0) := by rw [LL.out.co.st, hs0]
      have d0 : decide ((k : Int) < 30) = true := decide_eq_true (by omega)
      have EX := Lib.hid (exec_any LL.out.co (HC3.out.keep LL.out.bl) g2 (ver_ok HGk.out (by omega) (by simp [born])))
      have G3 := Lib.hid g3
      have hle1 := ev_le1 g2
      clear g1 g2 g3 hs0
      go_wp2_with fail
      refine EX.out.mono ?_
      rintro e w5 ⟨E5, n5, c5, rfl, hev5, hcg⟩
      have L5 := Lib.hid (LL.out.exec hcg)
      have HV5 := Lib.hid hev5
      have hn5 : n5 ≤ 1 := by have := hev5.1; omega
      clear hev5 hcg EX p36 hle1
      go_wp2_with (at_builtin; refine wpList_app _ rfl _ _ rfl elEv w4.heap.size E n c _ rfl L5.out.out E5 n5 c5 (fun i => evL (e1.getD i zeroEv)) rfl HV5.out.2 (fun _ _ => rfl) (fun _ _ => ev_one _) (by unfold maxLen; omega) (by omega) L5.out.sz ?_; intro A9 c9 w9 hown9 hg9 hat9; have L9 := Lib.hid (L5.out.app hown9 hg9); clear hown9 hg9 hat9)
      go_roundw
      case rel =>
        have hr := ev_range e1
        rw [HV5.out.1] at hr
        exact ⟨k + 1, s1, ev ++ e1, A9, n + n5, c9, by omega, by go_num, rfl, G3.out, by rw [List.length_append, hevn, HV5.out.1], by rw [List.map_append, ← hr]; exact L9.out⟩
      case measure => simp [intOf]; omega
    · obtain rfl : k = N := by omega
      obtain ⟨rfl, rfl⟩ := Goes.fun HGk.out HG.out
      obtain rfl : n = 2 := hevn.symm
      obtain ⟨g, rfl⟩ := Ow3.own_head LL.out.out (by omega)
      have x3 : wr.cell? ⟨g, 3, none⟩ = some (.int .u64 (x.toNat : Int)) := (Ow3.own_cell LL.out.out (i := 0) (j := 3) (by omega) (by omega)).1
      have BB := Lib.hid (B3.out.trans (LL.out.bl.mono B3.out.size))
      have p36 : wr.cell? ⟨q, 36, none⟩ = some (.int .i64 1) := by rw [LL.out.co.st, HST.out]
      clear LL HGk HG HST HC3 B3
      rw [hv] at x3
      by_cases hk20 : k < 30
      · have d0 : decide ((k : Int) < 30) = true := decide_eq_true (by omega)
        go_wp2_with fail
        go_ret
        exact ⟨rfl, BB.out⟩
      · have d0 : decide ((k : Int) < 30) = false := decide_eq_false (by omega)
        go_wp2_with fail
        go_ret
        exact ⟨rfl, BB.out⟩

set_option maxRecDepth 20000 in
set_option maxHeartbeats 3200000 in
theorem walk_60t (a b : BitVec 64) (sa sb sd : Bool) (w : World) (hab : a.toInt < b.toInt) :
    Calls Try.prog 8 #[.int .u8 60, .int .u64 (a.toNat : Int), .int .u64 (b.toNat : Int), .bool sa, .bool sb, .bool sd] w fun e w' => e = .returned (.bool true) ∧ Below w.heap.size w w' := by
  have hv : ((opV 60 a b).toNat : Int) = 1 := by rw [op_60t hab]; rfl
  have he : decide (a.toInt < b.toInt) = true := decide_eq_true hab
  have s1 : IntKind.i64.wrap (a.toNat : Int) = a.toInt := w64_sgn a
  have s2 : IntKind.i64.wrap (b.toNat : Int) = b.toInt := w64_sgn b
  clear hab
  obtain ⟨x, hx⟩ : ∃ x, opV 60 a b = x := ⟨_, rfl⟩
  rw [hx] at hv
  have HX := Lib.hid hx
  clear hx
  go_enter Try.func8, Try.ntmps8
  go_wp2_with fail
  refine (alive_any _).mono ?_
  rintro e w1 ⟨rfl, hb1⟩
  have B1 := Lib.hid hb1
  clear hb1
  go_wp2_with fail
  have hS := ((isSt_lit w1 (cO a b 60) (by simp [cO])).keep (EmW.below_al _ (.cells #[.int .i64 0, .int .i64 0, .slice (some ⟨w1.heap.size, 0, none⟩) 4 4] 65))).keep (EmW.below_al _ (.cells ((pO sa sb sd).map plL).flatten.toArray 67))
  have hP := isPl_lit ((w1.alloc (.cells ((cO a b 60).map stL).flatten.toArray 62)).alloc (.cells #[.int .i64 0, .int .i64 0, .slice (some ⟨w1.heap.size, 0, none⟩) 4 4] 65)) (pO sa sb sd) (by simp [pO])
  rw [size_al, size_al] at hP
  refine (code_run _ _ _ 4 3 (cO a b 60) (pO sa sb sd) hS hP (by omega) (by omega) (fun x hx => by
    simp only [pO, List.mem_cons, List.not_mem_nil, or_false] at hx
    rcases hx with rfl | rfl | rfl <;> simp) (fun s hs => by
    simp only [cO, List.mem_cons, List.not_mem_nil, or_false] at hs
    rcases hs with rfl | rfl | rfl | rfl
    · exact ok_const 1 a
    · exact ok_const 2 b
    · exact ok_op 0 1 2 60 (by omega)
    · exact ok_out 0) 0 (by rfl)).mono ?_
  rintro e w2 ⟨A2, n2, c2, LB2, rfl, hin2, hlb2, hb2⟩
  have B2 := Lib.hid (B1.out.trans (((((EmW.below_al w1 _).trans ((EmW.below_al _ _).mono (by simp))).trans ((EmW.below_al _ _).mono (by simp; omega)))).trans (hb2.mono (by simp; omega)) |>.mono B1.out.size))
  have R2 := Lib.hid (right_O (a := a) (b := b) (o := 60) (sa := sa) (sb := sb) (sd := sd) (by omega))
  obtain ⟨N, sN, hN20, hgo, hst⟩ := run_O a b (o := 60) (sa := sa) (sb := sb) (sd := sd) (by omega)
  rw [HX.out] at hgo
  have hel := emC_le (pO sa sb sd) (cO a b 60) (by simp [cO])
  obtain ⟨code, hcd⟩ : ∃ code, emC (pO sa sb sd) (cO a b 60) = code := ⟨_, rfl⟩
  rw [hcd] at hin2 R2 hgo hel
  have hnl := hin2.1
  have hn2 : n2 ≤ 1000 := by omega
  have WD := Lib.hid (PatW.rwords_any A2 n2 c2 code w2 hin2 (by omega) (fun i hi => allR_ok R2.out i (by omega)))
  rw [allR_words R2.out] at WD
  have HG := Lib.hid hgo
  have HST := Lib.hid hst
  clear hcd hS hP hin2 hlb2 hb2 B1 hgo hst
  go_wp2_with fail
  refine WD.out.mono ?_
  rintro e w3 ⟨A3, n3, c3, rfl, hO3, hb3⟩
  have hlw : n3 = n2 := by have := hO3.len; simp [wordsTo_len] at this; omega
  subst hlw
  have HC3 : Hid (IsCode w3 A3 n3 c3 code) := Lib.hid ⟨isWd_own hO3, hnl, by omega, R2.out⟩
  have B3 := Lib.hid (B2.out.trans (hb3.mono B2.out.size))
  clear hO3 hb3 B2 WD
  go_wp2_with fail
  refine (newcore_nil w3).mono ?_
  rintro e w4 ⟨q, mq, F, rfl, hco, hq, hF, hb4⟩
  have hql := hco.lt
  have hFl : ∀ k ∈ F, k < w4.heap.size := by obtain ⟨kp, hm⟩ := hco.mem; exact hm.lt
  have L4 : Hid (Lr w3 w4.heap.size q mq F (born [] []) 83 4 none 0 0 [] w4) := Lib.hid ⟨hco, Own.nil _ _ _ _, hb4, Nat.le_refl _, ⟨hq, hql⟩, fun k hk => ⟨hF k hk, hFl k hk⟩⟩
  clear hco hF hb4 hFl
  go_wp2_with fail
  go_loopw [20, 21] (fun o i wr => ∃ (k : Nat) (s : Cr) (ev : List Ev) (E : Option Addr) (n c : Nat), k ≤ N ∧ i = .int .i64 k ∧ o = .slice E n c ∧ Goes code (born [] []) k s ev ∧ ev.length = n ∧ Lr w3 w4.heap.size q mq F s 83 4 E n c (ev.map evL) wr) (fun _ i _ => N - (intOf i).toNat)
  case atStart => exact ⟨0, _, [], none, 0, 0, by omega, rfl, rfl, Goes.zero _ _, rfl, L4.out⟩
  case round =>
    obtain ⟨k, s, ev, E, n, c, hk, rfl, rfl, hg, hevn, hL⟩ := hrel
    have HGk := Lib.hid hg
    have LL := Lib.hid hL
    clear hg hL L4
    have hql4 : q < w4.heap.size := hql
    have hnk : n ≤ k := by rw [← hevn]; exact ev_le HGk.out
    by_cases hkN : k < N
    · obtain ⟨sj, ej, s1, e1, g1, g2, g3⟩ := HG.out.all k hkN
      obtain ⟨rfl, rfl⟩ := Goes.fun HGk.out g1
      have hs0 := Goes.st0 g2
      have p36 : wr.cell? ⟨q, 36, none⟩ = some (.int .i64 0) := by rw [LL.out.co.st, hs0]
      have d0 : decide ((k : Int) < 30) = true := decide_eq_true (by omega)
      have EX := Lib.hid (exec_any LL.out.co (HC3.out.keep LL.out.bl) g2 (ver_ok HGk.out (by omega) (by simp [born])))
      have G3 := Lib.hid g3
      have hle1 := ev_le1 g2
      clear g1 g2 g3 hs0
      go_wp2_with fail
      refine EX.out.mono ?_
      rintro e w5 ⟨E5, n5, c5, rfl, hev5, hcg⟩
      have L5 := Lib.hid (LL.out.exec hcg)
      have HV5 := Lib.hid hev5
      have hn5 : n5 ≤ 1 := by have := hev5.1; omega
      clear hev5 hcg EX p36 hle1
      go_wp2_with (at_builtin; refine wpList_app _ rfl _ _ rfl elEv w4.heap.size E n c _ rfl L5.out.out E5 n5 c5 (fun i => evL (e1.getD i zeroEv)) rfl HV5.out.2 (fun _ _ => rfl) (fun _ _ => ev_one _) (by unfold maxLen; omega) (by omega) L5.out.sz ?_; intro A9 c9 w9 hown9 hg9 hat9; have L9 := Lib.hid (L5.out.app hown9 hg9); clear hown9 hg9 hat9)
      go_roundw
      case rel =>
        have hr := ev_range e1
        rw [HV5.out.1] at hr
        exact ⟨k + 1, s1, ev ++ e1, A9, n + n5, c9, by omega, by go_num, rfl, G3.out, by rw [List.length_append, hevn, HV5.out.1], by rw [List.map_append, ← hr]; exact L9.out⟩
      case measure => simp [intOf]; omega
    · obtain rfl : k = N := by omega
      obtain ⟨rfl, rfl⟩ := Goes.fun HGk.out HG.out
      obtain rfl : n = 2 := hevn.symm
      obtain ⟨g, rfl⟩ := Ow3.own_head LL.out.out (by omega)
      have x3 : wr.cell? ⟨g, 3, none⟩ = some (.int .u64 (x.toNat : Int)) := (Ow3.own_cell LL.out.out (i := 0) (j := 3) (by omega) (by omega)).1
      have BB := Lib.hid (B3.out.trans (LL.out.bl.mono B3.out.size))
      have p36 : wr.cell? ⟨q, 36, none⟩ = some (.int .i64 1) := by rw [LL.out.co.st, HST.out]
      clear LL HGk HG HST HC3 B3
      rw [hv] at x3
      by_cases hk20 : k < 30
      · have d0 : decide ((k : Int) < 30) = true := decide_eq_true (by omega)
        go_wp2_with fail
        go_ret
        exact ⟨rfl, BB.out⟩
      · have d0 : decide ((k : Int) < 30) = false := decide_eq_false (by omega)
        go_wp2_with fail
        go_ret
        exact ⟨rfl, BB.out⟩

set_option maxRecDepth 20000 in
set_option maxHeartbeats 3200000 in
theorem walk_60f (a b : BitVec 64) (sa sb sd : Bool) (w : World) (hab : ¬ a.toInt < b.toInt) :
    Calls Try.prog 8 #[.int .u8 60, .int .u64 (a.toNat : Int), .int .u64 (b.toNat : Int), .bool sa, .bool sb, .bool sd] w fun e w' => e = .returned (.bool true) ∧ Below w.heap.size w w' := by
  have hv : ((opV 60 a b).toNat : Int) = 0 := by rw [op_60f hab]; rfl
  have he : decide (a.toInt < b.toInt) = false := decide_eq_false hab
  have s1 : IntKind.i64.wrap (a.toNat : Int) = a.toInt := w64_sgn a
  have s2 : IntKind.i64.wrap (b.toNat : Int) = b.toInt := w64_sgn b
  clear hab
  obtain ⟨x, hx⟩ : ∃ x, opV 60 a b = x := ⟨_, rfl⟩
  rw [hx] at hv
  have HX := Lib.hid hx
  clear hx
  go_enter Try.func8, Try.ntmps8
  go_wp2_with fail
  refine (alive_any _).mono ?_
  rintro e w1 ⟨rfl, hb1⟩
  have B1 := Lib.hid hb1
  clear hb1
  go_wp2_with fail
  have hS := ((isSt_lit w1 (cO a b 60) (by simp [cO])).keep (EmW.below_al _ (.cells #[.int .i64 0, .int .i64 0, .slice (some ⟨w1.heap.size, 0, none⟩) 4 4] 65))).keep (EmW.below_al _ (.cells ((pO sa sb sd).map plL).flatten.toArray 67))
  have hP := isPl_lit ((w1.alloc (.cells ((cO a b 60).map stL).flatten.toArray 62)).alloc (.cells #[.int .i64 0, .int .i64 0, .slice (some ⟨w1.heap.size, 0, none⟩) 4 4] 65)) (pO sa sb sd) (by simp [pO])
  rw [size_al, size_al] at hP
  refine (code_run _ _ _ 4 3 (cO a b 60) (pO sa sb sd) hS hP (by omega) (by omega) (fun x hx => by
    simp only [pO, List.mem_cons, List.not_mem_nil, or_false] at hx
    rcases hx with rfl | rfl | rfl <;> simp) (fun s hs => by
    simp only [cO, List.mem_cons, List.not_mem_nil, or_false] at hs
    rcases hs with rfl | rfl | rfl | rfl
    · exact ok_const 1 a
    · exact ok_const 2 b
    · exact ok_op 0 1 2 60 (by omega)
    · exact ok_out 0) 0 (by rfl)).mono ?_
  rintro e w2 ⟨A2, n2, c2, LB2, rfl, hin2, hlb2, hb2⟩
  have B2 := Lib.hid (B1.out.trans (((((EmW.below_al w1 _).trans ((EmW.below_al _ _).mono (by simp))).trans ((EmW.below_al _ _).mono (by simp; omega)))).trans (hb2.mono (by simp; omega)) |>.mono B1.out.size))
  have R2 := Lib.hid (right_O (a := a) (b := b) (o := 60) (sa := sa) (sb := sb) (sd := sd) (by omega))
  obtain ⟨N, sN, hN20, hgo, hst⟩ := run_O a b (o := 60) (sa := sa) (sb := sb) (sd := sd) (by omega)
  rw [HX.out] at hgo
  have hel := emC_le (pO sa sb sd) (cO a b 60) (by simp [cO])
  obtain ⟨code, hcd⟩ : ∃ code, emC (pO sa sb sd) (cO a b 60) = code := ⟨_, rfl⟩
  rw [hcd] at hin2 R2 hgo hel
  have hnl := hin2.1
  have hn2 : n2 ≤ 1000 := by omega
  have WD := Lib.hid (PatW.rwords_any A2 n2 c2 code w2 hin2 (by omega) (fun i hi => allR_ok R2.out i (by omega)))
  rw [allR_words R2.out] at WD
  have HG := Lib.hid hgo
  have HST := Lib.hid hst
  clear hcd hS hP hin2 hlb2 hb2 B1 hgo hst
  go_wp2_with fail
  refine WD.out.mono ?_
  rintro e w3 ⟨A3, n3, c3, rfl, hO3, hb3⟩
  have hlw : n3 = n2 := by have := hO3.len; simp [wordsTo_len] at this; omega
  subst hlw
  have HC3 : Hid (IsCode w3 A3 n3 c3 code) := Lib.hid ⟨isWd_own hO3, hnl, by omega, R2.out⟩
  have B3 := Lib.hid (B2.out.trans (hb3.mono B2.out.size))
  clear hO3 hb3 B2 WD
  go_wp2_with fail
  refine (newcore_nil w3).mono ?_
  rintro e w4 ⟨q, mq, F, rfl, hco, hq, hF, hb4⟩
  have hql := hco.lt
  have hFl : ∀ k ∈ F, k < w4.heap.size := by obtain ⟨kp, hm⟩ := hco.mem; exact hm.lt
  have L4 : Hid (Lr w3 w4.heap.size q mq F (born [] []) 83 4 none 0 0 [] w4) := Lib.hid ⟨hco, Own.nil _ _ _ _, hb4, Nat.le_refl _, ⟨hq, hql⟩, fun k hk => ⟨hF k hk, hFl k hk⟩⟩
  clear hco hF hb4 hFl
  go_wp2_with fail
  go_loopw [20, 21] (fun o i wr => ∃ (k : Nat) (s : Cr) (ev : List Ev) (E : Option Addr) (n c : Nat), k ≤ N ∧ i = .int .i64 k ∧ o = .slice E n c ∧ Goes code (born [] []) k s ev ∧ ev.length = n ∧ Lr w3 w4.heap.size q mq F s 83 4 E n c (ev.map evL) wr) (fun _ i _ => N - (intOf i).toNat)
  case atStart => exact ⟨0, _, [], none, 0, 0, by omega, rfl, rfl, Goes.zero _ _, rfl, L4.out⟩
  case round =>
    obtain ⟨k, s, ev, E, n, c, hk, rfl, rfl, hg, hevn, hL⟩ := hrel
    have HGk := Lib.hid hg
    have LL := Lib.hid hL
    clear hg hL L4
    have hql4 : q < w4.heap.size := hql
    have hnk : n ≤ k := by rw [← hevn]; exact ev_le HGk.out
    by_cases hkN : k < N
    · obtain ⟨sj, ej, s1, e1, g1, g2, g3⟩ := HG.out.all k hkN
      obtain ⟨rfl, rfl⟩ := Goes.fun HGk.out g1
      have hs0 := Goes.st0 g2
      have p36 : wr.cell? ⟨q, 36, none⟩ = some (.int .i64 0) := by rw [LL.out.co.st, hs0]
      have d0 : decide ((k : Int) < 30) = true := decide_eq_true (by omega)
      have EX := Lib.hid (exec_any LL.out.co (HC3.out.keep LL.out.bl) g2 (ver_ok HGk.out (by omega) (by simp [born])))
      have G3 := Lib.hid g3
      have hle1 := ev_le1 g2
      clear g1 g2 g3 hs0
      go_wp2_with fail
      refine EX.out.mono ?_
      rintro e w5 ⟨E5, n5, c5, rfl, hev5, hcg⟩
      have L5 := Lib.hid (LL.out.exec hcg)
      have HV5 := Lib.hid hev5
      have hn5 : n5 ≤ 1 := by have := hev5.1; omega
      clear hev5 hcg EX p36 hle1
      go_wp2_with (at_builtin; refine wpList_app _ rfl _ _ rfl elEv w4.heap.size E n c _ rfl L5.out.out E5 n5 c5 (fun i => evL (e1.getD i zeroEv)) rfl HV5.out.2 (fun _ _ => rfl) (fun _ _ => ev_one _) (by unfold maxLen; omega) (by omega) L5.out.sz ?_; intro A9 c9 w9 hown9 hg9 hat9; have L9 := Lib.hid (L5.out.app hown9 hg9); clear hown9 hg9 hat9)
      go_roundw
      case rel =>
        have hr := ev_range e1
        rw [HV5.out.1] at hr
        exact ⟨k + 1, s1, ev ++ e1, A9, n + n5, c9, by omega, by go_num, rfl, G3.out, by rw [List.length_append, hevn, HV5.out.1], by rw [List.map_append, ← hr]; exact L9.out⟩
      case measure => simp [intOf]; omega
    · obtain rfl : k = N := by omega
      obtain ⟨rfl, rfl⟩ := Goes.fun HGk.out HG.out
      obtain rfl : n = 2 := hevn.symm
      obtain ⟨g, rfl⟩ := Ow3.own_head LL.out.out (by omega)
      have x3 : wr.cell? ⟨g, 3, none⟩ = some (.int .u64 (x.toNat : Int)) := (Ow3.own_cell LL.out.out (i := 0) (j := 3) (by omega) (by omega)).1
      have BB := Lib.hid (B3.out.trans (LL.out.bl.mono B3.out.size))
      have p36 : wr.cell? ⟨q, 36, none⟩ = some (.int .i64 1) := by rw [LL.out.co.st, HST.out]
      clear LL HGk HG HST HC3 B3
      rw [hv] at x3
      by_cases hk20 : k < 30
      · have d0 : decide ((k : Int) < 30) = true := decide_eq_true (by omega)
        go_wp2_with fail
        go_ret
        exact ⟨rfl, BB.out⟩
      · have d0 : decide ((k : Int) < 30) = false := decide_eq_false (by omega)
        go_wp2_with fail
        go_ret
        exact ⟨rfl, BB.out⟩

set_option maxRecDepth 20000 in
set_option maxHeartbeats 3200000 in
theorem walk_no (o : Int) (a b : Int) (sa sb sd : Bool) (w : World) (h : o ≠ 43 ∧ o ≠ 45 ∧ o ≠ 42 ∧ o ≠ 38 ∧ o ≠ 61 ∧ o ≠ 60) :
    Calls Try.prog 8 #[.int .u8 o, .int .u64 a, .int .u64 b, .bool sa, .bool sb, .bool sd] w fun e w' => e = .returned (.bool true) ∧ Below w.heap.size w w' := by
  obtain ⟨h1, h2, h3, h4, h5, h6⟩ := h
  have t1 : (o != 43) = true := by simpa using h1
  have t2 : (o != 45) = true := by simpa using h2
  have t3 : (o != 42) = true := by simpa using h3
  have t4 : (o != 38) = true := by simpa using h4
  have t5 : (o != 61) = true := by simpa using h5
  have t6 : (o != 60) = true := by simpa using h6
  clear h1 h2 h3 h4 h5 h6
  go_enter Try.func8, Try.ntmps8
  go_wp2_with fail
  refine (alive_any _).mono ?_
  rintro e w1 ⟨rfl, hb1⟩
  go_wp2_with fail
  go_ret
  exact ⟨rfl, hb1⟩
theorem law (o a b : Int) (sa sb sd : Bool) (w : World) (ho : (Lit.int .u8 o).wf = true) (ha : (Lit.int .u64 a).wf = true) (hb : (Lit.int .u64 b).wf = true) :
    Calls Try.prog 8 #[.int .u8 o, .int .u64 a, .int .u64 b, .bool sa, .bool sb, .bool sd] w fun e w' => e = .returned (.bool true) ∧ Below w.heap.size w w' := by
  by_cases h : o = 43 ∨ o = 45 ∨ o = 42 ∨ o = 38 ∨ o = 61 ∨ o = 60
  · obtain ⟨a, rfl⟩ := u64_word ha
    obtain ⟨b, rfl⟩ := u64_word hb
    rcases h with rfl | rfl | rfl | rfl | rfl | rfl
    · exact walk_43 a b sa sb sd w
    · exact walk_45 a b sa sb sd w
    · exact walk_42 a b sa sb sd w
    · exact walk_38 a b sa sb sd w
    · by_cases hab : a = b
      · exact walk_61t a b sa sb sd w hab
      · exact walk_61f a b sa sb sd w hab
    · by_cases hab : a.toInt < b.toInt
      · exact walk_60t a b sa sb sd w hab
      · exact walk_60f a b sa sb sd w hab
  · exact walk_no o a b sa sb sd w (by omega)
end Go.Proofs.Ytkohichiojmakaa.EmLo
