/-
  WALK: the law EmitLoops.
-/
import Derived.Test.YtkohichiojmakaaEmitOuts
namespace Go.Proofs.Ytkohichiojmakaa.EmLl
set_option linter.unusedVariables false
set_option linter.unusedSimpArgs false
open Go.RowKit Cm Mm Ow Me Rm Fld A64 A64W A64P Stp Alu AluG Em EmM EmW EmP EmR EmS EmT EmN EmC EmX Pat InW EmL EmLc

theorem lk_n {n : Nat} (h : n ≤ 30) (slot : Bool) : link (emC (pLo slot) (cLo n)) (lbLo slot n) = (lkLo slot n, 0) := by
  have h1 := (run_L h slot).1
  unfold lkLo
  exact Prod.ext rfl h1
theorem lk_len {n : Nat} (h : n ≤ 30) (slot : Bool) : (lkLo slot n).length = (emC (pLo slot) (cLo n)).length := by
  have h1 := (run_L h slot).1
  unfold lkLo
  unfold link at h1 ⊢
  split at h1
  · rename_i hh
    rw [if_pos hh]
    exact outTo_len _ _ _
  · exact absurd h1 (by decide)
theorem most_n (n : Int) : mostN (cLo n) 9 = (2 : Nat) := rfl
theorem down_num {n i : Nat} (hn : n ≤ 30) (hi : i < n) : (((down n).getD i 0).toNat : Int) = ((n - i : Nat) : Int) := by
  rw [down_get n i hi, BitVec.toNat_ofNat]
  omega
theorem lb_n (slot : Bool) (n : Int) : lbL (pLo slot) (List.replicate 2 (-1)) (cLo n) (cLo n).length = lbLo slot n := rfl
def in64 (x : Int) : Bool := decide (-9223372036854775808 ≤ x) && decide (x ≤ 9223372036854775807)
def okD (i : In) : Bool := in64 i.kind && (in64 i.d && (in64 i.a && (in64 i.b && (in64 i.s && (in64 i.c && in64 i.n)))))
theorem okD_ok {i : In} (h : okD i = true) : okIn i := by
  unfold okD in64 at h
  simp only [Bool.and_eq_true, decide_eq_true_eq] at h
  exact h
set_option maxRecDepth 100000 in
theorem ok_all : ∀ slot : Bool, ∀ n : Fin 31, (emC (pLo slot) (cLo n)).all okD = true := by decide +kernel
theorem ok_n {n : Nat} (h : n ≤ 30) (slot : Bool) : ∀ i, i < (emC (pLo slot) (cLo n)).length → okIn ((emC (pLo slot) (cLo n)).getD i zeroIn) := fun i hi => by
  have := ok_all slot ⟨n, by omega⟩
  rw [List.all_eq_true] at this
  rw [List.getD, List.getElem?_eq_getElem hi]
  exact okD_ok (this _ (List.getElem_mem _))

set_option maxRecDepth 20000 in
set_option maxHeartbeats 3200000 in
theorem walk (nn : Nat) (hnn : nn ≤ 30) (slot : Bool) (w : World) :
    Calls Try.prog 9 #[.int .i64 (nn : Int), .bool slot] w fun e w' => e = .returned (.bool true) ∧ Below w.heap.size w w' := by
  have d0 : decide ((nn : Int) < 0) = false := decide_eq_false (by omega)
  have d1 : decide (30 < (nn : Int)) = false := decide_eq_false (by omega)
  have i1 : IntKind.u64.wrap (nn : Int) = (nn : Int) := IntWalk.u64_in _ ⟨by omega, by omega⟩
  have hnb : ((BitVec.ofNat 64 nn).toNat : Int) = (nn : Int) := by rw [BitVec.toNat_ofNat]; omega
  have HNB := Lib.hid hnb
  clear hnb
  go_enter Try.func9, Try.ntmps9
  go_wp2_with fail
  refine (alive_any _).mono ?_
  rintro e w1 ⟨rfl, hb1⟩
  have B1 := Lib.hid hb1
  clear hb1
  go_wp2_with fail
  have hS := ((isSt_lit w1 (cLo nn) (by simp [cLo])).keep (EmW.below_al _ (.cells #[.int .i64 0, .int .i64 0, .slice (some ⟨w1.heap.size, 0, none⟩) 9 9] 65))).keep (EmW.below_al _ (.cells ((pLo slot).map plL).flatten.toArray 67))
  have hP := isPl_lit ((w1.alloc (.cells ((cLo nn).map stL).flatten.toArray 62)).alloc (.cells #[.int .i64 0, .int .i64 0, .slice (some ⟨w1.heap.size, 0, none⟩) 9 9] 65)) (pLo slot) (by simp [pLo])
  rw [size_al, size_al] at hP
  refine (code_run _ _ _ 9 2 (cLo nn) (pLo slot) hS hP (by omega) (by omega) (fun x hx => by
    simp only [pLo, List.mem_cons, List.not_mem_nil, or_false] at hx
    rcases hx with rfl | rfl <;> simp) (fun s hs => by
    simp only [cLo, List.mem_cons, List.not_mem_nil, or_false] at hs
    rcases hs with rfl | rfl | rfl | rfl | rfl | rfl | rfl | rfl | rfl
    · have := ok_const 0 (BitVec.ofNat 64 nn); rwa [HNB.out] at this
    · exact ok_const 1 1#64
    · exact ok_label 1
    · exact ok_zero 0 0
    · exact ok_out 0
    · exact ok_op 0 0 1 45 (by omega)
    · exact ok_jump 1
    · exact ok_label 0
    · exact ok_end) 2 (by kernel_rfl)).mono ?_
  rintro e w2 ⟨A2, n2, c2, LB2, rfl, hin2, hlb2, hb2⟩
  have B2 := Lib.hid (B1.out.trans (((((EmW.below_al w1 _).trans ((EmW.below_al _ _).mono (by simp))).trans ((EmW.below_al _ _).mono (by simp; omega)))).trans (hb2.mono (by simp; omega)) |>.mono B1.out.size))
  obtain ⟨-, hright, hle20, N, sN, evN, hN20, hgo, hst, houts⟩ := run_L hnn slot
  have hlk := lk_n hnn slot
  rw [lb_n] at hlb2
  have R2 := Lib.hid hright
  obtain ⟨code, hcd⟩ : ∃ code, lkLo slot nn = code := ⟨_, rfl⟩
  rw [hcd] at R2 hgo hlk
  have hnl := hin2.1
  have hn2 : n2 ≤ 20 := by omega
  have hcl : code.length = (emC (pLo slot) (cLo nn)).length := by rw [← hcd]; exact lk_len hnn slot
  have okA : ∀ i, i < n2 → okIn ((emC (pLo slot) (cLo nn)).getD i zeroIn) := fun i hi => ok_n hnn slot i (by omega)
  have LK := Lib.hid (PatR.rlink_any A2 LB2 n2 c2 2 2 _ _ w2 hin2 hlb2 (by omega) okA)
  rw [hlk] at LK
  have HG := Lib.hid hgo
  have HST := Lib.hid hst
  have HOU := Lib.hid houts
  clear hcd hS hP hin2 hlb2 hb2 B1 hgo hst houts hlk okA hright
  go_wp2_with fail
  refine LK.out.mono ?_
  rintro e wl ⟨Al, nl, cl, rfl, hOl, hbl⟩
  have hIl := isIn_own hOl
  have BL := Lib.hid (B2.out.trans (hbl.mono B2.out.size))
  have hll : code.length = nl := hIl.1
  have hn20 : nl ≤ 20 := by have := hll; omega
  have WD := Lib.hid (PatW.rwords_any Al nl cl code wl hIl (by omega) (fun i hi => allR_ok R2.out i (by omega)))
  rw [allR_words R2.out] at WD
  clear LK hOl hbl hIl B2
  go_wp2_with fail
  refine WD.out.mono ?_
  rintro e w3 ⟨A3, n3, c3, rfl, hO3, hb3⟩
  have hlw : n3 = nl := by have := hO3.len; simp [wordsTo_len] at this; omega
  subst hlw
  have HC3 : Hid (IsCode w3 A3 n3 c3 code) := Lib.hid ⟨isWd_own hO3, hll, by omega, R2.out⟩
  have B3 := Lib.hid (BL.out.trans (hb3.mono BL.out.size))
  clear hO3 hb3 BL WD
  go_wp2_with fail
  refine (newcore_nil w3).mono ?_
  rintro e w4 ⟨q, mq, F, rfl, hco, hq, hF, hb4⟩
  have hql := hco.lt
  have hFl : ∀ k ∈ F, k < w4.heap.size := by obtain ⟨kp, hm⟩ := hco.mem; exact hm.lt
  have L4 : Hid (Lr w3 w4.heap.size q mq F (born [] []) u64T 1 none 0 0 [] w4) := Lib.hid ⟨hco, Own.nil _ _ _ _, hb4, Nat.le_refl _, ⟨hq, hql⟩, fun k hk => ⟨hF k hk, hFl k hk⟩⟩
  clear hco hF hb4 hFl
  go_wp2_with fail
  go_loopw [14, 15] (fun o i wr => ∃ (k : Nat) (s : Cr) (ev : List Ev) (E : Option Addr) (n c : Nat), k ≤ N ∧ i = .int .i64 k ∧ o = .slice E n c ∧ Goes code (born [] []) k s ev ∧ (outs ev).length = n ∧ Lr w3 w4.heap.size q mq F s u64T 1 E n c ((outs ev).map uvL) wr) (fun _ i _ => N - (intOf i).toNat)
  case atStart => exact ⟨0, _, [], none, 0, 0, by omega, rfl, rfl, Goes.zero _ _, rfl, L4.out⟩
  case round =>
    obtain ⟨k, s, ev, E, n, c, hk, rfl, rfl, hg, hevn, hL⟩ := hrel
    have HGk := Lib.hid hg
    have LL := Lib.hid hL
    clear hg hL L4
    have hql4 : q < w4.heap.size := hql
    have hnk : n ≤ k := by rw [← hevn]; exact Nat.le_trans (outs_le ev) (ev_le HGk.out)
    by_cases hkN : k < N
    · obtain ⟨sj, ej, s1, e1, g1, g2, g3⟩ := HG.out.all k hkN
      obtain ⟨rfl, rfl⟩ := Goes.fun HGk.out g1
      have hs0 := Goes.st0 g2
      have p36 : wr.cell? ⟨q, 36, none⟩ = some (.int .i64 0) := by rw [LL.out.co.st, hs0]
      have d0 : decide ((k : Int) < 500) = true := decide_eq_true (by omega)
      have EX := Lib.hid (exec_any LL.out.co (HC3.out.keep LL.out.bl) g2 (ver_ok HGk.out (by omega) (by simp [born])))
      have G3 := Lib.hid g3
      have hle1 := ev_le1 g2
      clear g1 g2 g3 hs0
      go_wp2_with fail
      refine EX.out.mono ?_
      rintro e w5 ⟨E5, n5, c5, rfl, hev5, hcg⟩
      have L5 := Lib.hid (LL.out.exec hcg)
      have HV5 := Lib.hid hev5
      have hn5 : n5 ≤ 1 := by have := hev5.1; omega
      clear hev5 hcg EX p36 hle1 LL
      go_wp2_with fail
      go_loopw [14, 18] (fun o i wq => ∃ (j : Nat) (E' : Option Addr) (n' c' : Nat), j ≤ n5 ∧ i = .int .i64 j ∧ o = .slice E' n' c' ∧ (outs ev ++ outs (e1.take j)).length = n' ∧ Lr w3 w4.heap.size q mq F s1 u64T 1 E' n' c' ((outs ev ++ outs (e1.take j)).map uvL) wq ∧ (j = 0 → IsEv wq E5 n5 c5 e1)) (fun _ i _ => n5 - (intOf i).toNat)
      case atStart => exact ⟨0, E, n, c, by omega, rfl, rfl, by simpa [outs_nil] using hevn, by simpa [outs_nil] using L5.out, fun _ => HV5.out⟩
      case round =>
        obtain ⟨j, E', n', c', hj, rfl, rfl, hn', hL', hev'⟩ := hrel
        have LQ := Lib.hid hL'
        have HN := Lib.hid hn'
        clear hL' L5
        have hnn : n' ≤ k + 1 := by
          rw [← hn', List.length_append]
          have h1 := outs_le (e1.take j)
          have h2 : (e1.take j).length ≤ j := by rw [List.length_take]; omega
          omega
        clear hn'
        by_cases hjn : j < n5
        · obtain rfl : j = 0 := by omega
          obtain rfl : n5 = 1 := by omega
          have HE := Lib.hid (hev' rfl)
          obtain ⟨x, hx⟩ := List.length_eq_one_iff.1 HV5.out.1
          obtain ⟨kd, xa, xv⟩ := x
          subst hx
          clear HV5 hev'
          obtain ⟨b, o, rfl, hb, hc⟩ := HE.out.2.at_ (by omega)
          have y0 : wr.cell? ⟨b, o, none⟩ = some (.int .i64 kd) := by simpa [evL] using hc 0 (by omega) 0 (by omega)
          have y3 : wr.cell? ⟨b, o + 3, none⟩ = some (.int .u64 (xv.toNat : Int)) := by simpa [evL] using hc 0 (by omega) 3 (by omega)
          clear hc HE
          by_cases h4 : kd = 4
          · subst h4
            go_wp2_with (at_builtin; refine Ow2.wpList_appN _ rfl _ _ rfl elU64 w4.heap.size E' n' c' 1 wr.heap.size _ [uvL xv] rfl rfl LQ.out.out rfl rfl (uv_each xv) (uv_ones xv) (by unfold maxLen; omega) (by omega) LQ.out.sz _ rfl ?_; intro A9 c9 w9 hown9 hb9 hk9 hz9; have L9 := Lib.hid (LQ.out.app2 hown9 hb9 hk9); clear hown9 hb9 hk9 hz9)
            go_roundw
            case rel =>
              have hrow : (outs ev ++ outs (([⟨4, xa, xv⟩] : List Ev).take 0)).map uvL ++ [uvL xv] = (outs ev ++ outs (([⟨4, xa, xv⟩] : List Ev).take 1)).map uvL := by simp [outs]
              have hlen : (outs ev ++ outs (([⟨4, xa, xv⟩] : List Ev).take 1)).length = n' + 1 := by have := HN.out; simp [outs] at this ⊢; omega
              have := L9.out
              rw [hrow] at this
              exact ⟨1, A9, n' + 1, c9, by omega, by go_num, rfl, hlen, this, fun h => absurd h (by omega)⟩
            case measure => simp [intOf]
          · have t4 : (kd == 4) = false := by simpa using h4
            go_wp2_with fail
            go_roundw
            case rel =>
              have hrow : outs (([⟨kd, xa, xv⟩] : List Ev).take 1) = outs (([⟨kd, xa, xv⟩] : List Ev).take 0) := by show outs [⟨kd, xa, xv⟩] = outs []; rw [outs_no h4]; rfl
              exact ⟨1, E', n', c', by omega, by go_num, rfl, by rw [hrow]; exact HN.out, by rw [hrow]; exact LQ.out, fun h => absurd h (by omega)⟩
            case measure => simp [intOf]
        · obtain rfl : j = n5 := by omega
          have hte : e1.take j = e1 := List.take_of_length_le (by have := HV5.out.1; omega)
          rw [hte, ← outs_app] at LQ HN
          clear HV5 hev' hte
          go_wp2_with fail
          go_roundw
          case rel => exact ⟨k + 1, s1, ev ++ e1, E', n', c', by omega, by go_num, rfl, G3.out, HN.out, LQ.out⟩
          case measure => simp [intOf]; omega
    · obtain rfl : k = N := by omega
      obtain ⟨rfl, rfl⟩ := Goes.fun HGk.out HG.out
      rw [HOU.out, down_len] at hevn
      subst hevn
      rw [HOU.out] at LL
      have BB := Lib.hid (B3.out.trans (LL.out.bl.mono B3.out.size))
      have p36 : wr.cell? ⟨q, 36, none⟩ = some (.int .i64 1) := by rw [LL.out.co.st, HST.out]
      have d5 : decide ((k : Int) < 500) = true := decide_eq_true (by omega)
      have HOW := Lib.hid LL.out.out
      clear LL HGk HG HST HC3 B3 HOU
      go_wp2_with fail
      go_loopw [19] (fun i wq => ∃ (j : Nat), j ≤ nn ∧ i = .int .i64 j ∧ wr = wq) (fun i _ => nn - (intOf i).toNat)
      case atStart => exact ⟨0, by omega, rfl, rfl⟩
      case round =>
        obtain ⟨j, hj, rfl, rfl⟩ := hrel
        by_cases hjn : j < nn
        · have d6 : decide ((j : Int) < (nn : Int)) = true := decide_eq_true (by omega)
          have hji : (j : Int) < (nn : Int) := by omega
          obtain ⟨g, rfl⟩ := Ow3.own_head HOW.out (by omega)
          have x0 := (Ow3.own_cell HOW.out (i := j) (j := 0) hjn (by omega)).1
          have x1 : wr.cell? ⟨g, j, none⟩ = some (.int .u64 ((nn - j : Nat) : Int)) := by
            rw [Nat.mul_one, Nat.add_zero] at x0
            rw [x0, ← down_num hnn hjn]
            simp [uvL, List.getD, down_len, hjn]
          have j1 : IntKind.i64.wrap ((nn : Int) - (j : Int)) = ((nn - j : Nat) : Int) := by rw [IntWalk.i64_in _ ⟨by omega, by omega⟩]; omega
          have j2 : IntKind.u64.wrap ((nn - j : Nat) : Int) = ((nn - j : Nat) : Int) := IntWalk.u64_in _ ⟨by omega, by omega⟩
          obtain ⟨z, hz⟩ : ∃ z, nn - j = z := ⟨_, rfl⟩
          rw [hz] at x1 j1 j2
          clear x0 hz
          go_wp2_with fail
          go_roundw
          case rel => exact ⟨j + 1, by omega, by go_num, trivial⟩
          case measure => simp [intOf]; omega
        · obtain rfl : j = nn := by omega
          go_wp2_with fail
          go_ret
          exact ⟨rfl, BB.out⟩
theorem law (n : Int) (slot : Bool) (w : World) (hn : (Lit.int .i64 n).wf = true) :
    Calls Try.prog 9 #[.int .i64 n, .bool slot] w fun e w' => e = .returned (.bool true) ∧ Below w.heap.size w w' := by
  by_cases h0 : n < 0
  · have d0 : decide (n < 0) = true := decide_eq_true h0
    go_enter Try.func9, Try.ntmps9
    go_wp2_with fail
    refine (alive_any _).mono ?_
    rintro e w1 ⟨rfl, hb1⟩
    go_wp2_with fail
    go_ret
    exact ⟨rfl, hb1⟩
  by_cases h1 : 30 < n
  · have d0 : decide (n < 0) = false := decide_eq_false h0
    have d1 : decide (30 < n) = true := decide_eq_true h1
    go_enter Try.func9, Try.ntmps9
    go_wp2_with fail
    refine (alive_any _).mono ?_
    rintro e w1 ⟨rfl, hb1⟩
    go_wp2_with fail
    go_ret
    exact ⟨rfl, hb1⟩
  obtain ⟨k, rfl⟩ := Int.eq_ofNat_of_zero_le (show 0 ≤ n by omega)
  exact walk k (by omega) slot w
end Go.Proofs.Ytkohichiojmakaa.EmLl
