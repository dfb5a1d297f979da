/-
  WALK: the law PatchLeads.
-/
import Derived.Test.YtkohichiojmakaaPatPut
namespace Go.Proofs.Ytkohichiojmakaa.PatL
set_option linter.unusedVariables false
set_option linter.unusedSimpArgs false
open Go.RowKit Go.WideShapes Go.ChangeShapes Cm Mm Ow Ow2 Ow3 A64 A64W A64P A64E A64Q A64G Pat InW PatW PatK PatR PatA PatO PatE PatP

theorem and_1023 (p : Int) : 0 ≤ bits .and .i64 p 1023 ∧ bits .and .i64 p 1023 ≤ 1023 := by
  have h : bits .and .i64 p 1023 = IntKind.i64.wrap ((BitVec.ofInt 64 p &&& 1023#64).toNat : Int) := rfl
  rw [h, IntKind.wrap_i64, BitVec.toNat_and]
  have : (BitVec.ofInt 64 p).toNat &&& (1023#64).toNat ≤ 1023 := Nat.and_le_right
  omega
theorem and_15 (p : Int) : 0 ≤ bits .and .i64 p 15 ∧ bits .and .i64 p 15 ≤ 15 := by
  have h : bits .and .i64 p 15 = IntKind.i64.wrap ((BitVec.ofInt 64 p &&& 15#64).toNat : Int) := rfl
  rw [h, IntKind.wrap_i64, BitVec.toNat_and]
  have : (BitVec.ofInt 64 p).toNat &&& (15#64).toNat ≤ 15 := Nat.and_le_right
  omega
theorem made_in (n : Nat) {w : World} {base : Nat} {A : Option Addr} {cap : Nat} (h : w.ownsRow base 45 7 (.slice A n cap) n (madeCells #[.int .i64 0, .int .i64 0, .int .i64 0, .int .i64 0, .int .i64 0, .int .i64 0, .int .i64 0] (n * 7)).toList) :
    Own w base 45 7 A n cap ((List.replicate n zeroIn).map insL) := by
  refine ⟨by simp, in_each _, ?_⟩
  have e : ((List.replicate n zeroIn).map insL).flatten = (madeCells #[.int .i64 0, .int .i64 0, .int .i64 0, .int .i64 0, .int .i64 0, .int .i64 0, .int .i64 0] (n * 7)).toList := by
    have e1 : ((List.replicate n zeroIn).map insL).flatten = List.replicate (n * 7) (.int .i64 0) := by
      rw [List.map_replicate]
      show (List.replicate n (List.replicate 7 (Value.int .i64 0))).flatten = _
      rw [List.flatten_replicate_replicate]
    rw [e1]
    apply List.ext_getElem
    · simp [madeCells]
    · intro i h1 h2
      simp [madeCells]
      have : i % 7 < 7 := Nat.mod_lt _ (by omega)
      match hm : i % 7, this with
      | 0, _ => rfl
      | 1, _ => rfl
      | 2, _ => rfl
      | 3, _ => rfl
      | 4, _ => rfl
      | 5, _ => rfl
      | 6, _ => rfl
  rw [e]; exact h

theorem own_same {w w' : World} {base : Nat} {e : TypeId} {sz : Nat} {A : Option Addr} {n cap : Nat} {L : List (List Value)} (h : Own w base e sz A n cap L) (hs : ∀ g, A.map (·.block) = some g → w'.heap[g]? = w.heap[g]?) : Own w' base e sz A n cap L := by
  refine ⟨h.len, h.each, ?_⟩
  obtain ⟨h1, h2⟩ := h.row
  refine ⟨h1, ?_⟩
  rcases h2 with h2 | ⟨g, c, cur, e1, e2, e3, e4⟩
  · exact .inl h2
  · refine .inr ⟨g, c, cur, e1, e2, ?_, e4⟩
    rw [hs g (by injection e1 with e1; subst e1; rfl)]
    exact e3
theorem put_own {w : World} {base g : Nat} {e : TypeId} {sz : Nat} {A : Option Addr} {n cap : Nat} {L : List (List Value)} (h : Own w base e sz A n cap L) (hg : g < base) (o : Nat) (u0 u1 u2 u3 u4 u5 u6 : Value) :
    Own (((((((w.setCell ⟨g, o, none⟩ u0).setCell ⟨g, o + 1, none⟩ u1).setCell ⟨g, o + 2, none⟩ u2).setCell ⟨g, o + 3, none⟩ u3).setCell ⟨g, o + 4, none⟩ u4).setCell ⟨g, o + 5, none⟩ u5).setCell ⟨g, o + 6, none⟩ u6) base e sz A n cap L :=
  own_set (own_set (own_set (own_set (own_set (own_set (own_set h hg _) hg _) hg _) hg _) hg _) hg _) hg _
/-- all k first are nops -/
def nops (k : Nat) (l : List In) : Prop := ∀ j, j < k → led 0 (l.getD j zeroIn)
theorem nops_succ {k n : Nat} {l : List In} (h : nops k l) (hl : l.length = n) (hk : k < n) : nops (k + 1) (l.set k nop) := fun j hj => by
  simp only [List.getD, List.getElem?_set]
  by_cases e : k = j
  · subst e
    rw [if_pos rfl, if_pos (by omega)]
    exact .inl rfl
  · rw [if_neg e]
    exact h j (by omega)
/-- labels that lie within -/
def within (n : Nat) (lb : List Int) : Prop := ∀ j, j < lb.length → 0 ≤ lb.getD j 0 ∧ lb.getD j 0 < n
theorem within_snoc {n k : Nat} {lb : List Int} (h : within n lb) (hk : k < n) : within n (lb ++ [(k : Int)]) := fun j hj => by
  rw [List.length_append, List.length_singleton] at hj
  by_cases e : j < lb.length
  · have := h j e
    simp only [List.getD, List.getElem?_append_left e] at this ⊢
    exact this
  · obtain rfl : j = lb.length := by omega
    simp [List.getD]
    omega

set_option maxRecDepth 20000 in
set_option maxHeartbeats 3200000 in
theorem walk {H : Type} {enc : TypeId × Value → H} {d1 d2 : DataW H} {P1 P2 : List MemPlace} {rc : Reach} {b0 : Nat} {p0 : Prop} (n0 : Int) (v1 v2 : Value) (w : World) (_ : p0)
    (k1 : DataW.Trod enc Try.prog w 0 (fun _ => true) true 25 v1 d1 P1) (ok1 : Value.okWide Try.prog w rc b0 25 v1)
    (k2 : DataW.Trod enc Try.prog w 0 (fun _ => true) true 25 v2 d2 P2) (ok2 : Value.okWide Try.prog w rc b0 25 v2) :
    Calls Try.prog 5 #[.int .i64 n0, v1, v2] w fun e w' => e = .returned (.bool true) ∧ Below w.heap.size w w' := by
  obtain ⟨F, m, fc, fl, rfl, hF, hfk⟩ := open_ints k1 ok1
  obtain ⟨T, tm, tc, tl, rfl, hT, htk⟩ := open_ints k2 ok2
  clear k1 ok1 k2 ok2
  have HF := Lib.hid hF
  have HT := Lib.hid hT
  have HFK := Lib.hid hfk
  have HTK := Lib.hid htk
  clear hF hT hfk htk
  by_cases hin : 1 ≤ n0 ∧ n0 ≤ 100 ∧ m ≤ 30 ∧ m ≤ tm
  · obtain ⟨hn1, hn2, hm, htm⟩ := hin
    obtain ⟨n, rfl⟩ := Int.eq_ofNat_of_zero_le (show 0 ≤ n0 by omega)
    have t0 : decide ((n : Int) < 1) = false := by simp; omega
    have t1 : decide (100 < (n : Int)) = false := by simp; omega
    have t2 : decide (30 < (m : Int)) = false := by simp; omega
    have t3 : decide (tm < m) = false := by simp; omega
    have t5 : (m : Int) ≤ 30 := by omega
    have hn : n ≤ 100 := by omega
    obtain ⟨i0, hi, hz0, hz1, hz2⟩ := info_parts (P := Try.prog) (e := 45) (z := .agg #[.int .i64 0, .int .i64 0, .int .i64 0, .int .i64 0, .int .i64 0, .int .i64 0, .int .i64 0]) (size := 7) (bytes := 56) (by kernel_rfl)
    go_enter Try.func5, Try.ntmps5
    go_wp2_with fail
    refine (alive_any _).mono ?_
    rintro e w1 ⟨rfl, hb1⟩
    have B1 := Lib.hid hb1
    clear hb1
    go_wp2_with (at_make; refine wpList_make_full _ rfl _ _ _ rfl w.heap.size 45 i0 _ 7 Try.underlying43 hi hz0 hz1 .i64 .i64 _ _ n rfl rfl rfl rfl (by rw [hz2]; omega) (by unfold maxLen; omega) B1.out.size ?_; intro w2 hrow hg2; have O2 := Lib.hid (made_in n hrow); have B2 := Lib.hid (B1.out.trans ((((Below.refl _ _).grown hg2 (Nat.le_refl _) (fun k hk => by cases hk)) : Below w1.heap.size w1 w2).mono B1.out.size)); clear hrow hg2)
    have G0 := Lib.hid B1.out.size
    have G2 := Lib.hid (O2.out.lt w1.heap.size rfl).2
    generalize w1.heap.size = g at *
    clear hi hz0 hz1 hz2
    go_loopw [9] (fun i wr => ∃ (k : Nat) (l : List In), k ≤ n ∧ i = .int .i64 k ∧ Hid (nops k l) ∧ Own wr w.heap.size 45 7 (some ⟨g, 0, none⟩) n n (l.map insL) ∧ Below w.heap.size w wr) (fun i _ => n - (intOf i).toNat)
    case atStart => exact ⟨0, _, by omega, rfl, fun j hj => absurd hj (by omega), O2.out, B2.out⟩
    case round =>
      obtain ⟨k, l, hk, rfl, HN, hown, hbel⟩ := hrel
      have hl : l.length = n := by simpa using hown.len
      by_cases hkn : k < n
      · obtain ⟨c0, c1, c2, c3, c4, c5, c6, fz⟩ := in_cells hown hkn
        have f0 := fz (k * 7); have f1 := fz (k * 7 + 1); have f2 := fz (k * 7 + 2); have f3 := fz (k * 7 + 3); have f4 := fz (k * 7 + 4); have f5 := fz (k * 7 + 5); have f6 := fz (k * 7 + 6)
        have HP := Lib.hid (in_put hown hkn 21 0 0 0 0 0 0)
        have HB := Lib.hid (put_below G0.out hbel (k * 7) (.int .i64 21) (.int .i64 0) (.int .i64 0) (.int .i64 0) (.int .i64 0) (.int .i64 0) (.int .i64 0))
        have HS := Lib.hid (nops_succ HN.out hl hkn)
        have k1 : (k : Int) < n := by omega
        have k2 : (k : Int) ≤ 100 := by omega
        clear fz hown hbel
        go_wp2_with fail
        go_roundw
        case rel => exact ⟨k + 1, _, by omega, by go_num, HS.out, HP.out, HB.out⟩
        case measure => simp [intOf]; omega
      · obtain rfl : k = n := by omega
        have HL := Lib.hid hl
        have HO := Lib.hid hown
        have HB := Lib.hid hbel
        have hz2 : Hid (g < wr.heap.size) := Lib.hid (hown.lt g rfl).2
        clear hl hown hbel O2 B2 G2
        go_wp2_with fail
        obtain ⟨S, hS⟩ : ∃ S, S = wr.heap.size := ⟨_, rfl⟩
        rw [← hS] at hz2
        have HSz : Hid (S ≤ wr.heap.size) := Lib.hid (by rw [hS]; exact Nat.le_refl _)
        clear hS
        go_loopw [10, 11] (fun v i wr => ∃ (j c : Nat) (A : Option Addr) (lb : List Int) (l : List In), j ≤ m ∧ i = .int .i64 j ∧ v = .slice A j c ∧ Hid (within k lb) ∧ Hid (∀ x, x < k → led j (l.getD x zeroIn)) ∧ Own wr S 3 1 A j c (lb.map ivL) ∧ Own wr w.heap.size 45 7 (some ⟨g, 0, none⟩) k k (l.map insL) ∧ Below w.heap.size w wr ∧ Hid (S ≤ wr.heap.size)) (fun _ i _ => m - (intOf i).toNat)
        case atStart => exact ⟨0, 0, none, [], l, by omega, rfl, rfl, fun x hx => absurd hx (by simp), HN, Own.nil _ _ _ _, HO.out, HB.out, HSz⟩
        case round =>
          obtain ⟨j, c, A, lb, l2, hj, rfl, rfl, HW, HD, hlb, hown, hbel, HSz⟩ := hrel
          have hl2 : l2.length = k := by simpa using hown.len
          have hlbl : lb.length = j := by simpa using hlb.len
          by_cases hjm : j < m
          · obtain ⟨tb, to_, rfl, htb, ht0⟩ := HT.out.cell (k := j) (by omega)
            obtain ⟨fb, fo, rfl, hfb, hf0⟩ := HF.out.cell (k := j) (by omega)
            have ht := (hbel.cell (p := ⟨tb, to_ + j, none⟩) htb).trans ht0
            generalize tl.getD j 0 = x at *
            generalize fl.getD j 0 = y at *
            have hx := and_1023 x
            have hy := and_1023 y
            have ha := and_15 (j : Int)
            obtain ⟨kx, hkx⟩ := Int.eq_ofNat_of_zero_le (Int.emod_nonneg (bits BinOp.and IntKind.i64 x 1023) (show ((k : Nat) : Int) ≠ 0 by omega))
            have hkx1 : kx < k := by have := Int.emod_lt_of_pos (bits BinOp.and IntKind.i64 x 1023) (show (0 : Int) < ((k : Nat) : Int) by omega); omega
            obtain ⟨ky, hky⟩ := Int.eq_ofNat_of_zero_le (Int.emod_nonneg (bits BinOp.and IntKind.i64 y 1023) (show ((k : Nat) : Int) ≠ 0 by omega))
            have hky1 : ky < k := by have := Int.emod_lt_of_pos (bits BinOp.and IntKind.i64 y 1023) (show (0 : Int) < ((k : Nat) : Int) by omega); omega
            have HO := Lib.hid hown
            have HX : Hid (∀ w4, Below S wr w4 → Own w4 w.heap.size 45 7 (some ⟨g, 0, none⟩) k k (l2.map insL)) := Lib.hid (fun w4 h4 => own_same HO.out (fun g' hg' => by
              obtain rfl : g = g' := by simpa using hg'
              exact h4.block g hz2.out))
            have HB := Lib.hid hbel
            have HSw : Hid (w.heap.size ≤ S) := Lib.hid (by have := G0.out; have := hz2.out; omega)
            have HBw : Hid (∀ w4, Below S wr w4 → Below w.heap.size w w4) := Lib.hid (fun w4 h4 => HB.out.trans (h4.mono HSw.out))
            have HZ4 : Hid (∀ w4, Below S wr w4 → S ≤ w4.heap.size) := Lib.hid (fun w4 h4 => Nat.le_trans HSz.out h4.size)
            have HF4 : Hid (∀ w4, Below S wr w4 → w4.cell? ⟨fb, fo + j, none⟩ = some (.int .i64 y)) := Lib.hid (fun w4 h4 => ((HBw.out w4 h4).cell (p := ⟨fb, fo + j, none⟩) hfb).trans hf0)
            have HWi := Lib.hid (within_snoc HW.out hkx1)
            have HDi := Lib.hid (led_set (x := cbz (bits .and .i64 (j : Int) 15) (j : Int)) (k := ky) hl2 HD.out (.inr ⟨_, _, by omega, by omega, ha.1, ha.2, rfl⟩))
            have hlb' := Lib.hid hlb
            have k1 : (ky : Int) < k := by omega
            have k2 : (ky : Int) ≤ 100 := by omega
            clear hown hbel ht0 hf0 hlb hl2 hlbl htb hfb
            go_wp2_with (at_builtin; refine Ow2.wpList_appN _ rfl _ _ rfl elI S A j c 1 wr.heap.size _ [ivL (kx : Int)] rfl rfl hlb'.out rfl rfl (fun y hy => by simp at hy; subst hy; rfl) (fun y hy u hu => by simp at hy; subst hy; simp [ivL] at hu; subst hu; rfl) (by unfold maxLen; omega) (by omega) HSz.out _ rfl ?_; intro A4 c4 w4 hown4 hbel4 hkp4 hat4; have HO4 := Lib.hid hown4; clear hown4 hkp4 hat4; have X4 := HX.out w4 hbel4; obtain ⟨c0, c1, c2, c3, c4_, c5, c6, fz⟩ := in_cells X4 hky1; have f0 := fz (ky * 7); have f1 := fz (ky * 7 + 1); have f2 := fz (ky * 7 + 2); have f3 := fz (ky * 7 + 3); have f4 := fz (ky * 7 + 4); have f5 := fz (ky * 7 + 5); have f6 := fz (ky * 7 + 6); have hf4 := HF4.out w4 hbel4; have HB4 := Lib.hid hbel4; have XX4 := Lib.hid X4; clear fz X4 hbel4)
            go_roundw
            case rel =>
              have hg : g < S := hz2.out
              refine ⟨j + 1, c4, A4, lb ++ [(kx : Int)], l2.set ky (cbz (bits .and .i64 (j : Int) 15) (j : Int)), by omega, by go_num, rfl, HWi.out, HDi.out, ?_, ?_, ?_, ?_⟩
              · rw [List.map_append]; exact put_own HO4.out hg _ _ _ _ _ _ _ _
              · exact in_put XX4.out hky1 10 0 _ 1 0 0 _
              · exact put_below G0.out (HBw.out _ HB4.out) _ _ _ _ _ _ _ _
              · exact Lib.hid (Nat.le_trans (HZ4.out _ HB4.out) (put_below (base := 0) (Nat.zero_le _) (Below.refl 0 _) _ _ _ _ _ _ _ _).size)
            case measure => simp [intOf]; omega
          · obtain rfl : j = m := by omega
            have HO := Lib.hid hown
            have HLB := Lib.hid hlb
            have HB := Lib.hid hbel
            have HL2 := Lib.hid hl2
            have HLL := Lib.hid hlbl
            have HK : Hid (∀ i, i < k → okIn (l2.getD i zeroIn)) := Lib.hid (fun i hi => led_in (HD.out i hi) (by omega))
            have HLK := Lib.hid (led_link hl2 HD.out hlbl (fun x hx => HW.out x (by omega)) hn)
            clear hown hlb hbel hl2 hlbl
            go_wp2_with fail
            refine (link_any (some ⟨g, 0, none⟩) A k k j c l2 lb wr (isIn_own HO.out) (isI_own HLB.out) (by omega) HK.out).mono ?_
            rintro e w5 ⟨A5, m5, c5, rfl, hown5, hb5⟩
            rw [HLK.out] at hown5 ⊢
            have h5 := hown5.len
            rw [List.length_map] at h5
            rw [outTo_len] at h5
            subst h5
            obtain ⟨g5, rfl⟩ := own_head hown5 (by omega)
            have H5 := Lib.hid hown5
            have HB5 := Lib.hid (HB.out.trans (hb5.mono HB.out.size))
            have HO5 := Lib.hid (HO.out.keep hb5)
            have HL5 := Lib.hid ((isI_own HLB.out).keep hb5)
            clear hown5 hb5 HO HLB HB
            go_wp2_with fail
            refine (num_any 0 _).mono ?_
            rintro e w6 ⟨rfl, rfl⟩
            go_wp2_with fail
            go_loopw [14] (fun i wr => ∃ (q : Nat), q ≤ k ∧ i = .int .i64 q ∧ Below w5.heap.size w5 wr) (fun i _ => k - (intOf i).toNat)
            case atStart => exact ⟨0, by omega, rfl, Below.refl _ _⟩
            case round =>
              obtain ⟨q, hq, rfl, hbel⟩ := hrel
              by_cases hqk : q < k
              · obtain ⟨c0, c1, c2, c3, c4, c5_, c6, _⟩ := in_cells (HO5.out.keep hbel) hqk
                obtain ⟨r0, r1, r2, r3, r4, r5, r6, _⟩ := in_cells (H5.out.keep hbel) hqk
                rw [outTo_get _ _ _ _ hqk] at r0 r1 r2 r3 r4 r5 r6
                have hd := HD.out q hqk
                generalize l2.getD q zeroIn = x at *
                have k1 : (q : Int) < k := by omega
                have k2 : (q : Int) ≤ 100 := by omega
                rcases hd with rfl | ⟨a, i, h1, h2, h3, h4, rfl⟩
                · rw [mk_no (s := nop) (by decide)] at r0 r1 r2 r3 r4 r5 r6
                  simp only [nop] at c0 c1 c2 c3 c4 c5_ c6 r0 r1 r2 r3 r4 r5 r6
                  go_wp2
                  go_quiet (fail)
                  go_wp2
                  go_roundw
                  case rel => exact ⟨q + 1, by omega, by go_num, below_drewN hbel _⟩
                  case measure => simp [intOf]; omega
                · rw [mk_yes (s := cbz a i) (asks_yes (by show br 10 = true; decide) rfl)] at r0 r1 r2 r3 r4 r5 r6
                  obtain ⟨lb_, lo, rfl, hlb_, hy⟩ := (HL5.out.keep hbel).cell (k := i.toNat) (by omega)
                  have hwi := HW.out i.toNat (by rw [HLL.out]; omega)
                  simp only [cbz, to] at c0 c1 c2 c3 c4 c5_ c6 r0 r1 r2 r3 r4 r5 r6
                  generalize lb.getD i.toNat 0 = y at *
                  have hw1 : IntKind.i64.wrap ((q : Int) + (y - q)) = y := by rw [show (q : Int) + (y - q) = y by omega]; exact IntWalk.i64_in _ ⟨by omega, by omega⟩
                  have hw2 : (q : Int) + (y - q) = y := by omega
                  have hw3 : (y != y) = false := by simp
                  have hw4 : (a != a) = false := by simp
                  go_wp2
                  go_quiet (fail)
                  go_wp2
                  go_roundw
                  case rel => exact ⟨q + 1, by omega, by go_num, below_drewN hbel _⟩
                  case measure => simp [intOf]; omega
              · obtain rfl : q = k := by omega
                go_wp2_with fail
                go_ret
                exact ⟨rfl, HB5.out.trans (hbel.mono HB5.out.size)⟩
  · obtain h | ⟨h, h2⟩ | ⟨h, h2, h3⟩ | ⟨h, h2, h3, h4⟩ : decide (n0 < 1) = true ∨ (decide (n0 < 1) = false ∧ decide (100 < n0) = true) ∨ (decide (n0 < 1) = false ∧ decide (100 < n0) = false ∧ decide (30 < (m : Int)) = true) ∨ (decide (n0 < 1) = false ∧ decide (100 < n0) = false ∧ decide (30 < (m : Int)) = false ∧ decide (tm < m) = true) := by simp; omega
    all_goals
      clear hin
      go_enter Try.func5, Try.ntmps5
      go_wp2_with fail
      refine (alive_any _).mono ?_
      rintro e w1 ⟨rfl, hb1⟩
      go_wp2_with fail
      go_ret
      exact ⟨rfl, hb1⟩
end Go.Proofs.Ytkohichiojmakaa.PatL
