/-
  WALK: the law StepsCas.
-/
import Derived.Test.YtdhihmeknoofoaaCasPlain
namespace Go.Proofs.Ytdhihmeknoofoaa.Pz
set_option linter.unusedVariables false
set_option linter.unusedSimpArgs false
open Go.RowKit Go.WideShapes Go.ChangeShapes Cm Mm Ow Ow2 Me Stp StW Rm Sp Sd Sx Sr Pn Pa Pq Pr Pm Ph
open ElM (Cd zeroCd cdL okCd IsCd)

theorem u64_b {a : Int} (h : (Lit.int .u64 a).wf = true) : isU a := by
  simp [Lit.wf, IntKind.min, IntKind.max, IntKind.signed, IntKind.bits] at h
  exact ⟨h.1, by omega⟩
theorem cas_u {ad was want to : Int} (h1 : isU ad) (h2 : isU was) (h3 : isU want) (h4 : isU to) : CodeU (casC ad was want to) := by
  have z : isU 0 := ⟨by decide, by decide⟩
  intro s hs
  simp only [casC, List.mem_cons, List.not_mem_nil, or_false] at hs
  rcases hs with rfl | rfl | rfl | rfl | rfl | rfl | rfl | rfl | rfl
  · exact h1
  · exact h2
  · exact h3
  · exact h4
  all_goals exact z
theorem cas_r5 {n was want to : Int} (h : -3 ≤ n ∧ n ≤ 5) {k : Nat} (hk : k < 5) : casR (4096 + 8 * n) was want to k = 0 := by
  obtain ⟨h0, h1, h2, h3, h4, -⟩ := cas_r n was want to h
  obtain rfl | rfl | rfl | rfl | rfl : k = 0 ∨ k = 1 ∨ k = 2 ∨ k = 3 ∨ k = 4 := by omega
  · exact h0
  · exact h1
  · exact h2
  · exact h3
  · exact h4
/-- a step leaves what is newer than the run -/
theorem step_new {w0 w : World} {W q : Nat} {beg : List Ln} {m : Mch Ln} (h : Mine w0 W q beg m) (hb : Below w0.heap.size w0 w) (core : Int) (hout : m.out.length ≤ 1000000) :
    Calls Try.prog 50 #[.pointer (some ⟨q, 0, none⟩), .int .i64 core] w fun e w' => e = .returned (.bool ((stepM goL beg m core).1 == 0)) ∧ ((stepM goL beg m core).1 ≠ 2 → Mine w' W q beg (stepM goL beg m core).2) ∧ Below W w w' ∧ ∀ g, w0.heap.size ≤ g → g < w.heap.size → w'.heap[g]? = w.heap[g]? := by
  obtain ⟨C, G, s, cs, h1, rfl, h3, h4⟩ := h
  have hlt : ∀ k ∈ G, k < w0.heap.size := by
    obtain ⟨rc, sd, tl, t, hR, -, -⟩ := h1
    exact hR.gLt
  refine (pstep_any (RunM.keep h1 hb) core hout).mono ?_
  rintro e w' ⟨rfl, k2, k3, k4⟩
  have h4' := Nat.le_trans h4 hb.size
  refine ⟨rfl, fun hr => ?_, k3.below h3 h4', fun g hg hgl => k3.block g hgl (fun hm => by have := hlt g hm; omega)⟩
  obtain ⟨G', j1, j2⟩ := k4 hr
  refine ⟨C, G', s, cs, j1, rfl, fun k hk => ?_, Nat.le_trans h4' k3.size⟩
  rcases j2 k hk with e | e
  · exact h3 k e
  · omega
theorem cas_o5 {n was want to : Int} (h : -3 ≤ n ∧ n ≤ 5) {k : Nat} (hk : k < 5) : (casM (4096 + 8 * n) was want to k).out.length ≤ 1 := by
  obtain ⟨h0, h1, h2, h3, h4⟩ := cas_out n was want to h
  obtain rfl | rfl | rfl | rfl | rfl : k = 0 ∨ k = 1 ∨ k = 2 ∨ k = 3 ∨ k = 4 := by omega
  all_goals omega
theorem cas_five {n was want to : Int} (h : -3 ≤ n ∧ n ≤ 5) : ∃ x y, (casM (4096 + 8 * n) was want to 5).out = [x, y] ∧ ((n < 0 ∨ 2 < n) → x = 0 ∧ y = 0) ∧ (0 ≤ n ∧ n ≤ 2 → x = bitV (was == want) ∧ y = if (was == want) = true then to else was) := by
  by_cases hn : 0 ≤ n ∧ n ≤ 2
  · exact ⟨_, _, cas_near n was want to hn, fun h => by omega, fun _ => ⟨rfl, rfl⟩⟩
  · exact ⟨_, _, cas_far n was want to h (by omega), fun _ => ⟨rfl, rfl⟩, fun h => absurd h hn⟩

set_option maxRecDepth 200000 in
set_option maxHeartbeats 6400000 in
theorem walkCas (was want to n : Int) (w : World) (w0 : (Lit.int .u64 was).wf = true) (w1 : (Lit.int .u64 want).wf = true) (w2 : (Lit.int .u64 to).wf = true) (w3 : (Lit.int .i64 n).wf = true) :
    Calls Try.prog 15 #[.int .u64 was, .int .u64 want, .int .u64 to, .int .i64 n] w fun e w' => e = .returned (.bool true) ∧ Below w.heap.size w w' := by
  have U0 := Lib.hid (u64_b w0)
  have U1 := Lib.hid (u64_b w1)
  have U2 := Lib.hid (u64_b w2)
  clear w0 w1 w2 w3
  by_cases hn1 : n < -3
  · have d0 : decide (n < -3) = true := decide_eq_true hn1
    go_enter Try.func15, Try.ntmps15
    go_wp2_with fail
    refine (alive17_any _).mono ?_
    rintro e w2 ⟨rfl, hb2⟩
    go_wp2_with fail
    go_ret
    exact ⟨rfl, hb2⟩
  by_cases hn2 : 5 < n
  · have d0 : decide (n < -3) = false := decide_eq_false hn1
    have d1 : decide (5 < n) = true := decide_eq_true hn2
    go_enter Try.func15, Try.ntmps15
    go_wp2_with fail
    refine (alive17_any _).mono ?_
    rintro e w2 ⟨rfl, hb2⟩
    go_wp2_with fail
    go_ret
    exact ⟨rfl, hb2⟩
  have hn : -3 ≤ n ∧ n ≤ 5 := by omega
  have d0 : decide (n < -3) = false := decide_eq_false hn1
  have d1 : decide (5 < n) = false := decide_eq_false hn2
  have HN := Lib.hid hn
  have e1 : (4096 + 8 * n) % 18446744073709551616 = 4096 + 8 * n := by omega
  have UC := Lib.hid (cas_u (ad := 4096 + 8 * n) ⟨by omega, by omega⟩ U0.out U1.out U2.out)
  go_enter Try.func15, Try.ntmps15
  go_wp2_with fail
  refine (alive17_any _).mono ?_
  rintro e w2 ⟨rfl, hb2⟩
  have B2 := Lib.hid hb2
  have hz2 := hb2.size
  clear hb2
  go_wp2_with fail

  obtain ⟨W3, hW3⟩ : ∃ W3, w2.alloc (.cells #[.int .i64 0, .int .i64 1, .int .i64 0, .int .i64 0, .int .i64 0, .int .i64 0, .int .i64 0, .int .u64 (4096 + 8 * n), .int .u8 0, .int .i64 0, .int .i64 2, .int .i64 0, .int .i64 0, .int .i64 0, .int .i64 0, .int .i64 0, .int .u64 was, .int .u8 0, .int .i64 0, .int .i64 3, .int .i64 0, .int .i64 0, .int .i64 0, .int .i64 0, .int .i64 0, .int .u64 want, .int .u8 0, .int .i64 0, .int .i64 4, .int .i64 0, .int .i64 0, .int .i64 0, .int .i64 0, .int .i64 0, .int .u64 to, .int .u8 0, .int .i64 4, .int .i64 0, .int .i64 1, .int .i64 2, .int .i64 0, .int .i64 0, .int .i64 0, .int .u64 0, .int .u8 0, .int .i64 5, .int .i64 5, .int .i64 1, .int .i64 3, .int .i64 4, .int .i64 0, .int .i64 0, .int .u64 0, .int .u8 0, .int .i64 8, .int .i64 0, .int .i64 5, .int .i64 0, .int .i64 0, .int .i64 0, .int .i64 0, .int .u64 0, .int .u8 0, .int .i64 3, .int .i64 5, .int .i64 1, .int .i64 0, .int .i64 0, .int .i64 0, .int .i64 0, .int .u64 0, .int .u8 0, .int .i64 8, .int .i64 0, .int .i64 5, .int .i64 0, .int .i64 0, .int .i64 0, .int .i64 0, .int .u64 0, .int .u8 0] 31) = W3 := ⟨_, rfl⟩
  have I3 : IsSt W3 (some ⟨w2.heap.size, 0, none⟩) 9 9 (casC (4096 + 8 * n) was want to) := by rw [← hW3]; exact ElL.isSt_lit w2 (casC (4096 + 8 * n) was want to) (by show 9 ≤ 1000; omega)
  have b23 : Below w2.heap.size w2 W3 := by rw [← hW3]; exact (Below.refl _ _).alloc (Nat.le_refl _) _
  have hz3 : W3.heap.size = w2.heap.size + 1 := by rw [← hW3]; simp
  rw [hW3]
  clear hW3
  obtain ⟨W4, hW4⟩ : ∃ W4, W3.alloc (.cells #[.int .i64 6, .int .i64 0, .slice (some ⟨w2.heap.size, 0, none⟩) 9 9] 24) = W4 := ⟨_, rfl⟩
  have b34 : Below W3.heap.size W3 W4 := by rw [← hW4]; exact (Below.refl _ _).alloc (Nat.le_refl _) _
  have hz4 : W4.heap.size = w2.heap.size + 1 + 1 := by rw [← hW4]; simp; omega
  rw [hW4, ← hz4]
  clear hW4
  have I4 := I3.keep b34
  have C5 := cd_lit W4 6 0 (some ⟨w2.heap.size, 0, none⟩) 9 9 (casC (4096 + 8 * n) was want to) ⟨by decide, by decide⟩ ⟨by decide, by decide⟩ I4
  have b45 : Below W4.heap.size W4 (W4.alloc (.cells #[.int .i64 6, .int .i64 0, .slice (some ⟨w2.heap.size, 0, none⟩) 9 9] 24)) := (Below.refl _ _).alloc (Nat.le_refl _) _
  obtain ⟨W5, hW5⟩ : ∃ W5, W4.alloc (.cells #[.int .i64 6, .int .i64 0, .slice (some ⟨w2.heap.size, 0, none⟩) 9 9] 24) = W5 := ⟨_, rfl⟩
  rw [hW5] at C5 b45 ⊢
  clear hW5
  have B5 := Lib.hid (B2.out.trans ((b23.trans ((b34.trans (b45.mono b34.size)).mono b23.size)).mono hz2))
  have NW := Lib.hid (new_mine 0 0 none 0 0 [] (some ⟨W4.heap.size, 0, none⟩) 1 1 [⟨6, 0, some ⟨w2.heap.size, 0, none⟩, 9, 9, casC (4096 + 8 * n) was want to⟩] 3 W5 (nil_st _) (by omega) nil_u C5 (by omega) (fun i hi => one_n hi) (fun i hi => by
    obtain rfl : i = 0 := by omega
    exact UC.out))
  clear I3 I4 C5 b23 b34 b45
  have hz5 := B5.out.size
  refine NW.out.mono ?_
  rintro e w6 ⟨q, rfl, hM, hb6⟩
  have hM : Mine w6 W5.heap.size q (casB (4096 + 8 * n) was want to) (casM (4096 + 8 * n) was want to 0) := hM
  have M6 := Lib.hid hM
  have B6 := Lib.hid (B5.out.trans (hb6.mono hz5))
  clear hM hb6 NW
  go_wp2_with fail
  go_loopw [12] (fun i wr => ∃ (k : Nat), k ≤ 5 ∧ i = .int .i64 k ∧ Mine wr W5.heap.size q (casB (4096 + 8 * n) was want to) (casM (4096 + 8 * n) was want to k) ∧ Below w.heap.size w wr) (fun i _ => 5 - (intOf i).toNat)
  case atStart => exact ⟨0, by omega, rfl, M6.out, B6.out⟩
  case round =>
    obtain ⟨k, hk, rfl, hM, hbel⟩ := hrel
    have MM := Lib.hid hM
    have BL := Lib.hid hbel
    clear hM hbel M6
    have hzr := BL.out.size
    by_cases hk5 : k < 5
    · have d2 : decide ((k : Int) < 5) = true := decide_eq_true (by omega)
      have hr := cas_r5 (was := was) (want := want) (to := to) HN.out hk5
      have ho := cas_o5 (was := was) (want := want) (to := to) HN.out hk5
      have hr : (stepM goL (casB (4096 + 8 * n) was want to) (casM (4096 + 8 * n) was want to k) 0).1 = 0 := hr
      go_wp2_with fail
      refine (step_mine MM.out 0 (Nat.le_trans ho (by omega))).mono ?_
      rintro e w7 ⟨rfl, hM7, hb7⟩
      have M7 : Hid (Mine w7 W5.heap.size q (casB (4096 + 8 * n) was want to) (casM (4096 + 8 * n) was want to (k + 1))) := Lib.hid (hM7 (by rw [hr]; decide))
      rw [hr]
      have B7 := Lib.hid (BL.out.trans (hb7.mono hz5))
      clear hM7 hb7 hr ho
      go_wp2_with fail
      go_roundw
      case rel => exact ⟨k + 1, by omega, by go_num, M7.out, B7.out⟩
      case measure => simp [intOf]; omega
    · obtain rfl : k = 5 := by omega
      obtain ⟨x, y, hxy, hfar, hnear⟩ := cas_five (was := was) (want := want) (to := to) HN.out
      have hr6 : (stepM goL (casB (4096 + 8 * n) was want to) (casM (4096 + 8 * n) was want to 5) 0).1 = 1 := (cas_r n was want to HN.out).2.2.2.2.2
      have HXY := Lib.hid hxy
      have FAR := Lib.hid hfar
      have NEAR := Lib.hid hnear
      have HR6 := Lib.hid hr6
      clear hxy hfar hnear hr6
      go_wp2_with fail
      refine (out_mine MM.out (by rw [HXY.out]; simp)).mono ?_
      rintro e w8 ⟨A8, n8, c8, rfl, row8, hb8⟩
      rw [HXY.out] at row8
      have hbase : ∃ g, A8 = some ⟨g, 0, none⟩ ∧ wr.heap.size ≤ g ∧ g < w8.heap.size := by
        have hn := (isU_of_row row8).1
        rcases row8.2 with ⟨h1, h2⟩ | ⟨g, c, cur, h1, h2, h3, _⟩
        · rw [h2] at hn; cases hn
        · injection h1 with h1
          exact ⟨g, h1, h2, (Array.getElem?_eq_some_iff.1 h3).1⟩
      obtain ⟨g, rfl, hg1, hg2⟩ := hbase
      have U8 := isU_of_row row8
      obtain rfl : n8 = 2 := U8.1.symm
      have c0 : w8.cell? ⟨g, 0, none⟩ = some (.int .u64 x) := by
        obtain ⟨b, o, e, -, c⟩ := U8.cell (k := 0) (by omega)
        cases e
        exact c
      have c1 : w8.cell? ⟨g, 1, none⟩ = some (.int .u64 y) := by
        obtain ⟨b, o, e, -, c⟩ := U8.cell (k := 1) (by omega)
        cases e
        exact c
      have hcap : 2 ≤ c8 := U8.2.le
      have BO := Lib.hid hb8
      have B8 := Lib.hid (BL.out.trans (hb8.mono hzr))
      have UU := Lib.hid U8
      clear row8 hb8 U8
      go_wp2_with fail
      refine (step_new MM.out BO.out 0 (by rw [HXY.out]; simp)).mono ?_
      rintro e w9 ⟨rfl, hM9, hb9, hk9⟩
      rw [HR6.out]
      have B9 := Lib.hid (B8.out.trans (hb9.mono hz5))
      have hblk := hk9 g hg1 hg2
      have z0 := ((blk_same hblk).1 0).trans c0
      have z1 := ((blk_same hblk).1 1).trans c1
      clear hM9 hb9 hk9 hblk c0 c1
      by_cases hf : n < 0 ∨ 2 < n
      · obtain ⟨rfl, rfl⟩ := FAR.out hf
        by_cases h0 : n < 0
        · have d3 : decide (n < 0) = true := decide_eq_true h0
          go_wp2_with fail
          go_ret
          exact ⟨rfl, B9.out⟩
        · have d3 : decide (n < 0) = false := decide_eq_false (by omega)
          have d4 : decide (2 < n) = true := decide_eq_true (by omega)
          go_wp2_with fail
          go_ret
          exact ⟨rfl, B9.out⟩
      · have d3 : decide (n < 0) = false := decide_eq_false (by omega)
        have d4 : decide (2 < n) = false := decide_eq_false (by omega)
        obtain ⟨hx, hy⟩ := NEAR.out (by omega)
        have hc0 : (was == want) = false → x = 0 ∧ y = was := fun h => by rw [h] at hx hy; exact ⟨hx, hy⟩
        have hc1 : (was == want) = true → x = 1 ∧ y = to := fun h => by rw [h] at hx hy; exact ⟨hx, hy⟩
        clear hx hy d0 d1 e1 hn hf hz2 hz5 hzr hk
        obtain ⟨bb, hbb⟩ : ∃ bb, (was == want) = bb := ⟨_, rfl⟩
        rw [hbb] at hc0 hc1
        cases bb
        · obtain ⟨hx, hy⟩ := hc0 rfl
          rw [hx] at z0
          rw [hy] at z1
          clear hc0 hc1 hx hy
          go_wp2_with fail
          go_ret
          exact ⟨by simp, B9.out⟩
        · obtain ⟨hx, hy⟩ := hc1 rfl
          rw [hx] at z0
          rw [hy] at z1
          clear hc0 hc1 hx hy
          go_wp2_with fail
          go_ret
          exact ⟨by simp, B9.out⟩
end Go.Proofs.Ytdhihmeknoofoaa.Pz
