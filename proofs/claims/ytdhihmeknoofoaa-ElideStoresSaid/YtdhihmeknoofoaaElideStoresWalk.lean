/-
  WALK: the law ElideStores.
-/
import Derived.Test.YtdhihmeknoofoaaElideCodesWalk
namespace Go.Proofs.Ytdhihmeknoofoaa.ElT
set_option linter.unusedVariables false
set_option linter.unusedSimpArgs false
open Go.RowKit Go.WideShapes Go.ChangeShapes Cm Mm Ow Stp StW StC StM StF ElW ElR StO ElM ElS ElL ElC

theorem kept_next {sole : List Bool} {D : List St} {i : Nat} (h : i < D.length) (H : keptT sole (D.drop i) = true) : keptT sole (D.drop (i + 1)) = true ∧ (access (D.getD i zeroSt) = true → bare sole (D.getD i zeroSt) = true ∨ flw D i = true) := by
  rw [keptT_step sole h] at H
  simp only [Bool.and_eq_true, Bool.or_eq_true] at H
  obtain ⟨h1, h2⟩ := H
  refine ⟨h2, fun ha => ?_⟩
  rcases h1 with h1 | h1
  · rw [ha] at h1; cases h1
  · exact h1
theorem flw_parts {D : List St} {i : Nat} (h : flw D i = true) : i + 2 < D.length ∧ ((D.getD (i + 1) zeroSt).kind == 6) = true ∧ ((D.getD (i + 1) zeroSt).a == (D.getD i zeroSt).a) = true ∧ ((D.getD (i + 2) zeroSt).kind == 7) = true := by
  unfold flw flw3 at h
  simp only [Bool.and_eq_true, decide_eq_true_eq] at h
  exact ⟨h.1, h.2.1.1.1, h.2.1.1.2, h.2.2⟩

theorem below_drawn2 (w : World) (o : Obj) (n : Nat) : Below w.heap.size w ((w.alloc o).drewN n) := below_drewN (below_al _ _) n

set_option maxHeartbeats 12800000 in
set_option maxRecDepth 100000 in
theorem walkStores {H : Type} {enc : TypeId × Value → H} {d0 d2 : DataW H} {P0 P2 : List MemPlace} {r : Reach} {b0 : Nat} (v0 : Value) (v2 : Value) (w : World)
    (k0 : DataW.Trod enc Try.prog w 0 (fun _ => true) true 24 v0 d0 P0) (ok0 : Value.okWide Try.prog w r b0 24 v0)
    (k2 : DataW.Trod enc Try.prog w 0 (fun _ => true) true 57 v2 d2 P2) (ok2 : Value.okWide Try.prog w r b0 57 v2) :
    Calls Try.prog 9 #[v0, v2] w fun e w' => e = .returned (.bool true) ∧ Below w.heap.size w w' := by
  obtain ⟨x, y, A, n, cap, l, rfl, hx, hy, hI⟩ := open_code k0 ok0
  obtain ⟨As, ns, cs, sole, rfl, hS⟩ := open_bools k2 ok2
  clear k0 ok0 k2 ok2 hx hy
  obtain ⟨W, hW⟩ : ∃ W, W = w.alloc (.cells #[.int .i64 x, .int .i64 y, .slice A n cap] 24) := ⟨_, rfl⟩
  have hB : Below w.heap.size w W := by rw [hW]; exact below_al _ _
  have hV : Vr W w.heap.size x y A n cap := by rw [hW]; exact vr_new _ _ _ _ _ _ _ _ rfl
  have HL := Lib.hid hI.1
  have HLs := Lib.hid hS.1
  have HI := Lib.hid (hI.keep hB)
  have HS := Lib.hid (hS.keep hB)
  have HV := Lib.hid hV
  have HW := Lib.hid hW
  have hwl : w.heap.size < W.heap.size := hV.lt
  clear hV hW hI hS
  by_cases hn : n ≤ 200
  · by_cases hns : ns ≤ 30
    · go_enter Try.func9, Try.ntmps9
      go_wp2_with fail
      rw [← HW.out]
      refine (alive16_any _).mono ?_
      rintro e w2 ⟨rfl, hb2⟩
      obtain ⟨v0, v1, v2, v3⟩ := HV.out.keep hb2
      go_wp2_with fail
      refine (rflush_any x y A n cap l w2 (HI.out.keep hb2) (by omega)).mono ?_
      rintro e w3 ⟨A1, m1, c1, rfl, hown, hb3⟩
      have hI1 := isSt_own hown
      have hm1 : m1 ≤ 600 := by have := flush_len l; have := hI1.1; have := HL.out; omega
      clear hown
      go_wp2_with fail
      refine (elide_any x y A1 As m1 c1 ns cs (flush l) sole w3 hI1 ((HS.out.keep hb2).keep hb3) (by omega)).mono ?_
      rintro e w4 ⟨A2, m, c, rfl, hown, hb4⟩
      have hI2 := isSt_own hown
      have hm : m ≤ 600 := by have := elide_le sole _ (flush l) (Nat.le_refl _); have := hI2.1; have := hI1.1; omega
      have hKT := kept_spare sole l
      have hCT := count_spare sole l
      generalize hD : elide sole (flush l) = D at *
      clear hD hown hI1
      have hB4 : Below W.heap.size W w4 := hb2.trans ((hb3.trans (hb4.mono hb3.size)).mono hb2.size)
      obtain ⟨W2, hW2⟩ : ∃ W2, W2 = w4.alloc (.cells #[.int .i64 x, .int .i64 y, .slice A2 m c] 24) := ⟨_, rfl⟩
      have hB5 : Below w4.heap.size w4 W2 := by rw [hW2]; exact below_al _ _
      have hV2 : Vr W2 w4.heap.size x y A2 m c := by rw [hW2]; exact vr_new _ _ _ _ _ _ _ _ rfl
      have HD := Lib.hid (hI2.keep hB5)
      have HM := Lib.hid hI2.1
      have HV1 := Lib.hid ((HV.out.keep hB4).keep hB5)
      have HV2 := Lib.hid hV2
      have HS2 := Lib.hid ((HS.out.keep hB4).keep hB5)
      have HI2 := Lib.hid ((HI.out.keep hB4).keep hB5)
      have HW2 := Lib.hid hW2
      have HKT := Lib.hid hKT
      have HCT := Lib.hid hCT
      have hl2 := hV2.lt
      have hl4 := hB4.size
      have BW := Lib.hid (hB.trans ((hB4.trans (hB5.mono hB4.size)).mono hB.size))
      clear hV2 hW2 hKT hCT hI2 hB5 hb2 hb3 hb4 v0 v1 v2 v3
      go_wp2_with fail
      go_loopw [7, 8] (fun q j wr => ∃ (i : Nat), i ≤ m ∧ j = .int .i64 i ∧ q = .int .i64 (count (D.take i) : Nat) ∧ Hid (keptT sole (D.drop i) = true) ∧ Below W2.heap.size W2 wr) (fun _ j _ => m - (intOf j).toNat)
      case atStart => exact ⟨0, by omega, rfl, rfl, HKT.out, by rw [← HW2.out]; exact Below.refl _ _⟩
      case round =>
        obtain ⟨i, hi, rfl, rfl, HK, hbel⟩ := hrel
        have hsz := hbel.size
        obtain ⟨q0, q1, q2, q3⟩ := HV2.out.keep hbel
        have hq4 : w4.heap.size < wr.heap.size := by omega
        have hcb : count (D.take i) ≤ i := by
          unfold count
          have := List.countP_le_length (p := access) (l := D.take i)
          have := List.length_take_le i D
          omega
        by_cases him : i < m
        · have hct := Lib.hid (count_snoc D i (by have := HM.out; omega))
          obtain ⟨hk2, hbk⟩ := kept_next (by have := HM.out; omega) HK.out
          have HK2 := Lib.hid hk2
          have HF := Lib.hid (fun (h : flw D i = true) => flw_parts h)
          obtain ⟨b, o, rfl, hb, s0, s1, s2, s3, s4, s5, s6, s7, s8⟩ := (HD.out.keep hbel).cell (k := i) (by omega)
          have hcap := (HD.out.keep hbel).2.le
          have hF2 := Lib.hid (fun (h : i + 1 < m) => (HD.out.keep hbel).cell (k := i + 1) h)
          have hY2 := Lib.hid (fun (h : i + 2 < m) => (HD.out.keep hbel).cell (k := i + 2) h)
          generalize hc : D.getD i zeroSt = s at *
          generalize hcf : D.getD (i + 1) zeroSt = f at *
          generalize hcy : D.getD (i + 2) zeroSt = y' at *
          clear hc hk2 hcf hcy
          generalize count (D.take i) = q at *
          have hbk := Lib.hid hbk
          have i1 : (i : Int) < m := by omega
          have j1 : IntKind.i64.wrap ((i : Int) + 1) = (i : Int) + 1 := IntWalk.i64_in _ ⟨by omega, by omega⟩
          have j2 : IntKind.i64.wrap ((i : Int) + 2) = (i : Int) + 2 := IntWalk.i64_in _ ⟨by omega, by omega⟩
          have k1 : (0 : Int) ≤ (i : Int) + 1 := by omega
          have k2 : ((i : Int) + 1).toNat = i + 1 := by omega
          have k3 : (0 : Int) ≤ (i : Int) + 2 := by omega
          have k4 : ((i : Int) + 2).toNat = i + 2 := by omega
          have J1 := Lib.hid j1
          have J2 := Lib.hid j2
          have K2 := Lib.hid k2
          have K4 := Lib.hid k4
          clear j1 j2 k2 k4
          have hB2 := Lib.hid (fun o' => (below_drawn2 wr (.cells #[.int .i64 s.kind, .int .i64 s.d, .int .i64 s.a, .int .i64 s.b, .int .i64 s.c, .int .i64 s.to, .int .i64 s.cell, .int .u64 s.n, .int .u8 s.op] 31) o').mono hsz |> hbel.trans)
          by_cases hacc : access s = true
          · by_cases h3 : (s.kind == 3) = true
            · have g3 : (s.kind != 3) = false := by simp only [bne, h3]; rfl
              by_cases c0 : 0 ≤ s.cell
              · by_cases c1 : s.cell < ns
                · have hbi := bare_in (sole := sole) h3 c0 (by have := HLs.out; omega)
                  obtain ⟨bs, os, rfl, hbs, hso⟩ := (HS2.out.keep hbel).cell (k := s.cell.toNat) (by omega)
                  have hcs := HS2.out.2.le
                  cases hg : sole.getD s.cell.toNat false
                  · have hbare := Lib.hid (hbi.trans hg)
                    clear hbi
                    rw [hg] at hso
                    have hfl : flw D i = true := by
                      rcases hbk.out hacc with h | h
                      · rw [hbare.out] at h; cases h
                      · exact h
                    obtain ⟨l2, e6, ea, e7⟩ := HF.out hfl
                    have l2 : i + 2 < m := by have := HM.out; omega
                    clear hfl
                    obtain ⟨bf, ofs, ef, _, f0, f1, f2, f3, f4, f5, f6, f7, f8⟩ := hF2.out (by omega)
                    obtain ⟨by', oy, ey, _, y0, _⟩ := hY2.out (by omega)
                    simp only [Option.some.injEq, Addr.mk.injEq, and_true] at ef ey
                    obtain ⟨rfl, rfl⟩ := ef
                    obtain ⟨rfl, rfl⟩ := ey
                    have m1' : (i : Int) + 1 < m := by omega
                    have m2' : (i : Int) + 2 < m := by omega
                    have j1 := J1.out
                    have j2 := J2.out
                    have k2 := K2.out
                    have k4 := K4.out
                    go_wp2
                    go_quiet (fail)
                    clear j1 j2 k2 k4
                    go_wp2
                    go_roundw
                    case rel => exact ⟨i + 1, by omega, by go_num, by rw [hct.out, hacc]; go_num, HK2.out, hB2.out _⟩
                    case measure => simp [intOf]; omega
                  · clear hbi
                    rw [hg] at hso
                    by_cases l2 : i + 2 < m
                    · obtain ⟨bf, ofs, ef, _, f0, f1, f2, f3, f4, f5, f6, f7, f8⟩ := hF2.out (by omega)
                      obtain ⟨by', oy, ey, _, y0, _⟩ := hY2.out (by omega)
                      simp only [Option.some.injEq, Addr.mk.injEq, and_true] at ef ey
                      obtain ⟨rfl, rfl⟩ := ef
                      obtain ⟨rfl, rfl⟩ := ey
                      have m1' : (i : Int) + 1 < m := by omega
                      have m2' : (i : Int) + 2 < m := by omega
                      cases e6 : (f.kind == 6) <;> cases ea : (f.a == s.a) <;> cases e7 : (y'.kind == 7)
                      all_goals
                        have j1 := J1.out
                        have j2 := J2.out
                        have k2 := K2.out
                        have k4 := K4.out
                        go_wp2
                        go_quiet (fail)
                        clear j1 j2 k2 k4
                        go_wp2
                        go_roundw
                        case rel => exact ⟨i + 1, by omega, by go_num, by rw [hct.out, hacc]; go_num, HK2.out, hB2.out _⟩
                        case measure => simp [intOf]; omega
                    · have hd : decide ((i : Int) + 2 < m) = false := by simp; omega
                      have j1 := J1.out
                      have j2 := J2.out
                      have k2 := K2.out
                      have k4 := K4.out
                      go_wp2
                      go_quiet (fail)
                      clear j1 j2 k2 k4
                      go_wp2
                      go_roundw
                      case rel => exact ⟨i + 1, by omega, by go_num, by rw [hct.out, hacc]; go_num, HK2.out, hB2.out _⟩
                      case measure => simp [intOf]; omega
                · have hbare := Lib.hid (bare_far (sole := sole) (s := s) (by have := HLs.out; omega))
                  have hfl : flw D i = true := by
                    rcases hbk.out hacc with h | h
                    · rw [hbare.out] at h; cases h
                    · exact h
                  obtain ⟨l2, e6, ea, e7⟩ := HF.out hfl
                  have l2 : i + 2 < m := by have := HM.out; omega
                  clear hfl
                  obtain ⟨bf, ofs, ef, _, f0, f1, f2, f3, f4, f5, f6, f7, f8⟩ := hF2.out (by omega)
                  obtain ⟨by', oy, ey, _, y0, _⟩ := hY2.out (by omega)
                  simp only [Option.some.injEq, Addr.mk.injEq, and_true] at ef ey
                  obtain ⟨rfl, rfl⟩ := ef
                  obtain ⟨rfl, rfl⟩ := ey
                  have m1' : (i : Int) + 1 < m := by omega
                  have m2' : (i : Int) + 2 < m := by omega
                  have j1 := J1.out
                  have j2 := J2.out
                  have k2 := K2.out
                  have k4 := K4.out
                  go_wp2
                  go_quiet (fail)
                  clear j1 j2 k2 k4
                  go_wp2
                  go_roundw
                  case rel => exact ⟨i + 1, by omega, by go_num, by rw [hct.out, hacc]; go_num, HK2.out, hB2.out _⟩
                  case measure => simp [intOf]; omega
              · have hbare := Lib.hid (bare_neg (sole := sole) c0)
                have hfl : flw D i = true := by
                  rcases hbk.out hacc with h | h
                  · rw [hbare.out] at h; cases h
                  · exact h
                obtain ⟨l2, e6, ea, e7⟩ := HF.out hfl
                have l2 : i + 2 < m := by have := HM.out; omega
                clear hfl
                obtain ⟨bf, ofs, ef, _, f0, f1, f2, f3, f4, f5, f6, f7, f8⟩ := hF2.out (by omega)
                obtain ⟨by', oy, ey, _, y0, _⟩ := hY2.out (by omega)
                simp only [Option.some.injEq, Addr.mk.injEq, and_true] at ef ey
                obtain ⟨rfl, rfl⟩ := ef
                obtain ⟨rfl, rfl⟩ := ey
                have m1' : (i : Int) + 1 < m := by omega
                have m2' : (i : Int) + 2 < m := by omega
                have j1 := J1.out
                have j2 := J2.out
                have k2 := K2.out
                have k4 := K4.out
                go_wp2
                go_quiet (fail)
                clear j1 j2 k2 k4
                go_wp2
                go_roundw
                case rel => exact ⟨i + 1, by omega, by go_num, by rw [hct.out, hacc]; go_num, HK2.out, hB2.out _⟩
                case measure => simp [intOf]; omega
            · have h3 : (s.kind == 3) = false := by simpa using h3
              have g3 : (s.kind != 3) = true := by simp only [bne, h3]; rfl
              have hbare := Lib.hid (bare_no3 (sole := sole) h3)
              cases h4 : (s.kind == 4)
              · have h5 : (s.kind == 5) = true := by cases h : (s.kind == 5) <;> simp [access, h3, h4, h] at hacc ⊢
                have g4 : (s.kind != 4) = true := by simp only [bne, h4]; rfl
                have g5 : (s.kind != 5) = false := by simp only [bne, h5]; rfl
                have hfl : flw D i = true := by
                  rcases hbk.out hacc with h | h
                  · rw [hbare.out] at h; cases h
                  · exact h
                obtain ⟨l2, e6, ea, e7⟩ := HF.out hfl
                have l2 : i + 2 < m := by have := HM.out; omega
                clear hfl
                obtain ⟨bf, ofs, ef, _, f0, f1, f2, f3, f4, f5, f6, f7, f8⟩ := hF2.out (by omega)
                obtain ⟨by', oy, ey, _, y0, _⟩ := hY2.out (by omega)
                simp only [Option.some.injEq, Addr.mk.injEq, and_true] at ef ey
                obtain ⟨rfl, rfl⟩ := ef
                obtain ⟨rfl, rfl⟩ := ey
                have m1' : (i : Int) + 1 < m := by omega
                have m2' : (i : Int) + 2 < m := by omega
                have j1 := J1.out
                have j2 := J2.out
                have k2 := K2.out
                have k4 := K4.out
                go_wp2
                go_quiet (fail)
                clear j1 j2 k2 k4
                go_wp2
                go_roundw
                case rel => exact ⟨i + 1, by omega, by go_num, by rw [hct.out, hacc]; go_num, HK2.out, hB2.out _⟩
                case measure => simp [intOf]; omega
              · have g4 : (s.kind != 4) = false := by simp only [bne, h4]; rfl
                have hfl : flw D i = true := by
                  rcases hbk.out hacc with h | h
                  · rw [hbare.out] at h; cases h
                  · exact h
                obtain ⟨l2, e6, ea, e7⟩ := HF.out hfl
                have l2 : i + 2 < m := by have := HM.out; omega
                clear hfl
                obtain ⟨bf, ofs, ef, _, f0, f1, f2, f3, f4, f5, f6, f7, f8⟩ := hF2.out (by omega)
                obtain ⟨by', oy, ey, _, y0, _⟩ := hY2.out (by omega)
                simp only [Option.some.injEq, Addr.mk.injEq, and_true] at ef ey
                obtain ⟨rfl, rfl⟩ := ef
                obtain ⟨rfl, rfl⟩ := ey
                have m1' : (i : Int) + 1 < m := by omega
                have m2' : (i : Int) + 2 < m := by omega
                have j1 := J1.out
                have j2 := J2.out
                have k2 := K2.out
                have k4 := K4.out
                go_wp2
                go_quiet (fail)
                clear j1 j2 k2 k4
                go_wp2
                go_roundw
                case rel => exact ⟨i + 1, by omega, by go_num, by rw [hct.out, hacc]; go_num, HK2.out, hB2.out _⟩
                case measure => simp [intOf]; omega
          · have hacc : access s = false := by simpa using hacc
            have h3 : (s.kind == 3) = false := by cases h : (s.kind == 3) <;> simp [access, h] at hacc ⊢
            have h4 : (s.kind == 4) = false := by cases h : (s.kind == 4) <;> simp [access, h] at hacc ⊢
            have h5 : (s.kind == 5) = false := by cases h : (s.kind == 5) <;> simp [access, h] at hacc ⊢
            have g3 : (s.kind != 3) = true := by simp only [bne, h3]; rfl
            have g4 : (s.kind != 4) = true := by simp only [bne, h4]; rfl
            have g5 : (s.kind != 5) = true := by simp only [bne, h5]; rfl
            go_wp2
            go_roundw
            case rel => exact ⟨i + 1, by omega, by go_num, by rw [hct.out, hacc]; go_num, HK2.out, hB2.out 0⟩
            case measure => simp [intOf]; omega
        · obtain rfl : i = m := by omega
          have hq : count (D.take i) = count l := by rw [← HCT.out, ← HM.out, List.take_length]
          rw [hq]
          clear hq q0 q1 hcb
          obtain ⟨t0, t1, t2, t3⟩ := HV1.out.keep hbel
          have HI3 := Lib.hid (HI2.out.keep hbel)
          obtain ⟨cl, hcl⟩ : ∃ cl, cl = count l := ⟨_, rfl⟩
          rw [← hcl]
          have Hcl := Lib.hid hcl
          clear hcl
          go_wp2_with fail
          go_loop [12, 13] (fun q j => ∃ (k : Nat), k ≤ n ∧ j = .int .i64 k ∧ q = .int .i64 (count (l.take k) : Nat)) (fun _ j => n - (intOf j).toNat)
          case atStart => exact ⟨0, by omega, rfl, rfl⟩
          case round =>
            obtain ⟨k, hk, rfl, rfl⟩ := hrel
            have hcb : count (l.take k) ≤ k := by
              unfold count
              have := List.countP_le_length (p := access) (l := l.take k)
              have := List.length_take_le k l
              omega
            by_cases hkn : k < n
            · have hct := Lib.hid (count_snoc l k (by have := HL.out; omega))
              obtain ⟨b, o, rfl, hb, s0, _⟩ := HI3.out.cell (k := k) (by omega)
              generalize hc : l.getD k zeroSt = s at *
              clear hc
              generalize count (l.take k) = q at *
              have i1 : (k : Int) < n := by omega
              cases b3 : (s.kind == 3) <;> cases b4 : (s.kind == 4) <;> cases b5 : (s.kind == 5)
              all_goals
                have hacc : access s = (s.kind == 3 || s.kind == 4 || s.kind == 5) := rfl
                rw [b3, b4, b5] at hacc
                simp only [Bool.or_false, Bool.or_true, Bool.or_self] at hacc
                rw [hacc] at hct
                simp only [if_true, if_false, Bool.false_eq_true] at hct
                clear hacc
                go_wp2
                go_round
                case rel => exact ⟨k + 1, by omega, by go_num, by rw [hct.out]; go_num⟩
                case measure => simp [intOf]; omega
            · obtain rfl : k = n := by omega
              have e : l.take k = l := by rw [← HL.out]; exact List.take_length
              rw [e, ← Hcl.out]
              clear e hcb
              go_wp2
              go_ret
              exact ⟨rfl, BW.out.trans (hbel.mono BW.out.size)⟩
    · go_enter Try.func9, Try.ntmps9
      go_wp2_with fail
      rw [← HW.out]
      refine (alive16_any _).mono ?_
      rintro e w2 ⟨rfl, hb2⟩
      obtain ⟨v0, v1, v2, v3⟩ := HV.out.keep hb2
      go_wp2_with fail
      go_ret
      exact ⟨rfl, hB.trans (hb2.mono hB.size)⟩
  · go_enter Try.func9, Try.ntmps9
    go_wp2_with fail
    rw [← HW.out]
    refine (alive16_any _).mono ?_
    rintro e w2 ⟨rfl, hb2⟩
    obtain ⟨v0, v1, v2, v3⟩ := HV.out.keep hb2
    go_wp2_with fail
    go_ret
    exact ⟨rfl, hB.trans (hb2.mono hB.size)⟩
end Go.Proofs.Ytdhihmeknoofoaa.ElT
