/-
  WALK: the law FlushKeeps.
-/
import Derived.Test.YtdhihmeknoofoaaStOpen
namespace Go.Proofs.Ytdhihmeknoofoaa.FlK
set_option linter.unusedVariables false
set_option linter.unusedSimpArgs false
open Go.RowKit Go.WideShapes Go.ChangeShapes Cm Mm Ow Stp StW StC StM StF StO

theorem next_pos {l : List St} {k p : Nat} (h : k < l.length) (hp : p = (flush (l.take k)).length) : (if access (l.getD k zeroSt) then p + 3 else p + 1) = (flush (l.take (k + 1))).length := by
  rw [flush_snoc l k h, List.length_append, flush1_len, ← hp]; split <;> rfl
set_option maxHeartbeats 3200000 in
set_option maxRecDepth 100000 in
theorem walkKeeps {H : Type} {enc : TypeId × Value → H} {d : DataW H} {P : List MemPlace} {r : Reach} {b0 : Nat} (v : Value) (w : World)
    (k1 : DataW.Trod enc Try.prog w 0 (fun _ => true) true 24 v d P) (ok1 : Value.okWide Try.prog w r b0 24 v) :
    Calls Try.prog 4 #[v] w fun e w' => e = .returned (.bool true) ∧ Below w.heap.size w w' := by
  obtain ⟨x, y, A, n, cap, l, rfl, hx, hy, hI⟩ := open_code k1 ok1
  clear k1 ok1
  have hl := hI.1
  have HL := Lib.hid hl
  obtain ⟨W, hW⟩ : ∃ W, W = w.alloc (.cells #[.int .i64 x, .int .i64 y, .slice A n cap] 24) := ⟨_, rfl⟩
  have hB : Below w.heap.size w W := by rw [hW]; exact below_al _ _
  have hV : Vr W w.heap.size x y A n cap := by rw [hW]; exact vr_new _ _ _ _ _ _ _ _ rfl
  have HI := Lib.hid (hI.keep hB)
  have HV := Lib.hid hV
  have HW := Lib.hid hW
  have hwl : w.heap.size < W.heap.size := hV.lt
  clear hV hW hl hI
  by_cases hn : n ≤ 300
  · go_enter Try.func4, Try.ntmps4
    go_wp2_with fail
    rw [← HW.out]
    refine (alive_any _).mono ?_
    rintro e w2 ⟨rfl, hb2⟩
    obtain ⟨v0, v1, v2, v3⟩ := HV.out.keep hb2
    go_wp2_with fail
    refine (fcode_any x y A n cap l w2 (HI.out.keep hb2) (by omega)).mono ?_
    rintro e w3 ⟨A2, m, c, rfl, hown, hb3⟩
    have hI2 := isSt_own hown
    have hm := hI2.1
    have hm2 := flush_len l
    have hm3 : m ≤ 900 := by have := HL.out; omega
    obtain ⟨W2, hW2⟩ : ∃ W2, W2 = w3.alloc (.cells #[.int .i64 x, .int .i64 y, .slice A2 m c] 24) := ⟨_, rfl⟩
    have hB3 : Below w3.heap.size w3 W2 := by rw [hW2]; exact below_al _ _
    have hV2 : Vr W2 w3.heap.size x y A2 m c := by rw [hW2]; exact vr_new _ _ _ _ _ _ _ _ rfl
    have hV1 : Vr W2 w.heap.size x y A n cap := ((HV.out.keep hb2).keep hb3).keep hB3
    have HI2 := Lib.hid (hI2.keep hB3)
    have HI1 := Lib.hid (((HI.out.keep hb2).keep hb3).keep hB3)
    have HV1 := Lib.hid hV1
    have HV2 := Lib.hid hV2
    have HM := Lib.hid hm
    have HW2 := Lib.hid hW2
    have hl1 := hV1.lt
    have hl2 := hV2.lt
    have hsz3 := hb3.size
    have BW := Lib.hid ((hB.trans (hb2.mono hB.size)).trans ((hb3.trans (hB3.mono hb3.size)).mono (Nat.le_trans hB.size hb2.size)))
    clear hI2 hm hm2 hown hb3 v0 v1 v2 v3 hB3 hV1 hV2 hW2
    go_wp2_with fail
    go_loopw [5, 6] (fun v i wr => ∃ (k p cb : Nat) (Ab : Option Addr), k ≤ n ∧ i = .int .i64 p ∧ Hid (p = (flush (l.take k)).length) ∧ v = .slice Ab k cb ∧ Own wr W2.heap.size 31 9 Ab k cb ((l.take k).map stL) ∧ Below W2.heap.size W2 wr) (fun _ i _ => m - (intOf i).toNat)
    case atStart => exact ⟨0, 0, 0, none, by omega, rfl, rfl, rfl, Own.nil _ _ _ _, by rw [← HW2.out]; exact Below.refl _ _⟩
    case round =>
      obtain ⟨k, p, cb, Ab, hk, rfl, HP, rfl, hown, hbel⟩ := hrel
      have hsz := hbel.size
      obtain ⟨q0, q1, q2, q3⟩ := HV2.out.keep hbel
      by_cases hkn : k < n
      · have hpm : p < m := by have := flush_lt l k (by have := HL.out; omega); have := HP.out; have := HM.out; omega
        have hat := flush_at0 l k (by have := HL.out; omega)
        rw [← HP.out] at hat
        have hsn := Lib.hid (take_snoc zeroSt l k (by have := HL.out; omega))
        have hnp := Lib.hid (next_pos (by have := HL.out; omega) HP.out)
        obtain ⟨b, o, rfl, hb, s0, s1, s2, s3, s4, s5, s6, s7, s8⟩ := (HI2.out.keep hbel).cell (k := p) (by omega)
        rw [hat] at s0 s1 s2 s3 s4 s5 s6 s7 s8
        have hlt : b < W2.heap.size := by
          obtain ⟨_, _, e, hb, _⟩ := HI2.out.cell (k := p) (by omega)
          simp only [Option.some.injEq, Addr.mk.injEq, and_true] at e
          omega
        clear hat
        generalize hc : l.getD k zeroSt = s at *
        clear hc
        have hle := HI2.out.2.le
        have HO := Lib.hid hown; clear hown
        have i1 : (p : Int) < m := by omega
        have hs0 := Lib.hid s0
        have hq2 := Lib.hid q2
        cases b3 : (s.kind == 3) <;> cases b4 : (s.kind == 4) <;> cases b5 : (s.kind == 5)
        all_goals
          have hacc : access s = (s.kind == 3 || s.kind == 4 || s.kind == 5) := rfl
          rw [b3, b4, b5] at hacc
          simp only [Bool.or_false, Bool.or_true, Bool.or_self] at hacc
          rw [hacc] at hnp
          simp only [if_true, if_false, Bool.false_eq_true] at hnp
          clear hacc
          go_wp2_with (at_builtin; refine Ow2.wpList_appN _ rfl _ _ rfl elSt W2.heap.size Ab k cb 1 wr.heap.size _ [stL s] rfl rfl HO.out rfl rfl (st_each [s]) (st_ones [s]) (by unfold maxLen; omega) (by omega) (by omega) _ rfl ?_; intro A4 c4 w4 hown4 hbel4 hkp4 hat4; have hx2 := (hbel4.cell (p := ⟨w3.heap.size, 2, none⟩) hl2).trans hq2.out; have hx0 := (hbel4.cell (p := ⟨b, o + p * 9, none⟩) hlt).trans hs0.out; have hz4 := hbel4.size; have HO4 := Lib.hid hown4; clear hown4 hkp4 hat4)
          go_roundw
          case rel => first
            | exact ⟨k + 1, p + 1, c4, A4, by omega, by go_num, hnp, rfl, by rw [hsn.out, List.map_append]; exact HO4.out, hbel.trans hbel4⟩
            | exact ⟨k + 1, p + 3, c4, A4, by omega, by go_num, hnp, rfl, by rw [hsn.out, List.map_append]; exact HO4.out, hbel.trans hbel4⟩
          case measure => simp [intOf]; omega
      · obtain rfl : k = n := by omega
        have e : l.take k = l := by rw [← HL.out]; exact List.take_length
        rw [e] at hown HP
        have hpm : p = m := by have := HP.out; have := HM.out; omega
        subst hpm
        have hIb := isSt_own hown
        obtain ⟨t0, t1, t2, t3⟩ := HV1.out.keep hbel
        have i1 : ¬ (p : Int) < p := by omega
        clear hown e
        go_wp2_with fail
        refine (same_any x y A Ab k cap cb l _ (HI1.out.keep hbel) hIb (by omega)).mono ?_
        rintro e w5 ⟨rfl, hb5⟩
        go_wp2_with fail
        go_ret
        exact ⟨rfl, BW.out.trans ((hbel.trans (hb5.mono hsz)).mono BW.out.size)⟩
  · go_enter Try.func4, Try.ntmps4
    go_wp2_with fail
    rw [← HW.out]
    refine (alive_any _).mono ?_
    rintro e w2 ⟨rfl, hb2⟩
    obtain ⟨v0, v1, v2, v3⟩ := HV.out.keep hb2
    go_wp2_with fail
    go_ret
    exact ⟨rfl, hB.trans (hb2.mono hB.size)⟩
end Go.Proofs.Ytdhihmeknoofoaa.FlK
