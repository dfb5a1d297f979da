/-
  WALK: the law ImageJoins.
-/
import Derived.Test.YtkohichiojmakaaImgJoinR
import Derived.Test.YtkohichiojmakaaImgSame
namespace Go.Proofs.Ytkohichiojmakaa.ImY
set_option linter.unusedVariables false
set_option linter.unusedSimpArgs false
open Go.RowKit Go.WideShapes Go.ChangeShapes Cm Mm Ow Ow2 Ow3 A64 A64W A64P Pat InW PatW Img ImC ImR ImN ImA Jn ImJ ImW ImX ImS

theorem join_small {s : List (BitVec 32)} {t : List (List (BitVec 32))} {x : Int} (ht : t.length ≤ 8) (hc : (codeK s t t.length).length ≤ 900) : (join s t x).1.entry.length ≤ 65536 ∧ (join s t x).1.code.length ≤ 65536 := by
  unfold join
  split
  · unfold joined
    show (entK s t t.length).length ≤ _ ∧ (codeK s t t.length).length ≤ _
    rw [ent_len]; omega
  · simp

set_option maxRecDepth 20000 in
set_option maxHeartbeats 6400000 in
theorem walk {H : Type} {enc : TypeId × Value → H} {d0 d1 : DataW H} {P0 P1 : List MemPlace} {rc : Reach} {b0 : Nat} {p2 : Prop} (v0 v1 : Value) (x : Int) (w : World)
    (k0 : DataW.Trod enc Try.prog w 0 (fun _ => true) true 22 v0 d0 P0) (ok0 : Value.okWide Try.prog w rc b0 22 v0)
    (k1 : DataW.Trod enc Try.prog w 0 (fun _ => true) true 23 v1 d1 P1) (ok1 : Value.okWide Try.prog w rc b0 23 v1) (_ : p2) :
    Calls Try.prog 3 #[v0, v1, .int .i64 x] w fun e w' => e = .returned (.bool true) ∧ Below w.heap.size w w' := by
  obtain ⟨A, n, cap, s, rfl, hI⟩ := open_words k0 ok0
  obtain ⟨T, tn, tc, rs, rfl, hT⟩ := open_rows k1 ok1
  clear k0 ok0 k1 ok1
  have hs := Lib.hid hI.1
  have hr := Lib.hid hT.1
  have HI := Lib.hid hI
  have HT := Lib.hid hT
  clear hI hT
  by_cases hin : n ≤ 100 ∧ tn ≤ 8
  · obtain ⟨hn, htn⟩ := hin
    have t1 : decide (100 < (n : Int)) = false := by simp; omega
    have t2 : decide (8 < (tn : Int)) = false := by simp; omega
    have t3 : (tn : Int) ≤ 8 := by omega
    go_enter Try.func3, Try.ntmps3
    go_wp2_with fail
    refine (alive_any _).mono ?_
    rintro e w1 ⟨rfl, hb1⟩
    have B1 := Lib.hid hb1
    clear hb1
    go_wp2_with fail
    go_loop [8] (fun i => ∃ (k : Nat), k ≤ tn ∧ i = .int .i64 k ∧ Hid (∀ j, j < k → (rs.getD j zeroRow).n ≤ 100)) (fun i => tn - (intOf i).toNat)
    case atStart => exact ⟨0, by omega, rfl, fun j hj => absurd hj (by omega)⟩
    case round =>
      obtain ⟨k, hk, rfl, HG⟩ := hrel
      by_cases hkn : k < tn
      · obtain ⟨b, o, rfl, hb, s0⟩ := (HT.out.keep B1.out).cell (k := k) hkn
        have hnext : Hid ((rs.getD k zeroRow).n ≤ 100 → ∀ j, j < k + 1 → (rs.getD j zeroRow).n ≤ 100) := Lib.hid (fun h0 j hj => by
          by_cases e : j = k
          · subst e; exact h0
          · exact HG.out j (by omega))
        generalize rs.getD k zeroRow = r at *
        obtain ⟨rA, rn, rc, rl⟩ := r
        dsimp only at s0 hnext
        by_cases hr1 : rn ≤ 100
        · have HN := Lib.hid (hnext.out hr1)
          have t5 : decide (100 < (rn : Int)) = false := by simp; omega
          go_wp2_with fail
          go_round
          case rel => exact ⟨k + 1, by omega, by go_num, HN.out⟩
          case measure => simp [intOf]; omega
        · have t5 : decide (100 < (rn : Int)) = true := by simp; omega
          go_wp2_with fail
          go_ret
          exact ⟨rfl, B1.out⟩
      · obtain rfl : k = tn := by omega
        have hrs : ∀ j, j < k → (rs.getD j zeroRow).l.length ≤ 100 := fun j hj => by rw [(HT.out.2.2 j hj).1]; exact HG.out j hj
        have htl : (ths rs).length = k := by unfold ths; rw [List.length_map]; exact hr.out
        have hsmall := Lib.hid (join_small (s := s) (t := ths rs) (x := x) (by omega) (by
          have := codeK_len (s := s) (t := ths rs) (by rw [hs.out]; exact hn) (fun j hj => by rw [ths_get]; exact hrs j (by omega)) (ths rs).length (Nat.le_refl _)
          omega))
        have HRS := Lib.hid hrs
        clear hrs htl
        go_wp2_with fail
        refine (join_any A T n cap k tc s rs x w1 (HI.out.keep B1.out) (HT.out.keep B1.out) hn htn HRS.out).mono ?_
        rintro e w2 ⟨E, m, ec, C, cm, cc, rfl, hE, hC, hb2⟩
        have HE := Lib.hid hE
        have HC := Lib.hid hC
        have B2 := Lib.hid (B1.out.trans (hb2.mono B1.out.size))
        clear hE hC hb2
        generalize hj : join s (ths rs) x = J at *
        obtain ⟨⟨jx, jy, je, jc⟩, jr⟩ := J
        dsimp only at HE HC hsmall ⊢
        have HJ := Lib.hid hj
        have hm1 : m ≤ 65536 := by have := HE.out.1; have := hsmall.out.1; omega
        have hm2 : cm ≤ 65536 := by have := HC.out.1; have := hsmall.out.2; omega
        clear hj
        obtain ⟨W3, hW3⟩ : ∃ W3, w2.alloc (.cells #[.int .i64 jx, .int .i64 jy, .slice E m ec, .slice C cm cc] 27) = W3 := ⟨_, rfl⟩
        have X3 : Hid (Xm W3 w2.heap.size jx jy (.slice E m ec) (.slice C cm cc)) := Lib.hid (by rw [← hW3]; exact xm_new _ _ _ _ _ _ _ rfl)
        have BA : Below w2.heap.size w2 W3 := by rw [← hW3]; exact below_al _ _
        have B3 := Lib.hid (B2.out.trans (BA.mono B2.out.size))
        have HE := Lib.hid (HE.out.keep BA)
        have HC := Lib.hid (HC.out.keep BA)
        have HW3 := Lib.hid hW3
        clear BA hW3
        go_wp2_with fail
        rw [HW3.out]
        refine (rjoin_any A T n cap k tc s rs x W3 (HI.out.keep B3.out) (HT.out.keep B3.out) hn htn HRS.out).mono ?_
        rintro e w4 ⟨E', m', ec', C', cm', cc', rfl, hE', hC', hb4⟩
        rw [HJ.out] at hE' hC' ⊢
        dsimp only at hE' hC' ⊢
        obtain rfl : m = m' := by rw [← HE.out.1, ← hE'.1]
        obtain rfl : cm = cm' := by rw [← HC.out.1, ← hC'.1]
        obtain ⟨W5, hW5⟩ : ∃ W5, w4.alloc (.cells #[.int .i64 jx, .int .i64 jy, .slice E' m ec', .slice C' cm cc'] 27) = W5 := ⟨_, rfl⟩
        have BA : Below w4.heap.size w4 W5 := by rw [← hW5]; exact below_al _ _
        have X5 : Hid (Xm W5 w4.heap.size jx jy (.slice E' m ec') (.slice C' cm cc')) := Lib.hid (by rw [← hW5]; exact xm_new _ _ _ _ _ _ _ rfl)
        have Y3 := Lib.hid ((X3.out.keep hb4).keep BA)
        have B5 := Lib.hid (B3.out.trans ((hb4.trans (BA.mono hb4.size)).mono B3.out.size))
        have HE' := Lib.hid (hE'.keep BA)
        have HC' := Lib.hid (hC'.keep BA)
        have HE := Lib.hid ((HE.out.keep hb4).keep BA)
        have HC := Lib.hid ((HC.out.keep hb4).keep BA)
        have HW5 := Lib.hid hW5
        clear BA hW5 hE' hC' hb4
        obtain ⟨a0, a1, a2, a3, _⟩ := X5.out
        obtain ⟨b0, b1, b2, b3, _⟩ := Y3.out
        have hw5 := HW5.out
        go_wp2_with fail
        refine (sim_any jx jy E E' C C' m ec ec' cm cc cc' je jc W5 HE.out HE'.out HC.out HC'.out hm1 hm2).mono ?_
        rintro e w6 ⟨rfl, hb6⟩
        have B6 := Lib.hid (B5.out.trans (hb6.mono B5.out.size))
        clear hb6
        go_wp2_with fail
        refine (ImA.num_any jr _).mono ?_
        rintro e w7 ⟨rfl, rfl⟩
        go_wp2_with fail
        go_ret
        exact ⟨rfl, B6.out⟩
  · obtain h | ⟨h, h2⟩ : decide (100 < (n : Int)) = true ∨ (decide (100 < (n : Int)) = false ∧ decide (8 < (tn : Int)) = true) := by simp; omega
    all_goals
      clear hin
      go_enter Try.func3, Try.ntmps3
      go_wp2_with fail
      refine (alive_any _).mono ?_
      rintro e w1 ⟨rfl, hb1⟩
      go_wp2_with fail
      go_ret
      exact ⟨rfl, hb1⟩
end Go.Proofs.Ytkohichiojmakaa.ImY
