/-
  WALK: the document's May.
-/
import Derived.Test.YtdhihmeknoofoaaPendLast
namespace Go.Proofs.Ytdhihmeknoofoaa.PnY
set_option linter.unusedVariables false
set_option linter.unusedSimpArgs false
open Go.RowKit Cm Mm Ow Pnd PnW PnL

theorem first_no {l : List Wr} {k j : Nat} (hj : j < k) (hk : k < l.length) (h : (l.getD j zeroWr).at' = (l.getD k zeroWr).at') : first l k = false := by
  unfold first
  rw [List.any_eq_true.2 ⟨l.getD j zeroWr, List.mem_iff_getElem.2 ⟨j, by rw [List.length_take]; omega, by simp [List.getD, show j < l.length by omega]⟩, by rw [h]; simp⟩]
  rfl
theorem first_yes {l : List Wr} {k : Nat} (hk : k < l.length) (h : ∀ j, j < k → ((l.getD j zeroWr).at' == (l.getD k zeroWr).at') = false) : first l k = true := by
  unfold first
  rw [List.any_eq_false.2 fun x hx => ?_]
  · rfl
  · obtain ⟨j, hj, rfl⟩ := List.mem_iff_getElem.1 hx
    rw [List.length_take] at hj
    have := h j (by omega)
    rw [show l.getD j zeroWr = l[j]'(by omega) by simp [List.getD, show j < l.length by omega]] at this
    rw [List.getElem_take, this]
    exact Bool.false_ne_true

set_option maxHeartbeats 3200000 in
theorem rmay_any (A : Option Addr) (n cap : Nat) (i : Int) (l : List Wr) (w : World) (h : IsW w A n cap l) (hn : n ≤ 65536) :
    Calls Try.prog 47 #[.slice A n cap, .int .i64 i] w fun e w' => e = .returned (.bool (may l i)) ∧ Below w.heap.size w w' := by
  have hl := h.1
  by_cases hin : 0 ≤ i ∧ i < n
  · obtain ⟨k, rfl⟩ := Int.eq_ofNat_of_zero_le hin.1
    have hk : k < n := by omega
    have hM : may l (k : Int) = (!((l.getD k zeroWr).rel && decide (0 < k)) && first l k) := by
      unfold may
      rw [decide_eq_true (by omega), Int.toNat_natCast, Bool.true_and]
      congr 3
      simp
    have HM := Lib.hid hM
    have HI := Lib.hid h
    have hl := Lib.hid hl
    obtain ⟨b, o, rfl, hb, g0, g1, g2⟩ := h.cell hk
    clear hM h
    have t1 : decide (n ≤ k) = false := by simp; omega
    have f2 : (k : Int) < (n : Int) := by omega
    have f3 : (k : Int) ≤ 65536 := by omega
    have hcase : (l.getD k zeroWr).rel = true ∧ 0 < k ∨ ((l.getD k zeroWr).rel && decide (0 < k)) = false := by
      cases (l.getD k zeroWr).rel
      · right; rfl
      · by_cases h0 : 0 < k
        · left; exact ⟨rfl, h0⟩
        · right; rw [decide_eq_false h0]; rfl
    rcases hcase with ⟨e1, e2⟩ | e
    · rw [e1, decide_eq_true e2] at HM
      rw [e1] at g2
      generalize l.getD k zeroWr = z at *
      clear e1
      go_enter Try.func47, Try.ntmps47
      go_wp2_with fail
      go_ret
      exact ⟨retb (by rw [HM.out]; simp), Below.refl _ _⟩
    · rw [e] at HM
      have HM : Hid (may l (k : Int) = first l k) := Lib.hid (by rw [HM.out]; simp)
      have HE := Lib.hid e
      have hke : decide (0 < k) = decide ((0 : Int) < (k : Int)) := by simp
      have HT : Hid ((∀ j, j < k → ((l.getD j zeroWr).at' == (l.getD k zeroWr).at') = false) → first l k = true) := Lib.hid (first_yes (by rw [hl.out]; omega))
      have HN : Hid (∀ j, j < k → (l.getD j zeroWr).at' = (l.getD k zeroWr).at' → first l k = false) := Lib.hid (fun j h1 h2 => first_no h1 (by rw [hl.out]; omega) h2)
      obtain ⟨z, hz⟩ : ∃ z, z = l.getD k zeroWr := ⟨_, rfl⟩
      rw [← hz] at e g0 g1 g2 HT HN HE
      clear hz hl g1
      obtain ⟨z1, z2, z3⟩ := z
      dsimp only at e g0 g2 HT HN HE
      go_enter Try.func47, Try.ntmps47
      cases z3
      · go_wp2_with fail
        go_loopw [5] (fun i wr => ∃ (j : Nat), j ≤ k ∧ i = .int .i64 j ∧ Hid (∀ x, x < j → ((l.getD x zeroWr).at' == z1) = false) ∧ Below w.heap.size w wr) (fun i _ => k - (intOf i).toNat)
        case atStart => exact ⟨0, by omega, rfl, fun x hx => absurd hx (by omega), Below.refl _ _⟩
        case round =>
          obtain ⟨j, hj, rfl, hno, hbel⟩ := hrel
          by_cases hjk : j < k
          · have G0 := (hbel.cell (p := ⟨b, o + k * 3, none⟩) hb).trans g0
            obtain ⟨b', o', e', hb', q0, q1, q2⟩ := (HI.out.keep hbel).cell (k := j) (by omega)
            obtain ⟨rfl, rfl⟩ : b = b' ∧ o = o' := by simpa using e'
            have HNj : Hid ((l.getD j zeroWr).at' = z1 → first l k = false) := Lib.hid (HN.out j hjk)
            have HNo : Hid (((l.getD j zeroWr).at' == z1) = false → ∀ x, x < j + 1 → ((l.getD x zeroWr).at' == z1) = false) := Lib.hid (fun h0 x hx => by
              by_cases ex : x = j
              · subst ex; exact h0
              · exact hno.out x (by omega))
            clear q1 q2 hno e'
            generalize (l.getD j zeroWr).at' = y at *
            have f6 : (j : Int) < (k : Int) := by omega
            have f7 : (j : Int) < (n : Int) := by omega
            have f8 : (j : Int) ≤ 65536 := by omega
            by_cases hyz : y = z1
            · subst hyz
              have HF := Lib.hid (HNj.out rfl)
              go_wp2
              go_quiet (fail)
              go_wp2
              go_ret
              exact ⟨retb (by rw [HM.out, HF.out]), below_drewN hbel _⟩
            · have hb0 : (y == z1) = false := beq_false_of_ne hyz
              have HO := Lib.hid (HNo.out hb0)
              go_wp2
              go_quiet (fail)
              go_wp2
              go_roundw
              case rel => exact ⟨j + 1, by omega, by go_num, HO, below_drewN hbel _⟩
              case measure => simp [intOf]; omega
          · obtain rfl : j = k := by omega
            have HF := Lib.hid (HT.out hno.out)
            go_wp2
            go_ret
            exact ⟨retb (by rw [HM.out, HF.out]), hbel⟩
      · have e0 : ¬ 0 < k := by simpa using e
        obtain rfl : k = 0 := by omega
        have HF := Lib.hid (HT.out (fun j hj => absurd hj (by omega)))
        go_wp2_with fail
        go_loopw [5] (fun i wr => i = .int .i64 0 ∧ Below w.heap.size w wr) (fun i _ => 0)
        case atStart => exact ⟨rfl, Below.refl _ _⟩
        case round =>
          obtain ⟨rfl, hbel⟩ := hrel
          go_wp2
          go_ret
          exact ⟨retb (by rw [HM.out, HF.out]), hbel⟩
  · have hM : may l i = false := by
      unfold may
      rw [decide_eq_false (by omega)]
      simp
    have HM := Lib.hid hM
    clear hM h hl
    obtain h | ⟨h, h2⟩ : decide (i < 0) = true ∨ (decide (i < 0) = false ∧ decide ((n : Int) ≤ i) = true) := by simp; omega
    all_goals
      clear hin
      go_enter Try.func47, Try.ntmps47
      go_wp2_with fail
      go_ret
      exact ⟨by rw [HM.out]; rfl, Below.refl _ _⟩
end Go.Proofs.Ytdhihmeknoofoaa.PnY
