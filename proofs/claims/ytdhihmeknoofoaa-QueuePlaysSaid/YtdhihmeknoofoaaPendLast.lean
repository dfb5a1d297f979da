/-
  WALKS: the document's Last.
-/
import Derived.Test.YtdhihmeknoofoaaPendWalks
namespace Go.Proofs.Ytdhihmeknoofoaa.PnL
set_option linter.unusedVariables false
set_option linter.unusedSimpArgs false
open Go.RowKit Cm Mm Ow Pnd PnW

theorem rev_find {p : Wr → Bool} : ∀ (l : List Wr), l.reverse.find? p = (l.filter p).getLast? := fun l => by
  rw [← List.head?_filter, List.filter_reverse, List.head?_reverse]
theorem last_none (l : List Wr) (a : Int) (h : ∀ i, i < l.length → ((l.getD i zeroWr).at' == a) = false) : last l a = none := by
  unfold last
  rw [List.find?_eq_none]
  intro x hx
  obtain ⟨i, hi, rfl⟩ := List.getElem_of_mem (List.mem_reverse.1 hx)
  have := h i hi
  simpa [List.getD, hi] using this
theorem last_at (l : List Wr) (a : Int) (k : Nat) (hk : k < l.length) (hs : ((l.getD k zeroWr).at' == a) = true) (h : ∀ i, k < i → i < l.length → ((l.getD i zeroWr).at' == a) = false) : last l a = some (l.getD k zeroWr) := by
  have e : l = l.take k ++ (l.getD k zeroWr :: l.drop (k + 1)) := split_at l k hk
  have h2 : (l.drop (k + 1)).filter (fun x => x.at' == a) = [] := by
    rw [List.filter_eq_nil_iff]
    intro x hx
    obtain ⟨i, hi, rfl⟩ := List.getElem_of_mem hx
    have hi' : k + 1 + i < l.length := by rw [List.length_drop] at hi; omega
    have := h (k + 1 + i) (by omega) hi'
    rw [List.getElem_drop]
    simpa [List.getD, hi'] using this
  unfold last
  rw [rev_find]
  conv => lhs; rw [e]
  rw [List.filter_append, List.filter_cons, if_pos hs, h2]
  simp
set_option maxHeartbeats 1600000 in
theorem rlast_any (A : Option Addr) (n cap : Nat) (a : Int) (l : List Wr) (w : World) (h : IsW w A n cap l) (hn : n ≤ 65536) :
    Calls Try.prog 34 #[.slice A n cap, .int .i64 a] w fun e w' => e = .returned (.tuple #[.int .u64 (lastV l a), .bool (lastOk l a)]) ∧ w = w' := by
  have hl := Lib.hid h.1
  have HI := Lib.hid h
  clear h
  go_enter Try.func34, Try.ntmps34
  go_wp2_with fail
  go_loop [6] (fun i => ∃ (k : Nat), k ≤ n ∧ i = .int .i64 ((k : Int) - 1) ∧ Hid (∀ x, k ≤ x → x < n → ((l.getD x zeroWr).at' == a) = false)) (fun i => (intOf i + 1).toNat)
  case atStart => exact ⟨n, Nat.le_refl _, rfl, fun x h1 h2 => absurd h1 (by omega)⟩
  case round =>
    obtain ⟨k, hk, rfl, hno⟩ := hrel
    by_cases h0 : 1 ≤ k
    · obtain ⟨j, rfl⟩ : ∃ j, k = j + 1 := ⟨k - 1, by omega⟩
      obtain ⟨b, o, rfl, hb, g0, g1, g2⟩ := HI.out.cell (k := j) (by omega)
      clear g2 hb
      generalize hc : l.getD j zeroWr = c at *
      have HC := Lib.hid hc; clear hc
      obtain ⟨c1, c2, c3⟩ := c
      have e1 : ((j + 1 : Nat) : Int) - 1 = (j : Int) := by omega
      rw [e1]
      have f1 : (0 : Int) ≤ (j : Int) := by omega
      have f2 : (j : Int) < (n : Int) := by omega
      have f3 : (j : Int) ≤ 65536 := by omega
      cases hs : (c1 == a)
      · go_wp2_with fail
        go_round
        case rel => exact ⟨j, by omega, rfl, fun x h1 h2 => by
          by_cases e : x = j
          · subst e; rw [HC.out]; exact hs
          · exact hno.out x (by omega) h2⟩
        case measure => first | (simp [intOf]; done) | (simp [intOf]; omega)
      · have hlast := last_at l a j (by rw [hl.out]; omega) (by rw [HC.out]; exact hs) (fun i h1 h2 => hno.out i (by omega) (by rw [hl.out] at h2; exact h2))
        rw [HC.out] at hlast
        have HLa := Lib.hid hlast
        clear hlast
        go_wp2_with fail
        go_ret2
        exact ⟨by unfold lastV lastOk; rw [HLa.out]; rfl, rfl⟩
    · obtain rfl : k = 0 := by omega
      have hlast := last_none l a (fun i hi => hno.out i (by omega) (by rw [hl.out] at hi; exact hi))
      have HLa := Lib.hid hlast
      clear hlast
      go_wp2_with fail
      go_ret2
      exact ⟨by unfold lastV lastOk; rw [HLa.out]; rfl, rfl⟩
end Go.Proofs.Ytdhihmeknoofoaa.PnL
