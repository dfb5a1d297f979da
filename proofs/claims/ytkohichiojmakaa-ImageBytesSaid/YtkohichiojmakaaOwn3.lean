/-
  OWN ROWS: a store into one cell. No program here.
-/
import Derived.Test.YtkohichiojmakaaOwn2
import Derived.Laws.OwnMore
namespace Go.Proofs.Ytkohichiojmakaa.Ow3
set_option linter.unusedVariables false
set_option linter.unusedSimpArgs false
open Go.RowKit Cm Mm Ow Ow2

theorem flat_set {sz : Nat} (u : Value) : ∀ (L : List (List Value)) (h : ∀ x ∈ L, x.length = sz) (i j : Nat), i < L.length → j < sz → L.flatten.set (i * sz + j) u = (L.set i ((L.getD i []).set j u)).flatten
  | [], _, i, j, hi, _ => absurd hi (by simp)
  | x :: L, h, 0, j, _, hj => by
    have hx := h x (by simp)
    simp only [List.flatten_cons, Nat.zero_mul, Nat.zero_add, List.set_cons_zero, List.getD_cons_zero]
    rw [List.set_append_left _ _ (by omega)]
  | x :: L, h, i + 1, j, hi, hj => by
    have hx := h x (by simp)
    have ih := flat_set u L (fun y hy => h y (by simp [hy])) i j (by simpa using hi) hj
    simp only [List.flatten_cons, List.set_cons_succ, List.getD_cons_succ]
    rw [List.set_append_right _ _ (by rw [Nat.succ_mul]; omega), ← ih]
    congr 2
    rw [Nat.succ_mul]; omega
theorem own_store {w : World} {base : Nat} {e : TypeId} {sz g n cap : Nat} {L : List (List Value)} (h : Own w base e sz (some ⟨g, 0, none⟩) n cap L) {i j : Nat} (hi : i < n) (hj : j < sz) (u : Value) :
    Own (w.setCell ⟨g, i * sz + j, none⟩ u) base e sz (some ⟨g, 0, none⟩) n cap (L.set i ((L.getD i []).set j u)) := by
  refine ⟨by rw [List.length_set]; exact h.len, fun x hx => ?_, ?_⟩
  · rcases List.mem_or_eq_of_mem_set hx with h1 | rfl
    · exact h.each x h1
    · rw [List.length_set]
      have hl := h.len
      exact h.each _ (by simp only [List.getD, List.getElem?_eq_getElem (show i < L.length by omega), Option.getD_some]; exact List.getElem_mem _)
  · rw [← flat_set u L h.each i j (by rw [h.len]; exact hi) hj]
    exact (h.row.stored (i * sz + j) u).1
theorem own_cell {w : World} {base : Nat} {e : TypeId} {sz g n cap : Nat} {L : List (List Value)} (h : Own w base e sz (some ⟨g, 0, none⟩) n cap L) {i j : Nat} (hi : i < n) (hj : j < sz) :
    w.cell? ⟨g, i * sz + j, none⟩ = (L.getD i [])[j]? ∧ w.frozen? ⟨g, i * sz + j, none⟩ = false := by
  refine ⟨?_, h.row.frozenAt _⟩
  obtain ⟨b, o, e1, hb, hc⟩ := h.sl.at_ (by omega)
  obtain ⟨rfl, rfl⟩ : g = b ∧ 0 = o := by simpa using e1
  have := hc i hi j hj
  rwa [Nat.zero_add] at this
theorem own_head {w : World} {base : Nat} {e : TypeId} {sz : Nat} {A : Option Addr} {n cap : Nat} {L : List (List Value)} (h : Own w base e sz A n cap L) (hn : 0 < n) : ∃ g, A = some ⟨g, 0, none⟩ := by
  rcases h.row.2 with ⟨h1, h2⟩ | ⟨g, c, cur, h1, _⟩
  · have := h.len; have := h.each
    injection h1 with h1 h2 h3
    omega
  · injection h1 with e1; exact ⟨g, e1⟩
end Go.Proofs.Ytkohichiojmakaa.Ow3
