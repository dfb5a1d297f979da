/-
  OWN ROWS OF INSTRUCTIONS: a whole one stored; what PatchLeads makes.
-/
import Derived.Test.YtkohichiojmakaaPatOpen
import Derived.Test.YtkohichiojmakaaPatSame
import Derived.OwnWalk
namespace Go.Proofs.Ytkohichiojmakaa.PatP
set_option linter.unusedVariables false
set_option linter.unusedSimpArgs false
open Go.RowKit Cm Mm Ow Ow2 Ow3 A64 A64W A64P Pat InW PatK PatR

theorem own_again {w : World} {base : Nat} {e : TypeId} {sz g n cap : Nat} {L : List (List Value)} {i j : Nat} {y : List Value} (h : Own w base e sz (some ⟨g, 0, none⟩) n cap (L.set i y)) (hi : i < n) (hj : j < sz) (u : Value) :
    Own (w.setCell ⟨g, i * sz + j, none⟩ u) base e sz (some ⟨g, 0, none⟩) n cap (L.set i (y.set j u)) := by
  have hl := h.len
  rw [List.length_set] at hl
  have := own_store h hi hj u
  rw [List.set_set] at this
  have e1 : (L.set i y).getD i [] = y := by simp [List.getD, show i < L.length by omega]
  rwa [e1] at this
theorem in_put {w : World} {base g n cap : Nat} {l : List In} (h : Own w base 45 7 (some ⟨g, 0, none⟩) n cap (l.map insL)) {k : Nat} (hk : k < n) (z0 z1 z2 z3 z4 z5 z6 : Int) :
    Own (((((((w.setCell ⟨g, k * 7, none⟩ (.int .i64 z0)).setCell ⟨g, k * 7 + 1, none⟩ (.int .i64 z1)).setCell ⟨g, k * 7 + 2, none⟩ (.int .i64 z2)).setCell ⟨g, k * 7 + 3, none⟩ (.int .i64 z3)).setCell ⟨g, k * 7 + 4, none⟩ (.int .i64 z4)).setCell ⟨g, k * 7 + 5, none⟩ (.int .i64 z5)).setCell ⟨g, k * 7 + 6, none⟩ (.int .i64 z6))
      base 45 7 (some ⟨g, 0, none⟩) n cap ((l.set k ⟨z0, z1, z2, z3, z4, z5, z6⟩).map insL) := by
  have hl : l.length = n := by simpa using h.len
  have e : (l.map insL).getD k [] = insL (l.getD k zeroIn) := by simp [List.getD, show k < l.length by omega]
  have h0 := own_store h hk (j := 0) (by omega) (.int .i64 z0)
  rw [e] at h0
  have h6 := own_again (own_again (own_again (own_again (own_again (own_again h0 hk (j := 1) (by omega) (.int .i64 z1)) hk (j := 2) (by omega) (.int .i64 z2)) hk (j := 3) (by omega) (.int .i64 z3)) hk (j := 4) (by omega) (.int .i64 z4)) hk (j := 5) (by omega) (.int .i64 z5)) hk (j := 6) (by omega) (.int .i64 z6)
  rw [List.map_set]
  exact h6
theorem put_below {w w0 : World} {base g : Nat} (hg : base ≤ g) (hb : Below base w0 w) (o : Nat) (u0 u1 u2 u3 u4 u5 u6 : Value) :
    Below base w0 (((((((w.setCell ⟨g, o, none⟩ u0).setCell ⟨g, o + 1, none⟩ u1).setCell ⟨g, o + 2, none⟩ u2).setCell ⟨g, o + 3, none⟩ u3).setCell ⟨g, o + 4, none⟩ u4).setCell ⟨g, o + 5, none⟩ u5).setCell ⟨g, o + 6, none⟩ u6) :=
  ((((((hb.setCell (p := ⟨g, o, none⟩) hg _).setCell (p := ⟨g, o + 1, none⟩) hg _).setCell (p := ⟨g, o + 2, none⟩) hg _).setCell (p := ⟨g, o + 3, none⟩) hg _).setCell (p := ⟨g, o + 4, none⟩) hg _).setCell (p := ⟨g, o + 5, none⟩) hg _).setCell (p := ⟨g, o + 6, none⟩) hg _

/-! what PatchLeads makes -/
def nop : In := ⟨21, 0, 0, 0, 0, 0, 0⟩
def cbz (a i : Int) : In := ⟨10, 0, a, 1, 0, 0, i⟩
def led (M : Nat) (x : In) : Prop := x = nop ∨ ∃ a i : Int, 0 ≤ i ∧ i < M ∧ 0 ≤ a ∧ a ≤ 15 ∧ x = cbz a i
theorem led_more {M M' : Nat} {x : In} (h : led M x) (hM : M ≤ M') : led M' x := by
  rcases h with h | ⟨a, i, h1, h2, h3⟩
  · exact .inl h
  · exact .inr ⟨a, i, h1, by omega, h3⟩
theorem right_cbz0 : ∀ (a : Fin 16) (d : Fin 201), right ⟨10, 0, (a.val : Int), 0, 0, 0, (d.val : Int) - 100⟩ = true := by decide +kernel
theorem right_cbz {a d : Int} (h1 : 0 ≤ a) (h2 : a ≤ 15) (h3 : -100 ≤ d) (h4 : d ≤ 100) : right ⟨10, 0, a, 0, 0, 0, d⟩ = true := by
  have := right_cbz0 ⟨a.toNat, by omega⟩ ⟨(d + 100).toNat, by omega⟩
  rwa [show ((a.toNat : Nat) : Int) = a by omega, show (((d + 100).toNat : Nat) : Int) - 100 = d by omega] at this
theorem led_ok {n M k : Nat} {lb : List Int} {x : In} (h : led M x) (hM : lb.length = M) (hlb : ∀ j, j < M → 0 ≤ lb.getD j 0 ∧ lb.getD j 0 < n) (hk : k < n) (hn : n ≤ 100) : okAt n lb k x = true := by
  rcases h with rfl | ⟨a, i, h1, h2, h3, h4, rfl⟩
  · exact ok_no (by decide)
  · have hb := hlb i.toNat (by omega)
    rw [ok_yes (asks_yes (by show br 10 = true; decide) rfl) (lead_yes (by show 0 ≤ i ∧ i < lb.length; omega) (by show 0 ≤ lb.getD i.toNat 0 ∧ lb.getD i.toNat 0 ≤ n; omega))]
    exact right_cbz h3 h4 (by show -100 ≤ lb.getD i.toNat 0 - (k : Int); omega) (by show lb.getD i.toNat 0 - (k : Int) ≤ 100; omega)
theorem led_in {M : Nat} {x : In} (h : led M x) (hM : M ≤ 100) : okIn x := by
  rcases h with rfl | ⟨a, i, h1, h2, h3, h4, rfl⟩
  · unfold okIn i64b; decide
  · unfold okIn i64b cbz
    dsimp only
    omega
theorem led_link {n M : Nat} {lb : List Int} {l : List In} (hl : l.length = n) (h : ∀ j, j < n → led M (l.getD j zeroIn)) (hM : lb.length = M) (hlb : ∀ j, j < M → 0 ≤ lb.getD j 0 ∧ lb.getD j 0 < n) (hn : n ≤ 100) : link l lb = (outTo lb l n, 0) := by
  have := link_good (l := l) (lb := lb) (by
    unfold okTo
    rw [List.all_eq_true]
    intro j hj
    rw [List.mem_range] at hj
    rw [hl]
    exact led_ok (h j (by omega)) hM hlb (by omega) hn)
  rwa [hl] at this
theorem led_set {n M k : Nat} {l : List In} {x : In} (hl : l.length = n) (h : ∀ j, j < n → led M (l.getD j zeroIn)) (hx : led (M + 1) x) : ∀ j, j < n → led (M + 1) ((l.set k x).getD j zeroIn) := fun j hj => by
  simp only [List.getD, List.getElem?_set]
  by_cases e : k = j
  · subst e
    rw [if_pos rfl, if_pos (by omega)]
    exact hx
  · rw [if_neg e]
    exact led_more (h j hj) (by omega)
end Go.Proofs.Ytkohichiojmakaa.PatP
