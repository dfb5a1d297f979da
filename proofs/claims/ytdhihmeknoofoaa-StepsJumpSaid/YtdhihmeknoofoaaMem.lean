/-
  SLICES THAT ARE READ: what a slice value holds, element by element; what is kept of it; how an argument is opened.
-/
import Derived.Test.YtdhihmeknoofoaaCommon
import Derived.Below
import Derived.ProofKit
import Derived.Deep.Slices
import Derived.Deep.Fields
import Derived.Deep.Draws
namespace Go.Proofs.Ytdhihmeknoofoaa.Mm
set_option linter.unusedVariables false
set_option linter.unusedSimpArgs false
open Go.RowKit

theorem below_drewN {B : Nat} {a w : World} (h : Below B a w) (n : Nat) : Below B a (w.drewN n) := ⟨h.os, h.tape, h.output, h.size, h.block⟩
theorem below_drawn (w : World) (n : Nat) : Below w.heap.size w (w.drewN n) := below_drewN (Below.refl _ _) n
/-- two calls, one behind the other -/
theorem below_seq {w w1 w2 : World} (h : Below w.heap.size w w1) (k : Below w1.heap.size w1 w2) : Below w.heap.size w w2 := h.trans (k.mono h.size)

/-- The slice '.slice A n cap': element i holds the cells 'E i' ('sz' of them). -/
structure Sl (w : World) (A : Option Addr) (n cap sz : Nat) (E : Nat → List Value) : Prop where
  le : n ≤ cap
  cap_le : cap ≤ maxLen
  at_ : 0 < n → ∃ b o, A = some ⟨b, o, none⟩ ∧ b < w.heap.size ∧ ∀ i, i < n → ∀ j, j < sz → w.cell? ⟨b, o + (i * sz + j), none⟩ = (E i)[j]?

theorem Sl.nil (w : World) (sz : Nat) (E : Nat → List Value) : Sl w none 0 0 sz E := ⟨Nat.le_refl _, by unfold maxLen; omega, fun h => absurd h (by omega)⟩
theorem Sl.keep {w w' : World} {A : Option Addr} {n cap sz : Nat} {E : Nat → List Value} (h : Sl w A n cap sz E) (hb : Below w.heap.size w w') : Sl w' A n cap sz E :=
  ⟨h.le, h.cap_le, fun hn => by
    obtain ⟨b, o, e, hl, hc⟩ := h.at_ hn
    exact ⟨b, o, e, Nat.lt_of_lt_of_le hl hb.size, fun i hi j hj => (hb.cell (p := ⟨b, o + (i * sz + j), none⟩) hl).trans (hc i hi j hj)⟩⟩
/-- 's[:k]' -/
theorem Sl.take {w : World} {A : Option Addr} {n cap sz k : Nat} {E : Nat → List Value} (h : Sl w A n cap sz E) (hk : k ≤ n) : Sl w A k cap sz E :=
  ⟨Nat.le_trans hk h.le, h.cap_le, fun h0 => by
    obtain ⟨b, o, e, hl, hc⟩ := h.at_ (by omega)
    exact ⟨b, o, e, hl, fun i hi j hj => hc i (by omega) j hj⟩⟩
/-- 's[k:]', the address moved -/
theorem Sl.drop {w : World} {b o n cap sz k : Nat} {E : Nat → List Value} (h : Sl w (some ⟨b, o, none⟩) n cap sz E) (hk : k ≤ n) : Sl w (some ⟨b, o + k * sz, none⟩) (n - k) (cap - k) sz (fun i => E (k + i)) :=
  ⟨by have := h.le; omega, by have := h.cap_le; omega, fun h0 => by
    obtain ⟨b', o', e, hl, hc⟩ := h.at_ (by omega)
    injection e with e
    injection e with e1 e2
    subst e1 e2
    refine ⟨_, _, rfl, hl, fun i hi j hj => ?_⟩
    have := hc (k + i) (by omega) j hj
    rw [show o + k * sz + (i * sz + j) = o + ((k + i) * sz + j) by rw [Nat.add_mul]; omega]
    exact this⟩
theorem Sl.ext {w : World} {A : Option Addr} {n cap sz : Nat} {E E' : Nat → List Value} (h : Sl w A n cap sz E) (he : ∀ i, i < n → E i = E' i) : Sl w A n cap sz E' :=
  ⟨h.le, h.cap_le, fun h0 => by
    obtain ⟨b, o, e, hl, hc⟩ := h.at_ h0
    exact ⟨b, o, e, hl, fun i hi j hj => by rw [← he i hi]; exact hc i hi j hj⟩⟩

/-- a list out of its elements -/
theorem list_of {α : Type} (d : α) {n : Nat} {p : Nat → α → Prop} (h : ∀ i, i < n → ∃ x, p i x) : ∃ l : List α, l.length = n ∧ ∀ i, i < n → p i (l.getD i d) := by
  induction n with
  | zero => exact ⟨[], rfl, fun i hi => absurd hi (by omega)⟩
  | succ n ih =>
    obtain ⟨l, hl, hp⟩ := ih fun i hi => h i (by omega)
    obtain ⟨x, hx⟩ := h n (by omega)
    refine ⟨l ++ [x], by simp [hl], fun i hi => ?_⟩
    by_cases hin : i < n
    · have := hp i hin
      rw [show (l ++ [x]).getD i d = l.getD i d by simp [List.getD, List.getElem?_append_left (show i < l.length by omega)]]
      exact this
    · obtain rfl : i = n := by omega
      rw [show (l ++ [x]).getD i d = x by simp [List.getD, List.getElem?_append_right (show l.length ≤ i by omega), hl]]
      exact hx

open Go.Deep in
/-- A slice among the arguments, opened: 'R' is what a reading of one element tells of its cells. -/
theorem open_sl {H : Type} {enc : TypeId × Value → H} {P : Program} {w : World} {base : Nat} {spare : Nat → Bool} {held : Bool} {t e : TypeId} {fuel : Nat} {cs : List Value} {x : DataW H × List MemPlace} {α : Type}
    (d : α) (f : α → List Value) (ok : α → Prop) (sz : Nat) (ht : P.underlying t = some (.slice e)) (hC : P.cellsOf e = sz) (hsz : 0 < sz)
    (hE : ∀ (n : Nat) (cs : List Value) (y : DataW H × List MemPlace), DataW.trod enc P w base spare held n e cs = some y → ∃ a, cs = f a ∧ ok a)
    (h : DataW.trod enc P w base spare held fuel t cs = some x) :
    ∃ (A : Option Addr) (n cap : Nat) (l : List α), cs = [.slice A n cap] ∧ l.length = n ∧ Sl w A n cap sz (fun i => f (l.getD i d)) ∧ (∀ i, i < n → ok (l.getD i d)) ∧ (∀ a, A = some a → base ≤ a.block) := by
  rcases open_slice ht h with ⟨rfl, _⟩ | ⟨a, len, cap, m, n, D, Pl, rfl, hb, hl, hm, hmm, _, hi⟩
  · exact ⟨none, 0, 0, [], rfl, rfl, Sl.nil _ _ _, fun i hi => absurd hi (by omega), fun a h => by cases h⟩
  · have hlm : len ≤ m := by rw [hmm]; split <;> omega
    have hx : ∀ i, i < len → ∃ c : α, w.cells? base (a.add (i * sz)) sz = some (f c) ∧ ok c := fun i hil => by
      obtain ⟨cs', h1, h2⟩ := hi i (by omega)
      obtain ⟨c, rfl, hc⟩ := hE _ _ _ h2
      exact ⟨c, by rw [← hC]; exact h1, hc⟩
    obtain ⟨l, hll, hp⟩ := list_of d hx
    refine ⟨some a, len, cap, l, rfl, hll, ⟨hl, hm, fun h0 => ?_⟩, fun i hi => (hp i hi).2, fun a' h => by cases h; exact hb⟩
    obtain ⟨_, hcl, hat⟩ := World.cells?_some (hp 0 h0).1
    have hfirst := hat 0 hsz
    have hlen0 : 0 < (f (l.getD 0 d)).length := by omega
    rw [List.getElem?_eq_getElem hlen0, Deep.add_add] at hfirst
    obtain ⟨b, o, spot⟩ := a
    have hspot : spot = none := by simpa [Addr.add] using World.cell?_spot hfirst
    subst hspot
    have hbw : b < w.heap.size := by
      rcases Nat.lt_or_ge b w.heap.size with hlt | hge
      · exact hlt
      · exfalso
        have : w.cell? ((⟨b, o, none⟩ : Addr).add (0 * sz + 0)) = none := by
          simp [Addr.add, World.cell?, Array.getElem?_eq_none hge]
        rw [this] at hfirst
        cases hfirst
    refine ⟨b, o, rfl, hbw, fun i hi j hj => ?_⟩
    obtain ⟨_, _, hat⟩ := World.cells?_some (hp i hi).1
    have := hat j hj
    rw [Deep.add_add] at this
    rw [← this]
    have e : ∀ k, (⟨b, o, none⟩ : Addr).add k = ⟨b, o + k, none⟩ := fun k => by
      unfold Addr.add
      split
      · rename_i h; subst h; rfl
      · rfl
    rw [e]

open Go.Deep in
/-- A struct whose fields are one cell each, read: each field's own reading. -/
theorem struct_cells {H : Type} {enc : TypeId × Value → H} {P : Program} {w : World} {base : Nat} {spare : Nat → Bool} {held : Bool} {t : TypeId} {fuel : Nat} {cs : List Value} {x : DataW H × List MemPlace} {fs : Array Field}
    (hs : P.underlying t = some (.struct fs)) (hone : oneCellFields P fs = true) (hC : P.cellsOf t = fs.size) (h : DataW.trod enc P w base spare held fuel t cs = some x) :
    cs.length = fs.size ∧ ∀ (i : Nat) (f : Field), fs[i]? = some f → ∃ (n : Nat) (y : DataW H × List MemPlace), DataW.trod enc P w base spare held n f.type [cs.getD i undef] = some y := by
  obtain ⟨xs, n, _, _, hlen, hxl, hg⟩ := DataW.trod_struct hs h
  rw [hC] at hlen
  refine ⟨hlen, fun i f hf => ?_⟩
  obtain ⟨ho, hk⟩ := hone_of hone i f hf
  have hi : i < fs.size := (Array.getElem?_eq_some_iff.1 hf).1
  have h1 := hg i f hf
  rw [ho, hk, take1_drop cs i undef (by omega), List.getElem?_eq_getElem (by omega)] at h1
  exact ⟨n, _, h1⟩
end Go.Proofs.Ytdhihmeknoofoaa.Mm
