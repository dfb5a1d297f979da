/-
  SLICES THAT ARE READ: what a slice value holds, element by element; what is kept of it; how an argument is opened.
-/
import Derived.Test.YtkohichiojmakaaGPlain
import Derived.Below
import Derived.ProofKit
import Derived.Deep.Slices
import Derived.Deep.Fields
import Derived.Deep.Draws
import Derived.Maps.AppendAt
import Derived.Deep.AppendLies
import Derived.OwnWalk
import Derived.Laws.OwnMore
import Derived.Deep.RegionHeld3
namespace Go.Proofs.Ytkohichiojmakaa.Mm
set_option linter.unusedVariables false
set_option linter.unusedSimpArgs false
open Go.RowKit

theorem below_drewN {B : Nat} {a w : World} (h : Below B a w) (n : Nat) : Below B a (w.drewN n) := ⟨h.os, h.tape, h.output, h.size, h.block⟩
theorem below_drawn (w : World) (n : Nat) : Below w.heap.size w (w.drewN n) := below_drewN (Below.refl _ _) n
/-- two calls, one behind the other -/
theorem below_seq {w w1 w2 : World} (h : Below w.heap.size w w1) (k : Below w1.heap.size w1 w2) : Below w.heap.size w w2 := h.trans (k.mono h.size)

/-- The slice '.slice A n cap': element i holds the cells 'E i' ('sz' of them). -/
structure Sl (w : World) (A : Option Addr) (n cap sz : Nat) (E : Nat → List Value) : Prop where
  le : n ≤ cap
  cap_le : cap ≤ maxLen
  at_ : 0 < n → ∃ b o, A = some ⟨b, o, none⟩ ∧ b < w.heap.size ∧ ∀ i, i < n → ∀ j, j < sz → w.cell? ⟨b, o + (i * sz + j), none⟩ = (E i)[j]?

theorem Sl.nil (w : World) (sz : Nat) (E : Nat → List Value) : Sl w none 0 0 sz E := ⟨Nat.le_refl _, by unfold maxLen; omega, fun h => absurd h (by omega)⟩
theorem Sl.keep {w w' : World} {A : Option Addr} {n cap sz : Nat} {E : Nat → List Value} (h : Sl w A n cap sz E) (hb : Below w.heap.size w w') : Sl w' A n cap sz E :=
  ⟨h.le, h.cap_le, fun hn => by
    obtain ⟨b, o, e, hl, hc⟩ := h.at_ hn
    exact ⟨b, o, e, Nat.lt_of_lt_of_le hl hb.size, fun i hi j hj => (hb.cell (p := ⟨b, o + (i * sz + j), none⟩) hl).trans (hc i hi j hj)⟩⟩
/-- 's[:k]' -/
theorem Sl.take {w : World} {A : Option Addr} {n cap sz k : Nat} {E : Nat → List Value} (h : Sl w A n cap sz E) (hk : k ≤ n) : Sl w A k cap sz E :=
  ⟨Nat.le_trans hk h.le, h.cap_le, fun h0 => by
    obtain ⟨b, o, e, hl, hc⟩ := h.at_ (by omega)
    exact ⟨b, o, e, hl, fun i hi j hj => hc i (by omega) j hj⟩⟩
/-- 's[k:]', the address moved -/
theorem Sl.drop {w : World} {b o n cap sz k : Nat} {E : Nat → List Value} (h : Sl w (some ⟨b, o, none⟩) n cap sz E) (hk : k ≤ n) : Sl w (some ⟨b, o + k * sz, none⟩) (n - k) (cap - k) sz (fun i => E (k + i)) :=
  ⟨by have := h.le; omega, by have := h.cap_le; omega, fun h0 => by
    obtain ⟨b', o', e, hl, hc⟩ := h.at_ (by omega)
    injection e with e
    injection e with e1 e2
    subst e1 e2
    refine ⟨_, _, rfl, hl, fun i hi j hj => ?_⟩
    have := hc (k + i) (by omega) j hj
    rw [show o + k * sz + (i * sz + j) = o + ((k + i) * sz + j) by rw [Nat.add_mul]; omega]
    exact this⟩
theorem Sl.ext {w : World} {A : Option Addr} {n cap sz : Nat} {E E' : Nat → List Value} (h : Sl w A n cap sz E) (he : ∀ i, i < n → E i = E' i) : Sl w A n cap sz E' :=
  ⟨h.le, h.cap_le, fun h0 => by
    obtain ⟨b, o, e, hl, hc⟩ := h.at_ h0
    exact ⟨b, o, e, hl, fun i hi j hj => by rw [← he i hi]; exact hc i hi j hj⟩⟩

/-- a list out of its elements -/
theorem list_of {α : Type} (d : α) {n : Nat} {p : Nat → α → Prop} (h : ∀ i, i < n → ∃ x, p i x) : ∃ l : List α, l.length = n ∧ ∀ i, i < n → p i (l.getD i d) := by
  induction n with
  | zero => exact ⟨[], rfl, fun i hi => absurd hi (by omega)⟩
  | succ n ih =>
    obtain ⟨l, hl, hp⟩ := ih fun i hi => h i (by omega)
    obtain ⟨x, hx⟩ := h n (by omega)
    refine ⟨l ++ [x], by simp [hl], fun i hi => ?_⟩
    by_cases hin : i < n
    · have := hp i hin
      rw [show (l ++ [x]).getD i d = l.getD i d by simp [List.getD, List.getElem?_append_left (show i < l.length by omega)]]
      exact this
    · obtain rfl : i = n := by omega
      rw [show (l ++ [x]).getD i d = x by simp [List.getD, List.getElem?_append_right (show l.length ≤ i by omega), hl]]
      exact hx

open Go.Deep in
/-- A slice among the arguments, opened: 'R' is what a reading of one element tells of its cells. -/
theorem open_sl {H : Type} {enc : TypeId × Value → H} {P : Program} {w : World} {base : Nat} {spare : Nat → Bool} {held : Bool} {t e : TypeId} {fuel : Nat} {cs : List Value} {x : DataW H × List MemPlace} {α : Type}
    (d : α) (f : α → List Value) (ok : α → Prop) (sz : Nat) (ht : P.underlying t = some (.slice e)) (hC : P.cellsOf e = sz) (hsz : 0 < sz)
    (hE : ∀ (n : Nat) (cs : List Value) (y : DataW H × List MemPlace), DataW.trod enc P w base spare held n e cs = some y → ∃ a, cs = f a ∧ ok a)
    (h : DataW.trod enc P w base spare held fuel t cs = some x) :
    ∃ (A : Option Addr) (n cap : Nat) (l : List α), cs = [.slice A n cap] ∧ l.length = n ∧ Sl w A n cap sz (fun i => f (l.getD i d)) ∧ (∀ i, i < n → ok (l.getD i d)) ∧ (∀ a, A = some a → base ≤ a.block) := by
  rcases open_slice ht h with ⟨rfl, _⟩ | ⟨a, len, cap, m, n, D, Pl, rfl, hb, hl, hm, hmm, _, hi⟩
  · exact ⟨none, 0, 0, [], rfl, rfl, Sl.nil _ _ _, fun i hi => absurd hi (by omega), fun a h => by cases h⟩
  · have hlm : len ≤ m := by rw [hmm]; split <;> omega
    have hx : ∀ i, i < len → ∃ c : α, w.cells? base (a.add (i * sz)) sz = some (f c) ∧ ok c := fun i hil => by
      obtain ⟨cs', h1, h2⟩ := hi i (by omega)
      obtain ⟨c, rfl, hc⟩ := hE _ _ _ h2
      exact ⟨c, by rw [← hC]; exact h1, hc⟩
    obtain ⟨l, hll, hp⟩ := list_of d hx
    refine ⟨some a, len, cap, l, rfl, hll, ⟨hl, hm, fun h0 => ?_⟩, fun i hi => (hp i hi).2, fun a' h => by cases h; exact hb⟩
    obtain ⟨_, hcl, hat⟩ := World.cells?_some (hp 0 h0).1
    have hfirst := hat 0 hsz
    have hlen0 : 0 < (f (l.getD 0 d)).length := by omega
    rw [List.getElem?_eq_getElem hlen0, Deep.add_add] at hfirst
    obtain ⟨b, o, spot⟩ := a
    have hspot : spot = none := by simpa [Addr.add] using World.cell?_spot hfirst
    subst hspot
    have hbw : b < w.heap.size := by
      rcases Nat.lt_or_ge b w.heap.size with hlt | hge
      · exact hlt
      · exfalso
        have : w.cell? ((⟨b, o, none⟩ : Addr).add (0 * sz + 0)) = none := by
          simp [Addr.add, World.cell?, Array.getElem?_eq_none hge]
        rw [this] at hfirst
        cases hfirst
    refine ⟨b, o, rfl, hbw, fun i hi j hj => ?_⟩
    obtain ⟨_, _, hat⟩ := World.cells?_some (hp i hi).1
    have := hat j hj
    rw [Deep.add_add] at this
    rw [← this]
    have e : ∀ k, (⟨b, o, none⟩ : Addr).add k = ⟨b, o + k, none⟩ := fun k => by
      unfold Addr.add
      split
      · rename_i h; subst h; rfl
      · rfl
    rw [e]

open Go.Deep in
/-- A struct whose fields are one cell each, read: each field's own reading. -/
theorem struct_cells {H : Type} {enc : TypeId × Value → H} {P : Program} {w : World} {base : Nat} {spare : Nat → Bool} {held : Bool} {t : TypeId} {fuel : Nat} {cs : List Value} {x : DataW H × List MemPlace} {fs : Array Field}
    (hs : P.underlying t = some (.struct fs)) (hone : oneCellFields P fs = true) (hC : P.cellsOf t = fs.size) (h : DataW.trod enc P w base spare held fuel t cs = some x) :
    cs.length = fs.size ∧ ∀ (i : Nat) (f : Field), fs[i]? = some f → ∃ (n : Nat) (y : DataW H × List MemPlace), DataW.trod enc P w base spare held n f.type [cs.getD i undef] = some y := by
  obtain ⟨xs, n, _, _, hlen, hxl, hg⟩ := DataW.trod_struct hs h
  rw [hC] at hlen
  refine ⟨hlen, fun i f hf => ?_⟩
  obtain ⟨ho, hk⟩ := hone_of hone i f hf
  have hi : i < fs.size := (Array.getElem?_eq_some_iff.1 hf).1
  have h1 := hg i f hf
  rw [ho, hk, take1_drop cs i undef (by omega), List.getElem?_eq_getElem (by omega)] at h1
  exact ⟨n, _, h1⟩
end Go.Proofs.Ytkohichiojmakaa.Mm
/-
  SLICES THAT A CALL MAKES: a slice that owns its row, as a list of elements (each a list of cells); append.
-/
namespace Go.Proofs.Ytkohichiojmakaa.Ow
set_option linter.unusedVariables false
set_option linter.unusedSimpArgs false
open Go.RowKit Mm

/-- '.slice A n cap' owns the elements L, of 'sz' cells of type e, in a row from block 'base' on. -/
structure Own (w : World) (base : Nat) (e : TypeId) (sz : Nat) (A : Option Addr) (n cap : Nat) (L : List (List Value)) : Prop where
  len : L.length = n
  each : ∀ x ∈ L, x.length = sz
  row : w.ownsRow base e sz (.slice A n cap) n L.flatten

theorem Own.nil (w : World) (base : Nat) (e : TypeId) (sz : Nat) : Own w base e sz none 0 0 [] := ⟨rfl, fun x h => by simp at h, World.ownsRow_nil _ _ _ _⟩
theorem ownBlock_eq (A : Option Addr) (n cap : Nat) : (Value.slice A n cap).ownBlock = A.map (·.block) := by cases A <;> rfl
theorem Own.lt {w : World} {base : Nat} {e : TypeId} {sz : Nat} {A : Option Addr} {n cap : Nat} {L : List (List Value)} (h : Own w base e sz A n cap L) : ∀ g, A.map (·.block) = some g → base ≤ g ∧ g < w.heap.size := fun g hg =>
  h.row.lt g (by rw [ownBlock_eq]; exact hg)
theorem Own.keep {w w' : World} {base : Nat} {e : TypeId} {sz : Nat} {A : Option Addr} {n cap : Nat} {L : List (List Value)} (h : Own w base e sz A n cap L) (hb : Below w.heap.size w w') : Own w' base e sz A n cap L :=
  ⟨h.len, h.each, h.row.kept (row := none) ⟨hb.os, hb.tape, hb.output, hb.size, fun k hk _ => hb.block k hk⟩ (by
    cases A with
    | none => exact .inl rfl
    | some a => exact .inr (by simp [Value.ownBlock]))⟩
/-- another row is written -/
theorem Own.far {w w' : World} {base : Nat} {e : TypeId} {sz : Nat} {A : Option Addr} {n cap : Nat} {L : List (List Value)} {r : Option Nat} (h : Own w base e sz A n cap L) (hg : w.grownBy w' r) (hne : ∀ g, A.map (·.block) = some g → r ≠ some g) : Own w' base e sz A n cap L :=
  ⟨h.len, h.each, h.row.kept hg (by
    cases A with
    | none => exact .inl rfl
    | some a => exact .inr (fun e => hne a.block rfl (by rw [← e]; rfl)))⟩
theorem Own.low {w : World} {base base' : Nat} {e : TypeId} {sz : Nat} {A : Option Addr} {n cap : Nat} {L : List (List Value)} (h : Own w base e sz A n cap L) (hb : base' ≤ base) : Own w base' e sz A n cap L :=
  ⟨h.len, h.each, h.row.1, by
    rcases h.row.2 with h1 | ⟨g, c, cur, h1, h2, h3⟩
    · exact .inl h1
    · exact .inr ⟨g, c, cur, h1, by omega, h3⟩⟩
/-- the element type tells a row from another block -/
theorem Own.type {w : World} {base : Nat} {e : TypeId} {sz : Nat} {A : Option Addr} {n cap : Nat} {L : List (List Value)} (h : Own w base e sz A n cap L) {g : Nat} (hg : A.map (·.block) = some g) : ∃ cur, w.heap[g]? = some (.cells cur e (0, 0)) := by
  rcases h.row.2 with ⟨h1, _⟩ | ⟨g', c, cur, h1, _, h3, _⟩
  · injection h1 with h1; subst h1; cases hg
  · injection h1 with h1; subst h1
    simp at hg
    subst hg
    exact ⟨cur, h3⟩

theorem flat_get {L : List (List Value)} {sz : Nat} (h : ∀ x ∈ L, x.length = sz) : ∀ (i j : Nat), i < L.length → j < sz → L.flatten[i * sz + j]? = (L.getD i [])[j]? := by
  induction L with
  | nil => intro i j hi; simp at hi
  | cons x L ih =>
    intro i j hi hj
    have hx : x.length = sz := h x (by simp)
    cases i with
    | zero =>
      simp only [List.flatten_cons, Nat.zero_mul, Nat.zero_add]
      rw [List.getElem?_append_left (by omega)]
      rfl
    | succ i =>
      simp only [List.flatten_cons]
      rw [List.getElem?_append_right (by rw [Nat.succ_mul]; omega)]
      have e : (i + 1) * sz + j - x.length = i * sz + j := by rw [Nat.succ_mul]; omega
      rw [e, ih (fun y hy => h y (by simp [hy])) i j (by simpa using hi) hj]
      rfl
theorem flat_len {L : List (List Value)} {sz : Nat} (h : ∀ x ∈ L, x.length = sz) : L.flatten.length = L.length * sz := by
  induction L with
  | nil => simp
  | cons x L ih => simp only [List.flatten_cons, List.length_append, List.length_cons]; rw [ih (fun y hy => h y (by simp [hy])), h x (by simp), Nat.succ_mul]; omega

/-- it may be read -/
theorem Own.sl {w : World} {base : Nat} {e : TypeId} {sz : Nat} {A : Option Addr} {n cap : Nat} {L : List (List Value)} (h : Own w base e sz A n cap L) : Sl w A n cap sz (fun i => L.getD i []) := by
  rcases h.row.2 with ⟨h1, h2⟩ | ⟨g, c, cur, h1, h2, h3, h4, h5, h6, h7⟩
  · injection h1 with h1 h2 h3
    subst h1 h2 h3
    exact Sl.nil _ _ _
  · injection h1 with e1 e2 e3
    subst e1 e3
    refine ⟨h4, h5, fun h0 => ⟨g, 0, rfl, ?_, fun i hi j hj => ?_⟩⟩
    · exact (h.lt g rfl).2
    · have hf := flat_get h.each i j (by rw [h.len]; exact hi) hj
      have hl := flat_len h.each
      have hij : i * sz + j < n * sz := by
        have := Nat.mul_le_mul_right sz (show i + 1 ≤ n by omega)
        rw [Nat.succ_mul] at this
        omega
      have hx : i * sz + j < L.flatten.length := by rw [hl, h.len]; exact hij
      rw [← hf, List.getElem?_eq_getElem hx]
      have := h.row.cells (g := g) (by rfl) (i * sz + j) _ (List.getElem?_eq_getElem hx)
      have ea : (⟨g, 0, none⟩ : Addr).add (i * sz + j) = ⟨g, 0 + (i * sz + j), none⟩ := by
        unfold Addr.add
        split
        · rename_i h0; rw [h0]
        · simp
      rw [ea] at this
      exact this

/-- an element type's row of the table -/
structure El (P : Program) (t e : TypeId) (sz bytes : Nat) : Prop where
  slice : P.underlying t = some (.slice e)
  info : ∃ i z, P.info? e = some i ∧ i.zero = some z ∧ i.size = sz ∧ i.bytes = bytes ∧ z.cells.size = sz
  pos : 0 < sz

theorem run_load0 {P : Program} (w : World) (a : Addr) : (loadCells a 0).run P w = .ok #[] w := by simp [loadCells]; rfl

theorem run_app {P : Program} (w : World) {t e : TypeId} {sz bytes : Nat} (ty : TypeId) (hel : El P t e sz bytes) (base : Nat) (A : Option Addr) (n cap : Nat) (L : List (List Value)) (hown : Own w base e sz A n cap L)
    (A' : Option Addr) (m c : Nat) (N : Nat → List Value) (hsl : Sl w A' m c sz N) (hN : ∀ i, i < m → (N i).length = sz) (h1 : ∀ i, i < m → ∀ u ∈ N i, u.oneCell' = true)
    (h63 : n + m ≤ maxLen) (hbytes : (n + m) * bytes ≤ 140737488355328) (hbase : base ≤ w.heap.size) :
    ∃ A2 c2 w', (Builtin.append_ #[t, t] ty #[.slice A n cap, .slice A' m c]).run P w = .ok (.slice A2 (n + m) c2) w' ∧ Own w' base e sz A2 (n + m) c2 (L ++ (List.range m).map N) ∧ w.grownBy w' (A.map (·.block)) ∧ (A2.map (·.block) = A.map (·.block) ∨ A2.map (·.block) = some w.heap.size) := by
  obtain ⟨i, z, hi, hz, hs, hby, hzs⟩ := hel.info
  by_cases hm : m = 0
  · subst hm
    have hr : (Builtin.append_ #[t, t] ty #[.slice A n cap, .slice A' 0 c]).run P w = .ok (.slice A n cap) w := by
      rcases hown.row.2 with ⟨e1, e2⟩ | ⟨g, cp, cur, e1, h2, h3, h4, h5, h6, h7⟩
      · injection e1 with e1 e2 e3
        subst e1 e2 e3
        cases A' <;> simp [Builtin.append_, run_underlying hel.slice, sizeOf, typeInfo, hi, Builtin.lenOf, Builtin.firstCells, storeCells, run_load0]
      · injection e1 with e1 e2 e3
        subst e1 e3
        cases A' <;> simp [Builtin.append_, run_underlying hel.slice, sizeOf, typeInfo, hi, Builtin.lenOf, Builtin.firstCells, h4, storeCells, run_load0]
    exact ⟨A, cap, w, hr, by simpa using hown, World.grownBy.refl _ _, .inl rfl⟩
  · obtain ⟨b, o, rfl, hb, hc⟩ := hsl.at_ (by omega)
    have hlen : ∀ x ∈ (List.range m).map N, x.length = sz := fun x hx => by
      obtain ⟨i, hi, rfl⟩ := List.mem_map.1 hx
      exact hN i (List.mem_range.1 hi)
    have hfl := flat_len hlen
    have ha : ∀ k, (⟨b, o, none⟩ : Addr).add k = ⟨b, o + k, none⟩ := fun k => by
      unfold Addr.add
      split
      · rename_i h0; rw [h0]; rfl
      · rfl
    have hnews : ∀ j u, ((List.range m).map N).flatten[j]? = some u → w.cell? ((⟨b, o, none⟩ : Addr).add j) = some u := fun j u hu => by
      have hj : j < ((List.range m).map N).flatten.length := (List.getElem?_eq_some_iff.1 hu).1
      rw [hfl] at hj
      simp only [List.length_map, List.length_range] at hj
      have hsz := hel.pos
      have hdm := Nat.div_add_mod j sz
      have hlt : j / sz < m := Nat.div_lt_of_lt_mul (by rw [Nat.mul_comm]; exact hj)
      have hmod : j % sz < sz := Nat.mod_lt _ hsz
      have hjj : j / sz * sz + j % sz = j := by rw [Nat.mul_comm]; exact hdm
      have hg := flat_get hlen (j / sz) (j % sz) (by simpa using hlt) hmod
      rw [hjj, hu] at hg
      have hx : ((List.range m).map N).getD (j / sz) [] = N (j / sz) := by simp [List.getD, hlt]
      rw [hx] at hg
      have hcc := hc (j / sz) hlt (j % sz) hmod
      rw [hjj] at hcc
      rw [ha, hcc, ← hg]
    have h1' : ∀ u ∈ ((List.range m).map N).flatten, u.oneCell' = true := fun u hu => by
      obtain ⟨x, hx, hu⟩ := List.mem_flatten.1 hu
      obtain ⟨i, hi, rfl⟩ := List.mem_map.1 hx
      exact h1 i (List.mem_range.1 hi) u hu
    obtain ⟨v', w', hrun, h2, h3, _, h5⟩ := run_append_own_at (P := P) w base t ty e i z sz bytes hel.slice hi hz hs hby hzs hel.pos (.slice A n cap) n L.flatten hown.row ⟨b, o, none⟩ m c _ (by rw [hfl]; simp) hnews h1' h63 hbytes hbase
    obtain ⟨g, c2, rfl, _, _⟩ := h2.form (by omega)
    rw [ownBlock_eq, ownBlock_eq] at h5
    rw [ownBlock_eq] at h3
    exact ⟨_, c2, w', hrun, ⟨by simp [hown.len], fun x hx => by
      rcases List.mem_append.1 hx with hx | hx
      · exact hown.each x hx
      · exact hlen x hx, by rw [List.flatten_append]; exact h2⟩, h3, h5⟩

theorem wp_app {P : Program} (w : World) {o : Oper} {a : Act} {K : Act → World → Prop} {Q : Exit → Act → World → Prop} (s x : Operand) {t e : TypeId} {sz bytes : Nat}
    (ho : o.op = .call { callee := .builtin .append, args := #[s, x], argTypes := #[t, t] }) (hel : El P t e sz bytes) (base : Nat) (A : Option Addr) (n cap : Nat) (L : List (List Value)) (hs : a.eval s = .slice A n cap) (hown : Own w base e sz A n cap L)
    (A' : Option Addr) (m c : Nat) (N : Nat → List Value) (hx : a.eval x = .slice A' m c) (hsl : Sl w A' m c sz N) (hN : ∀ i, i < m → (N i).length = sz) (h1 : ∀ i, i < m → ∀ u ∈ N i, u.oneCell' = true)
    (h63 : n + m ≤ maxLen) (hbytes : (n + m) * bytes ≤ 140737488355328) (hbase : base ≤ w.heap.size)
    (h : ∀ A2 c2 w', Own w' base e sz A2 (n + m) c2 (L ++ (List.range m).map N) → w.grownBy w' (A.map (·.block)) → (A2.map (·.block) = A.map (·.block) ∨ A2.map (·.block) = some w.heap.size) → K (a.put o.dst (.slice A2 (n + m) c2)) w') : o.wp P a w K Q := by
  obtain ⟨A2, c2, w', hrun, h2, h3, h4⟩ := run_app (P := P) w o.type hel base A n cap L hown A' m c N hsl hN h1 h63 hbytes hbase
  unfold Oper.wp execOp
  simp only [ho, resolve, invoke, builtin, Sem.run_bind, Sem.run_pure, Result.andThen_ok, List.map_toArray, List.map_cons, List.map_nil, hs, hx, hrun]
  exact h A2 c2 w' h2 h3 h4

/-- 'append(s, x...)' -/
theorem wpList_app {P : Program} (w : World) {ops : Array Oper} {rest : List Oper} {o : Oper} {a : Act} {Q : Exit → Act → World → Prop} (hgd : o.guard = none) (s x : Operand) {t e : TypeId} {sz bytes : Nat}
    (ho : o.op = .call { callee := .builtin .append, args := #[s, x], argTypes := #[t, t] }) (hel : El P t e sz bytes) (base : Nat) (A : Option Addr) (n cap : Nat) (L : List (List Value)) (hs : a.eval s = .slice A n cap) (hown : Own w base e sz A n cap L)
    (A' : Option Addr) (m c : Nat) (N : Nat → List Value) (hx : a.eval x = .slice A' m c) (hsl : Sl w A' m c sz N) (hN : ∀ i, i < m → (N i).length = sz) (h1 : ∀ i, i < m → ∀ u ∈ N i, u.oneCell' = true)
    (h63 : n + m ≤ maxLen) (hbytes : (n + m) * bytes ≤ 140737488355328) (hbase : base ≤ w.heap.size)
    (h : ∀ A2 c2 w', Own w' base e sz A2 (n + m) c2 (L ++ (List.range m).map N) → w.grownBy w' (A.map (·.block)) → (A2.map (·.block) = A.map (·.block) ∨ A2.map (·.block) = some w.heap.size) → wpList P ops Q rest (a.put o.dst (.slice A2 (n + m) c2)) w') : wpList P ops Q (o :: rest) a w :=
  wpList_plain hgd fun _ hK => wp_app w s x ho hel base A n cap L hs hown A' m c N hx hsl hN h1 h63 hbytes hbase fun A2 c2 w' h2 h3 h4 => hK _ _ (h A2 c2 w' h2 h3 h4)

/-- a block of the call's own that holds one element: what 'append(s, x)' hands to append -/
theorem sl_one (w : World) (x : List Value) (e : TypeId) : Sl (w.alloc (.cells x.toArray e)) (some ⟨w.heap.size, 0, none⟩) 1 1 x.length (fun _ => x) :=
  ⟨Nat.le_refl _, by unfold maxLen; omega, fun _ => ⟨_, _, rfl, by simp, fun i hi j hj => by
    obtain rfl : i = 0 := by omega
    simp⟩⟩

/-- 'append(s, x)', x one element, laid in a block of its own just before -/
theorem wpList_app1 {P : Program} (w : World) {ops : Array Oper} {rest : List Oper} {o : Oper} {a : Act} {Q : Exit → Act → World → Prop} (hgd : o.guard = none) (s x : Operand) {t e : TypeId} {sz bytes : Nat}
    (ho : o.op = .call { callee := .builtin .append, args := #[s, x], argTypes := #[t, t] }) (hel : El P t e sz bytes) (base : Nat) (A : Option Addr) (n cap : Nat) (L : List (List Value)) (hs : a.eval s = .slice A n cap) (hown : Own w base e sz A n cap L)
    (el : List Value) (hx : a.eval x = .slice (some ⟨w.heap.size, 0, none⟩) 1 1) (hN : el.length = sz) (h1 : ∀ u ∈ el, u.oneCell' = true)
    (h63 : n + 1 ≤ maxLen) (hbytes : (n + 1) * bytes ≤ 140737488355328) (hbase : base ≤ w.heap.size)
    (h : ∀ A2 c2 w', Own w' base e sz A2 (n + 1) c2 (L ++ [el]) → Below base w w' → wpList P ops Q rest (a.put o.dst (.slice A2 (n + 1) c2)) w') : wpList P ops Q (o :: rest) a (w.alloc (.cells el.toArray e)) := by
  have B : Below w.heap.size w (w.alloc (.cells el.toArray e)) := (Below.refl _ _).alloc (Nat.le_refl _) _
  have hsl := sl_one w el e
  rw [hN] at hsl
  refine wpList_app _ hgd s x ho hel base A n cap L hs (hown.keep B) (some ⟨w.heap.size, 0, none⟩) 1 1 (fun _ => el) hx hsl (fun _ _ => hN) (fun _ _ => h1) h63 hbytes (by simp; omega) ?_
  intro A2 c2 w' hown' hg hat
  refine h A2 c2 w' (by simpa using hown') ?_
  refine (B.mono hbase).trans ((Below.refl _ _).grown hg (by simp; omega) (fun k hk => (hown.lt k hk).1))
end Go.Proofs.Ytkohichiojmakaa.Ow
/-
  APPEND of some elements laid in a block just before; what else stays.
-/
namespace Go.Proofs.Ytkohichiojmakaa.Ow2
set_option linter.unusedVariables false
set_option linter.unusedSimpArgs false
open Go.RowKit Mm Ow

theorem sl_many (w : World) (els : List (List Value)) (sz : Nat) (e : TypeId) (h : ∀ x ∈ els, x.length = sz) (hm : els.length ≤ maxLen) : Sl (w.alloc (.cells els.flatten.toArray e)) (some ⟨w.heap.size, 0, none⟩) els.length els.length sz (fun i => els.getD i []) :=
  ⟨Nat.le_refl _, hm, fun _ => ⟨_, _, rfl, by simp, fun i hi j hj => by
    have := flat_get h i j hi hj
    simp [World.cell?_alloc_new, this]⟩⟩
theorem map_getD (els : List (List Value)) : (List.range els.length).map (fun i => els.getD i []) = els := by
  refine List.ext_getElem (by simp) (fun i h1 h2 => ?_)
  simp [List.getD, h2]
/-- one block as it was: its cells and marks -/
theorem blk_same {w w' : World} {b : Nat} (h : w'.heap[b]? = w.heap[b]?) : (∀ o, w'.cell? ⟨b, o, none⟩ = w.cell? ⟨b, o, none⟩) ∧ (∀ o, w'.frozen? ⟨b, o, none⟩ = w.frozen? ⟨b, o, none⟩) :=
  ⟨fun o => World.cell?_of_block (a := ⟨b, o, none⟩) h, fun o => World.frozen?_of_block (a := ⟨b, o, none⟩) h⟩

/-- 'append(s, x, y ..)': the elements lie in a block of their own, laid just before -/
theorem wpList_appN {P : Program} (w : World) {ops : Array Oper} {rest : List Oper} {o : Oper} {a : Act} {Q : Exit → Act → World → Prop} (hgd : o.guard = none) (s x : Operand) {t e : TypeId} {sz bytes : Nat}
    (ho : o.op = .call { callee := .builtin .append, args := #[s, x], argTypes := #[t, t] }) (hel : El P t e sz bytes) (base : Nat) (A : Option Addr) (n cap m H : Nat) (L els : List (List Value)) (hH : w.heap.size = H) (hs : a.eval s = .slice A n cap) (hown : Own w base e sz A n cap L)
    (hx : a.eval x = .slice (some ⟨H, 0, none⟩) m m) (hm : els.length = m) (hN : ∀ y ∈ els, y.length = sz) (h1 : ∀ y ∈ els, ∀ u ∈ y, u.oneCell' = true)
    (h63 : n + m ≤ maxLen) (hbytes : (n + m) * bytes ≤ 140737488355328) (hbase : base ≤ w.heap.size) (cs : Array Value) (hcs : cs = els.flatten.toArray)
    (h : ∀ A2 c2 w', Own w' base e sz A2 (n + m) c2 (L ++ els) → Below base w w' → (∀ b, b < w.heap.size → A.map (·.block) ≠ some b → w'.heap[b]? = w.heap[b]?) → (A2.map (·.block) = A.map (·.block) ∨ ∀ b, A2.map (·.block) = some b → w.heap.size ≤ b) → wpList P ops Q rest (a.put o.dst (.slice A2 (n + m) c2)) w') : wpList P ops Q (o :: rest) a (w.alloc (.cells cs e)) := by
  subst hcs hm hH
  have B : Below w.heap.size w (w.alloc (.cells els.flatten.toArray e)) := (Below.refl _ _).alloc (Nat.le_refl _) _
  have hsl := sl_many w els sz e hN (by omega)
  have hget : ∀ i, i < els.length → els.getD i [] ∈ els := fun i hi => by
    simp only [List.getD, List.getElem?_eq_getElem hi, Option.getD_some]; exact List.getElem_mem hi
  refine wpList_app _ hgd s x ho hel base A n cap L hs (hown.keep B) (some ⟨w.heap.size, 0, none⟩) els.length els.length (fun i => els.getD i []) hx hsl (fun i hi => hN _ (hget i hi)) (fun i hi => h1 _ (hget i hi)) h63 hbytes (by simp; omega) ?_
  intro A2 c2 w' hown' hg hat
  rw [map_getD] at hown'
  refine h A2 c2 w' hown' ((B.mono hbase).trans ((Below.refl _ _).grown hg (by simp; omega) (fun k hk => (hown.lt k hk).1))) (fun b hb hne => ?_) ?_
  · rw [hg.block b (by simp; omega) (fun e => hne e.symm)]
    exact B.block b hb
  · rcases hat with hat | hat
    · exact .inl hat
    · exact .inr fun b hb => by rw [hat] at hb; injection hb with hb; subst hb; simp
theorem own_set {w : World} {base : Nat} {e : TypeId} {sz : Nat} {A : Option Addr} {n cap : Nat} {L : List (List Value)} (h : Own w base e sz A n cap L) {a : Addr} (ha : a.block < base) (u : Value) : Own (w.setCell a u) base e sz A n cap L :=
  ⟨h.len, h.each, ownsRow_setCell_below h.row ha u⟩
end Go.Proofs.Ytkohichiojmakaa.Ow2
/-
  OWN ROWS: a store into one cell. No program here.
-/
namespace Go.Proofs.Ytkohichiojmakaa.Ow3
set_option linter.unusedVariables false
set_option linter.unusedSimpArgs false
open Go.RowKit Cm Mm Ow Ow2

theorem flat_set {sz : Nat} (u : Value) : ∀ (L : List (List Value)) (h : ∀ x ∈ L, x.length = sz) (i j : Nat), i < L.length → j < sz → L.flatten.set (i * sz + j) u = (L.set i ((L.getD i []).set j u)).flatten
  | [], _, i, j, hi, _ => absurd hi (by simp)
  | x :: L, h, 0, j, _, hj => by
    have hx := h x (by simp)
    simp only [List.flatten_cons, Nat.zero_mul, Nat.zero_add, List.set_cons_zero, List.getD_cons_zero]
    rw [List.set_append_left _ _ (by omega)]
  | x :: L, h, i + 1, j, hi, hj => by
    have hx := h x (by simp)
    have ih := flat_set u L (fun y hy => h y (by simp [hy])) i j (by simpa using hi) hj
    simp only [List.flatten_cons, List.set_cons_succ, List.getD_cons_succ]
    rw [List.set_append_right _ _ (by rw [Nat.succ_mul]; omega), ← ih]
    congr 2
    rw [Nat.succ_mul]; omega
theorem own_store {w : World} {base : Nat} {e : TypeId} {sz g n cap : Nat} {L : List (List Value)} (h : Own w base e sz (some ⟨g, 0, none⟩) n cap L) {i j : Nat} (hi : i < n) (hj : j < sz) (u : Value) :
    Own (w.setCell ⟨g, i * sz + j, none⟩ u) base e sz (some ⟨g, 0, none⟩) n cap (L.set i ((L.getD i []).set j u)) := by
  refine ⟨by rw [List.length_set]; exact h.len, fun x hx => ?_, ?_⟩
  · rcases List.mem_or_eq_of_mem_set hx with h1 | rfl
    · exact h.each x h1
    · rw [List.length_set]
      have hl := h.len
      exact h.each _ (by simp only [List.getD, List.getElem?_eq_getElem (show i < L.length by omega), Option.getD_some]; exact List.getElem_mem _)
  · rw [← flat_set u L h.each i j (by rw [h.len]; exact hi) hj]
    exact (h.row.stored (i * sz + j) u).1
theorem own_cell {w : World} {base : Nat} {e : TypeId} {sz g n cap : Nat} {L : List (List Value)} (h : Own w base e sz (some ⟨g, 0, none⟩) n cap L) {i j : Nat} (hi : i < n) (hj : j < sz) :
    w.cell? ⟨g, i * sz + j, none⟩ = (L.getD i [])[j]? ∧ w.frozen? ⟨g, i * sz + j, none⟩ = false := by
  refine ⟨?_, h.row.frozenAt _⟩
  obtain ⟨b, o, e1, hb, hc⟩ := h.sl.at_ (by omega)
  obtain ⟨rfl, rfl⟩ : g = b ∧ 0 = o := by simpa using e1
  have := hc i hi j hj
  rwa [Nat.zero_add] at this
theorem own_head {w : World} {base : Nat} {e : TypeId} {sz : Nat} {A : Option Addr} {n cap : Nat} {L : List (List Value)} (h : Own w base e sz A n cap L) (hn : 0 < n) : ∃ g, A = some ⟨g, 0, none⟩ := by
  rcases h.row.2 with ⟨h1, h2⟩ | ⟨g, c, cur, h1, _⟩
  · have := h.len; have := h.each
    injection h1 with h1 h2 h3
    omega
  · injection h1 with e1; exact ⟨g, e1⟩
end Go.Proofs.Ytkohichiojmakaa.Ow3
/-
  WALKS: package a64, each function once.
-/
namespace Go.Proofs.Ytkohichiojmakaa.A64W
set_option linter.unusedVariables false
set_option linter.unusedSimpArgs false
open Go.RowKit Cm Mm Ow A64 FldW

/-- an instruction, a field and a form as values -/
def insL (i : In) : List Value := [.int .i64 i.kind, .int .i64 i.d, .int .i64 i.a, .int .i64 i.b, .int .i64 i.s, .int .i64 i.c, .int .i64 i.n]
def fmL (f : Fm) : List Value := [.int .u32 (f.word.toNat : Int), .int .i64 (f.d.1 : Nat), .int .i64 (f.d.2 : Nat), .int .i64 (f.a.1 : Nat), .int .i64 (f.a.2 : Nat), .int .i64 (f.b.1 : Nat), .int .i64 (f.b.2 : Nat), .int .i64 (f.s.1 : Nat), .int .i64 (f.s.2 : Nat),
  .int .i64 (f.n.1 : Nat), .int .i64 (f.n.2 : Nat), .int .i64 (f.c.1 : Nat), .int .i64 (f.c.2 : Nat), .bool f.signed, .bool f.turned]

theorem register_any (k : Int) (w : World) : Calls Try.prog 93 #[.int .i64 k] w fun e w' => e = .returned (.agg #[.int .i64 k, .int .i64 5]) ∧ w' = w.alloc (.cells #[.int .i64 k, .int .i64 5] 148) := by
  go_enter Try.func93, Try.ntmps93
  go_wp2
  go_returns
  exact ⟨rfl, rfl⟩

theorem alloc_cell {w : World} {a : Addr} {u : Value} (h : w.cell? a = some u) (o : Obj) : (w.alloc o).cell? a = some u := (World.cell?_alloc_some w a o (by rw [h]; rfl)).trans h
/-- a field of registers, in a variable -/
def Rg (w : World) (p : Nat) (k : Int) : Prop := w.cell? ⟨p, 0, none⟩ = some (.int .i64 k) ∧ w.cell? ⟨p, 1, none⟩ = some (.int .i64 5)

theorem half_any (x : Int) (p : Nat) (w : World) (hp : Rg w p 0) :
    Calls Try.prog 94 #[.int .u32 x, .pointer (some ⟨p, 0, none⟩)] w fun e w' => e = .returned (.agg #[.int .u32 x, .int .i64 0, .int .i64 5, .int .i64 0, .int .i64 0, .int .i64 0, .int .i64 0, .int .i64 21, .int .i64 2, .int .i64 5, .int .i64 16, .int .i64 0, .int .i64 0, .bool false, .bool false]) ∧ Below w.heap.size w w' := by
  obtain ⟨p0, p1⟩ := hp
  have p2 := alloc_cell p0
  have p3 := alloc_cell p1
  go_enter Try.func94, Try.ntmps94
  go_wp2
  go_returns
  exact ⟨rfl, by go_grown⟩

theorem three_any (x : Int) (p q r : Nat) (w : World) (hp : Rg w p 0) (hq : Rg w q 5) (hr : Rg w r 16) :
    Calls Try.prog 95 #[.int .u32 x, .pointer (some ⟨p, 0, none⟩), .pointer (some ⟨q, 0, none⟩), .pointer (some ⟨r, 0, none⟩)] w fun e w' => e = .returned (.agg #[.int .u32 x, .int .i64 0, .int .i64 5, .int .i64 5, .int .i64 5, .int .i64 16, .int .i64 5, .int .i64 0, .int .i64 0, .int .i64 0, .int .i64 0, .int .i64 0, .int .i64 0, .bool false, .bool false]) ∧ Below w.heap.size w w' := by
  obtain ⟨p0, p1⟩ := hp
  have p2 := alloc_cell p0
  have p3 := alloc_cell p1
  obtain ⟨q0, q1⟩ := hq
  have q2 := alloc_cell q0
  have q3 := alloc_cell q1
  obtain ⟨r0, r1⟩ := hr
  have r2 := alloc_cell r0
  have r3 := alloc_cell r1
  go_enter Try.func95, Try.ntmps95
  go_wp2
  go_returns
  exact ⟨rfl, by go_grown⟩

theorem zeroN_any (x : Int)  (w : World)  :
    Calls Try.prog 96 #[.int .u32 x] w fun e w' => e = .returned (.agg #[.int .u32 x, .int .i64 0, .int .i64 0, .int .i64 0, .int .i64 5, .int .i64 0, .int .i64 0, .int .i64 0, .int .i64 0, .int .i64 5, .int .i64 19, .int .i64 0, .int .i64 0, .bool true, .bool false]) ∧ Below w.heap.size w w' := by
  go_enter Try.func96, Try.ntmps96
  go_wp2_with fail
  refine (register_any 0 _).mono ?_
  rintro e w1 ⟨rfl, rfl⟩
  go_wp2_with fail
  go_returns
  exact ⟨rfl, by go_grown⟩

theorem far_any (x : Int) (p q : Nat) (w : World) (hp : Rg w p 0) (hq : Rg w q 5) :
    Calls Try.prog 97 #[.int .u32 x, .pointer (some ⟨p, 0, none⟩), .pointer (some ⟨q, 0, none⟩)] w fun e w' => e = .returned (.agg #[.int .u32 x, .int .i64 0, .int .i64 5, .int .i64 5, .int .i64 5, .int .i64 0, .int .i64 0, .int .i64 0, .int .i64 0, .int .i64 10, .int .i64 12, .int .i64 0, .int .i64 0, .bool false, .bool false]) ∧ Below w.heap.size w w' := by
  obtain ⟨p0, p1⟩ := hp
  have p2 := alloc_cell p0
  have p3 := alloc_cell p1
  obtain ⟨q0, q1⟩ := hq
  have q2 := alloc_cell q0
  have q3 := alloc_cell q1
  go_enter Try.func97, Try.ntmps97
  go_wp2
  go_returns
  exact ⟨rfl, by go_grown⟩

theorem two_any (x : Int) (p q : Nat) (w : World) (hp : Rg w p 0) (hq : Rg w q 5) :
    Calls Try.prog 98 #[.int .u32 x, .pointer (some ⟨p, 0, none⟩), .pointer (some ⟨q, 0, none⟩)] w fun e w' => e = .returned (.agg #[.int .u32 x, .int .i64 0, .int .i64 5, .int .i64 5, .int .i64 5, .int .i64 0, .int .i64 0, .int .i64 0, .int .i64 0, .int .i64 0, .int .i64 0, .int .i64 0, .int .i64 0, .bool false, .bool false]) ∧ Below w.heap.size w w' := by
  obtain ⟨p0, p1⟩ := hp
  have p2 := alloc_cell p0
  have p3 := alloc_cell p1
  obtain ⟨q0, q1⟩ := hq
  have q2 := alloc_cell q0
  have q3 := alloc_cell q1
  go_enter Try.func98, Try.ntmps98
  go_wp2
  go_returns
  exact ⟨rfl, by go_grown⟩

theorem bare_any (x : Int)  (w : World)  :
    Calls Try.prog 99 #[.int .u32 x] w fun e w' => e = .returned (.agg #[.int .u32 x, .int .i64 0, .int .i64 0, .int .i64 0, .int .i64 0, .int .i64 0, .int .i64 0, .int .i64 0, .int .i64 0, .int .i64 0, .int .i64 0, .int .i64 0, .int .i64 0, .bool false, .bool false]) ∧ Below w.heap.size w w' := by
  go_enter Try.func99, Try.ntmps99
  go_wp2
  go_returns
  exact ⟨rfl, by go_grown⟩

end Go.Proofs.Ytkohichiojmakaa.A64W
/-
  SLICES OF INSTRUCTIONS, of ints and of words: what they hold; package patch's and the document's branch.
-/
namespace Go.Proofs.Ytkohichiojmakaa.InW
set_option linter.unusedVariables false
set_option linter.unusedSimpArgs false
open Go.RowKit Cm Mm Ow A64 A64W Pat

/-- the slice that holds instructions -/
def IsIn (w : World) (A : Option Addr) (n cap : Nat) (l : List In) : Prop := l.length = n ∧ Sl w A n cap 7 (fun i => insL (l.getD i zeroIn))
theorem IsIn.keep {w w' : World} {A : Option Addr} {n cap : Nat} {l : List In} (h : IsIn w A n cap l) (hb : Below w.heap.size w w') : IsIn w' A n cap l := ⟨h.1, h.2.keep hb⟩
theorem IsIn.cell {w : World} {A : Option Addr} {n cap : Nat} {l : List In} (h : IsIn w A n cap l) {k : Nat} (hk : k < n) :
    ∃ b o, A = some ⟨b, o, none⟩ ∧ b < w.heap.size ∧ w.cell? ⟨b, o + k * 7, none⟩ = some (.int .i64 (l.getD k zeroIn).kind) ∧ w.cell? ⟨b, o + k * 7 + 1, none⟩ = some (.int .i64 (l.getD k zeroIn).d) ∧ w.cell? ⟨b, o + k * 7 + 2, none⟩ = some (.int .i64 (l.getD k zeroIn).a) ∧
      w.cell? ⟨b, o + k * 7 + 3, none⟩ = some (.int .i64 (l.getD k zeroIn).b) ∧ w.cell? ⟨b, o + k * 7 + 4, none⟩ = some (.int .i64 (l.getD k zeroIn).s) ∧ w.cell? ⟨b, o + k * 7 + 5, none⟩ = some (.int .i64 (l.getD k zeroIn).c) ∧ w.cell? ⟨b, o + k * 7 + 6, none⟩ = some (.int .i64 (l.getD k zeroIn).n) := by
  obtain ⟨b, o, e, hb, hc⟩ := h.2.at_ (by omega)
  refine ⟨b, o, e, hb, ?_⟩
  exact ⟨by simpa [insL] using hc k hk 0 (by omega), by simpa [insL, Nat.add_assoc] using hc k hk 1 (by omega), by simpa [insL, Nat.add_assoc] using hc k hk 2 (by omega), by simpa [insL, Nat.add_assoc] using hc k hk 3 (by omega), by simpa [insL, Nat.add_assoc] using hc k hk 4 (by omega),
    by simpa [insL, Nat.add_assoc] using hc k hk 5 (by omega), by simpa [insL, Nat.add_assoc] using hc k hk 6 (by omega)⟩
theorem isIn_own {w : World} {B : Nat} {A : Option Addr} {n c : Nat} {l : List In} (h : Own w B 45 7 A n c (l.map insL)) : IsIn w A n c l := by
  have hl : l.length = n := by simpa using h.len
  refine ⟨hl, h.sl.ext fun i hi => ?_⟩
  simp [List.getD, show i < l.length by omega]
theorem elIn : El Try.prog 43 45 7 56 := by
  obtain ⟨i, h1, h2, h3, h4⟩ := info_parts (P := Try.prog) (e := 45) (z := .agg #[.int .i64 0, .int .i64 0, .int .i64 0, .int .i64 0, .int .i64 0, .int .i64 0, .int .i64 0]) (size := 7) (bytes := 56) (by kernel_rfl)
  exact ⟨Try.underlying43, ⟨i, _, h1, h2, h3, h4, rfl⟩, by decide⟩
theorem in_one (s : In) : ∀ u ∈ insL s, u.oneCell' = true := fun u hu => by
  simp only [insL, List.mem_cons, List.mem_nil_iff, or_false] at hu
  rcases hu with rfl | rfl | rfl | rfl | rfl | rfl | rfl <;> rfl
theorem in_each (l : List In) : ∀ y ∈ l.map insL, y.length = 7 := fun y hy => by
  obtain ⟨s, _, rfl⟩ := List.mem_map.1 hy; rfl
theorem in_ones (l : List In) : ∀ y ∈ l.map insL, ∀ u ∈ y, u.oneCell' = true := fun y hy => by
  obtain ⟨s, _, rfl⟩ := List.mem_map.1 hy; exact in_one s

/-- the slice that holds ints -/
def IsI (w : World) (A : Option Addr) (n cap : Nat) (l : List Int) : Prop := l.length = n ∧ Sl w A n cap 1 (fun i => [.int .i64 (l.getD i 0)])
theorem IsI.keep {w w' : World} {A : Option Addr} {n cap : Nat} {l : List Int} (h : IsI w A n cap l) (hb : Below w.heap.size w w') : IsI w' A n cap l := ⟨h.1, h.2.keep hb⟩
theorem IsI.cell {w : World} {A : Option Addr} {n cap : Nat} {l : List Int} (h : IsI w A n cap l) {k : Nat} (hk : k < n) : ∃ b o, A = some ⟨b, o, none⟩ ∧ b < w.heap.size ∧ w.cell? ⟨b, o + k, none⟩ = some (.int .i64 (l.getD k 0)) := by
  obtain ⟨b, o, e, hb, hc⟩ := h.2.at_ (by omega)
  exact ⟨b, o, e, hb, by simpa using hc k hk 0 (by omega)⟩
def ivL (x : Int) : List Value := [.int .i64 x]
theorem isI_own {w : World} {B : Nat} {A : Option Addr} {n c : Nat} {l : List Int} (h : Own w B 3 1 A n c (l.map ivL)) : IsI w A n c l := by
  have hl : l.length = n := by simpa using h.len
  refine ⟨hl, h.sl.ext fun i hi => ?_⟩
  simp [List.getD, show i < l.length by omega, ivL]
theorem elI : El Try.prog 25 3 1 8 := by
  obtain ⟨i, h1, h2, h3, h4⟩ := info_parts (P := Try.prog) (e := 3) (z := .int .i64 0) (size := 1) (bytes := 8) (by kernel_rfl)
  exact ⟨Try.underlying25, ⟨i, _, h1, h2, h3, h4, rfl⟩, by decide⟩

/-- the slice that holds words of 32 bits -/
def wvL (x : BitVec 32) : List Value := [.int .u32 (x.toNat : Int)]
def IsWd (w : World) (A : Option Addr) (n cap : Nat) (l : List (BitVec 32)) : Prop := l.length = n ∧ Sl w A n cap 1 (fun i => wvL (l.getD i 0))
theorem IsWd.keep {w w' : World} {A : Option Addr} {n cap : Nat} {l : List (BitVec 32)} (h : IsWd w A n cap l) (hb : Below w.heap.size w w') : IsWd w' A n cap l := ⟨h.1, h.2.keep hb⟩
theorem IsWd.cell {w : World} {A : Option Addr} {n cap : Nat} {l : List (BitVec 32)} (h : IsWd w A n cap l) {k : Nat} (hk : k < n) : ∃ b o, A = some ⟨b, o, none⟩ ∧ b < w.heap.size ∧ w.cell? ⟨b, o + k, none⟩ = some (.int .u32 ((l.getD k 0).toNat : Int)) := by
  obtain ⟨b, o, e, hb, hc⟩ := h.2.at_ (by omega)
  exact ⟨b, o, e, hb, by simpa [wvL] using hc k hk 0 (by omega)⟩
theorem isWd_own {w : World} {B : Nat} {A : Option Addr} {n c : Nat} {l : List (BitVec 32)} (h : Own w B 55 1 A n c (l.map wvL)) : IsWd w A n c l := by
  have hl : l.length = n := by simpa using h.len
  refine ⟨hl, h.sl.ext fun i hi => ?_⟩
  simp [List.getD, show i < l.length by omega]
theorem elWd : El Try.prog 22 55 1 4 := by
  obtain ⟨i, h1, h2, h3, h4⟩ := info_parts (P := Try.prog) (e := 55) (z := .int .u32 0) (size := 1) (bytes := 4) (by kernel_rfl)
  exact ⟨Try.underlying22, ⟨i, _, h1, h2, h3, h4, rfl⟩, by decide⟩

/-- a variable that has an instruction, open to stores -/
structure Vn (w : World) (p : Nat) (i : In) : Prop where
  c0 : w.cell? ⟨p, 0, none⟩ = some (.int .i64 i.kind)
  c1 : w.cell? ⟨p, 1, none⟩ = some (.int .i64 i.d)
  c2 : w.cell? ⟨p, 2, none⟩ = some (.int .i64 i.a)
  c3 : w.cell? ⟨p, 3, none⟩ = some (.int .i64 i.b)
  c4 : w.cell? ⟨p, 4, none⟩ = some (.int .i64 i.s)
  c5 : w.cell? ⟨p, 5, none⟩ = some (.int .i64 i.c)
  c6 : w.cell? ⟨p, 6, none⟩ = some (.int .i64 i.n)
  fr : ∀ o, w.frozen? ⟨p, o, none⟩ = false
theorem Vn.same {w w' : World} {p : Nat} {i : In} (h : Vn w p i) (hb : w'.heap[p]? = w.heap[p]?) : Vn w' p i := by
  obtain ⟨h1, h2⟩ := Ow2.blk_same hb
  exact ⟨(h1 0).trans h.c0, (h1 1).trans h.c1, (h1 2).trans h.c2, (h1 3).trans h.c3, (h1 4).trans h.c4, (h1 5).trans h.c5, (h1 6).trans h.c6, fun o => (h2 o).trans (h.fr o)⟩
theorem Vn.lt {w : World} {p : Nat} {i : In} (h : Vn w p i) : p < w.heap.size := World.block_lt_of_cell? w _ h.c0
theorem Vn.keep {w w' : World} {p : Nat} {i : In} (h : Vn w p i) (hb : Below w.heap.size w w') : Vn w' p i := h.same (hb.block _ h.lt)
theorem vn_new (w : World) (i : In) (p : Nat) (t : TypeId) (hp : w.heap.size = p) : Vn (w.alloc (.cells #[.int .i64 i.kind, .int .i64 i.d, .int .i64 i.a, .int .i64 i.b, .int .i64 i.s, .int .i64 i.c, .int .i64 i.n] t)) p i := by
  subst hp
  exact ⟨by simp, by simp, by simp, by simp, by simp, by simp, by simp, fun o => by simp⟩
theorem Vn.setB {w : World} {p : Nat} {i : In} (h : Vn w p i) (y : Int) : Vn (w.setCell ⟨p, 3, none⟩ (.int .i64 y)) p ⟨i.kind, i.d, i.a, y, i.s, i.c, i.n⟩ :=
  ⟨(World.cell?_setCell_other _ _ _ _ (by simp)).trans h.c0, (World.cell?_setCell_other _ _ _ _ (by simp)).trans h.c1, (World.cell?_setCell_other _ _ _ _ (by simp)).trans h.c2, World.cell?_setCell_same _ _ _ h.c3,
    (World.cell?_setCell_other _ _ _ _ (by simp)).trans h.c4, (World.cell?_setCell_other _ _ _ _ (by simp)).trans h.c5, (World.cell?_setCell_other _ _ _ _ (by simp)).trans h.c6, fun o => by rw [World.frozen?_setCell]; exact h.fr o⟩
theorem Vn.setN {w : World} {p : Nat} {i : In} (h : Vn w p i) (y : Int) : Vn (w.setCell ⟨p, 6, none⟩ (.int .i64 y)) p ⟨i.kind, i.d, i.a, i.b, i.s, i.c, y⟩ :=
  ⟨(World.cell?_setCell_other _ _ _ _ (by simp)).trans h.c0, (World.cell?_setCell_other _ _ _ _ (by simp)).trans h.c1, (World.cell?_setCell_other _ _ _ _ (by simp)).trans h.c2, (World.cell?_setCell_other _ _ _ _ (by simp)).trans h.c3,
    (World.cell?_setCell_other _ _ _ _ (by simp)).trans h.c4, (World.cell?_setCell_other _ _ _ _ (by simp)).trans h.c5, World.cell?_setCell_same _ _ _ h.c6, fun o => by rw [World.frozen?_setCell]; exact h.fr o⟩

theorem branch_any (i : In) (w : World) : Calls Try.prog 50 #[.agg #[.int .i64 i.kind, .int .i64 i.d, .int .i64 i.a, .int .i64 i.b, .int .i64 i.s, .int .i64 i.c, .int .i64 i.n]] w fun e w' => e = .returned (.bool (br i.kind)) ∧ Below w.heap.size w w' := by
  obtain ⟨k, d, a, b, s, c, n⟩ := i
  show Calls _ _ _ _ fun e w' => e = .returned (.bool (decide (8 ≤ k) && decide (k ≤ 11))) ∧ _
  by_cases h1 : 8 ≤ k
  · by_cases h2 : k ≤ 11
    · have d1 : decide (8 ≤ k) = true := decide_eq_true h1
      have d2 : decide (k ≤ 11) = true := decide_eq_true h2
      go_enter Try.func50, Try.ntmps50
      go_wp2
      go_ret
      exact ⟨by simp [h1, h2], by go_grown⟩
    · have d1 : decide (8 ≤ k) = true := decide_eq_true h1
      have d2 : decide (k ≤ 11) = false := decide_eq_false h2
      go_enter Try.func50, Try.ntmps50
      go_wp2
      go_ret
      exact ⟨by simp [h1, h2], by go_grown⟩
  · have d1 : decide (8 ≤ k) = false := decide_eq_false h1
    go_enter Try.func50, Try.ntmps50
    go_wp2
    go_ret
    exact ⟨retb (by first | rfl | (have h0 : decide (8 ≤ k) = false := decide_eq_false (by omega); rw [h0]; rfl)), by go_grown⟩
theorem rbranch_any (k : Int) (w : World) : Calls Try.prog 41 #[.int .i64 k] w fun e w' => e = .returned (.bool (br k)) ∧ w = w' := by
  show Calls _ _ _ _ fun e w' => e = .returned (.bool (decide (8 ≤ k) && decide (k ≤ 11))) ∧ _
  by_cases h1 : 8 ≤ k
  · by_cases h2 : k ≤ 11
    · go_enter Try.func41, Try.ntmps41
      go_wp2
      go_ret
      exact ⟨by simp [h1, h2], rfl⟩
    · go_enter Try.func41, Try.ntmps41
      go_wp2
      go_ret
      exact ⟨by simp [h1, h2], rfl⟩
  · go_enter Try.func41, Try.ntmps41
    go_wp2
    go_ret
    exact ⟨retb (by first | rfl | (have h0 : decide (8 ≤ k) = false := decide_eq_false (by omega); rw [h0]; rfl)), rfl⟩
end Go.Proofs.Ytkohichiojmakaa.InW
