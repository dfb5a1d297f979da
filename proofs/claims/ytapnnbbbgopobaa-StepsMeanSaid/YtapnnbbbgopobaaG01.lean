/-
  SMALL LEMMAS for the walks: endings, quiet calls, words of 32 and 64 bits as bit vectors.
-/
import Derived.WalkKit
import Derived.Handy
import Derived.Deep.QuietTactic
import Derived.BigQuiet
import Derived.Lib.Hide
import Derived.Below
import Derived.ProofKit
import Derived.Deep.Slices
import Derived.Deep.Fields
import Derived.Deep.Draws
import Derived.Maps.AppendAt
import Derived.Deep.AppendLies
import Derived.OwnWalk
import Derived.Test.YtapnnbbbgopobaaProg
import Derived.RegionTactic
import Derived.StillTailTactics
set_option linter.unusedVariables false
set_option linter.unusedSimpArgs false
namespace Go.Proofs.Ytapnnbbbgopobaa
theorem zA {α : Type _} (l : List α) (i : Nat) (a : α) : l.toArray.setIfInBounds i a = (l.set i a).toArray := List.setIfInBounds_toArray l i a
theorem zB {α : Type _} {a : α} {l : List α} {b : α} : (a :: l).set 0 b = b :: l := List.set_cons_zero
theorem zC {α : Type _} {a : α} {l : List α} {n : Nat} {b : α} : (a :: l).set (n + 1) b = a :: l.set n b := List.set_cons_succ
end Go.Proofs.Ytapnnbbbgopobaa
namespace Go.Proofs.Ytapnnbbbgopobaa.Cm
open Go.RowKit
theorem ret1 {k : IntKind} {a b : Int} (h : a = b) : Ending.returned (.int k a) = Ending.returned (.int k b) := by rw [h]
theorem retb {a b : Bool} (h : a = b) : Ending.returned (.bool a) = Ending.returned (.bool b) := by rw [h]
theorem quiet_left {P : Program} {f : FuncId} {args : Array Value} {w : World} {n : Nat} {v : Value}
    (h : Calls P f args (w.drewN n) fun e w' => e = .returned v ∧ w.drewN n = w') : Calls P f args (w.drewN n) fun e w'' => e = .returned v ∧ ∃ m, w'' = w.drewN m :=
  h.mono fun _ _ ⟨he, hm⟩ => ⟨he, n, hm.symm⟩
theorem if_min (a b : Int) : (if b < a then b else a) = min a b := by rw [Int.min_def]; split <;> split <;> omega
theorem if_max (a : Int) : (if 0 < a then a else 0) = max 0 a := by rw [Int.max_def]; split <;> split <;> omega
end Go.Proofs.Ytapnnbbbgopobaa.Cm
namespace Go.Proofs.Ytapnnbbbgopobaa.Mm
open Go.RowKit
theorem below_drewN {B : Nat} {a w : World} (h : Below B a w) (n : Nat) : Below B a (w.drewN n) := ⟨h.os, h.tape, h.output, h.size, h.block⟩
theorem below_drawn (w : World) (n : Nat) : Below w.heap.size w (w.drewN n) := below_drewN (Below.refl _ _) n
theorem below_seq {w w1 w2 : World} (h : Below w.heap.size w w1) (k : Below w1.heap.size w1 w2) : Below w.heap.size w w2 := h.trans (k.mono h.size)
structure Sl (w : World) (A : Option Addr) (n cap sz : Nat) (E : Nat → List Value) : Prop where
  le : n ≤ cap
  cap_le : cap ≤ maxLen
  at_ : 0 < n → ∃ b o, A = some ⟨b, o, none⟩ ∧ b < w.heap.size ∧ ∀ i, i < n → ∀ j, j < sz → w.cell? ⟨b, o + (i * sz + j), none⟩ = (E i)[j]?
theorem Sl.nil (w : World) (sz : Nat) (E : Nat → List Value) : Sl w none 0 0 sz E := ⟨Nat.le_refl _, by unfold maxLen; omega, fun h => absurd h (by omega)⟩
theorem Sl.keep {w w' : World} {A : Option Addr} {n cap sz : Nat} {E : Nat → List Value} (h : Sl w A n cap sz E) (hb : Below w.heap.size w w') : Sl w' A n cap sz E :=
  ⟨h.le, h.cap_le, fun hn => by
    obtain ⟨b, o, e, hl, hc⟩ := h.at_ hn
    exact ⟨b, o, e, Nat.lt_of_lt_of_le hl hb.size, fun i hi j hj => (hb.cell (p := ⟨b, o + (i * sz + j), none⟩) hl).trans (hc i hi j hj)⟩⟩
theorem Sl.take {w : World} {A : Option Addr} {n cap sz k : Nat} {E : Nat → List Value} (h : Sl w A n cap sz E) (hk : k ≤ n) : Sl w A k cap sz E :=
  ⟨Nat.le_trans hk h.le, h.cap_le, fun h0 => by
    obtain ⟨b, o, e, hl, hc⟩ := h.at_ (by omega)
    exact ⟨b, o, e, hl, fun i hi j hj => hc i (by omega) j hj⟩⟩
theorem Sl.drop {w : World} {b o n cap sz k : Nat} {E : Nat → List Value} (h : Sl w (some ⟨b, o, none⟩) n cap sz E) (hk : k ≤ n) : Sl w (some ⟨b, o + k * sz, none⟩) (n - k) (cap - k) sz (fun i => E (k + i)) :=
  ⟨by have := h.le; omega, by have := h.cap_le; omega, fun h0 => by
    obtain ⟨b', o', e, hl, hc⟩ := h.at_ (by omega)
    injection e with e
    injection e with e1 e2
    subst e1 e2
    refine ⟨_, _, rfl, hl, fun i hi j hj => ?_⟩
    have := hc (k + i) (by omega) j hj
    rw [show o + k * sz + (i * sz + j) = o + ((k + i) * sz + j) by rw [Nat.add_mul]; omega]
    exact this⟩
theorem Sl.ext {w : World} {A : Option Addr} {n cap sz : Nat} {E E' : Nat → List Value} (h : Sl w A n cap sz E) (he : ∀ i, i < n → E i = E' i) : Sl w A n cap sz E' :=
  ⟨h.le, h.cap_le, fun h0 => by
    obtain ⟨b, o, e, hl, hc⟩ := h.at_ h0
    exact ⟨b, o, e, hl, fun i hi j hj => by rw [← he i hi]; exact hc i hi j hj⟩⟩
theorem list_of {α : Type} (d : α) {n : Nat} {p : Nat → α → Prop} (h : ∀ i, i < n → ∃ x, p i x) : ∃ l : List α, l.length = n ∧ ∀ i, i < n → p i (l.getD i d) := by
  induction n with
  | zero => exact ⟨[], rfl, fun i hi => absurd hi (by omega)⟩
  | succ n ih =>
    obtain ⟨l, hl, hp⟩ := ih fun i hi => h i (by omega)
    obtain ⟨x, hx⟩ := h n (by omega)
    refine ⟨l ++ [x], by simp [hl], fun i hi => ?_⟩
    by_cases hin : i < n
    · have := hp i hin
      rw [show (l ++ [x]).getD i d = l.getD i d by simp [List.getD, List.getElem?_append_left (show i < l.length by omega)]]
      exact this
    · obtain rfl : i = n := by omega
      rw [show (l ++ [x]).getD i d = x by simp [List.getD, List.getElem?_append_right (show l.length ≤ i by omega), hl]]
      exact hx
open Go.Deep in
theorem open_sl {H : Type} {enc : TypeId × Value → H} {P : Program} {w : World} {base : Nat} {spare : Nat → Bool} {held : Bool} {t e : TypeId} {fuel : Nat} {cs : List Value} {x : DataW H × List MemPlace} {α : Type}
    (d : α) (f : α → List Value) (ok : α → Prop) (sz : Nat) (ht : P.underlying t = some (.slice e)) (hC : P.cellsOf e = sz) (hsz : 0 < sz)
    (hE : ∀ (n : Nat) (cs : List Value) (y : DataW H × List MemPlace), DataW.trod enc P w base spare held n e cs = some y → ∃ a, cs = f a ∧ ok a)
    (h : DataW.trod enc P w base spare held fuel t cs = some x) :
    ∃ (A : Option Addr) (n cap : Nat) (l : List α), cs = [.slice A n cap] ∧ l.length = n ∧ Sl w A n cap sz (fun i => f (l.getD i d)) ∧ (∀ i, i < n → ok (l.getD i d)) ∧ (∀ a, A = some a → base ≤ a.block) := by
  rcases open_slice ht h with ⟨rfl, _⟩ | ⟨a, len, cap, m, n, D, Pl, rfl, hb, hl, hm, hmm, _, hi⟩
  · exact ⟨none, 0, 0, [], rfl, rfl, Sl.nil _ _ _, fun i hi => absurd hi (by omega), fun a h => by cases h⟩
  · have hlm : len ≤ m := by rw [hmm]; split <;> omega
    have hx : ∀ i, i < len → ∃ c : α, w.cells? base (a.add (i * sz)) sz = some (f c) ∧ ok c := fun i hil => by
      obtain ⟨cs', h1, h2⟩ := hi i (by omega)
      obtain ⟨c, rfl, hc⟩ := hE _ _ _ h2
      exact ⟨c, by rw [← hC]; exact h1, hc⟩
    obtain ⟨l, hll, hp⟩ := list_of d hx
    refine ⟨some a, len, cap, l, rfl, hll, ⟨hl, hm, fun h0 => ?_⟩, fun i hi => (hp i hi).2, fun a' h => by cases h; exact hb⟩
    obtain ⟨_, hcl, hat⟩ := World.cells?_some (hp 0 h0).1
    have hfirst := hat 0 hsz
    have hlen0 : 0 < (f (l.getD 0 d)).length := by omega
    rw [List.getElem?_eq_getElem hlen0, Deep.add_add] at hfirst
    obtain ⟨b, o, spot⟩ := a
    have hspot : spot = none := by simpa [Addr.add] using World.cell?_spot hfirst
    subst hspot
    have hbw : b < w.heap.size := by
      rcases Nat.lt_or_ge b w.heap.size with hlt | hge
      · exact hlt
      · exfalso
        have : w.cell? ((⟨b, o, none⟩ : Addr).add (0 * sz + 0)) = none := by
          simp [Addr.add, World.cell?, Array.getElem?_eq_none hge]
        rw [this] at hfirst
        cases hfirst
    refine ⟨b, o, rfl, hbw, fun i hi j hj => ?_⟩
    obtain ⟨_, _, hat⟩ := World.cells?_some (hp i hi).1
    have := hat j hj
    rw [Deep.add_add] at this
    rw [← this]
    have e : ∀ k, (⟨b, o, none⟩ : Addr).add k = ⟨b, o + k, none⟩ := fun k => by
      unfold Addr.add
      split
      · rename_i h; subst h; rfl
      · rfl
    rw [e]
end Go.Proofs.Ytapnnbbbgopobaa.Mm
namespace Go.Proofs.Ytapnnbbbgopobaa.Ow
open Go.RowKit Mm
structure Own (w : World) (base : Nat) (e : TypeId) (sz : Nat) (A : Option Addr) (n cap : Nat) (L : List (List Value)) : Prop where
  len : L.length = n
  each : ∀ x ∈ L, x.length = sz
  row : w.ownsRow base e sz (.slice A n cap) n L.flatten
theorem Own.nil (w : World) (base : Nat) (e : TypeId) (sz : Nat) : Own w base e sz none 0 0 [] := ⟨rfl, fun x h => by simp at h, World.ownsRow_nil _ _ _ _⟩
theorem ownBlock_eq (A : Option Addr) (n cap : Nat) : (Value.slice A n cap).ownBlock = A.map (·.block) := by cases A <;> rfl
theorem Own.lt {w : World} {base : Nat} {e : TypeId} {sz : Nat} {A : Option Addr} {n cap : Nat} {L : List (List Value)} (h : Own w base e sz A n cap L) : ∀ g, A.map (·.block) = some g → base ≤ g ∧ g < w.heap.size := fun g hg =>
  h.row.lt g (by rw [ownBlock_eq]; exact hg)
theorem Own.keep {w w' : World} {base : Nat} {e : TypeId} {sz : Nat} {A : Option Addr} {n cap : Nat} {L : List (List Value)} (h : Own w base e sz A n cap L) (hb : Below w.heap.size w w') : Own w' base e sz A n cap L :=
  ⟨h.len, h.each, h.row.kept (row := none) ⟨hb.os, hb.tape, hb.output, hb.size, fun k hk _ => hb.block k hk⟩ (by
    cases A with
    | none => exact .inl rfl
    | some a => exact .inr (by simp [Value.ownBlock]))⟩
theorem Own.far {w w' : World} {base : Nat} {e : TypeId} {sz : Nat} {A : Option Addr} {n cap : Nat} {L : List (List Value)} {r : Option Nat} (h : Own w base e sz A n cap L) (hg : w.grownBy w' r) (hne : ∀ g, A.map (·.block) = some g → r ≠ some g) : Own w' base e sz A n cap L :=
  ⟨h.len, h.each, h.row.kept hg (by
    cases A with
    | none => exact .inl rfl
    | some a => exact .inr (fun e => hne a.block rfl (by rw [← e]; rfl)))⟩
theorem Own.low {w : World} {base base' : Nat} {e : TypeId} {sz : Nat} {A : Option Addr} {n cap : Nat} {L : List (List Value)} (h : Own w base e sz A n cap L) (hb : base' ≤ base) : Own w base' e sz A n cap L :=
  ⟨h.len, h.each, h.row.1, by
    rcases h.row.2 with h1 | ⟨g, c, cur, h1, h2, h3⟩
    · exact .inl h1
    · exact .inr ⟨g, c, cur, h1, by omega, h3⟩⟩
theorem Own.type {w : World} {base : Nat} {e : TypeId} {sz : Nat} {A : Option Addr} {n cap : Nat} {L : List (List Value)} (h : Own w base e sz A n cap L) {g : Nat} (hg : A.map (·.block) = some g) : ∃ cur, w.heap[g]? = some (.cells cur e (0, 0)) := by
  rcases h.row.2 with ⟨h1, _⟩ | ⟨g', c, cur, h1, _, h3, _⟩
  · injection h1 with h1; subst h1; cases hg
  · injection h1 with h1; subst h1
    simp at hg
    subst hg
    exact ⟨cur, h3⟩
theorem flat_get {L : List (List Value)} {sz : Nat} (h : ∀ x ∈ L, x.length = sz) : ∀ (i j : Nat), i < L.length → j < sz → L.flatten[i * sz + j]? = (L.getD i [])[j]? := by
  induction L with
  | nil => intro i j hi; simp at hi
  | cons x L ih =>
    intro i j hi hj
    have hx : x.length = sz := h x (by simp)
    cases i with
    | zero =>
      simp only [List.flatten_cons, Nat.zero_mul, Nat.zero_add]
      rw [List.getElem?_append_left (by omega)]
      rfl
    | succ i =>
      simp only [List.flatten_cons]
      rw [List.getElem?_append_right (by rw [Nat.succ_mul]; omega)]
      have e : (i + 1) * sz + j - x.length = i * sz + j := by rw [Nat.succ_mul]; omega
      rw [e, ih (fun y hy => h y (by simp [hy])) i j (by simpa using hi) hj]
      rfl
theorem flat_len {L : List (List Value)} {sz : Nat} (h : ∀ x ∈ L, x.length = sz) : L.flatten.length = L.length * sz := by
  induction L with
  | nil => simp
  | cons x L ih => simp only [List.flatten_cons, List.length_append, List.length_cons]; rw [ih (fun y hy => h y (by simp [hy])), h x (by simp), Nat.succ_mul]; omega
theorem Own.sl {w : World} {base : Nat} {e : TypeId} {sz : Nat} {A : Option Addr} {n cap : Nat} {L : List (List Value)} (h : Own w base e sz A n cap L) : Sl w A n cap sz (fun i => L.getD i []) := by
  rcases h.row.2 with ⟨h1, h2⟩ | ⟨g, c, cur, h1, h2, h3, h4, h5, h6, h7⟩
  · injection h1 with h1 h2 h3
    subst h1 h2 h3
    exact Sl.nil _ _ _
  · injection h1 with e1 e2 e3
    subst e1 e3
    refine ⟨h4, h5, fun h0 => ⟨g, 0, rfl, ?_, fun i hi j hj => ?_⟩⟩
    · exact (h.lt g rfl).2
    · have hf := flat_get h.each i j (by rw [h.len]; exact hi) hj
      have hl := flat_len h.each
      have hij : i * sz + j < n * sz := by
        have := Nat.mul_le_mul_right sz (show i + 1 ≤ n by omega)
        rw [Nat.succ_mul] at this
        omega
      have hx : i * sz + j < L.flatten.length := by rw [hl, h.len]; exact hij
      rw [← hf, List.getElem?_eq_getElem hx]
      have := h.row.cells (g := g) (by rfl) (i * sz + j) _ (List.getElem?_eq_getElem hx)
      have ea : (⟨g, 0, none⟩ : Addr).add (i * sz + j) = ⟨g, 0 + (i * sz + j), none⟩ := by
        unfold Addr.add
        split
        · rename_i h0; rw [h0]
        · simp
      rw [ea] at this
      exact this
structure El (P : Program) (t e : TypeId) (sz bytes : Nat) : Prop where
  slice : P.underlying t = some (.slice e)
  info : ∃ i z, P.info? e = some i ∧ i.zero = some z ∧ i.size = sz ∧ i.bytes = bytes ∧ z.cells.size = sz
  pos : 0 < sz
theorem run_load0 {P : Program} (w : World) (a : Addr) : (loadCells a 0).run P w = .ok #[] w := by simp [loadCells]; rfl
theorem run_app {P : Program} (w : World) {t e : TypeId} {sz bytes : Nat} (ty : TypeId) (hel : El P t e sz bytes) (base : Nat) (A : Option Addr) (n cap : Nat) (L : List (List Value)) (hown : Own w base e sz A n cap L)
    (A' : Option Addr) (m c : Nat) (N : Nat → List Value) (hsl : Sl w A' m c sz N) (hN : ∀ i, i < m → (N i).length = sz) (h1 : ∀ i, i < m → ∀ u ∈ N i, u.oneCell' = true)
    (h63 : n + m ≤ maxLen) (hbytes : (n + m) * bytes ≤ 140737488355328) (hbase : base ≤ w.heap.size) :
    ∃ A2 c2 w', (Builtin.append_ #[t, t] ty #[.slice A n cap, .slice A' m c]).run P w = .ok (.slice A2 (n + m) c2) w' ∧ Own w' base e sz A2 (n + m) c2 (L ++ (List.range m).map N) ∧ w.grownBy w' (A.map (·.block)) ∧ (A2.map (·.block) = A.map (·.block) ∨ A2.map (·.block) = some w.heap.size) := by
  obtain ⟨i, z, hi, hz, hs, hby, hzs⟩ := hel.info
  by_cases hm : m = 0
  · subst hm
    have hr : (Builtin.append_ #[t, t] ty #[.slice A n cap, .slice A' 0 c]).run P w = .ok (.slice A n cap) w := by
      rcases hown.row.2 with ⟨e1, e2⟩ | ⟨g, cp, cur, e1, h2, h3, h4, h5, h6, h7⟩
      · injection e1 with e1 e2 e3
        subst e1 e2 e3
        cases A' <;> simp [Builtin.append_, run_underlying hel.slice, sizeOf, typeInfo, hi, Builtin.lenOf, Builtin.firstCells, storeCells, run_load0]
      · injection e1 with e1 e2 e3
        subst e1 e3
        cases A' <;> simp [Builtin.append_, run_underlying hel.slice, sizeOf, typeInfo, hi, Builtin.lenOf, Builtin.firstCells, h4, storeCells, run_load0]
    exact ⟨A, cap, w, hr, by simpa using hown, World.grownBy.refl _ _, .inl rfl⟩
  · obtain ⟨b, o, rfl, hb, hc⟩ := hsl.at_ (by omega)
    have hlen : ∀ x ∈ (List.range m).map N, x.length = sz := fun x hx => by
      obtain ⟨i, hi, rfl⟩ := List.mem_map.1 hx
      exact hN i (List.mem_range.1 hi)
    have hfl := flat_len hlen
    have ha : ∀ k, (⟨b, o, none⟩ : Addr).add k = ⟨b, o + k, none⟩ := fun k => by
      unfold Addr.add
      split
      · rename_i h0; rw [h0]; rfl
      · rfl
    have hnews : ∀ j u, ((List.range m).map N).flatten[j]? = some u → w.cell? ((⟨b, o, none⟩ : Addr).add j) = some u := fun j u hu => by
      have hj : j < ((List.range m).map N).flatten.length := (List.getElem?_eq_some_iff.1 hu).1
      rw [hfl] at hj
      simp only [List.length_map, List.length_range] at hj
      have hsz := hel.pos
      have hdm := Nat.div_add_mod j sz
      have hlt : j / sz < m := Nat.div_lt_of_lt_mul (by rw [Nat.mul_comm]; exact hj)
      have hmod : j % sz < sz := Nat.mod_lt _ hsz
      have hjj : j / sz * sz + j % sz = j := by rw [Nat.mul_comm]; exact hdm
      have hg := flat_get hlen (j / sz) (j % sz) (by simpa using hlt) hmod
      rw [hjj, hu] at hg
      have hx : ((List.range m).map N).getD (j / sz) [] = N (j / sz) := by simp [List.getD, hlt]
      rw [hx] at hg
      have hcc := hc (j / sz) hlt (j % sz) hmod
      rw [hjj] at hcc
      rw [ha, hcc, ← hg]
    have h1' : ∀ u ∈ ((List.range m).map N).flatten, u.oneCell' = true := fun u hu => by
      obtain ⟨x, hx, hu⟩ := List.mem_flatten.1 hu
      obtain ⟨i, hi, rfl⟩ := List.mem_map.1 hx
      exact h1 i (List.mem_range.1 hi) u hu
    obtain ⟨v', w', hrun, h2, h3, _, h5⟩ := run_append_own_at (P := P) w base t ty e i z sz bytes hel.slice hi hz hs hby hzs hel.pos (.slice A n cap) n L.flatten hown.row ⟨b, o, none⟩ m c _ (by rw [hfl]; simp) hnews h1' h63 hbytes hbase
    obtain ⟨g, c2, rfl, _, _⟩ := h2.form (by omega)
    rw [ownBlock_eq, ownBlock_eq] at h5
    rw [ownBlock_eq] at h3
    exact ⟨_, c2, w', hrun, ⟨by simp [hown.len], fun x hx => by
      rcases List.mem_append.1 hx with hx | hx
      · exact hown.each x hx
      · exact hlen x hx, by rw [List.flatten_append]; exact h2⟩, h3, h5⟩
theorem wp_app {P : Program} (w : World) {o : Oper} {a : Act} {K : Act → World → Prop} {Q : Exit → Act → World → Prop} (s x : Operand) {t e : TypeId} {sz bytes : Nat}
    (ho : o.op = .call { callee := .builtin .append, args := #[s, x], argTypes := #[t, t] }) (hel : El P t e sz bytes) (base : Nat) (A : Option Addr) (n cap : Nat) (L : List (List Value)) (hs : a.eval s = .slice A n cap) (hown : Own w base e sz A n cap L)
    (A' : Option Addr) (m c : Nat) (N : Nat → List Value) (hx : a.eval x = .slice A' m c) (hsl : Sl w A' m c sz N) (hN : ∀ i, i < m → (N i).length = sz) (h1 : ∀ i, i < m → ∀ u ∈ N i, u.oneCell' = true)
    (h63 : n + m ≤ maxLen) (hbytes : (n + m) * bytes ≤ 140737488355328) (hbase : base ≤ w.heap.size)
    (h : ∀ A2 c2 w', Own w' base e sz A2 (n + m) c2 (L ++ (List.range m).map N) → w.grownBy w' (A.map (·.block)) → (A2.map (·.block) = A.map (·.block) ∨ A2.map (·.block) = some w.heap.size) → K (a.put o.dst (.slice A2 (n + m) c2)) w') : o.wp P a w K Q := by
  obtain ⟨A2, c2, w', hrun, h2, h3, h4⟩ := run_app (P := P) w o.type hel base A n cap L hown A' m c N hsl hN h1 h63 hbytes hbase
  unfold Oper.wp execOp
  simp only [ho, resolve, invoke, builtin, Sem.run_bind, Sem.run_pure, Result.andThen_ok, List.map_toArray, List.map_cons, List.map_nil, hs, hx, hrun]
  exact h A2 c2 w' h2 h3 h4
theorem wpList_app {P : Program} (w : World) {ops : Array Oper} {rest : List Oper} {o : Oper} {a : Act} {Q : Exit → Act → World → Prop} (hgd : o.guard = none) (s x : Operand) {t e : TypeId} {sz bytes : Nat}
    (ho : o.op = .call { callee := .builtin .append, args := #[s, x], argTypes := #[t, t] }) (hel : El P t e sz bytes) (base : Nat) (A : Option Addr) (n cap : Nat) (L : List (List Value)) (hs : a.eval s = .slice A n cap) (hown : Own w base e sz A n cap L)
    (A' : Option Addr) (m c : Nat) (N : Nat → List Value) (hx : a.eval x = .slice A' m c) (hsl : Sl w A' m c sz N) (hN : ∀ i, i < m → (N i).length = sz) (h1 : ∀ i, i < m → ∀ u ∈ N i, u.oneCell' = true)
    (h63 : n + m ≤ maxLen) (hbytes : (n + m) * bytes ≤ 140737488355328) (hbase : base ≤ w.heap.size)
    (h : ∀ A2 c2 w', Own w' base e sz A2 (n + m) c2 (L ++ (List.range m).map N) → w.grownBy w' (A.map (·.block)) → (A2.map (·.block) = A.map (·.block) ∨ A2.map (·.block) = some w.heap.size) → wpList P ops Q rest (a.put o.dst (.slice A2 (n + m) c2)) w') : wpList P ops Q (o :: rest) a w :=
  wpList_plain hgd fun _ hK => wp_app w s x ho hel base A n cap L hs hown A' m c N hx hsl hN h1 h63 hbytes hbase fun A2 c2 w' h2 h3 h4 => hK _ _ (h A2 c2 w' h2 h3 h4)
theorem sl_one (w : World) (x : List Value) (e : TypeId) : Sl (w.alloc (.cells x.toArray e)) (some ⟨w.heap.size, 0, none⟩) 1 1 x.length (fun _ => x) :=
  ⟨Nat.le_refl _, by unfold maxLen; omega, fun _ => ⟨_, _, rfl, by simp, fun i hi j hj => by
    obtain rfl : i = 0 := by omega
    simp⟩⟩
end Go.Proofs.Ytapnnbbbgopobaa.Ow
namespace Go.Proofs.Ytapnnbbbgopobaa.Me
open Go.RowKit Cm Mm Ow
structure Only (F : List Nat) (w w' : World) : Prop where
  os : w'.os = w.os
  tape : w'.tape = w.tape
  output : w'.output = w.output
  size : w.heap.size ≤ w'.heap.size
  block : ∀ k, k < w.heap.size → k ∉ F → w'.heap[k]? = w.heap[k]?
theorem Only.refl (F : List Nat) (w : World) : Only F w w := ⟨rfl, rfl, rfl, Nat.le_refl _, fun _ _ _ => rfl⟩
theorem Only.of_below {F : List Nat} {w w' : World} (h : Below w.heap.size w w') : Only F w w' := ⟨h.os, h.tape, h.output, h.size, fun k hk _ => h.block k hk⟩
theorem Only.of_grown {F : List Nat} {w w' : World} {r : Option Nat} (h : w.grownBy w' r) (hr : ∀ g, r = some g → g ∈ F) : Only F w w' :=
  ⟨h.os, h.tape, h.output, h.size, fun k hk hn => h.block k hk (fun e => hn (hr k e.symm))⟩
theorem Only.trans {F F' : List Nat} {a b c : World} (h : Only F a b) (k : Only F' b c) (hF : ∀ x ∈ F', x ∈ F ∨ a.heap.size ≤ x) : Only F a c :=
  ⟨k.os.trans h.os, k.tape.trans h.tape, k.output.trans h.output, Nat.le_trans h.size k.size, fun i hi hn =>
    (k.block i (Nat.lt_of_lt_of_le hi h.size) (fun hx => by rcases hF i hx with h1 | h1; exact hn h1; omega)).trans (h.block i hi hn)⟩
theorem Only.seq {F : List Nat} {a b c : World} (h : Only F a b) (k : Only F b c) : Only F a c := h.trans k (fun x hx => .inl hx)
theorem Only.more {F F' : List Nat} {a b : World} (h : Only F a b) (hF : ∀ x ∈ F, x ∈ F') : Only F' a b := ⟨h.os, h.tape, h.output, h.size, fun k hk hn => h.block k hk (fun hx => hn (hF k hx))⟩
theorem Only.drew {F : List Nat} {a b : World} (h : Only F a b) : Only F a b.drew := ⟨h.os, h.tape, h.output, h.size, h.block⟩
theorem Only.drewN {F : List Nat} {a b : World} (h : Only F a b) (n : Nat) : Only F a (b.drewN n) := ⟨h.os, h.tape, h.output, h.size, h.block⟩
theorem Only.alloc {F : List Nat} {a b : World} (h : Only F a b) (o : Obj) : Only F a (b.alloc o) :=
  h.trans (F' := F) (Only.of_below ((Below.refl _ _).alloc (Nat.le_refl _) _)) (fun x hx => .inl hx)
theorem Only.setCell {F : List Nat} {a b : World} (h : Only F a b) {p : Addr} (hp : p.block ∈ F) (u : Value) : Only F a (b.setCell p u) :=
  h.seq ⟨rfl, rfl, rfl, by simp [World.setCell], fun k hk hn => Below.heap_setCell _ _ _ _ (fun e => hn (by rw [e]; exact hp))⟩
theorem Only.below {F : List Nat} {B : Nat} {a b : World} (h : Only F a b) (hF : ∀ x ∈ F, B ≤ x) (hB : B ≤ a.heap.size) : Below B a b :=
  ⟨h.os, h.tape, h.output, h.size, fun k hk => h.block k (by omega) (fun hx => by have := hF k hx; omega)⟩
theorem Only.cell {F : List Nat} {a b : World} (h : Only F a b) {p : Addr} (hp : p.block < a.heap.size) (hn : p.block ∉ F) : b.cell? p = a.cell? p := World.cell?_of_block (h.block _ hp hn)
theorem Only.row {F : List Nat} {w w' : World} {base : Nat} {e : TypeId} {sz n cap : Nat} {A : Option Addr} {xs : List Value} (h : Only F w w') (hr : w.ownsRow base e sz (.slice A n cap) n xs) (hn : ∀ g, A.map (·.block) = some g → g ∉ F) : w'.ownsRow base e sz (.slice A n cap) n xs := by
  refine ⟨hr.1, ?_⟩
  rcases hr.2 with h1 | ⟨g, c, cur, h1, h2, h3, h4⟩
  · exact .inl h1
  · have hg : A.map (·.block) = some g := by injection h1 with h1; subst h1; rfl
    have hlt := (hr.lt g (by rw [ownBlock_eq]; exact hg)).2
    exact .inr ⟨g, c, cur, h1, h2, (h.block g hlt (hn g hg)).trans h3, h4⟩
def uw (x : Int) : Value := .int .u64 x
section
variable {w w' : World} {T : TypeId} {p n : Nat} {F : List Nat} {A1 A2 A3 : Option Addr} {c1 c2 c3 : Nat} {now kept ver : List Int}
theorem row_type {base : Nat} {e : TypeId} {sz cap g : Nat} {A : Option Addr} {xs : List Value} (hr : w.ownsRow base e sz (.slice A n cap) n xs) (hg : A.map (·.block) = some g) : ∃ cur, w.heap[g]? = some (.cells cur e (0, 0)) := by
  rcases hr.2 with ⟨h1, _⟩ | ⟨g', c, cur, h1, _, h3, _⟩
  · injection h1 with h1; subst h1; cases hg
  · injection h1 with h1; subst h1
    simp at hg
    subst hg
    exact ⟨cur, h3⟩
theorem type_ne {g g' : Nat} {e e' : TypeId} {c c' : Array Value} (h : w.heap[g]? = some (.cells c e (0, 0))) (h' : w.heap[g']? = some (.cells c' e' (0, 0))) (hne : e ≠ e') : g ≠ g' := by
  rintro rfl
  rw [h] at h'
  injection h' with h'
  injection h' with _ ht
  exact hne ht
end
/-! a new one -/
theorem heap_alloc (w : World) (o : Obj) : (w.alloc o).heap = w.heap.push o := rfl
theorem heap_drew (w : World) : w.drew.heap = w.heap := rfl
theorem at3 (w : World) (a b c d : Obj) : ((((w.alloc a).alloc b).alloc c).alloc d).drew.heap[w.heap.size + 1 + 1 + 1]? = some d := by
  simp only [heap_drew, heap_alloc, Array.getElem?_push, Array.size_push]
  simp
theorem at2 (w : World) (a b c d : Obj) : ((((w.alloc a).alloc b).alloc c).alloc d).drew.heap[w.heap.size + 1 + 1]? = some c := by
  simp only [heap_drew, heap_alloc, Array.getElem?_push, Array.size_push]
  rw [if_neg (by omega)]
  simp
theorem at1 (w : World) (a b c d : Obj) : ((((w.alloc a).alloc b).alloc c).alloc d).drew.heap[w.heap.size + 1]? = some b := by
  simp only [heap_drew, heap_alloc, Array.getElem?_push, Array.size_push]
  rw [if_neg (by omega), if_neg (by omega)]
  simp
theorem run_make_n {P : Program} (t e : TypeId) (i : TypeInfo) (z : Value) (ht : P.underlying t = some (.slice e)) (hi : P.info? e = some i) (hz : i.zero = some z) (h1 : i.size = 1) (hc : z.cells = #[z])
    (hb : i.bytes = 8) (n : Nat) (hn : n ≤ 65536) (w : World) :
    (Instr.makeSlice t (.int .i64 (n : Int)) (.int .i64 (n : Int))).run P w = .ok (.slice (some ⟨w.heap.size, 0, none⟩) n n) (w.alloc (.cells (madeCells #[z] n) e)) := by
  have hr := run_make (P := P) w t e i z ht hi hz .i64 .i64 n n (by omega) (by omega) (by rw [hb]; omega) (by omega)
  simp only [Int.toNat_natCast, h1, Nat.mul_one, hc] at hr
  exact hr
theorem u64_info : (Try.prog.info? 53).map (fun i => (i.zero, i.size, i.bytes)) = some (some (.int .u64 0), 1, 8) := by kernel_rfl
theorem elU : El Try.prog 50 53 1 8 := by
  obtain ⟨i, h1, h2, h3, h4⟩ := info_parts u64_info
  exact ⟨Try.underlying50, ⟨i, _, h1, h2, h3, h4, rfl⟩, by decide⟩
theorem run_make_u (n : Nat) (hn : n ≤ 65536) (w : World) :
    (Instr.makeSlice 50 (.int .i64 (n : Int)) (.int .i64 (n : Int))).run Try.prog w = .ok (.slice (some ⟨w.heap.size, 0, none⟩) n n) (w.alloc (.cells (madeCells #[.int .u64 0] n) 53)) := by
  obtain ⟨i, h1, h2, h3, h4⟩ := info_parts u64_info
  exact run_make_n _ _ i _ Try.underlying50 h1 h2 h3 rfl h4 n hn w
theorem flat_one {α : Type} (xs : List α) : (xs.map fun v => [v]).flatten = xs := by
  induction xs with
  | nil => rfl
  | cons x xs ih => simp only [List.map_cons, List.flatten_cons, ih]; rfl
theorem own_of_row {w : World} {base : Nat} {e : TypeId} {n cap : Nat} {A : Option Addr} {xs : List Value} (h : w.ownsRow base e 1 (.slice A n cap) n xs) : Own w base e 1 A n cap (xs.map fun v => [v]) :=
  ⟨by simpa using h.1, fun x hx => by obtain ⟨v, _, rfl⟩ := List.mem_map.1 hx; rfl, by
    rw [flat_one]; exact h⟩
theorem row_of_own {w : World} {base : Nat} {e : TypeId} {n cap : Nat} {A : Option Addr} {xs : List Value} (h : Own w base e 1 A n cap (xs.map fun v => [v])) : w.ownsRow base e 1 (.slice A n cap) n xs := by
  have := h.row
  rwa [flat_one] at this
def IsU (w : World) (A : Option Addr) (n cap : Nat) (l : List Int) : Prop := l.length = n ∧ Sl w A n cap 1 (fun i => [uw (l.getD i 0)])
theorem IsU.keep {w w' : World} {A : Option Addr} {n cap : Nat} {l : List Int} (h : IsU w A n cap l) (hb : Below w.heap.size w w') : IsU w' A n cap l := ⟨h.1, h.2.keep hb⟩
theorem isU_of_row {w : World} {base : Nat} {n cap : Nat} {A : Option Addr} {l : List Int} (h : w.ownsRow base 53 1 (.slice A n cap) n (l.map uw)) : IsU w A n cap l := by
  have hl : l.length = n := by simpa using h.1
  refine ⟨hl, (own_of_row h).sl.ext fun i hi => ?_⟩
  simp [List.getD, show i < l.length by omega]
theorem IsU.cell {w : World} {A : Option Addr} {n cap : Nat} {l : List Int} (h : IsU w A n cap l) {k : Nat} (hk : k < n) : ∃ b o, A = some ⟨b, o, none⟩ ∧ b < w.heap.size ∧ w.cell? ⟨b, o + k, none⟩ = some (.int .u64 (l.getD k 0)) := by
  obtain ⟨b, o, e, hb, hc⟩ := h.2.at_ (by omega)
  exact ⟨b, o, e, hb, by simpa [uw] using hc k hk 0 (by omega)⟩
def GaveU (w : World) (l : List Int) (e : Ending) (w' : World) : Prop := ∃ (A : Option Addr) (n c : Nat), e = .returned (.slice A n c) ∧ w'.ownsRow w.heap.size 53 1 (.slice A n c) n (l.map uw) ∧ Below w.heap.size w w'
end Go.Proofs.Ytapnnbbbgopobaa.Me
namespace Go.Proofs.Ytapnnbbbgopobaa.Rm
open Go.RowKit Cm Mm Ow Me
def plc (n : Nat) (a : Int) : Option Nat := if 4096 ≤ a ∧ (a - 4096) % 8 = 0 ∧ (a - 4096) / 8 < n then some ((a - 4096) / 8).toNat else none
theorem plc_some {n : Nat} {a : Int} {i : Nat} (h : plc n a = some i) : 4096 ≤ a ∧ (a - 4096) % 8 = 0 ∧ (a - 4096) / 8 = (i : Int) ∧ i < n := by
  unfold plc at h
  split at h
  · injection h with h
    omega
  · cases h
theorem plc_none {n : Nat} {a : Int} (h : plc n a = none) : a < 4096 ∨ (4096 ≤ a ∧ (a - 4096) % 8 ≠ 0) ∨ (4096 ≤ a ∧ (a - 4096) % 8 = 0 ∧ (n : Int) ≤ (a - 4096) / 8) := by
  unfold plc at h
  split at h
  · cases h
  · omega
def rd (l : List Int) (o : Option Nat) : Int := match o with | some i => l.getD i 0 | none => 0
def put (l : List Int) (o : Option Nat) (v : Int) : List Int := match o with | some i => l.set i v | none => l
def zeros (n : Nat) : List Int := List.replicate n 0
def words (a : Int) : Nat := (max 0 (min a 64)).toNat
theorem words_int (a : Int) : max 0 (min a 64) = (words a : Int) := by unfold words; omega
theorem words_le (a : Int) : words a ≤ 64 := by unfold words; omega
theorem samew_any (A A' : Option Addr) (n c n' c' : Nat) (l l' : List Int) (w : World) (h : IsU w A n c l) (h' : IsU w A' n' c' l') :
    Calls Try.prog 21 #[.slice A n c, .slice A' n' c'] w fun e w' => e = .returned (.bool (decide (l = l'))) ∧ ∃ m, w' = w.drewN m := by
  have hm : (n : Int) ≤ 9223372036854775807 := by have := h.2.le; have := h.2.cap_le; unfold maxLen at *; omega
  by_cases hn : n = n'
  · subst hn
    have hb : ((n : Int) != n) = false := by simp
    go_enter Try.func21, Try.ntmps21
    go_wp2
    go_loopw [5] (fun i wr => ∃ k m : Nat, k ≤ n ∧ i = .int .i64 k ∧ Hid (∀ j, j < k → l.getD j 0 = l'.getD j 0) ∧ wr = w.drewN m) (fun i _ => n - (intOf i).toNat)
    case atStart => exact ⟨0, 0, by omega, rfl, fun j hj => absurd hj (by omega), rfl⟩
    case round =>
      obtain ⟨k, m, hk, rfl, he, rfl⟩ := hrel
      by_cases hkn : (k : Int) < n
      · obtain ⟨b, o, rfl, _, x1⟩ := h.cell (k := k) (by omega)
        obtain ⟨b', o', rfl, _, x2⟩ := h'.cell (k := k) (by omega)
        have H1 := Lib.hid h.1
        have H2 := Lib.hid h'.1
        by_cases hx : l.getD k 0 = l'.getD k 0
        · have HN : Hid (∀ j, j < k + 1 → l.getD j 0 = l'.getD j 0) := fun j hj => by
            by_cases e : j = k
            · subst e; exact hx
            · exact he.out j (by omega)
          rw [← hx] at x2
          clear hx he
          obtain ⟨x, hxx⟩ : ∃ x, x = l.getD k 0 := ⟨_, rfl⟩
          rw [← hxx] at x1 x2
          clear hxx
          go_wp2
          go_quiet (fail)
          go_wp2
          go_roundw
          case rel => exact ⟨k + 1, _, by omega, by go_num, HN, rfl⟩
          case measure => simp [intOf]; omega
        · have hne : (l.getD k 0 != l'.getD k 0) = true := by rw [bne_iff_ne]; exact hx
          have HX := Lib.hid hx; clear hx
          have HF := Lib.hid (show decide (l = l') = false from decide_eq_false (fun e => HX.out (by rw [e])))
          generalize l.getD k 0 = x at *
          generalize l'.getD k 0 = x' at *
          go_wp2
          go_quiet (fail)
          go_wp2
          go_ret
          exact ⟨retb HF.out.symm, _, World.drewN_drewN _ _ _⟩
      · obtain rfl : k = n := by omega
        have HT := Lib.hid (show decide (l = l') = true from decide_eq_true (List.ext_getElem (by rw [h.1, h'.1]) (fun j h1 h2 => by
          have := he.out j (by rw [← h.1]; exact h1)
          simpa [List.getD, h1, h2] using this)))
        go_wp2
        go_ret
        exact ⟨retb HT.out.symm, _, rfl⟩
  · have hb : ((n : Int) != n') = true := by rw [bne_iff_ne]; omega
    have HF := Lib.hid (show decide (l = l') = false from decide_eq_false (fun e => hn (by rw [← h.1, ← h'.1, e])))
    go_enter Try.func21, Try.ntmps21
    go_wp2
    go_ret
    exact ⟨retb HF.out.symm, 0, rfl⟩
end Go.Proofs.Ytapnnbbbgopobaa.Rm
namespace Go.Proofs.Ytapnnbbbgopobaa.Stp
structure St where
  kind : Int
  d : Int
  a : Int
  b : Int
  c : Int
  to : Int
  cell : Int
  n : Int
  op : Int
deriving DecidableEq
def zeroSt : St := ⟨0, 0, 0, 0, 0, 0, 0, 0, 0⟩
def access (s : St) : Bool := s.kind == 3 || s.kind == 4 || s.kind == 5
def fl (s : St) : St := ⟨6, 0, s.a, 0, 0, 0, s.cell, 0, 0⟩
def sy : St := ⟨7, 0, 0, 0, 0, 0, 0, 0, 0⟩
def flw3 (s f y : St) : Bool := f.kind == 6 && f.a == s.a && f.cell == s.cell && y.kind == 7
def flwT (s : St) : List St → Bool
  | f :: y :: _ => flw3 s f y
  | _ => false
def flw (l : List St) (i : Nat) : Bool := decide (i + 2 < l.length) && flw3 (l.getD i zeroSt) (l.getD (i + 1) zeroSt) (l.getD (i + 2) zeroSt)
def flush1 (s : St) : List St := if access s then [s, fl s, sy] else [s]
def flush (l : List St) : List St := l.flatMap flush1
def bare (sole : List Bool) (s : St) : Bool := s.kind == 3 && decide (0 ≤ s.cell ∧ s.cell < sole.length) && sole.getD s.cell.toNat false
def elide (sole : List Bool) : List St → List St
  | [] => []
  | s :: t => s :: elide sole (if bare sole s && flwT s t then t.drop 2 else t)
termination_by l => l.length
decreasing_by
  simp only [List.length_cons]
  split
  · rw [List.length_drop]; omega
  · omega
theorem drop_cons {l : List St} {i : Nat} (h : i < l.length) : l.drop i = l.getD i zeroSt :: l.drop (i + 1) := by
  rw [List.drop_eq_getElem_cons h]; simp [List.getD, h]
theorem flw_eq {l : List St} {i : Nat} (h : i < l.length) : flwT (l.getD i zeroSt) (l.drop (i + 1)) = flw l i := by
  unfold flw
  by_cases h2 : i + 2 < l.length
  · rw [drop_cons (show i + 1 < l.length by omega), drop_cons (show i + 1 + 1 < l.length by omega)]
    simp [flwT, h2]
  · have e : (l.drop (i + 1)).length ≤ 1 := by rw [List.length_drop]; omega
    rw [decide_eq_false h2, Bool.false_and]
    cases hl : l.drop (i + 1) with
    | nil => rfl
    | cons x t =>
      rw [hl] at e
      simp only [List.length_cons] at e
      cases t with
      | nil => rfl
      | cons y t => simp only [List.length_cons] at e; omega
theorem elide_step (sole : List Bool) {l : List St} {i : Nat} (h : i < l.length) :
    elide sole (l.drop i) = l.getD i zeroSt :: elide sole (l.drop (if bare sole (l.getD i zeroSt) && flw l i then i + 3 else i + 1)) := by
  rw [drop_cons h, elide, flw_eq h]
  congr 2
  split
  · rw [List.drop_drop]
  · rfl
theorem flw_lt {l : List St} {i : Nat} (h : flw l i = true) : i + 2 < l.length := by
  unfold flw at h
  simp only [Bool.and_eq_true, decide_eq_true_eq] at h
  exact h.1
theorem flush_snoc (l : List St) (k : Nat) (h : k < l.length) : flush (l.take (k + 1)) = flush (l.take k) ++ flush1 (l.getD k zeroSt) := by
  have e : l.take (k + 1) = l.take k ++ [l.getD k zeroSt] := by
    rw [List.take_succ_eq_append_getElem h]; simp [List.getD, h]
  unfold flush
  rw [e, List.flatMap_append]
  simp
theorem flush1_len (s : St) : (flush1 s).length = if access s then 3 else 1 := by unfold flush1; split <;> rfl
theorem flush_len_take (l : List St) (k : Nat) : (flush (l.take k)).length ≤ 3 * k := by
  induction k with
  | zero => simp [flush]
  | succ k ih =>
    by_cases h : k < l.length
    · rw [flush_snoc l k h, List.length_append, flush1_len]; split <;> omega
    · have e : l.take (k + 1) = l.take k := by rw [List.take_of_length_le (by omega), List.take_of_length_le (by omega)]
      rw [e]; omega
theorem flush_cons (s : St) (t : List St) : flush (s :: t) = flush1 s ++ flush t := by simp [flush]
def asks (l : List St) (c : Int) : Bool := l.any fun s => access s && s.cell == c
def many (ls : List (List St)) (c : Int) : Nat := ls.countP fun l => asks l c
def solesN (ls : List (List St)) (m : Nat) : List Bool := (List.range m).map fun (c : Nat) => decide (many ls c ≤ 1)
def cutN (n : Int) : Nat := (max 0 (min n 16)).toNat
def soles (ls : List (List St)) (cells : Int) : List Bool := solesN ls (cutN cells)
theorem solesN_snoc (ls : List (List St)) (m : Nat) : solesN ls (m + 1) = solesN ls m ++ [decide (many ls m ≤ 1)] := by simp [solesN, List.range_succ]
theorem take_snoc {α : Type} (d : α) (l : List α) (k : Nat) (h : k < l.length) : l.take (k + 1) = l.take k ++ [l.getD k d] := by
  rw [List.take_succ_eq_append_getElem h]; simp [List.getD, h]
theorem many_snoc (ls : List (List St)) (c : Int) (k : Nat) (h : k < ls.length) : many (ls.take (k + 1)) c = many (ls.take k) c + if asks (ls.getD k []) c then 1 else 0 := by
  rw [take_snoc [] ls k h]
  unfold many
  rw [List.countP_append]
  simp [List.countP_cons]
theorem asks_snoc (l : List St) (c : Int) (k : Nat) (h : k < l.length) : asks (l.take (k + 1)) c = (asks (l.take k) c || (access (l.getD k zeroSt) && (l.getD k zeroSt).cell == c)) := by
  rw [take_snoc zeroSt l k h]
  unfold asks
  rw [List.any_append]
  simp
end Go.Proofs.Ytapnnbbbgopobaa.Stp
namespace Go.Proofs.Ytapnnbbbgopobaa.Ow2
open Go.RowKit Mm Ow
theorem sl_many (w : World) (els : List (List Value)) (sz : Nat) (e : TypeId) (h : ∀ x ∈ els, x.length = sz) (hm : els.length ≤ maxLen) : Sl (w.alloc (.cells els.flatten.toArray e)) (some ⟨w.heap.size, 0, none⟩) els.length els.length sz (fun i => els.getD i []) :=
  ⟨Nat.le_refl _, hm, fun _ => ⟨_, _, rfl, by simp, fun i hi j hj => by
    have := flat_get h i j hi hj
    simp [World.cell?_alloc_new, this]⟩⟩
theorem map_getD (els : List (List Value)) : (List.range els.length).map (fun i => els.getD i []) = els := by
  refine List.ext_getElem (by simp) (fun i h1 h2 => ?_)
  simp [List.getD, h2]
theorem blk_same {w w' : World} {b : Nat} (h : w'.heap[b]? = w.heap[b]?) : (∀ o, w'.cell? ⟨b, o, none⟩ = w.cell? ⟨b, o, none⟩) ∧ (∀ o, w'.frozen? ⟨b, o, none⟩ = w.frozen? ⟨b, o, none⟩) :=
  ⟨fun o => World.cell?_of_block (a := ⟨b, o, none⟩) h, fun o => World.frozen?_of_block (a := ⟨b, o, none⟩) h⟩
theorem wpList_appN {P : Program} (w : World) {ops : Array Oper} {rest : List Oper} {o : Oper} {a : Act} {Q : Exit → Act → World → Prop} (hgd : o.guard = none) (s x : Operand) {t e : TypeId} {sz bytes : Nat}
    (ho : o.op = .call { callee := .builtin .append, args := #[s, x], argTypes := #[t, t] }) (hel : El P t e sz bytes) (base : Nat) (A : Option Addr) (n cap m H : Nat) (L els : List (List Value)) (hH : w.heap.size = H) (hs : a.eval s = .slice A n cap) (hown : Own w base e sz A n cap L)
    (hx : a.eval x = .slice (some ⟨H, 0, none⟩) m m) (hm : els.length = m) (hN : ∀ y ∈ els, y.length = sz) (h1 : ∀ y ∈ els, ∀ u ∈ y, u.oneCell' = true)
    (h63 : n + m ≤ maxLen) (hbytes : (n + m) * bytes ≤ 140737488355328) (hbase : base ≤ w.heap.size) (cs : Array Value) (hcs : cs = els.flatten.toArray)
    (h : ∀ A2 c2 w', Own w' base e sz A2 (n + m) c2 (L ++ els) → Below base w w' → (∀ b, b < w.heap.size → A.map (·.block) ≠ some b → w'.heap[b]? = w.heap[b]?) → (A2.map (·.block) = A.map (·.block) ∨ ∀ b, A2.map (·.block) = some b → w.heap.size ≤ b) → wpList P ops Q rest (a.put o.dst (.slice A2 (n + m) c2)) w') : wpList P ops Q (o :: rest) a (w.alloc (.cells cs e)) := by
  subst hcs hm hH
  have B : Below w.heap.size w (w.alloc (.cells els.flatten.toArray e)) := (Below.refl _ _).alloc (Nat.le_refl _) _
  have hsl := sl_many w els sz e hN (by omega)
  have hget : ∀ i, i < els.length → els.getD i [] ∈ els := fun i hi => by
    simp only [List.getD, List.getElem?_eq_getElem hi, Option.getD_some]; exact List.getElem_mem hi
  refine wpList_app _ hgd s x ho hel base A n cap L hs (hown.keep B) (some ⟨w.heap.size, 0, none⟩) els.length els.length (fun i => els.getD i []) hx hsl (fun i hi => hN _ (hget i hi)) (fun i hi => h1 _ (hget i hi)) h63 hbytes (by simp; omega) ?_
  intro A2 c2 w' hown' hg hat
  rw [map_getD] at hown'
  refine h A2 c2 w' hown' ((B.mono hbase).trans ((Below.refl _ _).grown hg (by simp; omega) (fun k hk => (hown.lt k hk).1))) (fun b hb hne => ?_) ?_
  · rw [hg.block b (by simp; omega) (fun e => hne e.symm)]
    exact B.block b hb
  · rcases hat with hat | hat
    · exact .inl hat
    · exact .inr fun b hb => by rw [hat] at hb; injection hb with hb; subst hb; simp
theorem own_set {w : World} {base : Nat} {e : TypeId} {sz : Nat} {A : Option Addr} {n cap : Nat} {L : List (List Value)} (h : Own w base e sz A n cap L) {a : Addr} (ha : a.block < base) (u : Value) : Own (w.setCell a u) base e sz A n cap L :=
  ⟨h.len, h.each, ownsRow_setCell_below h.row ha u⟩
end Go.Proofs.Ytapnnbbbgopobaa.Ow2
