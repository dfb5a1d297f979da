/-
  SLICES THAT A CALL MAKES: a slice that owns its row, as a list of elements (each a list of cells); append.
-/
import Derived.Test.YtdhihmeknoofoaaMem
import Derived.Maps.AppendAt
import Derived.Deep.AppendLies
import Derived.OwnWalk
namespace Go.Proofs.Ytdhihmeknoofoaa.Ow
set_option linter.unusedVariables false
set_option linter.unusedSimpArgs false
open Go.RowKit Mm

/-- '.slice A n cap' owns the elements L, of 'sz' cells of type e, in a row from block 'base' on. -/
structure Own (w : World) (base : Nat) (e : TypeId) (sz : Nat) (A : Option Addr) (n cap : Nat) (L : List (List Value)) : Prop where
  len : L.length = n
  each : ∀ x ∈ L, x.length = sz
  row : w.ownsRow base e sz (.slice A n cap) n L.flatten

theorem Own.nil (w : World) (base : Nat) (e : TypeId) (sz : Nat) : Own w base e sz none 0 0 [] := ⟨rfl, fun x h => by simp at h, World.ownsRow_nil _ _ _ _⟩
theorem ownBlock_eq (A : Option Addr) (n cap : Nat) : (Value.slice A n cap).ownBlock = A.map (·.block) := by cases A <;> rfl
theorem Own.lt {w : World} {base : Nat} {e : TypeId} {sz : Nat} {A : Option Addr} {n cap : Nat} {L : List (List Value)} (h : Own w base e sz A n cap L) : ∀ g, A.map (·.block) = some g → base ≤ g ∧ g < w.heap.size := fun g hg =>
  h.row.lt g (by rw [ownBlock_eq]; exact hg)
theorem Own.keep {w w' : World} {base : Nat} {e : TypeId} {sz : Nat} {A : Option Addr} {n cap : Nat} {L : List (List Value)} (h : Own w base e sz A n cap L) (hb : Below w.heap.size w w') : Own w' base e sz A n cap L :=
  ⟨h.len, h.each, h.row.kept (row := none) ⟨hb.os, hb.tape, hb.output, hb.size, fun k hk _ => hb.block k hk⟩ (by
    cases A with
    | none => exact .inl rfl
    | some a => exact .inr (by simp [Value.ownBlock]))⟩
/-- another row is written -/
theorem Own.far {w w' : World} {base : Nat} {e : TypeId} {sz : Nat} {A : Option Addr} {n cap : Nat} {L : List (List Value)} {r : Option Nat} (h : Own w base e sz A n cap L) (hg : w.grownBy w' r) (hne : ∀ g, A.map (·.block) = some g → r ≠ some g) : Own w' base e sz A n cap L :=
  ⟨h.len, h.each, h.row.kept hg (by
    cases A with
    | none => exact .inl rfl
    | some a => exact .inr (fun e => hne a.block rfl (by rw [← e]; rfl)))⟩
theorem Own.low {w : World} {base base' : Nat} {e : TypeId} {sz : Nat} {A : Option Addr} {n cap : Nat} {L : List (List Value)} (h : Own w base e sz A n cap L) (hb : base' ≤ base) : Own w base' e sz A n cap L :=
  ⟨h.len, h.each, h.row.1, by
    rcases h.row.2 with h1 | ⟨g, c, cur, h1, h2, h3⟩
    · exact .inl h1
    · exact .inr ⟨g, c, cur, h1, by omega, h3⟩⟩
/-- the element type tells a row from another block -/
theorem Own.type {w : World} {base : Nat} {e : TypeId} {sz : Nat} {A : Option Addr} {n cap : Nat} {L : List (List Value)} (h : Own w base e sz A n cap L) {g : Nat} (hg : A.map (·.block) = some g) : ∃ cur, w.heap[g]? = some (.cells cur e (0, 0)) := by
  rcases h.row.2 with ⟨h1, _⟩ | ⟨g', c, cur, h1, _, h3, _⟩
  · injection h1 with h1; subst h1; cases hg
  · injection h1 with h1; subst h1
    simp at hg
    subst hg
    exact ⟨cur, h3⟩

theorem flat_get {L : List (List Value)} {sz : Nat} (h : ∀ x ∈ L, x.length = sz) : ∀ (i j : Nat), i < L.length → j < sz → L.flatten[i * sz + j]? = (L.getD i [])[j]? := by
  induction L with
  | nil => intro i j hi; simp at hi
  | cons x L ih =>
    intro i j hi hj
    have hx : x.length = sz := h x (by simp)
    cases i with
    | zero =>
      simp only [List.flatten_cons, Nat.zero_mul, Nat.zero_add]
      rw [List.getElem?_append_left (by omega)]
      rfl
    | succ i =>
      simp only [List.flatten_cons]
      rw [List.getElem?_append_right (by rw [Nat.succ_mul]; omega)]
      have e : (i + 1) * sz + j - x.length = i * sz + j := by rw [Nat.succ_mul]; omega
      rw [e, ih (fun y hy => h y (by simp [hy])) i j (by simpa using hi) hj]
      rfl
theorem flat_len {L : List (List Value)} {sz : Nat} (h : ∀ x ∈ L, x.length = sz) : L.flatten.length = L.length * sz := by
  induction L with
  | nil => simp
  | cons x L ih => simp only [List.flatten_cons, List.length_append, List.length_cons]; rw [ih (fun y hy => h y (by simp [hy])), h x (by simp), Nat.succ_mul]; omega

/-- it may be read -/
theorem Own.sl {w : World} {base : Nat} {e : TypeId} {sz : Nat} {A : Option Addr} {n cap : Nat} {L : List (List Value)} (h : Own w base e sz A n cap L) : Sl w A n cap sz (fun i => L.getD i []) := by
  rcases h.row.2 with ⟨h1, h2⟩ | ⟨g, c, cur, h1, h2, h3, h4, h5, h6, h7⟩
  · injection h1 with h1 h2 h3
    subst h1 h2 h3
    exact Sl.nil _ _ _
  · injection h1 with e1 e2 e3
    subst e1 e3
    refine ⟨h4, h5, fun h0 => ⟨g, 0, rfl, ?_, fun i hi j hj => ?_⟩⟩
    · exact (h.lt g rfl).2
    · have hf := flat_get h.each i j (by rw [h.len]; exact hi) hj
      have hl := flat_len h.each
      have hij : i * sz + j < n * sz := by
        have := Nat.mul_le_mul_right sz (show i + 1 ≤ n by omega)
        rw [Nat.succ_mul] at this
        omega
      have hx : i * sz + j < L.flatten.length := by rw [hl, h.len]; exact hij
      rw [← hf, List.getElem?_eq_getElem hx]
      have := h.row.cells (g := g) (by rfl) (i * sz + j) _ (List.getElem?_eq_getElem hx)
      have ea : (⟨g, 0, none⟩ : Addr).add (i * sz + j) = ⟨g, 0 + (i * sz + j), none⟩ := by
        unfold Addr.add
        split
        · rename_i h0; rw [h0]
        · simp
      rw [ea] at this
      exact this

/-- an element type's row of the table -/
structure El (P : Program) (t e : TypeId) (sz bytes : Nat) : Prop where
  slice : P.underlying t = some (.slice e)
  info : ∃ i z, P.info? e = some i ∧ i.zero = some z ∧ i.size = sz ∧ i.bytes = bytes ∧ z.cells.size = sz
  pos : 0 < sz

theorem run_load0 {P : Program} (w : World) (a : Addr) : (loadCells a 0).run P w = .ok #[] w := by simp [loadCells]; rfl

theorem run_app {P : Program} (w : World) {t e : TypeId} {sz bytes : Nat} (ty : TypeId) (hel : El P t e sz bytes) (base : Nat) (A : Option Addr) (n cap : Nat) (L : List (List Value)) (hown : Own w base e sz A n cap L)
    (A' : Option Addr) (m c : Nat) (N : Nat → List Value) (hsl : Sl w A' m c sz N) (hN : ∀ i, i < m → (N i).length = sz) (h1 : ∀ i, i < m → ∀ u ∈ N i, u.oneCell' = true)
    (h63 : n + m ≤ maxLen) (hbytes : (n + m) * bytes ≤ 140737488355328) (hbase : base ≤ w.heap.size) :
    ∃ A2 c2 w', (Builtin.append_ #[t, t] ty #[.slice A n cap, .slice A' m c]).run P w = .ok (.slice A2 (n + m) c2) w' ∧ Own w' base e sz A2 (n + m) c2 (L ++ (List.range m).map N) ∧ w.grownBy w' (A.map (·.block)) ∧ (A2.map (·.block) = A.map (·.block) ∨ A2.map (·.block) = some w.heap.size) := by
  obtain ⟨i, z, hi, hz, hs, hby, hzs⟩ := hel.info
  by_cases hm : m = 0
  · subst hm
    have hr : (Builtin.append_ #[t, t] ty #[.slice A n cap, .slice A' 0 c]).run P w = .ok (.slice A n cap) w := by
      rcases hown.row.2 with ⟨e1, e2⟩ | ⟨g, cp, cur, e1, h2, h3, h4, h5, h6, h7⟩
      · injection e1 with e1 e2 e3
        subst e1 e2 e3
        cases A' <;> simp [Builtin.append_, run_underlying hel.slice, sizeOf, typeInfo, hi, Builtin.lenOf, Builtin.firstCells, storeCells, run_load0]
      · injection e1 with e1 e2 e3
        subst e1 e3
        cases A' <;> simp [Builtin.append_, run_underlying hel.slice, sizeOf, typeInfo, hi, Builtin.lenOf, Builtin.firstCells, h4, storeCells, run_load0]
    exact ⟨A, cap, w, hr, by simpa using hown, World.grownBy.refl _ _, .inl rfl⟩
  · obtain ⟨b, o, rfl, hb, hc⟩ := hsl.at_ (by omega)
    have hlen : ∀ x ∈ (List.range m).map N, x.length = sz := fun x hx => by
      obtain ⟨i, hi, rfl⟩ := List.mem_map.1 hx
      exact hN i (List.mem_range.1 hi)
    have hfl := flat_len hlen
    have ha : ∀ k, (⟨b, o, none⟩ : Addr).add k = ⟨b, o + k, none⟩ := fun k => by
      unfold Addr.add
      split
      · rename_i h0; rw [h0]; rfl
      · rfl
    have hnews : ∀ j u, ((List.range m).map N).flatten[j]? = some u → w.cell? ((⟨b, o, none⟩ : Addr).add j) = some u := fun j u hu => by
      have hj : j < ((List.range m).map N).flatten.length := (List.getElem?_eq_some_iff.1 hu).1
      rw [hfl] at hj
      simp only [List.length_map, List.length_range] at hj
      have hsz := hel.pos
      have hdm := Nat.div_add_mod j sz
      have hlt : j / sz < m := Nat.div_lt_of_lt_mul (by rw [Nat.mul_comm]; exact hj)
      have hmod : j % sz < sz := Nat.mod_lt _ hsz
      have hjj : j / sz * sz + j % sz = j := by rw [Nat.mul_comm]; exact hdm
      have hg := flat_get hlen (j / sz) (j % sz) (by simpa using hlt) hmod
      rw [hjj, hu] at hg
      have hx : ((List.range m).map N).getD (j / sz) [] = N (j / sz) := by simp [List.getD, hlt]
      rw [hx] at hg
      have hcc := hc (j / sz) hlt (j % sz) hmod
      rw [hjj] at hcc
      rw [ha, hcc, ← hg]
    have h1' : ∀ u ∈ ((List.range m).map N).flatten, u.oneCell' = true := fun u hu => by
      obtain ⟨x, hx, hu⟩ := List.mem_flatten.1 hu
      obtain ⟨i, hi, rfl⟩ := List.mem_map.1 hx
      exact h1 i (List.mem_range.1 hi) u hu
    obtain ⟨v', w', hrun, h2, h3, _, h5⟩ := run_append_own_at (P := P) w base t ty e i z sz bytes hel.slice hi hz hs hby hzs hel.pos (.slice A n cap) n L.flatten hown.row ⟨b, o, none⟩ m c _ (by rw [hfl]; simp) hnews h1' h63 hbytes hbase
    obtain ⟨g, c2, rfl, _, _⟩ := h2.form (by omega)
    rw [ownBlock_eq, ownBlock_eq] at h5
    rw [ownBlock_eq] at h3
    exact ⟨_, c2, w', hrun, ⟨by simp [hown.len], fun x hx => by
      rcases List.mem_append.1 hx with hx | hx
      · exact hown.each x hx
      · exact hlen x hx, by rw [List.flatten_append]; exact h2⟩, h3, h5⟩

theorem wp_app {P : Program} (w : World) {o : Oper} {a : Act} {K : Act → World → Prop} {Q : Exit → Act → World → Prop} (s x : Operand) {t e : TypeId} {sz bytes : Nat}
    (ho : o.op = .call { callee := .builtin .append, args := #[s, x], argTypes := #[t, t] }) (hel : El P t e sz bytes) (base : Nat) (A : Option Addr) (n cap : Nat) (L : List (List Value)) (hs : a.eval s = .slice A n cap) (hown : Own w base e sz A n cap L)
    (A' : Option Addr) (m c : Nat) (N : Nat → List Value) (hx : a.eval x = .slice A' m c) (hsl : Sl w A' m c sz N) (hN : ∀ i, i < m → (N i).length = sz) (h1 : ∀ i, i < m → ∀ u ∈ N i, u.oneCell' = true)
    (h63 : n + m ≤ maxLen) (hbytes : (n + m) * bytes ≤ 140737488355328) (hbase : base ≤ w.heap.size)
    (h : ∀ A2 c2 w', Own w' base e sz A2 (n + m) c2 (L ++ (List.range m).map N) → w.grownBy w' (A.map (·.block)) → (A2.map (·.block) = A.map (·.block) ∨ A2.map (·.block) = some w.heap.size) → K (a.put o.dst (.slice A2 (n + m) c2)) w') : o.wp P a w K Q := by
  obtain ⟨A2, c2, w', hrun, h2, h3, h4⟩ := run_app (P := P) w o.type hel base A n cap L hown A' m c N hsl hN h1 h63 hbytes hbase
  unfold Oper.wp execOp
  simp only [ho, resolve, invoke, builtin, Sem.run_bind, Sem.run_pure, Result.andThen_ok, List.map_toArray, List.map_cons, List.map_nil, hs, hx, hrun]
  exact h A2 c2 w' h2 h3 h4

/-- 'append(s, x...)' -/
theorem wpList_app {P : Program} (w : World) {ops : Array Oper} {rest : List Oper} {o : Oper} {a : Act} {Q : Exit → Act → World → Prop} (hgd : o.guard = none) (s x : Operand) {t e : TypeId} {sz bytes : Nat}
    (ho : o.op = .call { callee := .builtin .append, args := #[s, x], argTypes := #[t, t] }) (hel : El P t e sz bytes) (base : Nat) (A : Option Addr) (n cap : Nat) (L : List (List Value)) (hs : a.eval s = .slice A n cap) (hown : Own w base e sz A n cap L)
    (A' : Option Addr) (m c : Nat) (N : Nat → List Value) (hx : a.eval x = .slice A' m c) (hsl : Sl w A' m c sz N) (hN : ∀ i, i < m → (N i).length = sz) (h1 : ∀ i, i < m → ∀ u ∈ N i, u.oneCell' = true)
    (h63 : n + m ≤ maxLen) (hbytes : (n + m) * bytes ≤ 140737488355328) (hbase : base ≤ w.heap.size)
    (h : ∀ A2 c2 w', Own w' base e sz A2 (n + m) c2 (L ++ (List.range m).map N) → w.grownBy w' (A.map (·.block)) → (A2.map (·.block) = A.map (·.block) ∨ A2.map (·.block) = some w.heap.size) → wpList P ops Q rest (a.put o.dst (.slice A2 (n + m) c2)) w') : wpList P ops Q (o :: rest) a w :=
  wpList_plain hgd fun _ hK => wp_app w s x ho hel base A n cap L hs hown A' m c N hx hsl hN h1 h63 hbytes hbase fun A2 c2 w' h2 h3 h4 => hK _ _ (h A2 c2 w' h2 h3 h4)

/-- a block of the call's own that holds one element: what 'append(s, x)' hands to append -/
theorem sl_one (w : World) (x : List Value) (e : TypeId) : Sl (w.alloc (.cells x.toArray e)) (some ⟨w.heap.size, 0, none⟩) 1 1 x.length (fun _ => x) :=
  ⟨Nat.le_refl _, by unfold maxLen; omega, fun _ => ⟨_, _, rfl, by simp, fun i hi j hj => by
    obtain rfl : i = 0 := by omega
    simp⟩⟩

/-- 'append(s, x)', x one element, laid in a block of its own just before -/
theorem wpList_app1 {P : Program} (w : World) {ops : Array Oper} {rest : List Oper} {o : Oper} {a : Act} {Q : Exit → Act → World → Prop} (hgd : o.guard = none) (s x : Operand) {t e : TypeId} {sz bytes : Nat}
    (ho : o.op = .call { callee := .builtin .append, args := #[s, x], argTypes := #[t, t] }) (hel : El P t e sz bytes) (base : Nat) (A : Option Addr) (n cap : Nat) (L : List (List Value)) (hs : a.eval s = .slice A n cap) (hown : Own w base e sz A n cap L)
    (el : List Value) (hx : a.eval x = .slice (some ⟨w.heap.size, 0, none⟩) 1 1) (hN : el.length = sz) (h1 : ∀ u ∈ el, u.oneCell' = true)
    (h63 : n + 1 ≤ maxLen) (hbytes : (n + 1) * bytes ≤ 140737488355328) (hbase : base ≤ w.heap.size)
    (h : ∀ A2 c2 w', Own w' base e sz A2 (n + 1) c2 (L ++ [el]) → Below base w w' → wpList P ops Q rest (a.put o.dst (.slice A2 (n + 1) c2)) w') : wpList P ops Q (o :: rest) a (w.alloc (.cells el.toArray e)) := by
  have B : Below w.heap.size w (w.alloc (.cells el.toArray e)) := (Below.refl _ _).alloc (Nat.le_refl _) _
  have hsl := sl_one w el e
  rw [hN] at hsl
  refine wpList_app _ hgd s x ho hel base A n cap L hs (hown.keep B) (some ⟨w.heap.size, 0, none⟩) 1 1 (fun _ => el) hx hsl (fun _ _ => hN) (fun _ _ => h1) h63 hbytes (by simp; omega) ?_
  intro A2 c2 w' hown' hg hat
  refine h A2 c2 w' (by simpa using hown') ?_
  refine (B.mono hbase).trans ((Below.refl _ _).grown hg (by simp; omega) (fun k hk => (hown.lt k hk).1))
end Go.Proofs.Ytdhihmeknoofoaa.Ow
