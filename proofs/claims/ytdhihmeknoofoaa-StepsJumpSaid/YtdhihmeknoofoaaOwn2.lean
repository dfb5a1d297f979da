/-
  APPEND of some elements laid in a block just before; what else stays.
-/
import Derived.Test.YtdhihmeknoofoaaOwn
namespace Go.Proofs.Ytdhihmeknoofoaa.Ow2
set_option linter.unusedVariables false
set_option linter.unusedSimpArgs false
open Go.RowKit Mm Ow

theorem sl_many (w : World) (els : List (List Value)) (sz : Nat) (e : TypeId) (h : ∀ x ∈ els, x.length = sz) (hm : els.length ≤ maxLen) : Sl (w.alloc (.cells els.flatten.toArray e)) (some ⟨w.heap.size, 0, none⟩) els.length els.length sz (fun i => els.getD i []) :=
  ⟨Nat.le_refl _, hm, fun _ => ⟨_, _, rfl, by simp, fun i hi j hj => by
    have := flat_get h i j hi hj
    simp [World.cell?_alloc_new, this]⟩⟩
theorem map_getD (els : List (List Value)) : (List.range els.length).map (fun i => els.getD i []) = els := by
  refine List.ext_getElem (by simp) (fun i h1 h2 => ?_)
  simp [List.getD, h2]
/-- one block as it was: its cells and marks -/
theorem blk_same {w w' : World} {b : Nat} (h : w'.heap[b]? = w.heap[b]?) : (∀ o, w'.cell? ⟨b, o, none⟩ = w.cell? ⟨b, o, none⟩) ∧ (∀ o, w'.frozen? ⟨b, o, none⟩ = w.frozen? ⟨b, o, none⟩) :=
  ⟨fun o => World.cell?_of_block (a := ⟨b, o, none⟩) h, fun o => World.frozen?_of_block (a := ⟨b, o, none⟩) h⟩

/-- 'append(s, x, y ..)': the elements lie in a block of their own, laid just before -/
theorem wpList_appN {P : Program} (w : World) {ops : Array Oper} {rest : List Oper} {o : Oper} {a : Act} {Q : Exit → Act → World → Prop} (hgd : o.guard = none) (s x : Operand) {t e : TypeId} {sz bytes : Nat}
    (ho : o.op = .call { callee := .builtin .append, args := #[s, x], argTypes := #[t, t] }) (hel : El P t e sz bytes) (base : Nat) (A : Option Addr) (n cap m H : Nat) (L els : List (List Value)) (hH : w.heap.size = H) (hs : a.eval s = .slice A n cap) (hown : Own w base e sz A n cap L)
    (hx : a.eval x = .slice (some ⟨H, 0, none⟩) m m) (hm : els.length = m) (hN : ∀ y ∈ els, y.length = sz) (h1 : ∀ y ∈ els, ∀ u ∈ y, u.oneCell' = true)
    (h63 : n + m ≤ maxLen) (hbytes : (n + m) * bytes ≤ 140737488355328) (hbase : base ≤ w.heap.size) (cs : Array Value) (hcs : cs = els.flatten.toArray)
    (h : ∀ A2 c2 w', Own w' base e sz A2 (n + m) c2 (L ++ els) → Below base w w' → (∀ b, b < w.heap.size → A.map (·.block) ≠ some b → w'.heap[b]? = w.heap[b]?) → (A2.map (·.block) = A.map (·.block) ∨ ∀ b, A2.map (·.block) = some b → w.heap.size ≤ b) → wpList P ops Q rest (a.put o.dst (.slice A2 (n + m) c2)) w') : wpList P ops Q (o :: rest) a (w.alloc (.cells cs e)) := by
  subst hcs hm hH
  have B : Below w.heap.size w (w.alloc (.cells els.flatten.toArray e)) := (Below.refl _ _).alloc (Nat.le_refl _) _
  have hsl := sl_many w els sz e hN (by omega)
  have hget : ∀ i, i < els.length → els.getD i [] ∈ els := fun i hi => by
    simp only [List.getD, List.getElem?_eq_getElem hi, Option.getD_some]; exact List.getElem_mem hi
  refine wpList_app _ hgd s x ho hel base A n cap L hs (hown.keep B) (some ⟨w.heap.size, 0, none⟩) els.length els.length (fun i => els.getD i []) hx hsl (fun i hi => hN _ (hget i hi)) (fun i hi => h1 _ (hget i hi)) h63 hbytes (by simp; omega) ?_
  intro A2 c2 w' hown' hg hat
  rw [map_getD] at hown'
  refine h A2 c2 w' hown' ((B.mono hbase).trans ((Below.refl _ _).grown hg (by simp; omega) (fun k hk => (hown.lt k hk).1))) (fun b hb hne => ?_) ?_
  · rw [hg.block b (by simp; omega) (fun e => hne e.symm)]
    exact B.block b hb
  · rcases hat with hat | hat
    · exact .inl hat
    · exact .inr fun b hb => by rw [hat] at hb; injection hb with hb; subst hb; simp
theorem own_set {w : World} {base : Nat} {e : TypeId} {sz : Nat} {A : Option Addr} {n cap : Nat} {L : List (List Value)} (h : Own w base e sz A n cap L) {a : Addr} (ha : a.block < base) (u : Value) : Own (w.setCell a u) base e sz A n cap L :=
  ⟨h.len, h.each, ownsRow_setCell_below h.row ha u⟩
end Go.Proofs.Ytdhihmeknoofoaa.Ow2
