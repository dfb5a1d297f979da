/-
  A ROW OF ONE-CELL ELEMENTS, one of which is taken out in place.
-/
import Derived.Test.YtdhihmeknoofoaaOwn2
import Derived.Laws.IdiomCopy
import Derived.Deep.Upon
import Derived.ArgAppend
import Derived.Lib.SliceRun
namespace Go.Proofs.Ytdhihmeknoofoaa.Del
set_option linter.unusedVariables false
set_option linter.unusedSimpArgs false
open Go.RowKit Mm Ow Ow2

theorem heap_setCell_same {w : World} {g o : Nat} {cur : Array Value} {e : TypeId} {fr : Nat × Nat} (h : w.heap[g]? = some (.cells cur e fr)) (v : Value) :
    (w.setCell ⟨g, o, none⟩ v).heap[g]? = some (.cells (cur.setIfInBounds o v) e fr) := by
  simp only [World.setCell, Array.getElem?_modify, h]
  simp
theorem heap_setCells {g : Nat} {e : TypeId} {fr : Nat × Nat} : ∀ (vs : List Value) (o : Nat) (w : World) (cur : Array Value), w.heap[g]? = some (.cells cur e fr) → o + vs.length ≤ cur.size →
    ∃ cur' : Array Value, (w.setCells g o vs).heap[g]? = some (.cells cur' e fr) ∧ cur'.size = cur.size ∧ ∀ j, cur'[j]? = if o ≤ j ∧ j < o + vs.length then vs[j - o]? else cur[j]?
  | [], o, w, cur, h, _ => ⟨cur, h, rfl, fun j => by rw [if_neg (by simp)]⟩
  | v :: r, o, w, cur, h, hl => by
    simp only [List.length_cons] at hl
    obtain ⟨cur', h1, h2, h3⟩ := heap_setCells r (o + 1) (w.setCell ⟨g, o, none⟩ v) _ (heap_setCell_same h v) (by simp; omega)
    refine ⟨cur', h1, by simpa using h2, fun j => ?_⟩
    rw [h3 j]
    by_cases e1 : j = o
    · subst e1
      rw [if_neg (by omega), if_pos (by simp), Array.getElem?_setIfInBounds]
      simp
      omega
    · by_cases e2 : o + 1 ≤ j ∧ j < o + 1 + r.length
      · rw [if_pos e2, if_pos (by simp only [List.length_cons]; omega), show j - o = (j - (o + 1)) + 1 by omega, List.getElem?_cons_succ]
      · rw [if_neg e2, if_neg (by simp only [List.length_cons]; omega), Array.getElem?_setIfInBounds]
        rw [if_neg (by omega)]
theorem size_setCells (b : Nat) : ∀ (vs : List Value) (o : Nat) (w : World), (w.setCells b o vs).heap.size = w.heap.size
  | [], _, _ => rfl
  | v :: r, o, w => by rw [World.setCells, size_setCells b r]; simp
theorem tape_setCells (b : Nat) : ∀ (vs : List Value) (o : Nat) (w : World), (w.setCells b o vs).tape = w.tape
  | [], _, _ => rfl
  | v :: r, o, w => by rw [World.setCells, tape_setCells b r]; rfl
/-- what is left of a row where the element i was cut out in place, and the last one cleared -/
theorem own_delete {w : World} {B g n c i : Nat} {e : TypeId} {L : List Value} (h : Own w B e 1 (some ⟨g, 0, none⟩) n c (L.map fun v => [v])) (hi : i < n) (z : Value) :
    Own ((w.setCells g i (L.drop (i + 1))).setCells g (n - 1) [z]) B e 1 (some ⟨g, 0, none⟩) (n - 1) c ((L.eraseIdx i).map fun v => [v]) ∧ w.grownBy ((w.setCells g i (L.drop (i + 1))).setCells g (n - 1) [z]) (some g) := by
  have hln : L.length = n := by simpa using h.len
  have hfl : (L.map fun v => [v]).flatten = L := by
    clear h hln
    induction L with
    | nil => rfl
    | cons a l ih => simp [ih]
  have hrow := h.row
  rw [hfl] at hrow
  rcases hrow.2 with ⟨h1, _⟩ | ⟨g', c', cur, h1, h2, h3, h4, h5, h6, h7⟩
  · injection h1 with h1; cases h1
  · injection h1 with h1 _ hc
    injection h1 with h1
    injection h1 with h1
    subst h1 hc
    rw [Nat.mul_one] at h6 h7
    obtain ⟨cur1, k1, k2, k3⟩ := heap_setCells (L.drop (i + 1)) i w cur h3 (by rw [List.length_drop]; omega)
    obtain ⟨cur2, m1, m2, m3⟩ := heap_setCells [z] (n - 1) _ cur1 k1 (by simp only [List.length_cons, List.length_nil]; omega)
    have he : (L.eraseIdx i).length = n - 1 := by rw [List.length_eraseIdx]; rw [if_pos (by omega), hln]
    have hfl2 : ((L.eraseIdx i).map fun v => [v]).flatten = L.eraseIdx i := by
      generalize L.eraseIdx i = l
      induction l with
      | nil => rfl
      | cons a l ih => simp [ih]
    refine ⟨⟨by simp [he], fun x hx => by obtain ⟨v, _, rfl⟩ := List.mem_map.1 hx; rfl, ?_⟩, ?_⟩
    · rw [hfl2]
      refine ⟨by rw [he, Nat.mul_one], .inr ⟨g, c, cur2, rfl, h2, m1, by omega, h5, by rw [m2, k2, h6, Nat.mul_one], ?_⟩⟩
      rw [Nat.mul_one]
      refine List.ext_getElem? (fun j => ?_)
      rw [List.getElem?_take]
      by_cases hj : j < n - 1
      · rw [if_pos hj, Array.getElem?_toList, m3 j, if_neg (by simp only [List.length_cons, List.length_nil]; omega), k3 j, List.getElem?_eraseIdx, List.length_drop]
        by_cases hji : j < i
        · rw [if_neg (by omega), if_pos hji, ← h7, List.getElem?_take, if_pos (by omega), Array.getElem?_toList]
        · rw [if_pos (by omega), if_neg hji, List.getElem?_drop]
          congr 1
          omega
      · rw [if_neg hj, List.getElem?_eq_none (by omega)]
    · refine ⟨?_, ?_, ?_, ?_, ?_⟩
      · rw [World.os_setCells, World.os_setCells]
      · rw [tape_setCells, tape_setCells]
      · rw [World.output_setCells, World.output_setCells]
      · rw [size_setCells, size_setCells]; exact Nat.le_refl _
      · intro k hk hne
        rw [World.heap_setCells_other _ _ _ _ (by rw [size_setCells]; exact hk) (fun e => hne (by rw [e])), World.heap_setCells_other _ _ _ _ hk (fun e => hne (by rw [e]))]
/-- 'append(s, x...)' where there is room -/
theorem wpList_del {P : Program} (w : World) {ops : Array Oper} {rest : List Oper} {o : Oper} {a : Act} {Q : Exit → Act → World → Prop} (hgd : o.guard = none) (s x : Operand) {t e : TypeId} {bytes : Nat}
    (ho : o.op = .call { callee := .builtin .append, args := #[s, x], argTypes := #[t, t] }) (hel : El P t e 1 bytes) (b n cap : Nat) (hs : a.eval s = .slice (some ⟨b, 0, none⟩) n cap)
    (ad : Addr) (m c : Nat) (news : List Value) (hx : a.eval x = .slice (some ad) m c) (hm : news.length = m) (hnews : ∀ j u, news[j]? = some u → w.cell? (ad.add j) = some u) (h1 : ∀ u ∈ news, u.oneCell' = true)
    (hroom : n + m ≤ cap) (hc : ∀ j, j < m → (w.cell? ⟨b, n + j, none⟩).isSome = true) (hf : ∀ j, j < m → w.frozen? ⟨b, n + j, none⟩ = false)
    (h : wpList P ops Q rest (a.put o.dst (.slice (some ⟨b, 0, none⟩) (n + m) cap)) (w.setCells b n news)) : wpList P ops Q (o :: rest) a w :=
  wpList_plain hgd fun _ hK => by
    obtain ⟨i, z, hi, _, hsz, _, _⟩ := hel.info
    have hrun := run_append_room_cells (P := P) w t o.type e i hel.slice hi b 0 n cap ad m c news (by rw [hsz, hm, Nat.mul_one]) hnews h1 hroom (fun j hj => by rw [hsz, Nat.mul_one, Nat.zero_add]; exact hc j (by omega)) (fun j hj => by rw [hsz, Nat.mul_one, Nat.zero_add]; exact hf j (by omega))
    rw [hsz, Nat.mul_one, Nat.zero_add] at hrun
    unfold Oper.wp execOp
    simp only [ho, resolve, invoke, builtin, Sem.run_bind, Sem.run_pure, Result.andThen_ok, List.map_toArray, List.map_cons, List.map_nil, hs, hx, hrun]
    exact hK _ _ h
/-- the cells of a row -/
theorem own_cell {w : World} {B g n c : Nat} {e : TypeId} {L : List Value} (h : Own w B e 1 (some ⟨g, 0, none⟩) n c (L.map fun v => [v])) {k : Nat} (hk : k < n) : w.cell? ⟨g, k, none⟩ = some (L.getD k undef) ∧ w.frozen? ⟨g, k, none⟩ = false := by
  have hln : L.length = n := by simpa using h.len
  obtain ⟨b, o, eq, _, hc⟩ := h.sl.at_ (by omega)
  simp only [Option.some.injEq, Addr.mk.injEq, and_true] at eq
  obtain ⟨rfl, rfl⟩ := eq
  refine ⟨by simpa [List.getD, List.getElem?_map, show k < L.length by omega] using hc k hk 0 (by omega), ?_⟩
  rcases h.row.2 with ⟨h1, _⟩ | ⟨g', c', cur, h1, h2, h3, h4, h5, h6, h7⟩
  · injection h1 with h1; cases h1
  · injection h1 with h1 _ hc
    injection h1 with h1
    injection h1 with h1
    subst h1
    simp [World.frozen?, h3]
end Go.Proofs.Ytdhihmeknoofoaa.Del
