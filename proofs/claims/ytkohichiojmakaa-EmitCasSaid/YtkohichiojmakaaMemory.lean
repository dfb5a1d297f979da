/-
  A MEMORY OF CHAPTER 4 in the heap: a struct of three slices; which blocks are its own; what turns when one is written.
-/
import Derived.Test.YtkohichiojmakaaGOwn
import Derived.Test.YtkohichiojmakaaProg
namespace Go.Proofs.Ytkohichiojmakaa.Me
set_option linter.unusedVariables false
set_option linter.unusedSimpArgs false
open Go.RowKit Cm Mm Ow

/-- Nothing but the blocks F (and new ones) turns. -/
structure Only (F : List Nat) (w w' : World) : Prop where
  os : w'.os = w.os
  tape : w'.tape = w.tape
  output : w'.output = w.output
  size : w.heap.size ≤ w'.heap.size
  block : ∀ k, k < w.heap.size → k ∉ F → w'.heap[k]? = w.heap[k]?

theorem Only.refl (F : List Nat) (w : World) : Only F w w := ⟨rfl, rfl, rfl, Nat.le_refl _, fun _ _ _ => rfl⟩
theorem Only.of_below {F : List Nat} {w w' : World} (h : Below w.heap.size w w') : Only F w w' := ⟨h.os, h.tape, h.output, h.size, fun k hk _ => h.block k hk⟩
theorem Only.of_grown {F : List Nat} {w w' : World} {r : Option Nat} (h : w.grownBy w' r) (hr : ∀ g, r = some g → g ∈ F) : Only F w w' :=
  ⟨h.os, h.tape, h.output, h.size, fun k hk hn => h.block k hk (fun e => hn (hr k e.symm))⟩
/-- F' may have new blocks -/
theorem Only.trans {F F' : List Nat} {a b c : World} (h : Only F a b) (k : Only F' b c) (hF : ∀ x ∈ F', x ∈ F ∨ a.heap.size ≤ x) : Only F a c :=
  ⟨k.os.trans h.os, k.tape.trans h.tape, k.output.trans h.output, Nat.le_trans h.size k.size, fun i hi hn =>
    (k.block i (Nat.lt_of_lt_of_le hi h.size) (fun hx => by rcases hF i hx with h1 | h1; exact hn h1; omega)).trans (h.block i hi hn)⟩
theorem Only.seq {F : List Nat} {a b c : World} (h : Only F a b) (k : Only F b c) : Only F a c := h.trans k (fun x hx => .inl hx)
theorem Only.more {F F' : List Nat} {a b : World} (h : Only F a b) (hF : ∀ x ∈ F, x ∈ F') : Only F' a b := ⟨h.os, h.tape, h.output, h.size, fun k hk hn => h.block k hk (fun hx => hn (hF k hx))⟩
theorem Only.drew {F : List Nat} {a b : World} (h : Only F a b) : Only F a b.drew := ⟨h.os, h.tape, h.output, h.size, h.block⟩
theorem Only.drewN {F : List Nat} {a b : World} (h : Only F a b) (n : Nat) : Only F a (b.drewN n) := ⟨h.os, h.tape, h.output, h.size, h.block⟩
theorem Only.alloc {F : List Nat} {a b : World} (h : Only F a b) (o : Obj) : Only F a (b.alloc o) :=
  h.trans (F' := F) (Only.of_below ((Below.refl _ _).alloc (Nat.le_refl _) _)) (fun x hx => .inl hx)
theorem Only.setCell {F : List Nat} {a b : World} (h : Only F a b) {p : Addr} (hp : p.block ∈ F) (u : Value) : Only F a (b.setCell p u) :=
  h.seq ⟨rfl, rfl, rfl, by simp [World.setCell], fun k hk hn => Below.heap_setCell _ _ _ _ (fun e => hn (by rw [e]; exact hp))⟩
theorem Only.below {F : List Nat} {B : Nat} {a b : World} (h : Only F a b) (hF : ∀ x ∈ F, B ≤ x) (hB : B ≤ a.heap.size) : Below B a b :=
  ⟨h.os, h.tape, h.output, h.size, fun k hk => h.block k (by omega) (fun hx => by have := hF k hx; omega)⟩
theorem Only.cell {F : List Nat} {a b : World} (h : Only F a b) {p : Addr} (hp : p.block < a.heap.size) (hn : p.block ∉ F) : b.cell? p = a.cell? p := World.cell?_of_block (h.block _ hp hn)
theorem Only.row {F : List Nat} {w w' : World} {base : Nat} {e : TypeId} {sz n cap : Nat} {A : Option Addr} {xs : List Value} (h : Only F w w') (hr : w.ownsRow base e sz (.slice A n cap) n xs) (hn : ∀ g, A.map (·.block) = some g → g ∉ F) : w'.ownsRow base e sz (.slice A n cap) n xs := by
  refine ⟨hr.1, ?_⟩
  rcases hr.2 with h1 | ⟨g, c, cur, h1, h2, h3, h4⟩
  · exact .inl h1
  · have hg : A.map (·.block) = some g := by injection h1 with h1; subst h1; rfl
    have hlt := (hr.lt g (by rw [ownBlock_eq]; exact hg)).2
    exact .inr ⟨g, c, cur, h1, h2, (h.block g hlt (hn g hg)).trans h3, h4⟩

def uw (x : Int) : Value := .int .u64 x
def iv (x : Int) : Value := .int .i64 x

/-- The memory at block p, with its rows written out. -/
structure MemAt (w : World) (T : TypeId) (p : Nat) (F : List Nat) (n : Nat) (A1 A2 A3 : Option Addr) (c1 c2 c3 : Nat) (now kept ver : List Int) : Prop where
  head : w.heap[p]? = some (.cells #[.slice A1 n c1, .slice A2 n c2, .slice A3 n c3] T (0, 0))
  r1 : w.ownsRow 0 58 1 (.slice A1 n c1) n (now.map uw)
  r2 : w.ownsRow 0 58 1 (.slice A2 n c2) n (kept.map uw)
  r3 : w.ownsRow 0 3 1 (.slice A3 n c3) n (ver.map iv)
  apart : ∀ g, A1.map (·.block) = some g → A2.map (·.block) = some g → False
  pF : p ∈ F
  F1 : ∀ g, A1.map (·.block) = some g → g ∈ F
  F2 : ∀ g, A2.map (·.block) = some g → g ∈ F
  F3 : ∀ g, A3.map (·.block) = some g → g ∈ F
  lt : ∀ k ∈ F, k < w.heap.size
  small : n ≤ 64

/-- A memory of n words: what they are now, what is kept of them, how often each was written. F: its blocks. -/
def Mem (w : World) (T : TypeId) (p : Nat) (F : List Nat) (n : Nat) (now kept ver : List Int) : Prop := ∃ A1 A2 A3 c1 c2 c3, MemAt w T p F n A1 A2 A3 c1 c2 c3 now kept ver

section
variable {w w' : World} {T : TypeId} {p n : Nat} {F : List Nat} {A1 A2 A3 : Option Addr} {c1 c2 c3 : Nat} {now kept ver : List Int}
theorem MemAt.len1 (h : MemAt w T p F n A1 A2 A3 c1 c2 c3 now kept ver) : now.length = n := by simpa using h.r1.1
theorem MemAt.len2 (h : MemAt w T p F n A1 A2 A3 c1 c2 c3 now kept ver) : kept.length = n := by simpa using h.r2.1
theorem MemAt.len3 (h : MemAt w T p F n A1 A2 A3 c1 c2 c3 now kept ver) : ver.length = n := by simpa using h.r3.1
theorem MemAt.far {G : List Nat} (h : MemAt w T p F n A1 A2 A3 c1 c2 c3 now kept ver) (ho : Only G w w') (hd : ∀ k ∈ F, k ∉ G) : MemAt w' T p F n A1 A2 A3 c1 c2 c3 now kept ver :=
  ⟨(ho.block p (h.lt p h.pF) (hd p h.pF)).trans h.head, ho.row h.r1 (fun g hg => hd g (h.F1 g hg)), ho.row h.r2 (fun g hg => hd g (h.F2 g hg)), ho.row h.r3 (fun g hg => hd g (h.F3 g hg)), h.apart, h.pF, h.F1, h.F2, h.F3, fun k hk => Nat.lt_of_lt_of_le (h.lt k hk) ho.size, h.small⟩
theorem MemAt.drew (h : MemAt w T p F n A1 A2 A3 c1 c2 c3 now kept ver) : MemAt w.drew T p F n A1 A2 A3 c1 c2 c3 now kept ver := h.far (G := []) ((Only.refl _ _).drew) (fun _ _ hx => by cases hx)
theorem Mem.far {G : List Nat} (h : Mem w T p F n now kept ver) (ho : Only G w w') (hd : ∀ k ∈ F, k ∉ G) : Mem w' T p F n now kept ver := by
  obtain ⟨A1, A2, A3, c1, c2, c3, h⟩ := h
  exact ⟨A1, A2, A3, c1, c2, c3, h.far ho hd⟩
theorem Mem.keep (h : Mem w T p F n now kept ver) (hb : Below w.heap.size w w') : Mem w' T p F n now kept ver := h.far (G := []) (Only.of_below hb) (fun _ _ h => by cases h)
theorem Mem.lt (h : Mem w T p F n now kept ver) : ∀ k ∈ F, k < w.heap.size := by
  obtain ⟨A1, A2, A3, c1, c2, c3, h⟩ := h
  exact h.lt
theorem Mem.lens (h : Mem w T p F n now kept ver) : now.length = n ∧ kept.length = n ∧ ver.length = n ∧ n ≤ 64 := by
  obtain ⟨A1, A2, A3, c1, c2, c3, h⟩ := h
  exact ⟨h.len1, h.len2, h.len3, h.small⟩
theorem MemAt.cells (h : MemAt w T p F n A1 A2 A3 c1 c2 c3 now kept ver) : w.cell? ⟨p, 0, none⟩ = some (.slice A1 n c1) ∧ w.cell? ⟨p, 1, none⟩ = some (.slice A2 n c2) ∧ w.cell? ⟨p, 2, none⟩ = some (.slice A3 n c3) := by
  refine ⟨?_, ?_, ?_⟩ <;> simp [World.cell?, h.head]
theorem MemAt.free (h : MemAt w T p F n A1 A2 A3 c1 c2 c3 now kept ver) (i : Nat) : w.frozen? ⟨p, i, none⟩ = false := by simp [World.frozen?, h.head]
/-- the rows' heads, where there is a word -/
theorem MemAt.some_ (h : MemAt w T p F n A1 A2 A3 c1 c2 c3 now kept ver) (hn : 0 < n) : ∃ g1 g2 g3, A1 = some ⟨g1, 0, none⟩ ∧ A2 = some ⟨g2, 0, none⟩ ∧ A3 = some ⟨g3, 0, none⟩ := by
  obtain ⟨g1, _, e1, _⟩ := h.r1.form hn
  obtain ⟨g2, _, e2, _⟩ := h.r2.form hn
  obtain ⟨g3, _, e3, _⟩ := h.r3.form hn
  injection e1 with e1
  injection e2 with e2
  injection e3 with e3
  exact ⟨g1, g2, g3, e1, e2, e3⟩
theorem row_type {base : Nat} {e : TypeId} {sz cap g : Nat} {A : Option Addr} {xs : List Value} (hr : w.ownsRow base e sz (.slice A n cap) n xs) (hg : A.map (·.block) = some g) : ∃ cur, w.heap[g]? = some (.cells cur e (0, 0)) := by
  rcases hr.2 with ⟨h1, _⟩ | ⟨g', c, cur, h1, _, h3, _⟩
  · injection h1 with h1; subst h1; cases hg
  · injection h1 with h1; subst h1
    simp at hg
    subst hg
    exact ⟨cur, h3⟩
theorem type_ne {g g' : Nat} {e e' : TypeId} {c c' : Array Value} (h : w.heap[g]? = some (.cells c e (0, 0))) (h' : w.heap[g']? = some (.cells c' e' (0, 0))) (hne : e ≠ e') : g ≠ g' := by
  rintro rfl
  rw [h] at h'
  injection h' with h'
  injection h' with _ ht
  exact hne ht
theorem cell_now (h : MemAt w T p F n A1 A2 A3 c1 c2 c3 now kept ver) {g i : Nat} (hA : A1 = some ⟨g, 0, none⟩) (hi : i < n) : w.cell? ⟨g, i, none⟩ = some (.int .u64 (now.getD i 0)) ∧ w.frozen? ⟨g, i, none⟩ = false := by
  subst hA
  have hl := h.len1
  have := h.r1.cellAt i (by omega)
  rw [this]
  exact ⟨by simp [List.getD, uw, show i < now.length by omega], h.r1.frozenAt i⟩
theorem cell_kept (h : MemAt w T p F n A1 A2 A3 c1 c2 c3 now kept ver) {g i : Nat} (hA : A2 = some ⟨g, 0, none⟩) (hi : i < n) : w.cell? ⟨g, i, none⟩ = some (.int .u64 (kept.getD i 0)) ∧ w.frozen? ⟨g, i, none⟩ = false := by
  subst hA
  have hl := h.len2
  have := h.r2.cellAt i (by omega)
  rw [this]
  exact ⟨by simp [List.getD, uw, show i < kept.length by omega], h.r2.frozenAt i⟩
theorem cell_ver (h : MemAt w T p F n A1 A2 A3 c1 c2 c3 now kept ver) {g i : Nat} (hA : A3 = some ⟨g, 0, none⟩) (hi : i < n) : w.cell? ⟨g, i, none⟩ = some (.int .i64 (ver.getD i 0)) ∧ w.frozen? ⟨g, i, none⟩ = false := by
  subst hA
  have hl := h.len3
  have := h.r3.cellAt i (by omega)
  rw [this]
  exact ⟨by simp [List.getD, iv, show i < ver.length by omega], h.r3.frozenAt i⟩

/-- a store into the words -/
theorem MemAt.set_now {g : Nat} (h : MemAt w T p F n (some ⟨g, 0, none⟩) A2 A3 c1 c2 c3 now kept ver) (hT : T ≠ 58) (i : Nat) (v : Int) :
    MemAt (w.setCell ⟨g, i, none⟩ (.int .u64 v)) T p F n (some ⟨g, 0, none⟩) A2 A3 c1 c2 c3 (now.set i v) kept ver ∧ Only F w (w.setCell ⟨g, i, none⟩ (.int .u64 v)) := by
  have hg : g ∈ F := h.F1 g rfl
  obtain ⟨s1, s2⟩ := h.r1.stored i (.int .u64 v)
  have ho : Only [g] w (w.setCell ⟨g, i, none⟩ (.int .u64 v)) := Only.of_grown s2 (fun x hx => by simpa using hx.symm)
  obtain ⟨k1, t1⟩ := row_type h.r1 (g := g) rfl
  have np : p ∉ [g] := by
    have := type_ne h.head t1 hT
    simpa using this
  have n2 : ∀ x, A2.map (·.block) = some x → x ∉ [g] := fun x hx hm => h.apart g rfl (by simp at hm; rw [← hm]; exact hx)
  have n3 : ∀ x, A3.map (·.block) = some x → x ∉ [g] := fun x hx hm => by
    obtain ⟨k3, t3⟩ := row_type h.r3 hx
    have := type_ne t3 t1 (by decide)
    simp at hm
    exact this hm
  refine ⟨⟨(ho.block p (h.lt p h.pF) np).trans h.head, ?_, ho.row h.r2 n2, ho.row h.r3 n3, h.apart, h.pF, h.F1, h.F2, h.F3, fun k hk => Nat.lt_of_lt_of_le (h.lt k hk) ho.size, h.small⟩, ho.more (fun x hx => by simp at hx; subst hx; exact hg)⟩
  rw [List.map_set]
  exact s1
theorem MemAt.set_kept {g : Nat} (h : MemAt w T p F n A1 (some ⟨g, 0, none⟩) A3 c1 c2 c3 now kept ver) (hT : T ≠ 58) (i : Nat) (v : Int) :
    MemAt (w.setCell ⟨g, i, none⟩ (.int .u64 v)) T p F n A1 (some ⟨g, 0, none⟩) A3 c1 c2 c3 now (kept.set i v) ver ∧ Only F w (w.setCell ⟨g, i, none⟩ (.int .u64 v)) := by
  have hg : g ∈ F := h.F2 g rfl
  obtain ⟨s1, s2⟩ := h.r2.stored i (.int .u64 v)
  have ho : Only [g] w (w.setCell ⟨g, i, none⟩ (.int .u64 v)) := Only.of_grown s2 (fun x hx => by simpa using hx.symm)
  obtain ⟨k1, t1⟩ := row_type h.r2 (g := g) rfl
  have np : p ∉ [g] := by
    have := type_ne h.head t1 hT
    simpa using this
  have n1 : ∀ x, A1.map (·.block) = some x → x ∉ [g] := fun x hx hm => h.apart x hx (by simp at hm; rw [hm]; rfl)
  have n3 : ∀ x, A3.map (·.block) = some x → x ∉ [g] := fun x hx hm => by
    obtain ⟨k3, t3⟩ := row_type h.r3 hx
    have := type_ne t3 t1 (by decide)
    simp at hm
    exact this hm
  refine ⟨⟨(ho.block p (h.lt p h.pF) np).trans h.head, ho.row h.r1 n1, ?_, ho.row h.r3 n3, h.apart, h.pF, h.F1, h.F2, h.F3, fun k hk => Nat.lt_of_lt_of_le (h.lt k hk) ho.size, h.small⟩, ho.more (fun x hx => by simp at hx; subst hx; exact hg)⟩
  rw [List.map_set]
  exact s1
theorem MemAt.set_ver {g : Nat} (h : MemAt w T p F n A1 A2 (some ⟨g, 0, none⟩) c1 c2 c3 now kept ver) (hT : T ≠ 3) (i : Nat) (v : Int) :
    MemAt (w.setCell ⟨g, i, none⟩ (.int .i64 v)) T p F n A1 A2 (some ⟨g, 0, none⟩) c1 c2 c3 now kept (ver.set i v) ∧ Only F w (w.setCell ⟨g, i, none⟩ (.int .i64 v)) := by
  have hg : g ∈ F := h.F3 g rfl
  obtain ⟨s1, s2⟩ := h.r3.stored i (.int .i64 v)
  have ho : Only [g] w (w.setCell ⟨g, i, none⟩ (.int .i64 v)) := Only.of_grown s2 (fun x hx => by simpa using hx.symm)
  obtain ⟨k1, t1⟩ := row_type h.r3 (g := g) rfl
  have np : p ∉ [g] := by
    have := type_ne h.head t1 hT
    simpa using this
  have n1 : ∀ x, A1.map (·.block) = some x → x ∉ [g] := fun x hx hm => by
    obtain ⟨k3, t3⟩ := row_type h.r1 hx
    have := type_ne t3 t1 (by decide)
    simp at hm
    exact this hm
  have n2 : ∀ x, A2.map (·.block) = some x → x ∉ [g] := fun x hx hm => by
    obtain ⟨k3, t3⟩ := row_type h.r2 hx
    have := type_ne t3 t1 (by decide)
    simp at hm
    exact this hm
  refine ⟨⟨(ho.block p (h.lt p h.pF) np).trans h.head, ho.row h.r1 n1, ho.row h.r2 n2, ?_, h.apart, h.pF, h.F1, h.F2, h.F3, fun k hk => Nat.lt_of_lt_of_le (h.lt k hk) ho.size, h.small⟩, ho.more (fun x hx => by simp at hx; subst hx; exact hg)⟩
  rw [List.map_set]
  exact s1
end


/-- the words' row is written, nothing else -/
theorem MemAt.row1 {w w' : World} {T : TypeId} {p n : Nat} {F : List Nat} {A2 A3 : Option Addr} {c1 c2 c3 g : Nat} {now kept ver l : List Int}
    (h : MemAt w T p F n (some ⟨g, 0, none⟩) A2 A3 c1 c2 c3 now kept ver) (hT : T ≠ 58) (ho : Only [g] w w') (hr : w'.ownsRow 0 58 1 (.slice (some ⟨g, 0, none⟩) n c1) n (l.map uw)) :
    MemAt w' T p F n (some ⟨g, 0, none⟩) A2 A3 c1 c2 c3 l kept ver ∧ Only F w w' := by
  have hg : g ∈ F := h.F1 g rfl
  obtain ⟨k1, t1⟩ := row_type h.r1 (g := g) rfl
  have np : p ∉ [g] := by
    have := type_ne h.head t1 hT
    simpa using this
  have n2 : ∀ x, A2.map (·.block) = some x → x ∉ [g] := fun x hx hm => h.apart g rfl (by simp at hm; rw [← hm]; exact hx)
  have n3 : ∀ x, A3.map (·.block) = some x → x ∉ [g] := fun x hx hm => by
    obtain ⟨k3, t3⟩ := row_type h.r3 hx
    have := type_ne t3 t1 (by decide)
    simp at hm
    exact this hm
  exact ⟨⟨(ho.block p (h.lt p h.pF) np).trans h.head, hr, ho.row h.r2 n2, ho.row h.r3 n3, h.apart, h.pF, h.F1, h.F2, h.F3, fun k hk => Nat.lt_of_lt_of_le (h.lt k hk) ho.size, h.small⟩, ho.more (fun x hx => by simp at hx; subst hx; exact hg)⟩
theorem MemAt.row2 {w w' : World} {T : TypeId} {p n : Nat} {F : List Nat} {A1 A3 : Option Addr} {c1 c2 c3 g : Nat} {now kept ver l : List Int}
    (h : MemAt w T p F n A1 (some ⟨g, 0, none⟩) A3 c1 c2 c3 now kept ver) (hT : T ≠ 58) (ho : Only [g] w w') (hr : w'.ownsRow 0 58 1 (.slice (some ⟨g, 0, none⟩) n c2) n (l.map uw)) :
    MemAt w' T p F n A1 (some ⟨g, 0, none⟩) A3 c1 c2 c3 now l ver ∧ Only F w w' := by
  have hg : g ∈ F := h.F2 g rfl
  obtain ⟨k1, t1⟩ := row_type h.r2 (g := g) rfl
  have np : p ∉ [g] := by
    have := type_ne h.head t1 hT
    simpa using this
  have n1 : ∀ x, A1.map (·.block) = some x → x ∉ [g] := fun x hx hm => h.apart x hx (by simp at hm; rw [hm]; rfl)
  have n3 : ∀ x, A3.map (·.block) = some x → x ∉ [g] := fun x hx hm => by
    obtain ⟨k3, t3⟩ := row_type h.r3 hx
    have := type_ne t3 t1 (by decide)
    simp at hm
    exact this hm
  exact ⟨⟨(ho.block p (h.lt p h.pF) np).trans h.head, ho.row h.r1 n1, hr, ho.row h.r3 n3, h.apart, h.pF, h.F1, h.F2, h.F3, fun k hk => Nat.lt_of_lt_of_le (h.lt k hk) ho.size, h.small⟩, ho.more (fun x hx => by simp at hx; subst hx; exact hg)⟩

/-- a row's cells, and what it owns behind a copy into it -/
theorem row_copy {w : World} {base g n cap : Nat} {e : TypeId} {xs : List Value} (h : w.ownsRow base e 1 (.slice (some ⟨g, 0, none⟩) n cap) n xs) : ∃ cur : Array Value, w.heap[g]? = some (.cells cur e (0, 0)) ∧ n ≤ cur.size ∧
    ∀ (off : Nat) (cs : List Value), off + cs.length ≤ n → (w.setRow g (cur.toList.take off ++ (cs ++ cur.toList.drop (off + cs.length))).toArray).ownsRow base e 1 (.slice (some ⟨g, 0, none⟩) n cap) n (xs.take off ++ (cs ++ xs.drop (off + cs.length))) ∧
      Only [g] w (w.setRow g (cur.toList.take off ++ (cs ++ cur.toList.drop (off + cs.length))).toArray) := by
  rcases h.2 with ⟨h1, _⟩ | ⟨g', c, cur, h1, h2, h3, h4, h5, h6, h7⟩
  · injection h1 with h1; cases h1
  · injection h1 with h1 _ hc
    injection h1 with h1
    injection h1 with h1
    subst h1
    subst hc
    have hl := h.1
    rw [Nat.mul_one] at hl h6 h7
    refine ⟨cur, h3, by omega, fun off cs hfit => ⟨⟨by simp; omega, .inr ⟨g, cap, _, rfl, h2, setRow_heap w g _ _ e _ h3, h4, h5, by simp; omega, ?_⟩⟩, ⟨rfl, rfl, rfl, by simp [World.setRow], fun k hk hn => setRow_other w g k _ (by simpa using hn)⟩⟩⟩
    subst h7
    rw [Nat.mul_one]
    simp only [List.take_append, List.length_take, List.length_drop, Array.length_toList, List.take_take, List.drop_take]
    have e1 : min n (min off cur.size) = off := by omega
    have e2 : n - min off cur.size = n - off := by omega
    have e3 : min n off = off := by omega
    have e4 : min off n = off := by omega
    rw [e2, e3, e4, List.take_of_length_le (show cs.length ≤ n - off by omega)]
    congr 3
    omega

/-- the words' row is another one, made anew -/
theorem MemAt.renew {w w2 : World} {T : TypeId} {p n : Nat} {F : List Nat} {A1 A2 A3 : Option Addr} {c1 c2 c3 : Nat} {now kept ver : List Int} {A : Option Addr} {c : Nat} {l : List Int}
    (h : MemAt w T p F n A1 A2 A3 c1 c2 c3 now kept ver) (hT : T ≠ 58) (hT' : T ≠ 3) (hb : Below w.heap.size w w2) (hr : w2.ownsRow w.heap.size 58 1 (.slice A n c) n (l.map uw)) :
    Mem (w2.setCell ⟨p, 0, none⟩ (.slice A n c)) T p (F ++ (A.map (·.block)).toList) n l kept ver ∧ Only F w (w2.setCell ⟨p, 0, none⟩ (.slice A n c)) := by
  have h2 := h.far (G := []) (Only.of_below hb) (fun _ _ hx => by cases hx)
  have ho : Only [p] w2 (w2.setCell ⟨p, 0, none⟩ (.slice A n c)) := (Only.refl _ _).setCell (by simp) _
  have hO : Only F w (w2.setCell ⟨p, 0, none⟩ (.slice A n c)) := (Only.of_below hb).seq (ho.more (fun x hx => by simp at hx; subst hx; exact h.pF))
  have hd : (w2.setCell ⟨p, 0, none⟩ (.slice A n c)).heap[p]? = some (.cells #[.slice A n c, .slice A2 n c2, .slice A3 n c3] T (0, 0)) := by
    simp [World.setCell, Array.getElem?_modify, h2.head]
  have ne : ∀ {e : TypeId} {B : Option Addr} {m cp : Nat} {xs : List Value} {base : Nat}, w2.ownsRow base e 1 (.slice B m cp) m xs → T ≠ e → ∀ g, B.map (·.block) = some g → g ∉ [p] := fun hr' hne g hg hm => by
    obtain ⟨k, t⟩ := row_type hr' hg
    have := type_ne h2.head t hne
    simp at hm
    exact this hm.symm
  have lowF : ∀ g, A.map (·.block) = some g → w.heap.size ≤ g ∧ g < w2.heap.size := fun g hg => hr.lt g (by rw [ownBlock_eq]; exact hg)
  refine ⟨⟨A, A2, A3, c, c2, c3, hd, ?_, ho.row h2.r2 (ne h2.r2 hT), ho.row h2.r3 (ne h2.r3 hT'), fun g e1 e2 => ?_, by simp [h.pF], fun g hg => by simp [hg], fun g hg => by simp [h.F2 g hg], fun g hg => by simp [h.F3 g hg], fun k hk => ?_, h.small⟩, hO⟩
  · have := ho.row hr (ne hr hT)
    refine ⟨this.1, ?_⟩
    rcases this.2 with h1 | ⟨g, cc, cur, h1, _, h3⟩
    · exact .inl h1
    · exact .inr ⟨g, cc, cur, h1, Nat.zero_le _, h3⟩
  · have l1 := lowF g e1
    have l2 := h.lt g (h.F2 g e2)
    omega
  · have hsz : w2.heap.size ≤ (w2.setCell ⟨p, 0, none⟩ (.slice A n c)).heap.size := ho.size
    rcases List.mem_append.1 hk with hk | hk
    · have := h2.lt k hk; omega
    · have := lowF k (by simpa using hk); omega

/-! a new one -/
theorem heap_alloc (w : World) (o : Obj) : (w.alloc o).heap = w.heap.push o := rfl
theorem heap_drew (w : World) : w.drew.heap = w.heap := rfl
theorem row_made {w : World} {g n : Nat} {e : TypeId} {z : Value} (hn : n ≤ 64) (h : w.heap[g]? = some (.cells (madeCells #[z] n) e (0, 0))) : w.ownsRow 0 e 1 (.slice (some ⟨g, 0, none⟩) n n) n (List.replicate n z) := by
  refine ⟨by simp, .inr ⟨g, n, _, rfl, Nat.zero_le _, h, Nat.le_refl _, by unfold maxLen; omega, by rw [size_madeCells]; omega, ?_⟩⟩
  rw [toList_madeCells_one, Nat.mul_one]
  exact List.take_of_length_le (by simp)
theorem mem_made {w : World} {T : TypeId} {p g1 g2 g3 n : Nat} (hn : n ≤ 64) (hp : w.heap[p]? = some (.cells #[.slice (some ⟨g1, 0, none⟩) n n, .slice (some ⟨g2, 0, none⟩) n n, .slice (some ⟨g3, 0, none⟩) n n] T (0, 0)))
    (h1 : w.heap[g1]? = some (.cells (madeCells #[.int .u64 0] n) 58 (0, 0))) (h2 : w.heap[g2]? = some (.cells (madeCells #[.int .u64 0] n) 58 (0, 0))) (h3 : w.heap[g3]? = some (.cells (madeCells #[.int .i64 0] n) 3 (0, 0))) (hne : g1 ≠ g2) :
    Mem w T p [p, g1, g2, g3] n (List.replicate n 0) (List.replicate n 0) (List.replicate n 0) := by
  have lt : ∀ {g : Nat} {o : Obj}, w.heap[g]? = some o → g < w.heap.size := fun {g o} h => (Array.getElem?_eq_some_iff.1 h).1
  refine ⟨_, _, _, _, _, _, hp, ?_, ?_, ?_, fun g e1 e2 => ?_, by simp, fun g hg => ?_, fun g hg => ?_, fun g hg => ?_, fun k hk => ?_, hn⟩
  · rw [List.map_replicate]; exact row_made hn h1
  · rw [List.map_replicate]; exact row_made hn h2
  · rw [List.map_replicate]; exact row_made hn h3
  · simp at e1 e2; omega
  · simp at hg; simp [hg]
  · simp at hg; simp [hg]
  · simp at hg; simp [hg]
  · simp at hk
    rcases hk with rfl | rfl | rfl | rfl
    · exact lt hp
    · exact lt h1
    · exact lt h2
    · exact lt h3
theorem at3 (w : World) (a b c d : Obj) : ((((w.alloc a).alloc b).alloc c).alloc d).drew.heap[w.heap.size + 1 + 1 + 1]? = some d := by
  simp only [heap_drew, heap_alloc, Array.getElem?_push, Array.size_push]
  simp
theorem at2 (w : World) (a b c d : Obj) : ((((w.alloc a).alloc b).alloc c).alloc d).drew.heap[w.heap.size + 1 + 1]? = some c := by
  simp only [heap_drew, heap_alloc, Array.getElem?_push, Array.size_push]
  rw [if_neg (by omega)]
  simp
theorem at1 (w : World) (a b c d : Obj) : ((((w.alloc a).alloc b).alloc c).alloc d).drew.heap[w.heap.size + 1]? = some b := by
  simp only [heap_drew, heap_alloc, Array.getElem?_push, Array.size_push]
  rw [if_neg (by omega), if_neg (by omega)]
  simp
theorem at0 (w : World) (a b c d : Obj) : ((((w.alloc a).alloc b).alloc c).alloc d).drew.heap[w.heap.size]? = some a := by
  simp only [heap_drew, heap_alloc, Array.getElem?_push, Array.size_push]
  rw [if_neg (by omega), if_neg (by omega), if_neg (by omega)]
  simp
theorem run_make_n {P : Program} (t e : TypeId) (i : TypeInfo) (z : Value) (ht : P.underlying t = some (.slice e)) (hi : P.info? e = some i) (hz : i.zero = some z) (h1 : i.size = 1) (hc : z.cells = #[z])
    (hb : i.bytes = 8) (n : Nat) (hn : n ≤ 65536) (w : World) :
    (Instr.makeSlice t (.int .i64 (n : Int)) (.int .i64 (n : Int))).run P w = .ok (.slice (some ⟨w.heap.size, 0, none⟩) n n) (w.alloc (.cells (madeCells #[z] n) e)) := by
  have hr := run_make (P := P) w t e i z ht hi hz .i64 .i64 n n (by omega) (by omega) (by rw [hb]; omega) (by omega)
  simp only [Int.toNat_natCast, h1, Nat.mul_one, hc] at hr
  exact hr
theorem u64_info : (Try.prog.info? 58).map (fun i => (i.zero, i.size, i.bytes)) = some (some (.int .u64 0), 1, 8) := by kernel_rfl
theorem i64_info : (Try.prog.info? 3).map (fun i => (i.zero, i.size, i.bytes)) = some (some (.int .i64 0), 1, 8) := by kernel_rfl
theorem elU : El Try.prog 86 58 1 8 := by
  obtain ⟨i, h1, h2, h3, h4⟩ := info_parts u64_info
  exact ⟨Try.underlying86, ⟨i, _, h1, h2, h3, h4, rfl⟩, by decide⟩
theorem run_make_u (n : Nat) (hn : n ≤ 65536) (w : World) :
    (Instr.makeSlice 86 (.int .i64 (n : Int)) (.int .i64 (n : Int))).run Try.prog w = .ok (.slice (some ⟨w.heap.size, 0, none⟩) n n) (w.alloc (.cells (madeCells #[.int .u64 0] n) 58)) := by
  obtain ⟨i, h1, h2, h3, h4⟩ := info_parts u64_info
  exact run_make_n _ _ i _ Try.underlying86 h1 h2 h3 rfl h4 n hn w
theorem run_make_i (n : Nat) (hn : n ≤ 65536) (w : World) :
    (Instr.makeSlice 25 (.int .i64 (n : Int)) (.int .i64 (n : Int))).run Try.prog w = .ok (.slice (some ⟨w.heap.size, 0, none⟩) n n) (w.alloc (.cells (madeCells #[.int .i64 0] n) 3)) := by
  obtain ⟨i, h1, h2, h3, h4⟩ := info_parts i64_info
  exact run_make_n _ _ i _ Try.underlying25 h1 h2 h3 rfl h4 n hn w
theorem flat_one {α : Type} (xs : List α) : (xs.map fun v => [v]).flatten = xs := by
  induction xs with
  | nil => rfl
  | cons x xs ih => simp only [List.map_cons, List.flatten_cons, ih]; rfl
/-- a one-cell row, as a list of elements -/
theorem own_of_row {w : World} {base : Nat} {e : TypeId} {n cap : Nat} {A : Option Addr} {xs : List Value} (h : w.ownsRow base e 1 (.slice A n cap) n xs) : Own w base e 1 A n cap (xs.map fun v => [v]) :=
  ⟨by simpa using h.1, fun x hx => by obtain ⟨v, _, rfl⟩ := List.mem_map.1 hx; rfl, by
    rw [flat_one]; exact h⟩
theorem row_of_own {w : World} {base : Nat} {e : TypeId} {n cap : Nat} {A : Option Addr} {xs : List Value} (h : Own w base e 1 A n cap (xs.map fun v => [v])) : w.ownsRow base e 1 (.slice A n cap) n xs := by
  have := h.row
  rwa [flat_one] at this
/-- words that may be read -/
def IsU (w : World) (A : Option Addr) (n cap : Nat) (l : List Int) : Prop := l.length = n ∧ Sl w A n cap 1 (fun i => [uw (l.getD i 0)])
theorem IsU.keep {w w' : World} {A : Option Addr} {n cap : Nat} {l : List Int} (h : IsU w A n cap l) (hb : Below w.heap.size w w') : IsU w' A n cap l := ⟨h.1, h.2.keep hb⟩
theorem isU_of_row {w : World} {base : Nat} {n cap : Nat} {A : Option Addr} {l : List Int} (h : w.ownsRow base 58 1 (.slice A n cap) n (l.map uw)) : IsU w A n cap l := by
  have hl : l.length = n := by simpa using h.1
  refine ⟨hl, (own_of_row h).sl.ext fun i hi => ?_⟩
  simp [List.getD, show i < l.length by omega]
theorem IsU.cell {w : World} {A : Option Addr} {n cap : Nat} {l : List Int} (h : IsU w A n cap l) {k : Nat} (hk : k < n) : ∃ b o, A = some ⟨b, o, none⟩ ∧ b < w.heap.size ∧ w.cell? ⟨b, o + k, none⟩ = some (.int .u64 (l.getD k 0)) := by
  obtain ⟨b, o, e, hb, hc⟩ := h.2.at_ (by omega)
  exact ⟨b, o, e, hb, by simpa [uw] using hc k hk 0 (by omega)⟩
/-- a call hands back new words -/
def GaveU (w : World) (l : List Int) (e : Ending) (w' : World) : Prop := ∃ (A : Option Addr) (n c : Nat), e = .returned (.slice A n c) ∧ w'.ownsRow w.heap.size 58 1 (.slice A n c) n (l.map uw) ∧ Below w.heap.size w w'
end Go.Proofs.Ytkohichiojmakaa.Me
