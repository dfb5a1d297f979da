/-
  WHAT PACKAGE emit HOLDS: places, steps, the maker.
-/
import Derived.Test.YtkohichiojmakaaGEm
import Derived.Test.YtkohichiojmakaaGOwn
import Derived.IntWalk
namespace Go.Proofs.Ytkohichiojmakaa.EmW
set_option linter.unusedVariables false
set_option linter.unusedSimpArgs false
open Go.RowKit Cm Mm Ow A64 A64W Stp Em InW

theorem below_al (w : World) (o : Obj) : Below w.heap.size w (w.alloc o) := (Below.refl _ _).alloc (Nat.le_refl _) _
/-! steps -/
def stL (s : St) : List Value := [.int .i64 s.kind, .int .i64 s.d, .int .i64 s.a, .int .i64 s.b, .int .i64 s.c, .int .i64 s.to, .int .i64 s.cell, .int .u64 s.n, .int .u8 s.op]
def IsSt (w : World) (A : Option Addr) (n cap : Nat) (l : List St) : Prop := l.length = n ∧ Sl w A n cap 9 (fun i => stL (l.getD i zeroSt))
theorem IsSt.keep {w w' : World} {A : Option Addr} {n cap : Nat} {l : List St} (h : IsSt w A n cap l) (hb : Below w.heap.size w w') : IsSt w' A n cap l := ⟨h.1, h.2.keep hb⟩
theorem IsSt.cell {w : World} {A : Option Addr} {n cap : Nat} {l : List St} (h : IsSt w A n cap l) {k : Nat} (hk : k < n) :
    ∃ b o, A = some ⟨b, o, none⟩ ∧ b < w.heap.size ∧ w.cell? ⟨b, o + k * 9, none⟩ = some (.int .i64 (l.getD k zeroSt).kind) ∧ w.cell? ⟨b, o + k * 9 + 1, none⟩ = some (.int .i64 (l.getD k zeroSt).d) ∧ w.cell? ⟨b, o + k * 9 + 2, none⟩ = some (.int .i64 (l.getD k zeroSt).a) ∧
      w.cell? ⟨b, o + k * 9 + 3, none⟩ = some (.int .i64 (l.getD k zeroSt).b) ∧ w.cell? ⟨b, o + k * 9 + 4, none⟩ = some (.int .i64 (l.getD k zeroSt).c) ∧ w.cell? ⟨b, o + k * 9 + 5, none⟩ = some (.int .i64 (l.getD k zeroSt).to) ∧ w.cell? ⟨b, o + k * 9 + 6, none⟩ = some (.int .i64 (l.getD k zeroSt).cell) ∧
      w.cell? ⟨b, o + k * 9 + 7, none⟩ = some (.int .u64 (l.getD k zeroSt).n) ∧ w.cell? ⟨b, o + k * 9 + 8, none⟩ = some (.int .u8 (l.getD k zeroSt).op) := by
  obtain ⟨b, o, e, hb, hc⟩ := h.2.at_ (by omega)
  refine ⟨b, o, e, hb, ?_⟩
  exact ⟨by simpa [stL] using hc k hk 0 (by omega), by simpa [stL, Nat.add_assoc] using hc k hk 1 (by omega), by simpa [stL, Nat.add_assoc] using hc k hk 2 (by omega), by simpa [stL, Nat.add_assoc] using hc k hk 3 (by omega), by simpa [stL, Nat.add_assoc] using hc k hk 4 (by omega),
    by simpa [stL, Nat.add_assoc] using hc k hk 5 (by omega), by simpa [stL, Nat.add_assoc] using hc k hk 6 (by omega), by simpa [stL, Nat.add_assoc] using hc k hk 7 (by omega), by simpa [stL, Nat.add_assoc] using hc k hk 8 (by omega)⟩
/-- a literal of steps -/
theorem isSt_lit (w : World) (l : List St) (h : l.length ≤ 1000) : IsSt (w.alloc (.cells ((l.map stL).flatten.toArray) 62)) (some ⟨w.heap.size, 0, none⟩) l.length l.length l := by
  have hl : (l.map stL).length = l.length := by simp
  refine ⟨rfl, ?_⟩
  have := Ow2.sl_many w (l.map stL) 9 62 (fun x hx => by obtain ⟨s, _, rfl⟩ := List.mem_map.1 hx; rfl) (by rw [hl]; unfold maxLen; omega)
  rw [hl] at this
  exact this.ext (fun i hi => by simp [List.getD, hi])

/-! places -/
def plL (p : Pl) : List Value := [.bool p.slot, .int .i64 p.n]
def IsPl (w : World) (A : Option Addr) (n cap : Nat) (l : List Pl) : Prop := l.length = n ∧ Sl w A n cap 2 (fun i => plL (l.getD i noPl))
theorem IsPl.keep {w w' : World} {A : Option Addr} {n cap : Nat} {l : List Pl} (h : IsPl w A n cap l) (hb : Below w.heap.size w w') : IsPl w' A n cap l := ⟨h.1, h.2.keep hb⟩
theorem IsPl.cell {w : World} {A : Option Addr} {n cap : Nat} {l : List Pl} (h : IsPl w A n cap l) {k : Nat} (hk : k < n) :
    ∃ b o, A = some ⟨b, o, none⟩ ∧ b < w.heap.size ∧ w.cell? ⟨b, o + k * 2, none⟩ = some (.bool (l.getD k noPl).slot) ∧ w.cell? ⟨b, o + k * 2 + 1, none⟩ = some (.int .i64 (l.getD k noPl).n) := by
  obtain ⟨b, o, e, hb, hc⟩ := h.2.at_ (by omega)
  exact ⟨b, o, e, hb, by simpa [plL] using hc k hk 0 (by omega), by simpa [plL, Nat.add_assoc] using hc k hk 1 (by omega)⟩
theorem isPl_lit (w : World) (l : List Pl) (h : l.length ≤ 1000) : IsPl (w.alloc (.cells ((l.map plL).flatten.toArray) 67)) (some ⟨w.heap.size, 0, none⟩) l.length l.length l := by
  have hl : (l.map plL).length = l.length := by simp
  refine ⟨rfl, ?_⟩
  have := Ow2.sl_many w (l.map plL) 2 67 (fun x hx => by obtain ⟨s, _, rfl⟩ := List.mem_map.1 hx; rfl) (by rw [hl]; unfold maxLen; omega)
  rw [hl] at this
  exact this.ext (fun i hi => by simp [List.getD, hi])
theorem placeOf_in {p : List Pl} {v : Int} {k : Nat} (hv : v = k) (hk : k < p.length) : placeOf p v = p.getD k noPl := by
  subst hv
  unfold placeOf
  rw [if_pos ⟨by omega, by omega⟩, Int.toNat_natCast]
theorem placeOf_out {p : List Pl} {v : Int} (hv : v < 0 ∨ (p.length : Int) ≤ v) : placeOf p v = noPl := by
  unfold placeOf
  rw [if_neg (by omega)]

/-! the maker -/
structure Mk (w : World) (q : Nat) (PA : Option Addr) (pn pc : Nat) (A : Option Addr) (m c : Nat) (LB : Option Addr) (ln : Nat) : Prop where
  c0 : w.cell? ⟨q, 0, none⟩ = some (.slice PA pn pc)
  c1 : w.cell? ⟨q, 1, none⟩ = some (.slice A m c)
  c2 : w.cell? ⟨q, 2, none⟩ = some (.slice LB ln ln)
  fr : ∀ o, w.frozen? ⟨q, o, none⟩ = false
section
variable {w w' : World} {q : Nat} {PA : Option Addr} {pn pc : Nat} {A : Option Addr} {m c : Nat} {LB : Option Addr} {ln : Nat}
theorem Mk.same (h : Mk w q PA pn pc A m c LB ln) (hb : w'.heap[q]? = w.heap[q]?) : Mk w' q PA pn pc A m c LB ln := by
  obtain ⟨h1, h2⟩ := Ow2.blk_same hb
  exact ⟨(h1 0).trans h.c0, (h1 1).trans h.c1, (h1 2).trans h.c2, fun o => (h2 o).trans (h.fr o)⟩
theorem Mk.lt (h : Mk w q PA pn pc A m c LB ln) : q < w.heap.size := World.block_lt_of_cell? w _ h.c0
theorem Mk.keep (h : Mk w q PA pn pc A m c LB ln) (hb : Below w.heap.size w w') : Mk w' q PA pn pc A m c LB ln := h.same (hb.block _ h.lt)
theorem Mk.set (h : Mk w q PA pn pc A m c LB ln) (A2 : Option Addr) (m2 c2 : Nat) : Mk (w.setCell ⟨q, 1, none⟩ (.slice A2 m2 c2)) q PA pn pc A2 m2 c2 LB ln :=
  ⟨(World.cell?_setCell_other _ _ _ _ (by simp)).trans h.c0, World.cell?_setCell_same _ _ _ h.c1, (World.cell?_setCell_other _ _ _ _ (by simp)).trans h.c2, fun o => by rw [World.frozen?_setCell]; exact h.fr o⟩
end
/-- labels: a row of their own -/
def lbA (lb : List Int) : Array Value := (lb.map fun x => Value.int .i64 x).toArray
def Lb (w : World) (B q : Nat) (LB : Option Addr) (ln : Nat) (lb : List Int) : Prop := lb.length = ln ∧ ln ≤ 65536 ∧ ((LB = none ∧ ln = 0) ∨ ∃ g, LB = some ⟨g, 0, none⟩ ∧ B ≤ g ∧ g < q ∧ w.heap[g]? = some (.cells (lbA lb) 3 (0, 0)))
theorem Lb.same {w w' : World} {B q : Nat} {LB : Option Addr} {ln : Nat} {lb : List Int} (h : Lb w B q LB ln lb) (hb : ∀ g, g < q → w'.heap[g]? = w.heap[g]?) : Lb w' B q LB ln lb := by
  obtain ⟨h1, h2, h3⟩ := h
  refine ⟨h1, h2, ?_⟩
  rcases h3 with h | ⟨g, e, k1, k2, k3⟩
  · exact .inl h
  · exact .inr ⟨g, e, k1, k2, (hb g k2).trans k3⟩
/-- what the maker has: the instructions L, in block X if anywhere; the labels lb; the places p. w0: the world in which emit.Code began -/
def Ms (w0 w : World) (q X : Nat) (PA : Option Addr) (pn pc : Nat) (p : List Pl) (L : List In) (lb : List Int) : Prop :=
  ∃ A m c LB ln, Mk w q PA pn pc A m c LB ln ∧ IsPl w0 PA pn pc p ∧ pn ≤ 65536 ∧ Own w (q + 1) 45 7 A m c (L.map insL) ∧ (∀ g, A.map (·.block) = some g → g = X) ∧ Lb w w0.heap.size q LB ln lb ∧ Below w0.heap.size w0 w ∧ w0.heap.size ≤ q ∧ X < w.heap.size
/-- what else there is stays -/
structure Far (w w' : World) (q X X' : Nat) : Prop where
  size : w.heap.size ≤ w'.heap.size
  blk : ∀ b, b < w.heap.size → b ≠ q → b ≠ X → w'.heap[b]? = w.heap[b]?
  ne : ∀ b, b < w.heap.size → b ≠ q → b ≠ X → b ≠ X'
theorem Far.refl (w : World) (q X : Nat) : Far w w q X X := ⟨Nat.le_refl _, fun _ _ _ _ => rfl, fun _ _ _ h => h⟩
theorem Far.trans {w w1 w2 : World} {q X X1 X2 : Nat} (h : Far w w1 q X X1) (k : Far w1 w2 q X1 X2) : Far w w2 q X X2 :=
  ⟨Nat.le_trans h.size k.size, fun b hb h1 h2 => (k.blk b (Nat.lt_of_lt_of_le hb h.size) h1 (h.ne b hb h1 h2)).trans (h.blk b hb h1 h2), fun b hb h1 h2 => k.ne b (Nat.lt_of_lt_of_le hb h.size) h1 (h.ne b hb h1 h2)⟩
theorem Far.below {w w' : World} {q X : Nat} (h : Below w.heap.size w w') : Far w w' q X X := ⟨h.size, fun b hb _ _ => h.block b hb, fun _ _ _ h => h⟩
theorem Far.after {w w1 w2 : World} {q X X' : Nat} (hb : Below w.heap.size w w1) (h : Far w1 w2 q X X') : Far w w2 q X X' := (Far.below hb).trans h
section
variable {w0 w w' : World} {q X : Nat} {PA : Option Addr} {pn pc : Nat} {p : List Pl} {L : List In} {lb : List Int}
theorem Ms.keep (h : Ms w0 w q X PA pn pc p L lb) (hb : Below w.heap.size w w') : Ms w0 w' q X PA pn pc p L lb := by
  obtain ⟨A, m, c, LB, ln, h1, h2, h3, h4, h5, h6, h7, h8, h9⟩ := h
  exact ⟨A, m, c, LB, ln, h1.keep hb, h2, h3, h4.keep hb, h5, h6.same (fun g hg => hb.block g (by have := h1.lt; omega)), h7.trans (hb.mono h7.size), h8, Nat.lt_of_lt_of_le h9 hb.size⟩
theorem Ms.lt (h : Ms w0 w q X PA pn pc p L lb) : q < w.heap.size := by
  obtain ⟨A, m, c, LB, ln, h1, -⟩ := h
  exact h1.lt
theorem Ms.below (h : Ms w0 w q X PA pn pc p L lb) : Below w0.heap.size w0 w := by
  obtain ⟨A, m, c, LB, ln, h1, h2, h3, h4, h5, h6, h7, h8, h9⟩ := h
  exact h7
/-- the row is elsewhere -/
theorem Ms.row (h : Ms w0 w q X PA pn pc p L lb) (hL : L ≠ []) : q < X ∧ X < w.heap.size := by
  obtain ⟨A, m, c, LB, ln, h1, h2, h3, h4, h5, h6, h7, h8, h9⟩ := h
  have hm : 0 < m := by
    have := h4.len
    cases L with
    | nil => exact absurd rfl hL
    | cons x t => simp at this; omega
  obtain ⟨g, rfl⟩ := Ow3.own_head h4 hm
  have := h4.lt g rfl
  have := h5 g rfl
  omega
theorem Ms.xlt (h : Ms w0 w q X PA pn pc p L lb) : X < w.heap.size := by
  obtain ⟨A, m, c, LB, ln, h1, h2, h3, h4, h5, h6, h7, h8, h9⟩ := h
  exact h9
end
end Go.Proofs.Ytkohichiojmakaa.EmW
