/-
  SLICES OF INSTRUCTIONS, of ints and of words: what they hold; package patch's and the document's branch.
-/
import Derived.Test.YtkohichiojmakaaA64Walks
import Derived.Test.YtkohichiojmakaaOwn2
import Derived.Test.YtkohichiojmakaaPatPlain
namespace Go.Proofs.Ytkohichiojmakaa.InW
set_option linter.unusedVariables false
set_option linter.unusedSimpArgs false
open Go.RowKit Cm Mm Ow A64 A64W Pat

/-- the slice that holds instructions -/
def IsIn (w : World) (A : Option Addr) (n cap : Nat) (l : List In) : Prop := l.length = n ∧ Sl w A n cap 7 (fun i => insL (l.getD i zeroIn))
theorem IsIn.keep {w w' : World} {A : Option Addr} {n cap : Nat} {l : List In} (h : IsIn w A n cap l) (hb : Below w.heap.size w w') : IsIn w' A n cap l := ⟨h.1, h.2.keep hb⟩
theorem IsIn.cell {w : World} {A : Option Addr} {n cap : Nat} {l : List In} (h : IsIn w A n cap l) {k : Nat} (hk : k < n) :
    ∃ b o, A = some ⟨b, o, none⟩ ∧ b < w.heap.size ∧ w.cell? ⟨b, o + k * 7, none⟩ = some (.int .i64 (l.getD k zeroIn).kind) ∧ w.cell? ⟨b, o + k * 7 + 1, none⟩ = some (.int .i64 (l.getD k zeroIn).d) ∧ w.cell? ⟨b, o + k * 7 + 2, none⟩ = some (.int .i64 (l.getD k zeroIn).a) ∧
      w.cell? ⟨b, o + k * 7 + 3, none⟩ = some (.int .i64 (l.getD k zeroIn).b) ∧ w.cell? ⟨b, o + k * 7 + 4, none⟩ = some (.int .i64 (l.getD k zeroIn).s) ∧ w.cell? ⟨b, o + k * 7 + 5, none⟩ = some (.int .i64 (l.getD k zeroIn).c) ∧ w.cell? ⟨b, o + k * 7 + 6, none⟩ = some (.int .i64 (l.getD k zeroIn).n) := by
  obtain ⟨b, o, e, hb, hc⟩ := h.2.at_ (by omega)
  refine ⟨b, o, e, hb, ?_⟩
  exact ⟨by simpa [insL] using hc k hk 0 (by omega), by simpa [insL, Nat.add_assoc] using hc k hk 1 (by omega), by simpa [insL, Nat.add_assoc] using hc k hk 2 (by omega), by simpa [insL, Nat.add_assoc] using hc k hk 3 (by omega), by simpa [insL, Nat.add_assoc] using hc k hk 4 (by omega),
    by simpa [insL, Nat.add_assoc] using hc k hk 5 (by omega), by simpa [insL, Nat.add_assoc] using hc k hk 6 (by omega)⟩
theorem isIn_own {w : World} {B : Nat} {A : Option Addr} {n c : Nat} {l : List In} (h : Own w B 45 7 A n c (l.map insL)) : IsIn w A n c l := by
  have hl : l.length = n := by simpa using h.len
  refine ⟨hl, h.sl.ext fun i hi => ?_⟩
  simp [List.getD, show i < l.length by omega]
theorem elIn : El Try.prog 43 45 7 56 := by
  obtain ⟨i, h1, h2, h3, h4⟩ := info_parts (P := Try.prog) (e := 45) (z := .agg #[.int .i64 0, .int .i64 0, .int .i64 0, .int .i64 0, .int .i64 0, .int .i64 0, .int .i64 0]) (size := 7) (bytes := 56) (by kernel_rfl)
  exact ⟨Try.underlying43, ⟨i, _, h1, h2, h3, h4, rfl⟩, by decide⟩
theorem in_one (s : In) : ∀ u ∈ insL s, u.oneCell' = true := fun u hu => by
  simp only [insL, List.mem_cons, List.mem_nil_iff, or_false] at hu
  rcases hu with rfl | rfl | rfl | rfl | rfl | rfl | rfl <;> rfl
theorem in_each (l : List In) : ∀ y ∈ l.map insL, y.length = 7 := fun y hy => by
  obtain ⟨s, _, rfl⟩ := List.mem_map.1 hy; rfl
theorem in_ones (l : List In) : ∀ y ∈ l.map insL, ∀ u ∈ y, u.oneCell' = true := fun y hy => by
  obtain ⟨s, _, rfl⟩ := List.mem_map.1 hy; exact in_one s

/-- the slice that holds ints -/
def IsI (w : World) (A : Option Addr) (n cap : Nat) (l : List Int) : Prop := l.length = n ∧ Sl w A n cap 1 (fun i => [.int .i64 (l.getD i 0)])
theorem IsI.keep {w w' : World} {A : Option Addr} {n cap : Nat} {l : List Int} (h : IsI w A n cap l) (hb : Below w.heap.size w w') : IsI w' A n cap l := ⟨h.1, h.2.keep hb⟩
theorem IsI.cell {w : World} {A : Option Addr} {n cap : Nat} {l : List Int} (h : IsI w A n cap l) {k : Nat} (hk : k < n) : ∃ b o, A = some ⟨b, o, none⟩ ∧ b < w.heap.size ∧ w.cell? ⟨b, o + k, none⟩ = some (.int .i64 (l.getD k 0)) := by
  obtain ⟨b, o, e, hb, hc⟩ := h.2.at_ (by omega)
  exact ⟨b, o, e, hb, by simpa using hc k hk 0 (by omega)⟩
def ivL (x : Int) : List Value := [.int .i64 x]
theorem isI_own {w : World} {B : Nat} {A : Option Addr} {n c : Nat} {l : List Int} (h : Own w B 3 1 A n c (l.map ivL)) : IsI w A n c l := by
  have hl : l.length = n := by simpa using h.len
  refine ⟨hl, h.sl.ext fun i hi => ?_⟩
  simp [List.getD, show i < l.length by omega, ivL]
theorem elI : El Try.prog 25 3 1 8 := by
  obtain ⟨i, h1, h2, h3, h4⟩ := info_parts (P := Try.prog) (e := 3) (z := .int .i64 0) (size := 1) (bytes := 8) (by kernel_rfl)
  exact ⟨Try.underlying25, ⟨i, _, h1, h2, h3, h4, rfl⟩, by decide⟩

/-- the slice that holds words of 32 bits -/
def wvL (x : BitVec 32) : List Value := [.int .u32 (x.toNat : Int)]
def IsWd (w : World) (A : Option Addr) (n cap : Nat) (l : List (BitVec 32)) : Prop := l.length = n ∧ Sl w A n cap 1 (fun i => wvL (l.getD i 0))
theorem IsWd.keep {w w' : World} {A : Option Addr} {n cap : Nat} {l : List (BitVec 32)} (h : IsWd w A n cap l) (hb : Below w.heap.size w w') : IsWd w' A n cap l := ⟨h.1, h.2.keep hb⟩
theorem IsWd.cell {w : World} {A : Option Addr} {n cap : Nat} {l : List (BitVec 32)} (h : IsWd w A n cap l) {k : Nat} (hk : k < n) : ∃ b o, A = some ⟨b, o, none⟩ ∧ b < w.heap.size ∧ w.cell? ⟨b, o + k, none⟩ = some (.int .u32 ((l.getD k 0).toNat : Int)) := by
  obtain ⟨b, o, e, hb, hc⟩ := h.2.at_ (by omega)
  exact ⟨b, o, e, hb, by simpa [wvL] using hc k hk 0 (by omega)⟩
theorem isWd_own {w : World} {B : Nat} {A : Option Addr} {n c : Nat} {l : List (BitVec 32)} (h : Own w B 55 1 A n c (l.map wvL)) : IsWd w A n c l := by
  have hl : l.length = n := by simpa using h.len
  refine ⟨hl, h.sl.ext fun i hi => ?_⟩
  simp [List.getD, show i < l.length by omega]
theorem elWd : El Try.prog 22 55 1 4 := by
  obtain ⟨i, h1, h2, h3, h4⟩ := info_parts (P := Try.prog) (e := 55) (z := .int .u32 0) (size := 1) (bytes := 4) (by kernel_rfl)
  exact ⟨Try.underlying22, ⟨i, _, h1, h2, h3, h4, rfl⟩, by decide⟩

/-- a variable that has an instruction, open to stores -/
structure Vn (w : World) (p : Nat) (i : In) : Prop where
  c0 : w.cell? ⟨p, 0, none⟩ = some (.int .i64 i.kind)
  c1 : w.cell? ⟨p, 1, none⟩ = some (.int .i64 i.d)
  c2 : w.cell? ⟨p, 2, none⟩ = some (.int .i64 i.a)
  c3 : w.cell? ⟨p, 3, none⟩ = some (.int .i64 i.b)
  c4 : w.cell? ⟨p, 4, none⟩ = some (.int .i64 i.s)
  c5 : w.cell? ⟨p, 5, none⟩ = some (.int .i64 i.c)
  c6 : w.cell? ⟨p, 6, none⟩ = some (.int .i64 i.n)
  fr : ∀ o, w.frozen? ⟨p, o, none⟩ = false
theorem Vn.same {w w' : World} {p : Nat} {i : In} (h : Vn w p i) (hb : w'.heap[p]? = w.heap[p]?) : Vn w' p i := by
  obtain ⟨h1, h2⟩ := Ow2.blk_same hb
  exact ⟨(h1 0).trans h.c0, (h1 1).trans h.c1, (h1 2).trans h.c2, (h1 3).trans h.c3, (h1 4).trans h.c4, (h1 5).trans h.c5, (h1 6).trans h.c6, fun o => (h2 o).trans (h.fr o)⟩
theorem Vn.lt {w : World} {p : Nat} {i : In} (h : Vn w p i) : p < w.heap.size := World.block_lt_of_cell? w _ h.c0
theorem Vn.keep {w w' : World} {p : Nat} {i : In} (h : Vn w p i) (hb : Below w.heap.size w w') : Vn w' p i := h.same (hb.block _ h.lt)
theorem vn_new (w : World) (i : In) (p : Nat) (t : TypeId) (hp : w.heap.size = p) : Vn (w.alloc (.cells #[.int .i64 i.kind, .int .i64 i.d, .int .i64 i.a, .int .i64 i.b, .int .i64 i.s, .int .i64 i.c, .int .i64 i.n] t)) p i := by
  subst hp
  exact ⟨by simp, by simp, by simp, by simp, by simp, by simp, by simp, fun o => by simp⟩
theorem Vn.setB {w : World} {p : Nat} {i : In} (h : Vn w p i) (y : Int) : Vn (w.setCell ⟨p, 3, none⟩ (.int .i64 y)) p ⟨i.kind, i.d, i.a, y, i.s, i.c, i.n⟩ :=
  ⟨(World.cell?_setCell_other _ _ _ _ (by simp)).trans h.c0, (World.cell?_setCell_other _ _ _ _ (by simp)).trans h.c1, (World.cell?_setCell_other _ _ _ _ (by simp)).trans h.c2, World.cell?_setCell_same _ _ _ h.c3,
    (World.cell?_setCell_other _ _ _ _ (by simp)).trans h.c4, (World.cell?_setCell_other _ _ _ _ (by simp)).trans h.c5, (World.cell?_setCell_other _ _ _ _ (by simp)).trans h.c6, fun o => by rw [World.frozen?_setCell]; exact h.fr o⟩
theorem Vn.setN {w : World} {p : Nat} {i : In} (h : Vn w p i) (y : Int) : Vn (w.setCell ⟨p, 6, none⟩ (.int .i64 y)) p ⟨i.kind, i.d, i.a, i.b, i.s, i.c, y⟩ :=
  ⟨(World.cell?_setCell_other _ _ _ _ (by simp)).trans h.c0, (World.cell?_setCell_other _ _ _ _ (by simp)).trans h.c1, (World.cell?_setCell_other _ _ _ _ (by simp)).trans h.c2, (World.cell?_setCell_other _ _ _ _ (by simp)).trans h.c3,
    (World.cell?_setCell_other _ _ _ _ (by simp)).trans h.c4, (World.cell?_setCell_other _ _ _ _ (by simp)).trans h.c5, World.cell?_setCell_same _ _ _ h.c6, fun o => by rw [World.frozen?_setCell]; exact h.fr o⟩

theorem branch_any (i : In) (w : World) : Calls Try.prog 50 #[.agg #[.int .i64 i.kind, .int .i64 i.d, .int .i64 i.a, .int .i64 i.b, .int .i64 i.s, .int .i64 i.c, .int .i64 i.n]] w fun e w' => e = .returned (.bool (br i.kind)) ∧ Below w.heap.size w w' := by
  obtain ⟨k, d, a, b, s, c, n⟩ := i
  show Calls _ _ _ _ fun e w' => e = .returned (.bool (decide (8 ≤ k) && decide (k ≤ 11))) ∧ _
  by_cases h1 : 8 ≤ k
  · by_cases h2 : k ≤ 11
    · have d1 : decide (8 ≤ k) = true := decide_eq_true h1
      have d2 : decide (k ≤ 11) = true := decide_eq_true h2
      go_enter Try.func50, Try.ntmps50
      go_wp2
      go_ret
      exact ⟨by simp [h1, h2], by go_grown⟩
    · have d1 : decide (8 ≤ k) = true := decide_eq_true h1
      have d2 : decide (k ≤ 11) = false := decide_eq_false h2
      go_enter Try.func50, Try.ntmps50
      go_wp2
      go_ret
      exact ⟨by simp [h1, h2], by go_grown⟩
  · have d1 : decide (8 ≤ k) = false := decide_eq_false h1
    go_enter Try.func50, Try.ntmps50
    go_wp2
    go_ret
    exact ⟨retb (by first | rfl | (have h0 : decide (8 ≤ k) = false := decide_eq_false (by omega); rw [h0]; rfl)), by go_grown⟩
theorem rbranch_any (k : Int) (w : World) : Calls Try.prog 41 #[.int .i64 k] w fun e w' => e = .returned (.bool (br k)) ∧ w = w' := by
  show Calls _ _ _ _ fun e w' => e = .returned (.bool (decide (8 ≤ k) && decide (k ≤ 11))) ∧ _
  by_cases h1 : 8 ≤ k
  · by_cases h2 : k ≤ 11
    · go_enter Try.func41, Try.ntmps41
      go_wp2
      go_ret
      exact ⟨by simp [h1, h2], rfl⟩
    · go_enter Try.func41, Try.ntmps41
      go_wp2
      go_ret
      exact ⟨by simp [h1, h2], rfl⟩
  · go_enter Try.func41, Try.ntmps41
    go_wp2
    go_ret
    exact ⟨retb (by first | rfl | (have h0 : decide (8 ≤ k) = false := decide_eq_false (by omega); rw [h0]; rfl)), rfl⟩
end Go.Proofs.Ytkohichiojmakaa.InW
