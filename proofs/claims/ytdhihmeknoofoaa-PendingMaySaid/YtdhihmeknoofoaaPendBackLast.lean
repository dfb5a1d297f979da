/-
  WALK: the program's Last, a range over slices.Backward, at every slice of writes.
-/
import Derived.RangeFuncNested
import Derived.Test.YtdhihmeknoofoaaPendBack
namespace Go.Proofs.Ytdhihmeknoofoaa.PnK
set_option linter.unusedVariables false
set_option linter.unusedSimpArgs false
open Go.RowKit Go.Shelf Cm Mm Ow Pnd PnW PnL PnB
attribute [local go_sem] Oper.semAt_some

def misses (a : Int) (pre : List (Nat × Wr)) : Prop := ∀ p ∈ pre, (p.2.at' == a) = false
theorem misses_nil (a : Int) : misses a [] := by simp [misses]
theorem misses_snoc {a : Int} {pre : List (Nat × Wr)} {x : Nat × Wr} (h : misses a pre) (hx : (x.2.at' == a) = false) : misses a (pre ++ [x]) := fun p hp =>
  (List.mem_append.1 hp).elim (h p) (fun e => by rw [List.mem_singleton] at e; subst e; exact hx)
def hits (a : Int) (pre : List (Nat × Wr)) (v : Int) : Prop := ∃ ini last, pre = ini ++ [last] ∧ misses a ini ∧ (last.2.at' == a) = true ∧ last.2.v = v
theorem misses_upto {a : Int} {l : List Wr} {n k : Nat} (hl : l.length = n) (hk : k ≤ n) (h : misses a (upto (bk l n) k)) : ∀ i, n - k ≤ i → i < n → ((l.getD i zeroWr).at' == a) = false := fun i h1 h2 => by
  have := h (bk l n (n - 1 - i)) (by unfold upto; exact List.mem_map.2 ⟨n - 1 - i, List.mem_range.2 (by omega), rfl⟩)
  unfold bk at this
  rwa [show n - 1 - (n - 1 - i) = i by omega] at this
theorem misses_last {a : Int} {l : List Wr} {n : Nat} (hl : l.length = n) (h : misses a (upto (bk l n) n)) : last l a = none :=
  last_none l a (fun i hi => misses_upto hl (Nat.le_refl n) h i (by omega) (by omega))
theorem hits_last {a v : Int} {l : List Wr} {n k : Nat} (hl : l.length = n) (hk : k ≤ n) (h : hits a (upto (bk l n) k) v) : lastV l a = v ∧ lastOk l a = true := by
  obtain ⟨ini, x, e1, e2, e3, e4⟩ := h
  obtain ⟨k', rfl⟩ : ∃ k', k = k' + 1 := by
    cases k with
    | zero => simp [upto] at e1
    | succ k' => exact ⟨k', rfl⟩
  rw [upto_succ] at e1
  obtain ⟨rfl, e5⟩ := List.append_inj' e1 rfl
  obtain rfl : bk l n k' = x := by simpa using e5
  have e := last_at l a (n - 1 - k') (by omega) e3 (fun i h1 h2 => misses_upto hl (by omega) e2 i (by omega) (by omega))
  unfold lastV lastOk
  rw [e]
  exact ⟨e4, rfl⟩

set_option maxRecDepth 100000 in
set_option maxHeartbeats 4000000 in
theorem last_in (F : Fence) (N : Nat) (h1 : F.fn 46) (h2 : F.fn 68) (h3 : F.fn 83) (hro : F.round = none) (hN : 3 ≤ N) (A : Option Addr) (n cap : Nat) (a : Int) (l : List Wr) (w : World) (hI : IsW w A n cap l) (hn : n ≤ 65536) (HAb : 0 < n → ∀ b o, A = some ⟨b, o, none⟩ → b < w.heap.size + 4) :
    CallsIn F N Try.prog 46 #[.slice A n cap, .int .i64 a] w fun e W' => e = .returned (.tuple #[.int .u64 (lastV l a), .bool (lastOk l a)]) ∧ Below w.heap.size w W' := by
  have hN1 : 1 ≤ N := by omega
  refine callsIn_of_wp_marks Try.func46 rfl h1 ?_ hro
  simp only [Try.ntmps46, List.size_toArray, List.length_cons, List.length_nil, Nat.reduceAdd, Nat.reduceSub, Array.replicate_succ, Array.replicate_zero, List.push_toArray, List.append_toArray, List.nil_append, List.cons_append]
  gi_wp2_with (gi_at_call 68; refine (back_in F (N - 1) h2 hro _ _ _ _).mono ?_; rintro e w' ⟨rfl, rfl⟩)
  obtain ⟨s, hs⟩ : ∃ s, s = w.heap.size := ⟨_, rfl⟩
  have bA := (((Boxed.new w 3 (.int .i64 a)).alloc (.cells #[.int .u64 0] 29)).alloc (.cells #[.bool false] 4)).alloc (.cells #[.slice A n cap] 50)
  have bV := ((Boxed.new (w.alloc (.cells #[.int .i64 a] 3)) 29 (.int .u64 0)).alloc (.cells #[.bool false] 4)).alloc (.cells #[.slice A n cap] 50)
  have bO := (Boxed.new ((w.alloc (.cells #[.int .i64 a] 3)).alloc (.cells #[.int .u64 0] 29)) 4 (.bool false)).alloc (.cells #[.slice A n cap] 50)
  have bS := Boxed.new (((w.alloc (.cells #[.int .i64 a] 3)).alloc (.cells #[.int .u64 0] 29)).alloc (.cells #[.bool false] 4)) 50 (.slice A n cap)
  have hB0 : Below w.heap.size w ((((w.alloc (.cells #[.int .i64 a] 3)).alloc (.cells #[.int .u64 0] 29)).alloc (.cells #[.bool false] 4)).alloc (.cells #[.slice A n cap] 50)) := ((((Below.refl _ w).alloc (Nat.le_refl _) _).alloc (by simp) _).alloc (by simp; omega) _).alloc (by simp; omega) _
  simp only [World.size_alloc] at bA bV bO bS
  have hsz : ((((w.alloc (.cells #[.int .i64 a] 3)).alloc (.cells #[.int .u64 0] 29)).alloc (.cells #[.bool false] 4)).alloc (.cells #[.slice A n cap] 50)).heap.size = w.heap.size + 4 := by simp
  obtain ⟨W0, hW0⟩ : ∃ W0, (((w.alloc (.cells #[.int .i64 a] 3)).alloc (.cells #[.int .u64 0] 29)).alloc (.cells #[.bool false] 4)).alloc (.cells #[.slice A n cap] 50) = W0 := ⟨_, rfl⟩
  rw [hW0] at bA bV bO bS hB0 hsz ⊢
  clear hW0
  refine wpIn_rangeFunc_ownH hro hN1 (gf := 83) (lb := #[.pointer (some ⟨w.heap.size + 1 + 1 + 1, 0, none⟩)]) rfl h3 (enters_of Try.func83 (by kernel_rfl) rfl)
    (back_stops F (N - 1) h3 hro (by omega) (w.heap.size + 1 + 1 + 1) (w.heap.size + 4) A n cap l hn W0 (by omega) (by omega) bS.cell (hI.keep hB0) (fun h0 => HAb h0)) belowK_t (belowK_b (by omega)) (Below.refl _ _) (fun _ => rfl)
    (fun pre W => (misses a pre ∧ Boxed W w.heap.size 3 (.int .i64 a) ∧ Boxed W (w.heap.size + 1) 29 (.int .u64 0) ∧ Boxed W (w.heap.size + 1 + 1) 4 (.bool false) ∧ Boxed W (w.heap.size + 1 + 1 + 1) 50 (.slice A n cap)) ∧ Below w.heap.size w W)
    (fun c pre W => (c = .ret ∧ ∃ v, hits a pre v ∧ Boxed W (w.heap.size + 1) 29 (.int .u64 v) ∧ Boxed W (w.heap.size + 1 + 1) 4 (.bool true)) ∧ Below w.heap.size w W)
    (OwnFrom.and (OwnFrom.and (ownFrom_pure _ _) (OwnFrom.and (Own.from (boxed_own _ _ _) _) (OwnFrom.and (Own.from (boxed_own _ _ _) _) (OwnFrom.and (Own.from (boxed_own _ _ _) _) (Own.from (boxed_own _ _ _) _))))) (ownFrom_below (Nat.le_refl _) (by omega)))
    (fun c => OwnFrom.and (Own.from (fun s X Y row hs hg hr => by obtain ⟨hc, v, e1, e4, e5⟩ := hs; exact ⟨hc, v, e1, boxed_own _ 29 (fun (_ : Unit) => Value.int .u64 v) () X Y row e4 hg hr, boxed_own _ 4 (fun (_ : Unit) => Value.bool true) () X Y row e5 hg hr⟩) _) (ownFrom_below (Nat.le_refl _) (by omega)))
    ⟨⟨misses_nil a, bA, bV, bO, bS⟩, hB0⟩
    (fun x a' W => ∃ Bx, w.heap.size + 3 < Bx ∧ (∃ i, W.heap[Bx]? = some (.cells #[.int .i64 x.2.at', .int .u64 x.2.v, .bool x.2.rel] 53 i)) ∧ a' = { tmps := #[.slice A n cap, .int .i64 a, undef, .pointer (some ⟨w.heap.size, 0, none⟩), .pointer (some ⟨w.heap.size + 1, 0, none⟩), .pointer (some ⟨w.heap.size + 1 + 1, 0, none⟩), undef, .pointer (some ⟨Bx, 0, none⟩), .slice A n cap, .func (.func 83) #[] #[.pointer (some ⟨w.heap.size + 1 + 1 + 1, 0, none⟩)], .int .i64 (x.1 : Int), .agg #[.int .i64 x.2.at', .int .u64 x.2.v, .bool x.2.rel], undef, undef, undef, undef, undef, undef], defers := [] })
    (fun x a' _ X Y row hs hg hr => by
      obtain ⟨Bx, h1, ⟨i, h2⟩, h3⟩ := hs
      refine ⟨Bx, h1, ⟨i, (hg.block Bx (Array.getElem?_eq_some_iff.1 h2).1 (fun e' => ?_)).trans h2⟩, h3⟩
      obtain ⟨o, ho, hc⟩ := (hr Bx e'.symm).2
      rw [h2] at ho; cases ho; cases hc)
    ?assign ?body ?done ?stop
  case assign =>
    rintro l pre x W K ⟨⟨hp, b1, b2, b3, b4⟩, hB1⟩ hK
    have h4 := b4.lt
    gi_wp2
    exact hK _ _ ((KeepsOthers.alloc _ _).from _) ((Below.refl _ W).alloc (by omega) _) ⟨⟨hp, b1.alloc _, b2.alloc _, b3.alloc _, b4.alloc _⟩, hB1.alloc hB1.size _⟩ ⟨W.heap.size, by omega, ⟨_, World.alloc_heap_new W _⟩, rfl⟩
  case body =>
    rintro l pre x a' W hl hr ⟨⟨hp, b1, b2, b3, b4⟩, hB1⟩ ⟨Bx, hBx, ⟨i, hX⟩, rfl⟩ hlt
    have cA := b1.cell
    have cV := b2.cell
    have fV := b2.frozen
    have cO := b3.cell
    have fO := b3.frozen
    obtain ⟨xi, ⟨c1, c2, c3⟩⟩ := x
    have g0 : W.cell? ⟨Bx, 0, none⟩ = some (.int .i64 c1) := by simp [World.cell?, hX]
    have g1 : W.cell? ⟨Bx, 1, none⟩ = some (.int .u64 c2) := by simp [World.cell?, hX]
    have n1 : Bx ≠ w.heap.size + 1 := by omega
    cases hs : (c1 == a)
    · gi_wp2
      exact ⟨KeepsFrom.refl _ _, Below.refl _ _, ⟨misses_snoc hp hs, b1, b2, b3, b4⟩, hB1⟩
    · gi_wp2
      exact ⟨((KeepsOthers.setCell _ _ _).from _).trans ((KeepsOthers.setCell _ _ _).from _), ⟨rfl, c2, ⟨pre, _, rfl, hp, hs, rfl⟩, (b2.set _).other (by omega) _, (b3.other (by omega) _).set _⟩, (hB1.setCell (p := ⟨w.heap.size + 1, 0, none⟩) (by show w.heap.size ≤ w.heap.size + 1; omega) _).setCell (p := ⟨w.heap.size + 1 + 1, 0, none⟩) (by show w.heap.size ≤ w.heap.size + 1 + 1; omega) _⟩
  case done =>
    rintro D ys W hD rfl ⟨⟨hne, b1, b2, b3, b4⟩, hB⟩ hK
    have cV := b2.cell
    have fV := b2.frozen
    have cO := b3.cell
    have fO := b3.frozen
    gi_wp2
    have hK1 := (KeepsOthers.setCell W ⟨w.heap.size + 1, 0, none⟩ (.int .u64 0)).same D _ hK rfl
    have hK' := (KeepsOthers.setCell (W.setCell ⟨w.heap.size + 1, 0, none⟩ (.int .u64 0)) ⟨w.heap.size + 1 + 1, 0, none⟩ (.bool false)).same D _ hK1 rfl
    have B2 := (b2.set (.int .u64 0)).other (B' := w.heap.size + 1 + 1) (by omega) (.bool false)
    have B3 := (b3.other (B' := w.heap.size + 1) (by omega) (.int .u64 0)).set (.bool false)
    refine ⟨by simp, .inl ⟨_, _, rfl, run_takeDeferred hK', ?_⟩⟩
    have hc5 := cell_kept B2.cell (grownBy_putObj' _ D (.deferred none)) (fun r e => by cases e; exact ⟨_, hK', rfl⟩)
    have hc6 := cell_kept B3.cell (grownBy_putObj' _ D (.deferred none)) (fun r e => by cases e; exact ⟨_, hK', rfl⟩)
    have hlast := misses_last hI.1 hne
    refine ⟨.tuple #[.int .u64 0, .bool false], ?_, by unfold lastV lastOk; rw [hlast]; rfl, (((hB.setCell (p := ⟨w.heap.size + 1, 0, none⟩) (by show w.heap.size ≤ w.heap.size + 1; omega) _).setCell (p := ⟨w.heap.size + 1 + 1, 0, none⟩) (by show w.heap.size ≤ w.heap.size + 1 + 1; omega) _)).trans (belowK_b (w := w) (Nat.le_refl _) _ D _ _ (by omega) hK' rfl rfl)⟩
    simp [results, Try.f46, go_sem, hc5, hc6]
  case stop =>
    rintro D c pre W hD ⟨k, hk, rfl⟩ ⟨⟨rfl, v, hh, b2, b3⟩, hB⟩ hK
    have cV := b2.cell
    have cO := b3.cell
    gi_wp2
    refine ⟨by simp, .inl ⟨_, _, rfl, run_takeDeferred hK, ?_⟩⟩
    have hc5 := cell_kept cV (grownBy_putObj' _ D (.deferred none)) (fun r e => by cases e; exact ⟨_, hK, rfl⟩)
    have hc6 := cell_kept cO (grownBy_putObj' _ D (.deferred none)) (fun r e => by cases e; exact ⟨_, hK, rfl⟩)
    obtain ⟨q1, q2⟩ := hits_last hI.1 hk hh
    refine ⟨.tuple #[.int .u64 v, .bool true], ?_, by rw [q1, q2], hB.trans (belowK_b (w := w) (Nat.le_refl _) W D _ _ (by omega) hK rfl rfl)⟩
    simp [results, Try.f46, go_sem, hc5, hc6]

theorem last_any (A : Option Addr) (n cap : Nat) (a : Int) (l : List Wr) (w : World) (hI : IsW w A n cap l) (hn : n ≤ 65536) :
    Calls Try.prog 46 #[.slice A n cap, .int .i64 a] w fun e W' => e = .returned (.tuple #[.int .u64 (lastV l a), .bool (lastOk l a)]) ∧ Below w.heap.size w W' := by
  refine callsIn_wide.1 (last_in Fence.wide 3 trivial trivial trivial rfl (Nat.le_refl _) A n cap a l w hI hn fun hpos b o e => ?_)
  obtain ⟨b', o', e', hb, _⟩ := hI.cell (k := 0) hpos
  rw [e'] at e
  obtain ⟨rfl, rfl⟩ : b' = b ∧ o' = o := by simpa using e
  omega
end Go.Proofs.Ytdhihmeknoofoaa.PnK
