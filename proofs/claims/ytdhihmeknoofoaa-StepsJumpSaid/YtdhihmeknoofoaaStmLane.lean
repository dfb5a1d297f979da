/-
  WALKS: a lane of the run of steps: its variables, its place.
-/
import Derived.Test.YtdhihmeknoofoaaStmPlain
namespace Go.Proofs.Ytdhihmeknoofoaa.Sn
set_option linter.unusedVariables false
set_option linter.unusedSimpArgs false
open Go.RowKit Cm Mm Ow Me Stp StW Rm Sp

def lnO (x y : Int) (A : Option Addr) (n cap : Nat) (V : Option Addr) (m cv : Nat) (a : Int) (st en : Bool) : Obj :=
  .cells #[.int .i64 x, .int .i64 y, .slice A n cap, .slice V m cv, .int .i64 a, .bool st, .bool en] 89 (0, 0)
/-- a lane in the heap, its variables' row written out; F: the blocks that it may write -/
structure LnAt (w : World) (p : Nat) (F : List Nat) (x y : Int) (A : Option Addr) (n cap : Nat) (V : Option Addr) (cv : Nat) (v : List Int) (a : Nat) (st en : Bool) : Prop where
  head : w.heap[p]? = some (lnO x y A n cap V v.length cv a st en)
  row : w.ownsRow 0 29 1 (.slice V v.length cv) v.length (v.map uw)
  pF : p ∈ F
  vF : ∀ g, V.map (·.block) = some g → g ∈ F
  lt : ∀ k ∈ F, k < w.heap.size
  small : v.length ≤ 400

section
variable {w w' : World} {p : Nat} {F : List Nat} {x y : Int} {A : Option Addr} {n cap : Nat} {V : Option Addr} {cv : Nat} {v : List Int} {a : Nat} {st en : Bool}
theorem LnAt.far {G : List Nat} (h : LnAt w p F x y A n cap V cv v a st en) (ho : Only G w w') (hd : ∀ k ∈ F, k ∉ G) : LnAt w' p F x y A n cap V cv v a st en :=
  ⟨(ho.block p (h.lt p h.pF) (hd p h.pF)).trans h.head, ho.row h.row (fun g hg => hd g (h.vF g hg)), h.pF, h.vF, fun k hk => Nat.lt_of_lt_of_le (h.lt k hk) ho.size, h.small⟩
theorem LnAt.keep (h : LnAt w p F x y A n cap V cv v a st en) (hb : Below w.heap.size w w') : LnAt w' p F x y A n cap V cv v a st en := h.far (G := []) (Only.of_below hb) (fun _ _ hx => by cases hx)
theorem LnAt.c0 (h : LnAt w p F x y A n cap V cv v a st en) : w.cell? ⟨p, 0, none⟩ = some (.int .i64 x) := by simp [World.cell?, h.head, lnO]
theorem LnAt.c2 (h : LnAt w p F x y A n cap V cv v a st en) : w.cell? ⟨p, 2, none⟩ = some (.slice A n cap) := by simp [World.cell?, h.head, lnO]
theorem LnAt.c3 (h : LnAt w p F x y A n cap V cv v a st en) : w.cell? ⟨p, 3, none⟩ = some (.slice V v.length cv) := by simp [World.cell?, h.head, lnO]
theorem LnAt.c4 (h : LnAt w p F x y A n cap V cv v a st en) : w.cell? ⟨p, 4, none⟩ = some (.int .i64 a) := by simp [World.cell?, h.head, lnO]
theorem LnAt.c5 (h : LnAt w p F x y A n cap V cv v a st en) : w.cell? ⟨p, 5, none⟩ = some (.bool st) := by simp [World.cell?, h.head, lnO]
theorem LnAt.free (h : LnAt w p F x y A n cap V cv v a st en) (i : Nat) : w.frozen? ⟨p, i, none⟩ = false := by simp [World.frozen?, h.head, lnO]
theorem LnAt.some_ (h : LnAt w p F x y A n cap V cv v a st en) (hn : 0 < v.length) : ∃ g, V = some ⟨g, 0, none⟩ := by
  obtain ⟨g1, _, e1, _⟩ := h.row.form hn
  injection e1 with e1
  exact ⟨g1, e1⟩
theorem LnAt.ne (h : LnAt w p F x y A n cap V cv v a st en) {g : Nat} (hg : V.map (·.block) = some g) : p ≠ g := by
  obtain ⟨k1, t1⟩ := row_type h.row hg
  have hd := h.head
  unfold lnO at hd
  exact type_ne hd t1 (by decide)
/-- a store into the struct -/
theorem LnAt.set (h : LnAt w p F x y A n cap V cv v a st en) (i : Nat) (u : Value) {a' : Nat} {st' en' : Bool}
    (hu : (#[.int .i64 x, .int .i64 y, .slice A n cap, .slice V v.length cv, .int .i64 a, .bool st, .bool en] : Array Value).setIfInBounds i u = #[.int .i64 x, .int .i64 y, .slice A n cap, .slice V v.length cv, .int .i64 a', .bool st', .bool en']) :
    LnAt (w.setCell ⟨p, i, none⟩ u) p F x y A n cap V cv v a' st' en' ∧ Only [p] w (w.setCell ⟨p, i, none⟩ u) := by
  have ho : Only [p] w (w.setCell ⟨p, i, none⟩ u) := (Only.refl _ _).setCell (by simp) _
  refine ⟨⟨?_, ho.row h.row (fun g hg hm => h.ne hg (List.mem_singleton.1 hm).symm), h.pF, h.vF, fun k hk => Nat.lt_of_lt_of_le (h.lt k hk) ho.size, h.small⟩, ho⟩
  have hd := h.head
  unfold lnO at hd ⊢
  simp [World.setCell, Array.getElem?_modify, hd, ← hu]
theorem LnAt.cell_v {g i : Nat} (h : LnAt w p F x y A n cap (some ⟨g, 0, none⟩) cv v a st en) (hi : i < v.length) : w.cell? ⟨g, i, none⟩ = some (.int .u64 (v.getD i 0)) ∧ w.frozen? ⟨g, i, none⟩ = false := by
  have := h.row.cellAt i (by simpa using hi)
  rw [this]
  exact ⟨by simp [List.getD, uw, hi], h.row.frozenAt i⟩
theorem LnAt.set_v {g : Nat} (h : LnAt w p F x y A n cap (some ⟨g, 0, none⟩) cv v a st en) (i : Nat) (z : Int) :
    LnAt (w.setCell ⟨g, i, none⟩ (.int .u64 z)) p F x y A n cap (some ⟨g, 0, none⟩) cv (v.set i z) a st en ∧ Only [g] w (w.setCell ⟨g, i, none⟩ (.int .u64 z)) := by
  obtain ⟨s1, s2⟩ := h.row.stored i (.int .u64 z)
  have ho : Only [g] w (w.setCell ⟨g, i, none⟩ (.int .u64 z)) := Only.of_grown s2 (fun x hx => by simpa using hx.symm)
  have np := h.ne (g := g) rfl
  refine ⟨⟨?_, ?_, h.pF, h.vF, fun k hk => Nat.lt_of_lt_of_le (h.lt k hk) ho.size, by simpa using h.small⟩, ho⟩
  · rw [List.length_set]
    exact (ho.block p (h.lt p h.pF) (by simpa using np)).trans h.head
  · rw [List.length_set, List.map_set]
    exact s1
end

theorem getV_low {v : List Int} {i : Int} (h : i < 0) : getV v i = 0 := by unfold getV; rw [if_neg (by omega)]
theorem getV_high {v : List Int} {i : Int} (h : (v.length : Int) ≤ i) : getV v i = 0 := by unfold getV; rw [if_neg (by omega)]
theorem getV_in {v : List Int} {i : Nat} (h : i < v.length) : getV v i = v.getD i 0 := by unfold getV; rw [if_pos (by omega)]; rfl
theorem putV_low {v : List Int} {i x : Int} (h : i < 0) : putV v i x = v := by unfold putV; rw [if_neg (by omega)]
theorem putV_high {v : List Int} {i x : Int} (h : (v.length : Int) ≤ i) : putV v i x = v := by unfold putV; rw [if_neg (by omega)]
theorem putV_in {v : List Int} {i : Nat} {x : Int} (h : i < v.length) : putV v i x = v.set i x := by unfold putV; rw [if_pos (by omega)]; rfl

set_option maxHeartbeats 1600000 in
theorem get_any {p : Nat} {F : List Nat} {x y : Int} {A : Option Addr} {n cap : Nat} {V : Option Addr} {cv : Nat} {v : List Int} {a : Nat} {st en : Bool} (i : Int) (w : World) (h : LnAt w p F x y A n cap V cv v a st en) :
    Calls Try.prog 77 #[.pointer (some ⟨p, 0, none⟩), .int .i64 i] w fun e w' => e = .returned (.int .u64 (getV v i)) ∧ w = w' := by
  have g3 := h.c3
  have hs := h.small
  obtain h1 | ⟨h1, h2⟩ | ⟨h1, h2⟩ : i < 0 ∨ (0 ≤ i ∧ (v.length : Int) ≤ i) ∨ (0 ≤ i ∧ i < v.length) := by omega
  · have HR := Lib.hid (getV_low (v := v) h1)
    have d1 : decide (i < 0) = true := decide_eq_true h1
    go_enter Try.func77, Try.ntmps77
    go_wp2
    go_ret
    exact ⟨ret1 HR.out.symm, rfl⟩
  · have HR := Lib.hid (getV_high (v := v) h2)
    have d1 : decide (i < 0) = false := decide_eq_false (by omega)
    have d2 : decide ((v.length : Int) ≤ i) = true := decide_eq_true h2
    go_enter Try.func77, Try.ntmps77
    go_wp2
    go_ret
    exact ⟨ret1 HR.out.symm, rfl⟩
  · obtain ⟨j, rfl⟩ := Int.eq_ofNat_of_zero_le h1
    have hj : j < v.length := by omega
    have HR := Lib.hid (getV_in hj)
    obtain ⟨g, rfl⟩ := h.some_ (by omega)
    obtain ⟨e1, e2⟩ := h.cell_v hj
    have d1 : decide ((j : Int) < 0) = false := decide_eq_false (by omega)
    have d2 : decide ((v.length : Int) ≤ (j : Int)) = false := decide_eq_false (by omega)
    generalize v.getD j 0 = z at *
    go_enter Try.func77, Try.ntmps77
    go_wp2
    go_ret
    exact ⟨ret1 HR.out.symm, rfl⟩

set_option maxHeartbeats 1600000 in
theorem put_any {p : Nat} {F : List Nat} {x y : Int} {A : Option Addr} {n cap : Nat} {V : Option Addr} {cv : Nat} {v : List Int} {a : Nat} {st en : Bool} (i z : Int) (w : World) (h : LnAt w p F x y A n cap V cv v a st en) :
    Calls Try.prog 76 #[.pointer (some ⟨p, 0, none⟩), .int .i64 i, .int .u64 z] w fun e w' => e = .returned (.tuple #[]) ∧ LnAt w' p F x y A n cap V cv (putV v i z) a st en ∧ Only ((V.map (·.block)).toList) w w' := by
  have g3 := h.c3
  have hs := h.small
  have H := Lib.hid h
  obtain h1 | ⟨h1, h2⟩ | ⟨h1, h2⟩ : i < 0 ∨ (0 ≤ i ∧ (v.length : Int) ≤ i) ∨ (0 ≤ i ∧ i < v.length) := by omega
  · have HR := Lib.hid (putV_low (v := v) (x := z) h1)
    have d1 : decide (0 ≤ i) = false := decide_eq_false (by omega)
    clear h
    go_enter Try.func76, Try.ntmps76
    go_wp2
    go_end0
    exact ⟨rfl, by rw [HR.out]; exact H.out, Only.refl _ _⟩
  · have HR := Lib.hid (putV_high (v := v) (x := z) h2)
    have d1 : decide (0 ≤ i) = true := decide_eq_true h1
    have d2 : decide (i < (v.length : Int)) = false := decide_eq_false (by omega)
    clear h
    go_enter Try.func76, Try.ntmps76
    go_wp2
    go_end0
    exact ⟨rfl, by rw [HR.out]; exact H.out, Only.refl _ _⟩
  · obtain ⟨j, rfl⟩ := Int.eq_ofNat_of_zero_le h1
    have hj : j < v.length := by omega
    have HR := Lib.hid (putV_in (x := z) hj)
    obtain ⟨g, rfl⟩ := h.some_ (by omega)
    obtain ⟨e1, e2⟩ := h.cell_v hj
    have S := Lib.hid (h.set_v j z)
    have d1 : decide (0 ≤ (j : Int)) = true := decide_eq_true (by omega)
    have d2 : decide ((j : Int) < (v.length : Int)) = true := decide_eq_true (by omega)
    generalize v.getD j 0 = z' at *
    clear h
    go_enter Try.func76, Try.ntmps76
    go_wp2
    go_end0
    exact ⟨rfl, by rw [HR.out]; exact S.out.1, S.out.2⟩

set_option maxHeartbeats 1600000 in
theorem over_any {p : Nat} {F : List Nat} {x y : Int} {A : Option Addr} {n cap : Nat} {V : Option Addr} {cv : Nat} {v : List Int} {a : Nat} {st en : Bool} (w : World) (h : LnAt w p F x y A n cap V cv v a st en) :
    Calls Try.prog 75 #[.pointer (some ⟨p, 0, none⟩)] w fun e w' => e = .returned (.bool (decide (n ≤ a))) ∧ ∃ m, w' = w.drewN m := by
  have g2 := h.c2
  have g4 := h.c4
  have hd : decide ((n : Int) ≤ (a : Int)) = decide (n ≤ a) := by simp
  have HD := Lib.hid hd
  clear h hd
  go_enter Try.func75, Try.ntmps75
  go_wp2
  go_quiet (fail)
  go_wp2
  go_ret
  exact ⟨by first | rfl | exact retb HD.out, _, rfl⟩

theorem findIdx_at {c : List St} {to : Int} {k : Nat} (hk : k < c.length) (h : isLab to (c.getD k zeroSt) = true) (hlow : ∀ j, j < k → isLab to (c.getD j zeroSt) = false) : jumpV c to = k := by
  unfold jumpV
  rw [List.findIdx_eq hk]
  refine ⟨by simpa [List.getD, hk] using h, fun j hj => ?_⟩
  have := hlow j hj
  simpa [List.getD, show j < c.length by omega] using this
theorem findIdx_none {c : List St} {to : Int} (hlow : ∀ j, j < c.length → isLab to (c.getD j zeroSt) = false) : jumpV c to = c.length := by
  unfold jumpV
  rw [List.findIdx_eq_length]
  intro s hs
  obtain ⟨j, hj, rfl⟩ := List.mem_iff_getElem.1 hs
  have := hlow j hj
  simpa [List.getD, hj] using this

set_option maxHeartbeats 1600000 in
theorem jump_any {p : Nat} {F : List Nat} {x y : Int} {A : Option Addr} {n cap : Nat} {V : Option Addr} {cv : Nat} {v : List Int} {a : Nat} {st en : Bool} {c : List St} (to : Int) (w : World) (h : LnAt w p F x y A n cap V cv v a st en) (hc : IsSt w A n cap c) (hn : n ≤ 65536) :
    Calls Try.prog 79 #[.pointer (some ⟨p, 0, none⟩), .int .i64 to] w fun e w' => e = .returned (.tuple #[]) ∧ LnAt w' p F x y A n cap V cv v (jumpV c to) st en ∧ Only [p] w w' := by
  have g2 := h.c2
  have g4 := h.c4
  have f4 := h.free 4
  have H := Lib.hid h
  have HC := Lib.hid hc
  have hl := Lib.hid hc.1
  have hn2 : (n : Int) ≤ 65536 := by omega
  clear h hc
  go_enter Try.func79, Try.ntmps79
  go_wp2
  go_loop [4] (fun i => ∃ (k : Nat), k ≤ n ∧ i = .int .i64 k ∧ Hid (∀ j, j < k → isLab to (c.getD j zeroSt) = false)) (fun i => n - (intOf i).toNat)
  case atStart => exact ⟨0, by omega, rfl, fun j hj => absurd hj (by omega)⟩
  case round =>
    obtain ⟨k, hk, rfl, hlow⟩ := hrel
    by_cases hkn : k < n
    · obtain ⟨b, o, rfl, hb, s0, s1, s2, s3, s4, s5, s6, s7, s8⟩ := HC.out.cell (k := k) hkn
      have hnext : ∀ r : Bool, isLab to (c.getD k zeroSt) = r → (r = true → jumpV c to = k) ∧ (r = false → ∀ j, j < k + 1 → isLab to (c.getD j zeroSt) = false) := fun r hr =>
        ⟨fun h1 => findIdx_at (by rw [hl.out]; exact hkn) (by rw [hr, h1]) hlow.out, fun h1 j hj => by
          by_cases e : j = k
          · subst e; rw [hr, h1]
          · exact hlow.out j (by omega)⟩
      have HN := Lib.hid hnext
      generalize c.getD k zeroSt = s at *
      have k1 : (k : Int) < n := by omega
      clear hnext hlow
      cases b1 : (s.kind == 9)
      · have HF := Lib.hid (HN.out false (by unfold isLab; rw [b1]; rfl))
        go_wp2
        go_round
        case rel => exact ⟨k + 1, by omega, by go_num, HF.out.2 rfl⟩
        case measure => simp [intOf]; omega
      · cases b2 : (s.to == to)
        · have HF := Lib.hid (HN.out false (by unfold isLab; rw [b1, b2]; rfl))
          go_wp2
          go_round
          case rel => exact ⟨k + 1, by omega, by go_num, HF.out.2 rfl⟩
          case measure => simp [intOf]; omega
        · have HF := Lib.hid (HN.out true (by unfold isLab; rw [b1, b2]; rfl))
          have S := Lib.hid (H.out.set 4 (.int .i64 (k : Int)) (a' := k) (st' := st) (en' := en) rfl)
          go_wp2
          refine ⟨rfl, _, results_none rfl _ _ _, ?_⟩
          exact ⟨rfl, by rw [HF.out.1 (by trivial)]; exact S.out.1, S.out.2⟩
    · obtain rfl : k = n := by omega
      have e := Lib.hid (findIdx_none (c := c) (to := to) (fun j hj => hlow.out j (by rw [← hl.out]; exact hj)))
      have S := Lib.hid (H.out.set 4 (.int .i64 (k : Int)) (a' := k) (st' := st) (en' := en) rfl)
      go_wp2
      go_end0
      exact ⟨rfl, by rw [e.out, hl.out]; exact S.out.1, S.out.2⟩
end Go.Proofs.Ytdhihmeknoofoaa.Sn
