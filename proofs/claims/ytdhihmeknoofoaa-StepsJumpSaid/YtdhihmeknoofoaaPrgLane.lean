/-
  WALKS: a code that runs, of the program's run of steps: its variables, its place.
-/
import Derived.Test.YtdhihmeknoofoaaStmMach
import Derived.Test.YtdhihmeknoofoaaStmDuo
namespace Go.Proofs.Ytdhihmeknoofoaa.Pn
set_option linter.unusedVariables false
set_option linter.unusedSimpArgs false
open Go.RowKit Cm Mm Ow Me Stp StW Rm Sp Sr

def thO (x y : Int) (A : Option Addr) (n cap : Nat) (V : Option Addr) (m cv : Nat) (a st : Int) : Obj :=
  .cells #[.int .i64 x, .int .i64 y, .slice A n cap, .slice V m cv, .int .i64 a, .int .i64 st] 110 (0, 0)
/-- a lane in the heap, its variables' row written out; F: the blocks that it may write -/
structure ThAt (w : World) (p : Nat) (F : List Nat) (x y : Int) (A : Option Addr) (n cap : Nat) (V : Option Addr) (cv : Nat) (v : List Int) (a st : Int) : Prop where
  head : w.heap[p]? = some (thO x y A n cap V v.length cv a st)
  row : w.ownsRow 0 29 1 (.slice V v.length cv) v.length (v.map uw)
  pF : p ∈ F
  vF : ∀ g, V.map (·.block) = some g → g ∈ F
  lt : ∀ k ∈ F, k < w.heap.size
  small : v.length ≤ 400

section
variable {w w' : World} {p : Nat} {F : List Nat} {x y : Int} {A : Option Addr} {n cap : Nat} {V : Option Addr} {cv : Nat} {v : List Int} {a st : Int}
theorem ThAt.far {G : List Nat} (h : ThAt w p F x y A n cap V cv v a st) (ho : Only G w w') (hd : ∀ k ∈ F, k ∉ G) : ThAt w' p F x y A n cap V cv v a st :=
  ⟨(ho.block p (h.lt p h.pF) (hd p h.pF)).trans h.head, ho.row h.row (fun g hg => hd g (h.vF g hg)), h.pF, h.vF, fun k hk => Nat.lt_of_lt_of_le (h.lt k hk) ho.size, h.small⟩
theorem ThAt.keep (h : ThAt w p F x y A n cap V cv v a st) (hb : Below w.heap.size w w') : ThAt w' p F x y A n cap V cv v a st := h.far (G := []) (Only.of_below hb) (fun _ _ hx => by cases hx)
theorem ThAt.c0 (h : ThAt w p F x y A n cap V cv v a st) : w.cell? ⟨p, 0, none⟩ = some (.int .i64 x) := by simp [World.cell?, h.head, thO]
theorem ThAt.c2 (h : ThAt w p F x y A n cap V cv v a st) : w.cell? ⟨p, 2, none⟩ = some (.slice A n cap) := by simp [World.cell?, h.head, thO]
theorem ThAt.c3 (h : ThAt w p F x y A n cap V cv v a st) : w.cell? ⟨p, 3, none⟩ = some (.slice V v.length cv) := by simp [World.cell?, h.head, thO]
theorem ThAt.c4 (h : ThAt w p F x y A n cap V cv v a st) : w.cell? ⟨p, 4, none⟩ = some (.int .i64 a) := by simp [World.cell?, h.head, thO]
theorem ThAt.c5 (h : ThAt w p F x y A n cap V cv v a st) : w.cell? ⟨p, 5, none⟩ = some (.int .i64 st) := by simp [World.cell?, h.head, thO]
theorem ThAt.free (h : ThAt w p F x y A n cap V cv v a st) (i : Nat) : w.frozen? ⟨p, i, none⟩ = false := by simp [World.frozen?, h.head, thO]
theorem ThAt.some_ (h : ThAt w p F x y A n cap V cv v a st) (hn : 0 < v.length) : ∃ g, V = some ⟨g, 0, none⟩ := by
  obtain ⟨g1, _, e1, _⟩ := h.row.form hn
  injection e1 with e1
  exact ⟨g1, e1⟩
theorem ThAt.ne (h : ThAt w p F x y A n cap V cv v a st) {g : Nat} (hg : V.map (·.block) = some g) : p ≠ g := by
  obtain ⟨k1, t1⟩ := row_type h.row hg
  have hd := h.head
  unfold thO at hd
  exact type_ne hd t1 (by decide)
/-- a store into the struct -/
theorem ThAt.set (h : ThAt w p F x y A n cap V cv v a st) (i : Nat) (u : Value) {a' st' : Int}
    (hu : (#[.int .i64 x, .int .i64 y, .slice A n cap, .slice V v.length cv, .int .i64 a, .int .i64 st] : Array Value).setIfInBounds i u = #[.int .i64 x, .int .i64 y, .slice A n cap, .slice V v.length cv, .int .i64 a', .int .i64 st']) :
    ThAt (w.setCell ⟨p, i, none⟩ u) p F x y A n cap V cv v a' st' ∧ Only [p] w (w.setCell ⟨p, i, none⟩ u) := by
  have ho : Only [p] w (w.setCell ⟨p, i, none⟩ u) := (Only.refl _ _).setCell (by simp) _
  refine ⟨⟨?_, ho.row h.row (fun g hg hm => h.ne hg (List.mem_singleton.1 hm).symm), h.pF, h.vF, fun k hk => Nat.lt_of_lt_of_le (h.lt k hk) ho.size, h.small⟩, ho⟩
  have hd := h.head
  unfold thO at hd ⊢
  simp [World.setCell, Array.getElem?_modify, hd, ← hu]
theorem ThAt.cell_v {g i : Nat} (h : ThAt w p F x y A n cap (some ⟨g, 0, none⟩) cv v a st) (hi : i < v.length) : w.cell? ⟨g, i, none⟩ = some (.int .u64 (v.getD i 0)) ∧ w.frozen? ⟨g, i, none⟩ = false := by
  have := h.row.cellAt i (by simpa using hi)
  rw [this]
  exact ⟨by simp [List.getD, uw, hi], h.row.frozenAt i⟩
theorem ThAt.set_v {g : Nat} (h : ThAt w p F x y A n cap (some ⟨g, 0, none⟩) cv v a st) (i : Nat) (z : Int) :
    ThAt (w.setCell ⟨g, i, none⟩ (.int .u64 z)) p F x y A n cap (some ⟨g, 0, none⟩) cv (v.set i z) a st ∧ Only [g] w (w.setCell ⟨g, i, none⟩ (.int .u64 z)) := by
  obtain ⟨s1, s2⟩ := h.row.stored i (.int .u64 z)
  have ho : Only [g] w (w.setCell ⟨g, i, none⟩ (.int .u64 z)) := Only.of_grown s2 (fun x hx => by simpa using hx.symm)
  have np := h.ne (g := g) rfl
  refine ⟨⟨?_, ?_, h.pF, h.vF, fun k hk => Nat.lt_of_lt_of_le (h.lt k hk) ho.size, by simpa using h.small⟩, ho⟩
  · rw [List.length_set]
    exact (ho.block p (h.lt p h.pF) (by simpa using np)).trans h.head
  · rw [List.length_set, List.map_set]
    exact s1
end

set_option maxHeartbeats 1600000 in
theorem pget_any {p : Nat} {F : List Nat} {x y : Int} {A : Option Addr} {n cap : Nat} {V : Option Addr} {cv : Nat} {v : List Int} {a st : Int} (i : Int) (w : World) (h : ThAt w p F x y A n cap V cv v a st) :
    Calls Try.prog 95 #[.pointer (some ⟨p, 0, none⟩), .int .i64 i] w fun e w' => e = .returned (.int .u64 (getV v i)) ∧ w = w' := by
  have g3 := h.c3
  have hs := h.small
  obtain h1 | ⟨h1, h2⟩ | ⟨h1, h2⟩ : i < 0 ∨ (0 ≤ i ∧ (v.length : Int) ≤ i) ∨ (0 ≤ i ∧ i < v.length) := by omega
  · have HR := Lib.hid (Sn.getV_low (v := v) h1)
    have d1 : decide (i < 0) = true := decide_eq_true h1
    go_enter Try.func95, Try.ntmps95
    go_wp2
    go_ret
    exact ⟨ret1 HR.out.symm, rfl⟩
  · have HR := Lib.hid (Sn.getV_high (v := v) h2)
    have d1 : decide (i < 0) = false := decide_eq_false (by omega)
    have d2 : decide ((v.length : Int) ≤ i) = true := decide_eq_true h2
    go_enter Try.func95, Try.ntmps95
    go_wp2
    go_ret
    exact ⟨ret1 HR.out.symm, rfl⟩
  · obtain ⟨j, rfl⟩ := Int.eq_ofNat_of_zero_le h1
    have hj : j < v.length := by omega
    have HR := Lib.hid (Sn.getV_in hj)
    obtain ⟨g, rfl⟩ := h.some_ (by omega)
    obtain ⟨e1, e2⟩ := h.cell_v hj
    have d1 : decide ((j : Int) < 0) = false := decide_eq_false (by omega)
    have d2 : decide ((v.length : Int) ≤ (j : Int)) = false := decide_eq_false (by omega)
    generalize v.getD j 0 = z at *
    go_enter Try.func95, Try.ntmps95
    go_wp2
    go_ret
    exact ⟨ret1 HR.out.symm, rfl⟩

set_option maxHeartbeats 1600000 in
theorem pset_any {p : Nat} {F : List Nat} {x y : Int} {A : Option Addr} {n cap : Nat} {V : Option Addr} {cv : Nat} {v : List Int} {a st : Int} (i z : Int) (w : World) (h : ThAt w p F x y A n cap V cv v a st) :
    Calls Try.prog 96 #[.pointer (some ⟨p, 0, none⟩), .int .i64 i, .int .u64 z] w fun e w' => e = .returned (.tuple #[]) ∧ ThAt w' p F x y A n cap V cv (putV v i z) a st ∧ Only ((V.map (·.block)).toList) w w' := by
  have g3 := h.c3
  have hs := h.small
  have H := Lib.hid h
  obtain h1 | ⟨h1, h2⟩ | ⟨h1, h2⟩ : i < 0 ∨ (0 ≤ i ∧ (v.length : Int) ≤ i) ∨ (0 ≤ i ∧ i < v.length) := by omega
  · have HR := Lib.hid (Sn.putV_low (v := v) (x := z) h1)
    have d1 : decide (0 ≤ i) = false := decide_eq_false (by omega)
    clear h
    go_enter Try.func96, Try.ntmps96
    go_wp2
    go_end0
    exact ⟨rfl, by rw [HR.out]; exact H.out, Only.refl _ _⟩
  · have HR := Lib.hid (Sn.putV_high (v := v) (x := z) h2)
    have d1 : decide (0 ≤ i) = true := decide_eq_true h1
    have d2 : decide (i < (v.length : Int)) = false := decide_eq_false (by omega)
    clear h
    go_enter Try.func96, Try.ntmps96
    go_wp2
    go_end0
    exact ⟨rfl, by rw [HR.out]; exact H.out, Only.refl _ _⟩
  · obtain ⟨j, rfl⟩ := Int.eq_ofNat_of_zero_le h1
    have hj : j < v.length := by omega
    have HR := Lib.hid (Sn.putV_in (x := z) hj)
    obtain ⟨g, rfl⟩ := h.some_ (by omega)
    obtain ⟨e1, e2⟩ := h.cell_v hj
    have S := Lib.hid (h.set_v j z)
    have d1 : decide (0 ≤ (j : Int)) = true := decide_eq_true (by omega)
    have d2 : decide ((j : Int) < (v.length : Int)) = true := decide_eq_true (by omega)
    generalize v.getD j 0 = z' at *
    clear h
    go_enter Try.func96, Try.ntmps96
    go_wp2
    go_end0
    exact ⟨rfl, by rw [HR.out]; exact S.out.1, S.out.2⟩


theorem clo_any (s : St) (to : Int) (p : Nat) (w : World) (hp : w.cell? ⟨p, 0, none⟩ = some (.int .i64 to)) (hlt : p < w.heap.size) :
    Calls Try.prog 102 #[.agg #[.int .i64 s.kind, .int .i64 s.d, .int .i64 s.a, .int .i64 s.b, .int .i64 s.c, .int .i64 s.to, .int .i64 s.cell, .int .u64 s.n, .int .u8 s.op], .pointer (some ⟨p, 0, none⟩)] w fun e w' => e = .returned (.bool (isLab to s)) ∧ Below w.heap.size w w' := by
  cases b1 : (s.kind == 9)
  · have HR := Lib.hid (show isLab to s = false by unfold isLab; rw [b1]; rfl)
    go_enter Try.func102, Try.ntmps102
    go_wp2_with fail
    go_ret
    exact ⟨retb HR.out.symm, (Below.refl _ _).alloc (Nat.le_refl _) _⟩
  · have HR := Lib.hid (show isLab to s = (s.to == to) by unfold isLab; rw [b1]; rfl)
    go_enter Try.func102, Try.ntmps102
    go_wp2_with fail
    go_ret
    exact ⟨retb HR.out.symm, (Below.refl _ _).alloc (Nat.le_refl _) _⟩
def idxV (c : List St) (to : Int) : Int := if jumpV c to < c.length then (jumpV c to : Int) else -1
theorem idxV_at {c : List St} {to : Int} {k : Nat} (hk : k < c.length) (h : isLab to (c.getD k zeroSt) = true) (hlow : ∀ j, j < k → isLab to (c.getD j zeroSt) = false) : idxV c to = k := by
  unfold idxV; rw [Sn.findIdx_at hk h hlow, if_pos hk]
theorem idxV_none {c : List St} {to : Int} (hlow : ∀ j, j < c.length → isLab to (c.getD j zeroSt) = false) : idxV c to = -1 := by
  unfold idxV; rw [Sn.findIdx_none hlow, if_neg (by omega)]
set_option maxHeartbeats 1600000 in
theorem idx_any (A : Option Addr) (n cap p : Nat) (to : Int) (c : List St) (w : World) (h : IsSt w A n cap c) (hn : n ≤ 65536) (hp : w.cell? ⟨p, 0, none⟩ = some (.int .i64 to)) (hlt : p < w.heap.size) :
    Calls Try.prog 101 #[.slice A n cap, .func (.func 102) #[] #[.pointer (some ⟨p, 0, none⟩)]] w fun e w' => e = .returned (.int .i64 (idxV c to)) ∧ Below w.heap.size w w' := by
  have hl := Lib.hid h.1
  have HP := Lib.hid hp; clear hp
  go_enter Try.func101, Try.ntmps101
  go_wp2_with fail
  go_loopw [8] (fun i wr => ∃ (k : Nat), k ≤ n ∧ i = .int .i64 k ∧ Hid (∀ j, j < k → isLab to (c.getD j zeroSt) = false) ∧ Below w.heap.size w wr) (fun i _ => n - (intOf i).toNat)
  case atStart => exact ⟨0, by omega, rfl, fun i hi => absurd hi (by omega), Below.refl _ _⟩
  case round =>
    obtain ⟨k, hk, rfl, hno, hbel⟩ := hrel
    have hsz := hbel.size
    have HPr := Lib.hid ((hbel.cell (p := ⟨p, 0, none⟩) hlt).trans HP.out)
    by_cases hkn : k < n
    · obtain ⟨b, o, rfl, hb, s0, s1, s2, s3, s4, s5, s6, s7, s8⟩ := (h.keep hbel).cell (k := k) hkn
      have hnext : Hid (isLab to (c.getD k zeroSt) = false → ∀ j, j < k + 1 → isLab to (c.getD j zeroSt) = false) := Lib.hid (fun h1 j hj => by
        by_cases e : j = k
        · subst e; exact h1
        · exact hno.out j (by omega))
      have hfin : Hid (isLab to (c.getD k zeroSt) = true → idxV c to = k) := Lib.hid (fun h1 => idxV_at (by rw [hl.out]; exact hkn) h1 hno.out)
      generalize c.getD k zeroSt = s at *
      have k1 : (k : Int) < n := by omega
      go_wp2_with fail
      refine (clo_any s to p wr HPr.out (by omega)).mono ?_
      rintro e w' ⟨rfl, hb2⟩
      cases hs : isLab to s
      · have HN := Lib.hid (hnext.out hs)
        clear hs
        go_wp2_with fail
        go_roundw
        case rel => exact ⟨k + 1, by omega, by go_num, HN, below_seq hbel (hb2.mono (by omega))⟩
        case measure => simp [intOf]; omega
      · have HN := Lib.hid (hfin.out hs)
        clear hs
        go_wp2_with fail
        go_ret
        exact ⟨ret1 HN.out.symm, below_seq hbel (hb2.mono (by omega))⟩
    · obtain rfl : k = n := by omega
      have HN := Lib.hid (idxV_none (c := c) (to := to) (by rw [hl.out]; exact hno.out))
      go_wp2_with fail
      go_ret
      exact ⟨ret1 HN.out.symm, hbel⟩
set_option maxHeartbeats 1600000 in
theorem pjump_any {p : Nat} {F : List Nat} {x y : Int} {A : Option Addr} {n cap : Nat} {V : Option Addr} {cv : Nat} {v : List Int} {a st : Int} {c : List St} (to : Int) (w : World) (h : ThAt w p F x y A n cap V cv v a st) (hc : IsSt w A n cap c) (hn : n ≤ 65536) :
    Calls Try.prog 98 #[.pointer (some ⟨p, 0, none⟩), .int .i64 to] w fun e w' => e = .returned (.tuple #[]) ∧ ThAt w' p F x y A n cap V cv v (jumpV c to) st ∧ Only [p] w w' := by
  have B1 : Below w.heap.size w (w.alloc (.cells #[.int .i64 to] 3)) := (Below.refl _ _).alloc (Nat.le_refl _) _
  have H1 := Lib.hid (h.keep B1)
  have IX := Lib.hid (idx_any A n cap w.heap.size to c (w.alloc (.cells #[.int .i64 to] 3)) (hc.keep B1) hn (by simp) (by simp))
  have BB := Lib.hid B1
  have g2 := H1.out.c2
  have hl := Lib.hid hc.1
  have JL := Lib.hid (show jumpV c to ≤ c.length from List.findIdx_le_length)
  clear h hc B1
  go_enter Try.func98, Try.ntmps98
  go_wp2_with fail
  refine IX.out.mono ?_
  rintro e w2 ⟨rfl, hb2⟩
  have H2 := Lib.hid (H1.out.keep hb2)
  have B2 := Lib.hid (below_seq BB.out hb2)
  clear hb2 g2
  by_cases hj : jumpV c to < c.length
  · have e1 : idxV c to = (jumpV c to : Int) := by unfold idxV; rw [if_pos hj]
    have S := Lib.hid (H2.out.set 4 (.int .i64 (jumpV c to : Int)) (a' := jumpV c to) (st' := st) rfl)
    rw [e1]
    obtain ⟨j, hj2⟩ : ∃ j, jumpV c to = j := ⟨_, rfl⟩
    rw [hj2] at S ⊢
    have EJ := Lib.hid hj2
    clear hj2 e1 hj
    have f4 := H2.out.free 4
    have g4 := H2.out.c4
    have d0 : decide ((j : Int) < 0) = false := decide_eq_false (by omega)
    go_wp2_with fail
    go_end0
    exact ⟨rfl, by rw [EJ.out]; exact S.out.1, (Only.of_below B2.out).seq S.out.2⟩
  · have e1 : idxV c to = -1 := by unfold idxV; rw [if_neg hj]
    have e2 : jumpV c to = n := by have := JL.out; have := hl.out; omega
    have S := H2.out.set 4 (.int .i64 (-1)) (a' := -1) (st' := st) rfl
    have S2 := Lib.hid (S.1.set 4 (.int .i64 (n : Int)) (a' := n) (st' := st) rfl)
    have S1 := Lib.hid S
    rw [e1]
    have E2 := Lib.hid e2
    clear S JL hj e1 e2
    have f4 := H2.out.free 4
    have g4 := H2.out.c4
    have f42 := S1.out.1.free 4
    have g22 := S1.out.1.c2
    go_wp2_with fail
    go_end0
    exact ⟨rfl, by rw [E2.out]; exact S2.out.1, ((Only.of_below B2.out).seq S1.out.2).seq S2.out.2⟩
end Go.Proofs.Ytdhihmeknoofoaa.Pn
