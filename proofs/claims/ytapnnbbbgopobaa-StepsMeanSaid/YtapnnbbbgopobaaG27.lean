/-
  WALKS: a code that runs, of the program's run of steps: its variables, its place.
-/
import Derived.Test.YtapnnbbbgopobaaG26
set_option linter.unusedVariables false
set_option linter.unusedSimpArgs false
namespace Go.Proofs.Ytapnnbbbgopobaa.Pn
open Go.RowKit Cm Mm Ow Me Stp StW Rm Sp Sr
def thO (x y : Int) (A : Option Addr) (n cap : Nat) (V : Option Addr) (m cv : Nat) (a st : Int) : Obj :=
  .cells #[.int .i64 x, .int .i64 y, .slice A n cap, .slice V m cv, .int .i64 a, .int .i64 st] 92 (0, 0)
structure ThAt (w : World) (p : Nat) (F : List Nat) (x y : Int) (A : Option Addr) (n cap : Nat) (V : Option Addr) (cv : Nat) (v : List Int) (a st : Int) : Prop where
  head : w.heap[p]? = some (thO x y A n cap V v.length cv a st)
  row : w.ownsRow 0 53 1 (.slice V v.length cv) v.length (v.map uw)
  pF : p ∈ F
  vF : ∀ g, V.map (·.block) = some g → g ∈ F
  lt : ∀ k ∈ F, k < w.heap.size
  small : v.length ≤ 400
section
variable {w w' : World} {p : Nat} {F : List Nat} {x y : Int} {A : Option Addr} {n cap : Nat} {V : Option Addr} {cv : Nat} {v : List Int} {a st : Int}
theorem ThAt.far {G : List Nat} (h : ThAt w p F x y A n cap V cv v a st) (ho : Only G w w') (hd : ∀ k ∈ F, k ∉ G) : ThAt w' p F x y A n cap V cv v a st :=
  ⟨(ho.block p (h.lt p h.pF) (hd p h.pF)).trans h.head, ho.row h.row (fun g hg => hd g (h.vF g hg)), h.pF, h.vF, fun k hk => Nat.lt_of_lt_of_le (h.lt k hk) ho.size, h.small⟩
theorem ThAt.keep (h : ThAt w p F x y A n cap V cv v a st) (hb : Below w.heap.size w w') : ThAt w' p F x y A n cap V cv v a st := h.far (G := []) (Only.of_below hb) (fun _ _ hx => by cases hx)
theorem ThAt.c0 (h : ThAt w p F x y A n cap V cv v a st) : w.cell? ⟨p, 0, none⟩ = some (.int .i64 x) := by simp [World.cell?, h.head, thO]
theorem ThAt.c2 (h : ThAt w p F x y A n cap V cv v a st) : w.cell? ⟨p, 2, none⟩ = some (.slice A n cap) := by simp [World.cell?, h.head, thO]
theorem ThAt.c3 (h : ThAt w p F x y A n cap V cv v a st) : w.cell? ⟨p, 3, none⟩ = some (.slice V v.length cv) := by simp [World.cell?, h.head, thO]
theorem ThAt.c4 (h : ThAt w p F x y A n cap V cv v a st) : w.cell? ⟨p, 4, none⟩ = some (.int .i64 a) := by simp [World.cell?, h.head, thO]
theorem ThAt.c5 (h : ThAt w p F x y A n cap V cv v a st) : w.cell? ⟨p, 5, none⟩ = some (.int .i64 st) := by simp [World.cell?, h.head, thO]
theorem ThAt.free (h : ThAt w p F x y A n cap V cv v a st) (i : Nat) : w.frozen? ⟨p, i, none⟩ = false := by simp [World.frozen?, h.head, thO]
theorem ThAt.some_ (h : ThAt w p F x y A n cap V cv v a st) (hn : 0 < v.length) : ∃ g, V = some ⟨g, 0, none⟩ := by
  obtain ⟨g1, _, e1, _⟩ := h.row.form hn
  injection e1 with e1
  exact ⟨g1, e1⟩
theorem ThAt.ne (h : ThAt w p F x y A n cap V cv v a st) {g : Nat} (hg : V.map (·.block) = some g) : p ≠ g := by
  obtain ⟨k1, t1⟩ := row_type h.row hg
  have hd := h.head
  unfold thO at hd
  exact type_ne hd t1 (by decide)
theorem ThAt.set (h : ThAt w p F x y A n cap V cv v a st) (i : Nat) (u : Value) {a' st' : Int}
    (hu : (#[.int .i64 x, .int .i64 y, .slice A n cap, .slice V v.length cv, .int .i64 a, .int .i64 st] : Array Value).setIfInBounds i u = #[.int .i64 x, .int .i64 y, .slice A n cap, .slice V v.length cv, .int .i64 a', .int .i64 st']) :
    ThAt (w.setCell ⟨p, i, none⟩ u) p F x y A n cap V cv v a' st' ∧ Only [p] w (w.setCell ⟨p, i, none⟩ u) := by
  have ho : Only [p] w (w.setCell ⟨p, i, none⟩ u) := (Only.refl _ _).setCell (by simp) _
  refine ⟨⟨?_, ho.row h.row (fun g hg hm => h.ne hg (List.mem_singleton.1 hm).symm), h.pF, h.vF, fun k hk => Nat.lt_of_lt_of_le (h.lt k hk) ho.size, h.small⟩, ho⟩
  have hd := h.head
  unfold thO at hd ⊢
  simp [World.setCell, Array.getElem?_modify, hd, ← hu]
theorem ThAt.cell_v {g i : Nat} (h : ThAt w p F x y A n cap (some ⟨g, 0, none⟩) cv v a st) (hi : i < v.length) : w.cell? ⟨g, i, none⟩ = some (.int .u64 (v.getD i 0)) ∧ w.frozen? ⟨g, i, none⟩ = false := by
  have := h.row.cellAt i (by simpa using hi)
  rw [this]
  exact ⟨by simp [List.getD, uw, hi], h.row.frozenAt i⟩
theorem ThAt.set_v {g : Nat} (h : ThAt w p F x y A n cap (some ⟨g, 0, none⟩) cv v a st) (i : Nat) (z : Int) :
    ThAt (w.setCell ⟨g, i, none⟩ (.int .u64 z)) p F x y A n cap (some ⟨g, 0, none⟩) cv (v.set i z) a st ∧ Only [g] w (w.setCell ⟨g, i, none⟩ (.int .u64 z)) := by
  obtain ⟨s1, s2⟩ := h.row.stored i (.int .u64 z)
  have ho : Only [g] w (w.setCell ⟨g, i, none⟩ (.int .u64 z)) := Only.of_grown s2 (fun x hx => by simpa using hx.symm)
  have np := h.ne (g := g) rfl
  refine ⟨⟨?_, ?_, h.pF, h.vF, fun k hk => Nat.lt_of_lt_of_le (h.lt k hk) ho.size, by simpa using h.small⟩, ho⟩
  · rw [List.length_set]
    exact (ho.block p (h.lt p h.pF) (by simpa using np)).trans h.head
  · rw [List.length_set, List.map_set]
    exact s1
end
set_option maxHeartbeats 1600000 in
theorem pget_any {p : Nat} {F : List Nat} {x y : Int} {A : Option Addr} {n cap : Nat} {V : Option Addr} {cv : Nat} {v : List Int} {a st : Int} (i : Int) (w : World) (h : ThAt w p F x y A n cap V cv v a st) :
    Calls Try.prog 78 #[.pointer (some ⟨p, 0, none⟩), .int .i64 i] w fun e w' => e = .returned (.int .u64 (getV v i)) ∧ w = w' := by
  have g3 := h.c3
  have hs := h.small
  obtain h1 | ⟨h1, h2⟩ | ⟨h1, h2⟩ : i < 0 ∨ (0 ≤ i ∧ (v.length : Int) ≤ i) ∨ (0 ≤ i ∧ i < v.length) := by omega
  · have HR := Lib.hid (Sn.getV_low (v := v) h1)
    have d1 : decide (i < 0) = true := decide_eq_true h1
    go_enter Try.func78, Try.ntmps78
    go_wp2
    go_ret
    exact ⟨ret1 HR.out.symm, rfl⟩
  · have HR := Lib.hid (Sn.getV_high (v := v) h2)
    have d1 : decide (i < 0) = false := decide_eq_false (by omega)
    have d2 : decide ((v.length : Int) ≤ i) = true := decide_eq_true h2
    go_enter Try.func78, Try.ntmps78
    go_wp2
    go_ret
    exact ⟨ret1 HR.out.symm, rfl⟩
  · obtain ⟨j, rfl⟩ := Int.eq_ofNat_of_zero_le h1
    have hj : j < v.length := by omega
    have HR := Lib.hid (Sn.getV_in hj)
    obtain ⟨g, rfl⟩ := h.some_ (by omega)
    obtain ⟨e1, e2⟩ := h.cell_v hj
    have d1 : decide ((j : Int) < 0) = false := decide_eq_false (by omega)
    have d2 : decide ((v.length : Int) ≤ (j : Int)) = false := decide_eq_false (by omega)
    generalize v.getD j 0 = z at *
    go_enter Try.func78, Try.ntmps78
    go_wp2
    go_ret
    exact ⟨ret1 HR.out.symm, rfl⟩
set_option maxHeartbeats 1600000 in
theorem pset_any {p : Nat} {F : List Nat} {x y : Int} {A : Option Addr} {n cap : Nat} {V : Option Addr} {cv : Nat} {v : List Int} {a st : Int} (i z : Int) (w : World) (h : ThAt w p F x y A n cap V cv v a st) :
    Calls Try.prog 79 #[.pointer (some ⟨p, 0, none⟩), .int .i64 i, .int .u64 z] w fun e w' => e = .returned (.tuple #[]) ∧ ThAt w' p F x y A n cap V cv (putV v i z) a st ∧ Only ((V.map (·.block)).toList) w w' := by
  have g3 := h.c3
  have hs := h.small
  have H := Lib.hid h
  obtain h1 | ⟨h1, h2⟩ | ⟨h1, h2⟩ : i < 0 ∨ (0 ≤ i ∧ (v.length : Int) ≤ i) ∨ (0 ≤ i ∧ i < v.length) := by omega
  · have HR := Lib.hid (Sn.putV_low (v := v) (x := z) h1)
    have d1 : decide (0 ≤ i) = false := decide_eq_false (by omega)
    clear h
    go_enter Try.func79, Try.ntmps79
    go_wp2
    go_end0
    exact ⟨rfl, by rw [HR.out]; exact H.out, Only.refl _ _⟩
  · have HR := Lib.hid (Sn.putV_high (v := v) (x := z) h2)
    have d1 : decide (0 ≤ i) = true := decide_eq_true h1
    have d2 : decide (i < (v.length : Int)) = false := decide_eq_false (by omega)
    clear h
    go_enter Try.func79, Try.ntmps79
    go_wp2
    go_end0
    exact ⟨rfl, by rw [HR.out]; exact H.out, Only.refl _ _⟩
  · obtain ⟨j, rfl⟩ := Int.eq_ofNat_of_zero_le h1
    have hj : j < v.length := by omega
    have HR := Lib.hid (Sn.putV_in (x := z) hj)
    obtain ⟨g, rfl⟩ := h.some_ (by omega)
    obtain ⟨e1, e2⟩ := h.cell_v hj
    have S := Lib.hid (h.set_v j z)
    have d1 : decide (0 ≤ (j : Int)) = true := decide_eq_true (by omega)
    have d2 : decide ((j : Int) < (v.length : Int)) = true := decide_eq_true (by omega)
    generalize v.getD j 0 = z' at *
    clear h
    go_enter Try.func79, Try.ntmps79
    go_wp2
    go_end0
    exact ⟨rfl, by rw [HR.out]; exact S.out.1, S.out.2⟩
theorem pclo_any (s : St) (to9 : Int) (p : Nat) (w : World) (hp : w.cell? ⟨p, 0, none⟩ = some (.int .i64 to9)) (hlt : p < w.heap.size) :
    Calls Try.prog 94 #[.agg #[.int .i64 s.kind, .int .i64 s.d, .int .i64 s.a, .int .i64 s.b, .int .i64 s.c, .int .i64 s.to, .int .i64 s.cell, .int .u64 s.n, .int .u8 s.op], .pointer (some ⟨p, 0, none⟩)] w fun e w' => e = .returned (.bool (isLab to9 s)) ∧ Below w.heap.size w w' := by
  cases b1 : (s.kind == 9)
  · have HR := Lib.hid (show isLab to9 s = false by unfold isLab; rw [b1]; rfl)
    go_enter Try.func94, Try.ntmps94
    go_wp2_with fail
    go_ret
    exact ⟨retb HR.out.symm, (Below.refl _ _).alloc (Nat.le_refl _) _⟩
  · have HR := Lib.hid (show isLab to9 s = (s.to == to9) by unfold isLab; rw [b1]; rfl)
    go_enter Try.func94, Try.ntmps94
    go_wp2_with fail
    go_ret
    exact ⟨retb HR.out.symm, (Below.refl _ _).alloc (Nat.le_refl _) _⟩
def idxV (c : List St) (to9 : Int) : Int := if jumpV c to9 < c.length then (jumpV c to9 : Int) else -1
theorem idxV_at {c : List St} {to9 : Int} {k : Nat} (hk : k < c.length) (h : isLab to9 (c.getD k zeroSt) = true) (hlow : ∀ j, j < k → isLab to9 (c.getD j zeroSt) = false) : idxV c to9 = k := by
  unfold idxV; rw [Sn.findIdx_at hk h hlow, if_pos hk]
theorem idxV_none {c : List St} {to9 : Int} (hlow : ∀ j, j < c.length → isLab to9 (c.getD j zeroSt) = false) : idxV c to9 = -1 := by
  unfold idxV; rw [Sn.findIdx_none hlow, if_neg (by omega)]
set_option maxHeartbeats 1600000 in
theorem pidx_any (A : Option Addr) (n cap p : Nat) (to9 : Int) (c : List St) (w : World) (h : IsSt w A n cap c) (hn : n ≤ 65536) (hp : w.cell? ⟨p, 0, none⟩ = some (.int .i64 to9)) (hlt : p < w.heap.size) :
    Calls Try.prog 93 #[.slice A n cap, .func (.func 94) #[] #[.pointer (some ⟨p, 0, none⟩)]] w fun e w' => e = .returned (.int .i64 (idxV c to9)) ∧ Below w.heap.size w w' := by
  have hl := Lib.hid h.1
  have HP := Lib.hid hp; clear hp
  go_enter Try.func93, Try.ntmps93
  go_wp2_with fail
  go_loopw [8] (fun i wr => ∃ (k : Nat), k ≤ n ∧ i = .int .i64 k ∧ Hid (∀ j, j < k → isLab to9 (c.getD j zeroSt) = false) ∧ Below w.heap.size w wr) (fun i _ => n - (intOf i).toNat)
  case atStart => exact ⟨0, by omega, rfl, fun i hi => absurd hi (by omega), Below.refl _ _⟩
  case round =>
    obtain ⟨k, hk, rfl, hno, hbel⟩ := hrel
    have hsz := hbel.size
    have HPr := Lib.hid ((hbel.cell (p := ⟨p, 0, none⟩) hlt).trans HP.out)
    by_cases hkn : k < n
    · obtain ⟨b, o, rfl, hb, s0, s1, s2, s3, s4, s5, s6, s7, s8⟩ := (h.keep hbel).cell (k := k) hkn
      have hnext : Hid (isLab to9 (c.getD k zeroSt) = false → ∀ j, j < k + 1 → isLab to9 (c.getD j zeroSt) = false) := Lib.hid (fun h1 j hj => by
        by_cases e : j = k
        · subst e; exact h1
        · exact hno.out j (by omega))
      have hfin : Hid (isLab to9 (c.getD k zeroSt) = true → idxV c to9 = k) := Lib.hid (fun h1 => idxV_at (by rw [hl.out]; exact hkn) h1 hno.out)
      generalize c.getD k zeroSt = s at *
      have k1 : (k : Int) < n := by omega
      go_wp2_with fail
      refine (pclo_any s to9 p wr HPr.out (by omega)).mono ?_
      rintro e w' ⟨rfl, hb2⟩
      cases hs : isLab to9 s
      · have HN := Lib.hid (hnext.out hs)
        clear hs
        go_wp2_with fail
        go_roundw
        case rel => exact ⟨k + 1, by omega, by go_num, HN, below_seq hbel (hb2.mono (by omega))⟩
        case measure => simp [intOf]; omega
      · have HN := Lib.hid (hfin.out hs)
        clear hs
        go_wp2_with fail
        go_ret
        exact ⟨ret1 HN.out.symm, below_seq hbel (hb2.mono (by omega))⟩
    · obtain rfl : k = n := by omega
      have HN := Lib.hid (idxV_none (c := c) (to9 := to9) (by rw [hl.out]; exact hno.out))
      go_wp2_with fail
      go_ret
      exact ⟨ret1 HN.out.symm, hbel⟩
set_option maxHeartbeats 1600000 in
theorem pjump_any {p : Nat} {F : List Nat} {x y : Int} {A : Option Addr} {n cap : Nat} {V : Option Addr} {cv : Nat} {v : List Int} {a st : Int} {c : List St} (to9 : Int) (w : World) (h : ThAt w p F x y A n cap V cv v a st) (hc : IsSt w A n cap c) (hn : n ≤ 65536) :
    Calls Try.prog 81 #[.pointer (some ⟨p, 0, none⟩), .int .i64 to9] w fun e w' => e = .returned (.tuple #[]) ∧ ThAt w' p F x y A n cap V cv v (jumpV c to9) st ∧ Only [p] w w' := by
  have B1 : Below w.heap.size w (w.alloc (.cells #[.int .i64 to9] 3)) := (Below.refl _ _).alloc (Nat.le_refl _) _
  have H1 := Lib.hid (h.keep B1)
  have IX := Lib.hid (pidx_any A n cap w.heap.size to9 c (w.alloc (.cells #[.int .i64 to9] 3)) (hc.keep B1) hn (by simp) (by simp))
  have BB := Lib.hid B1
  have g2 := H1.out.c2
  have hl := Lib.hid hc.1
  have JL := Lib.hid (show jumpV c to9 ≤ c.length from List.findIdx_le_length)
  clear h hc B1
  go_enter Try.func81, Try.ntmps81
  go_wp2_with fail
  refine IX.out.mono ?_
  rintro e w2 ⟨rfl, hb2⟩
  have H2 := Lib.hid (H1.out.keep hb2)
  have B2 := Lib.hid (below_seq BB.out hb2)
  clear hb2 g2
  by_cases hj : jumpV c to9 < c.length
  · have e1 : idxV c to9 = (jumpV c to9 : Int) := by unfold idxV; rw [if_pos hj]
    have S := Lib.hid (H2.out.set 4 (.int .i64 (jumpV c to9 : Int)) (a' := jumpV c to9) (st' := st) rfl)
    rw [e1]
    obtain ⟨j, hj2⟩ : ∃ j, jumpV c to9 = j := ⟨_, rfl⟩
    rw [hj2] at S ⊢
    have EJ := Lib.hid hj2
    clear hj2 e1 hj
    have f4 := H2.out.free 4
    have g4 := H2.out.c4
    have d0 : decide ((j : Int) < 0) = false := decide_eq_false (by omega)
    go_wp2_with fail
    go_end0
    exact ⟨rfl, by rw [EJ.out]; exact S.out.1, (Only.of_below B2.out).seq S.out.2⟩
  · have e1 : idxV c to9 = -1 := by unfold idxV; rw [if_neg hj]
    have e2 : jumpV c to9 = n := by have := JL.out; have := hl.out; omega
    have S := H2.out.set 4 (.int .i64 (-1)) (a' := -1) (st' := st) rfl
    have S2 := Lib.hid (S.1.set 4 (.int .i64 (n : Int)) (a' := n) (st' := st) rfl)
    have S1 := Lib.hid S
    rw [e1]
    have E2 := Lib.hid e2
    clear S JL hj e1 e2
    have f4 := H2.out.free 4
    have g4 := H2.out.c4
    have f42 := S1.out.1.free 4
    have g22 := S1.out.1.c2
    go_wp2_with fail
    go_end0
    exact ⟨rfl, by rw [E2.out]; exact S2.out.1, ((Only.of_below B2.out).seq S1.out.2).seq S2.out.2⟩
end Go.Proofs.Ytapnnbbbgopobaa.Pn
namespace Go.Proofs.Ytapnnbbbgopobaa.Pa
open Go.RowKit Cm Mm Ow Ow2 Me Stp StW Rm Sp Sr Pn
open Sc (Stc)
def isU (z : Int) : Prop := 0 ≤ z ∧ z < 18446744073709551616
theorem plc_addr {n : Nat} {z : Int} (h : isU z) (hn : n ≤ 64) : plc n (addrV z) = plc n z := by
  obtain ⟨h0, h1⟩ := h
  unfold addrV
  by_cases hz : 1099511627776 < z
  · rw [if_pos hz]
    unfold plc
    rw [if_neg (by omega), if_neg (by omega)]
  · rw [if_neg hz]
    have e : wrap64 z = z := by unfold wrap64; omega
    rw [e]
theorem getV_u {v : List Int} (h : ∀ z ∈ v, isU z) (i : Int) : isU (getV v i) := by
  unfold getV
  split
  · rename_i hi
    refine h _ ?_
    have : i.toNat < v.length := by omega
    simp [List.getD, this]
  · exact ⟨by omega, by omega⟩
theorem putV_u {v : List Int} (h : ∀ z ∈ v, isU z) (i x : Int) (hx : isU x) : ∀ z ∈ putV v i x, isU z := by
  intro z hz
  unfold putV at hz
  split at hz
  · rcases List.mem_or_eq_of_mem_set hz with e | e
    · exact h z e
    · rw [e]; exact hx
  · exact h z hz
structure Hp where
  s0 : Value
  s1 : Value
  s2 : Value
  l : Value
  rc : Value
  th : Value
  sd : Bool
  ill : Bool
def rnO (H : Hp) (b o : Value) : Obj := .cells #[H.s0, H.s1, H.s2, H.l, b, o, H.rc, H.th, .bool H.sd, .bool H.ill] 79 (0, 0)
structure Fop (w : World) (q : Nat) (H : Hp) (Fm Fo : List Nat) (B : Option Addr) (bc : Nat) (O : Option Addr) (oc : Nat) (now out : List Int) : Prop where
  head : w.heap[q]? = some (rnO H (.slice B now.length bc) (.slice O out.length oc))
  mrow : w.ownsRow 0 53 1 (.slice B now.length bc) now.length (now.map uw)
  mF : ∀ g, B.map (·.block) = some g → g ∈ Fm
  row : Own w 0 53 1 O out.length oc (out.map fun z => [uw z])
  oF : ∀ g, O.map (·.block) = some g → g ∈ Fo
  qlt : q < w.heap.size
  mLt : ∀ k ∈ Fm, k < w.heap.size
  oLt : ∀ k ∈ Fo, k < w.heap.size
  qm : q ∉ Fm
  qo : q ∉ Fo
  mo : ∀ k ∈ Fm, k ∉ Fo
  small : now.length ≤ 64
  nu : ∀ z ∈ now, isU z
section
variable {w w' : World} {q : Nat} {H : Hp} {Fm Fo : List Nat} {B : Option Addr} {bc : Nat} {O : Option Addr} {oc : Nat} {now out : List Int}
theorem Fop.far {G : List Nat} (h : Fop w q H Fm Fo B bc O oc now out) (ho : Only G w w') (h1 : q ∉ G) (h2 : ∀ k ∈ Fm, k ∉ G) (h3 : ∀ k ∈ Fo, k ∉ G) : Fop w' q H Fm Fo B bc O oc now out :=
  ⟨(ho.block q h.qlt h1).trans h.head, ho.row h.mrow (fun g hg => h2 g (h.mF g hg)), h.mF, Sa.own_only h.row ho (fun g hg => h3 g (h.oF g hg)), h.oF, Nat.lt_of_lt_of_le h.qlt ho.size, fun k hk => Nat.lt_of_lt_of_le (h.mLt k hk) ho.size, fun k hk => Nat.lt_of_lt_of_le (h.oLt k hk) ho.size, h.qm, h.qo, h.mo, h.small, h.nu⟩
theorem Fop.keep (h : Fop w q H Fm Fo B bc O oc now out) (hb : Below w.heap.size w w') : Fop w' q H Fm Fo B bc O oc now out := h.far (G := []) (Only.of_below hb) (by simp) (fun _ _ hx => by cases hx) (fun _ _ hx => by cases hx)
theorem Fop.cs (h : Fop w q H Fm Fo B bc O oc now out) : w.cell? ⟨q, 0, none⟩ = some H.s0 ∧ w.cell? ⟨q, 1, none⟩ = some H.s1 ∧ w.cell? ⟨q, 2, none⟩ = some H.s2 ∧ w.cell? ⟨q, 3, none⟩ = some H.l ∧ w.cell? ⟨q, 4, none⟩ = some (.slice B now.length bc) ∧ w.cell? ⟨q, 5, none⟩ = some (.slice O out.length oc) ∧ w.cell? ⟨q, 6, none⟩ = some H.rc ∧ w.cell? ⟨q, 7, none⟩ = some H.th ∧ w.cell? ⟨q, 8, none⟩ = some (.bool H.sd) ∧ w.cell? ⟨q, 9, none⟩ = some (.bool H.ill) := by
  refine ⟨?_, ?_, ?_, ?_, ?_, ?_, ?_, ?_, ?_, ?_⟩ <;> simp [World.cell?, h.head, rnO]
theorem Fop.c4 (h : Fop w q H Fm Fo B bc O oc now out) : w.cell? ⟨q, 4, none⟩ = some (.slice B now.length bc) := h.cs.2.2.2.2.1
theorem Fop.c5 (h : Fop w q H Fm Fo B bc O oc now out) : w.cell? ⟨q, 5, none⟩ = some (.slice O out.length oc) := h.cs.2.2.2.2.2.1
theorem Fop.free (h : Fop w q H Fm Fo B bc O oc now out) (i : Nat) : w.frozen? ⟨q, i, none⟩ = false := by simp [World.frozen?, h.head, rnO]
theorem Fop.free' (h : Fop w q H Fm Fo B bc O oc now out) : ∀ i, w.frozen? ⟨q, i, none⟩ = false := h.free
theorem Fop.some_ (h : Fop w q H Fm Fo B bc O oc now out) (hn : 0 < now.length) : ∃ g, B = some ⟨g, 0, none⟩ := by
  obtain ⟨g1, _, e1, _⟩ := h.mrow.form hn
  injection e1 with e1
  exact ⟨g1, e1⟩
theorem Fop.cell_m {g i : Nat} (h : Fop w q H Fm Fo (some ⟨g, 0, none⟩) bc O oc now out) (hi : i < now.length) : w.cell? ⟨g, i, none⟩ = some (.int .u64 (now.getD i 0)) ∧ w.frozen? ⟨g, i, none⟩ = false := by
  have := h.mrow.cellAt i (by simpa using hi)
  rw [this]
  exact ⟨by simp [List.getD, uw, hi], h.mrow.frozenAt i⟩
theorem Fop.set_m {g : Nat} (h : Fop w q H Fm Fo (some ⟨g, 0, none⟩) bc O oc now out) (i : Nat) (z : Int) (hz : isU z) :
    Fop (w.setCell ⟨g, i, none⟩ (.int .u64 z)) q H Fm Fo (some ⟨g, 0, none⟩) bc O oc (now.set i z) out ∧ Only Fm w (w.setCell ⟨g, i, none⟩ (.int .u64 z)) := by
  obtain ⟨s1, s2⟩ := h.mrow.stored i (.int .u64 z)
  have ho : Only Fm w (w.setCell ⟨g, i, none⟩ (.int .u64 z)) := Only.of_grown s2 (fun x hx => h.mF x hx)
  refine ⟨⟨?_, ?_, h.mF, Sa.own_only h.row ho (fun g hg hm => h.mo g hm (h.oF g hg)), h.oF, Nat.lt_of_lt_of_le h.qlt ho.size, fun k hk => Nat.lt_of_lt_of_le (h.mLt k hk) ho.size, fun k hk => Nat.lt_of_lt_of_le (h.oLt k hk) ho.size, h.qm, h.qo, h.mo, by simpa using h.small, fun y hy => ?_⟩, ho⟩
  · rw [List.length_set]
    exact (ho.block q h.qlt h.qm).trans h.head
  · rw [List.length_set, List.map_set]
    exact s1
  · rcases List.mem_or_eq_of_mem_set hy with e | e
    · exact h.nu y e
    · rw [e]; exact hz
theorem Fop.told (h : Fop w q H Fm Fo B bc O oc now out) {w1 : World} {O2 : Option Addr} {oc2 : Nat} {z : Int} (hb : Below w.heap.size w w1) (hown : Own w' 0 53 1 O2 (out.length + 1) oc2 (out.map (fun z => [uw z]) ++ [[uw z]])) (hg : ∀ k, k < w1.heap.size → O.map (·.block) ≠ some k → w'.heap[k]? = w1.heap[k]?) (hbw : Below 0 w1 w')
    (hat : O2.map (·.block) = O.map (·.block) ∨ ∀ k, O2.map (·.block) = some k → w1.heap.size ≤ k) :
    Fop (w'.setCell ⟨q, 5, none⟩ (.slice O2 (out.length + 1) oc2)) q H Fm (Fo ++ (O2.map (·.block)).toList) B bc O2 oc2 now (out ++ [z]) ∧ Only (q :: Fo) w (w'.setCell ⟨q, 5, none⟩ (.slice O2 (out.length + 1) oc2)) := by
  have ho1 : Only Fo w w' := ⟨hbw.os.trans hb.os, hbw.tape.trans hb.tape, hbw.output.trans hb.output, Nat.le_trans hb.size hbw.size, fun k hk hn => (hg k (Nat.lt_of_lt_of_le hk hb.size) (fun e => hn (h.oF k e))).trans (hb.block k hk)⟩
  have ho2 : Only [q] w' (w'.setCell ⟨q, 5, none⟩ (.slice O2 (out.length + 1) oc2)) := (Only.refl _ _).setCell (by simp) _
  have ho : Only (q :: Fo) w (w'.setCell ⟨q, 5, none⟩ (.slice O2 (out.length + 1) oc2)) := (ho1.more (fun x hx => by simp [hx])).seq (ho2.more (fun x hx => by simp at hx; simp [hx]))
  have hq : w'.heap[q]? = some (rnO H (.slice B now.length bc) (.slice O out.length oc)) := (ho1.block q h.qlt h.qo).trans h.head
  have hO2 : ∀ g, O2.map (·.block) = some g → g ∈ Fo ∨ w.heap.size ≤ g := fun g hg2 => by
    rcases hat with e | e
    · rw [e] at hg2; exact .inl (h.oF g hg2)
    · exact .inr (Nat.le_trans hb.size (e g hg2))
  have hO2q : ∀ g, O2.map (·.block) = some g → g ≠ q := fun g hg2 e => by
    subst e
    rcases hO2 g hg2 with h1 | h1
    · exact h.qo h1
    · have := h.qlt; omega
  refine ⟨⟨?_, ho.row h.mrow (fun k hk hm => ?_), h.mF, ?_, fun g hg2 => by simp [hg2], Nat.lt_of_lt_of_le h.qlt ho.size, fun k hk => Nat.lt_of_lt_of_le (h.mLt k hk) ho.size, fun k hk => ?_, h.qm, fun hm => ?_, fun k hk hm => ?_, h.small, h.nu⟩, ho⟩
  · unfold rnO at hq ⊢
    simp [World.setCell, Array.getElem?_modify, hq]
  · rcases List.mem_cons.1 hm with e | e
    · subst e; exact h.qm (h.mF _ hk)
    · exact h.mo k (h.mF k hk) e
  · have := Sa.own_only hown ho2 (fun g hg2 hm => hO2q g hg2 (by simpa using hm))
    rw [List.length_append, List.map_append]
    exact this
  · rcases List.mem_append.1 hk with e | e
    · exact Nat.lt_of_lt_of_le (h.oLt k e) ho.size
    · have := (hown.lt k (by simpa using e)).2
      exact Nat.lt_of_lt_of_le this ho2.size
  · rcases List.mem_append.1 hm with e | e
    · exact h.qo e
    · exact hO2q q (by simpa using e) rfl
  · rcases List.mem_append.1 hm with e | e
    · exact h.mo k hk e
    · rcases hO2 k (by simpa using e) with e | e
      · exact h.mo k hk e
      · have := h.mLt k hk; omega
end
def wAt (B : Option Addr) : Option Nat → Option Addr
  | none => none
  | some i => B.map fun a => ⟨a.block, i, none⟩
theorem word_any {w : World} {q : Nat} {H : Hp} {Fm Fo : List Nat} {B : Option Addr} {bc : Nat} {O : Option Addr} {oc : Nat} {now out : List Int} (h : Fop w q H Fm Fo B bc O oc now out) (x : Int) (hx : isU x) :
    Calls Try.prog 77 #[.pointer (some ⟨q, 0, none⟩), .int .u64 x] w fun e w' => e = .returned (.pointer (wAt B (plc now.length x))) ∧ w = w' := by
  have g4 := h.c4
  have hs := h.small
  obtain ⟨x0, x1⟩ := hx
  cases ho : plc now.length x with
  | none =>
    have HP := Lib.hid (show wAt B none = none from rfl)
    obtain h1 | ⟨h1, h2⟩ | ⟨h1, h2, h3⟩ := plc_none ho
    · clear ho
      go_enter Try.func77, Try.ntmps77
      go_wp2_with fail
      go_ret
      exact ⟨rfl, rfl⟩
    · have hb : (x % 8 != 0) = true := by rw [bne_iff_ne]; omega
      clear ho h2
      go_enter Try.func77, Try.ntmps77
      go_wp2_with fail
      go_ret
      exact ⟨rfl, rfl⟩
    · have hb : (x % 8 != 0) = false := by rw [bne_eq_false_iff_eq]; omega
      have e1 : (x - 4096) % 18446744073709551616 = x - 4096 := by omega
      have e2 : (now.length : Int) % 18446744073709551616 = now.length := by omega
      have d1 : decide ((now.length : Int) ≤ (x - 4096) / 8) = true := decide_eq_true h3
      clear ho h2
      go_enter Try.func77, Try.ntmps77
      go_wp2_with fail
      go_ret
      exact ⟨rfl, rfl⟩
  | some i =>
    obtain ⟨k1, k2, k3, k4⟩ := plc_some ho
    obtain ⟨g, rfl⟩ := h.some_ (by omega)
    have hb : (x % 8 != 0) = false := by rw [bne_eq_false_iff_eq]; omega
    have e1 : (x - 4096) % 18446744073709551616 = x - 4096 := by omega
    have e2 : (now.length : Int) % 18446744073709551616 = now.length := by omega
    have d1 : decide ((now.length : Int) ≤ (x - 4096) / 8) = false := decide_eq_false (by omega)
    have d2 : 0 ≤ (i : Int) := by omega
    have d3 : (i : Int) < now.length := by omega
    clear ho k2
    go_enter Try.func77, Try.ntmps77
    go_wp2_with fail
    go_ret
    exact ⟨rfl, rfl⟩
theorem pget_still {p : Nat} {F : List Nat} {x y : Int} {A : Option Addr} {n cap : Nat} {V : Option Addr} {cv : Nat} {v : List Int} {a st : Int} (i : Int) (w : World) (h : ThAt w p F x y A n cap V cv v a st) :
    Calls Try.prog 78 #[.pointer (some ⟨p, 0, none⟩), .int .i64 i] w fun e w' => e = .returned (.int .u64 (getV v i)) ∧ w' = w :=
  (pget_any i w h).mono fun _ _ h => ⟨h.1, h.2.symm⟩
def ActP (w : World) (q p : Nat) (H : Hp) (Fm Fo Fl : List Nat) (x y : Int) (A : Option Addr) (n cap : Nat) (V : Option Addr) (cv : Nat) (st : Int) (B : Option Addr) (bc : Nat) (r : Ps) (e : Ending) (w' : World) : Prop :=
  e = .returned (.bool true) ∧ ∃ Fo' O' oc', Fop w' q H Fm Fo' B bc O' oc' r.now r.out ∧ ThAt w' p Fl x y A n cap V cv r.v r.at_ st ∧ Only (q :: (Fm ++ Fo ++ Fl)) w w' ∧ (∀ k ∈ Fo', k ∈ Fo ∨ w.heap.size ≤ k)
theorem in_v {Fm Fo Fl : List Nat} {q : Nat} {X : List Nat} (h : ∀ k ∈ X, k ∈ Fl) : ∀ k ∈ X, k ∈ q :: (Fm ++ Fo ++ Fl) := fun k hk => by simp [h k hk]
set_option maxRecDepth 20000 in
set_option maxHeartbeats 6400000 in
theorem pact_any (s : St) {w : World} {q p : Nat} {H : Hp} {Fm Fo Fl : List Nat} {B : Option Addr} {bc : Nat} {O : Option Addr} {oc : Nat} {now out : List Int} {x y : Int} {A : Option Addr} {n cap : Nat} {V : Option Addr} {cv : Nat} {v : List Int} {a : Nat} {st : Int}
    (hF : Fop w q H Fm Fo B bc O oc now out) (hL : ThAt w p Fl x y A n cap V cv v a st) (hv : ∀ z ∈ v, isU z) (hql : q ∉ Fl) (hml : ∀ k ∈ Fm, k ∉ Fl) (hol : ∀ k ∈ Fo, k ∉ Fl) (hout : out.length ≤ 1000000) (ha : a ≤ 65536) (hk : isAct s.kind = true) :
    Calls Try.prog 62 #[.pointer (some ⟨q, 0, none⟩), .pointer (some ⟨p, 0, none⟩), .agg #[.int .i64 s.kind, .int .i64 s.d, .int .i64 s.a, .int .i64 s.b, .int .i64 s.c, .int .i64 s.to, .int .i64 s.cell, .int .u64 s.n, .int .u8 s.op]] w (ActP w q p H Fm Fo Fl x y A n cap V cv st B bc (actV s ⟨a + 1, v, now, out⟩)) := by
  obtain ⟨W, hW⟩ : ∃ W, W = w.alloc (.cells #[.int .i64 s.kind, .int .i64 s.d, .int .i64 s.a, .int .i64 s.b, .int .i64 s.c, .int .i64 s.to, .int .i64 s.cell, .int .u64 s.n, .int .u8 s.op] 55) := ⟨_, rfl⟩
  have hB : Below w.heap.size w W := by rw [hW]; exact (Below.refl _ _).alloc (Nat.le_refl _) _
  have SS : Hid (Stc W w.heap.size s) := Lib.hid (by rw [hW]; exact Sc.Stc.new w s)
  have FF := Lib.hid (hF.keep hB)
  have LL := Lib.hid (hL.keep hB)
  have HW := Lib.hid hW
  have HB := Lib.hid hB
  have UA := Lib.hid (getV_u hv s.a)
  have UB := Lib.hid (getV_u hv s.b)
  have UC := Lib.hid (getV_u hv s.c)
  have PA := Lib.hid (plc_addr UA.out hF.small)
  have q_m : Hid (∀ g ∈ Fm, g < w.heap.size) := Lib.hid hF.mLt
  have q_o : Hid (∀ g ∈ Fo, g < w.heap.size) := Lib.hid hF.oLt
  have q_l : Hid (∀ g ∈ Fl, g < w.heap.size) := Lib.hid hL.lt
  have hqlt := hF.qlt
  have hvF := Lib.hid hL.vF
  have hpF := Lib.hid hL.pF
  have DQ := Lib.hid hql
  have DM := Lib.hid hml
  have DO := Lib.hid hol
  clear hW hB hF hL hql hml hol hv
  have x0 := SS.out.c0
  have x1 := SS.out.c1
  have x2 := SS.out.c2
  have x3 := SS.out.c3
  have x4 := SS.out.c4
  have y5 := FF.out.c5
  have fq := FF.out.free'
  have y2 := LL.out.c4
  have fp := LL.out.free
  have hwlt : w.heap.size < W.heap.size := SS.out.lt
  have pne : w.heap.size ≠ p := fun e => by have := q_l.out p hpF.out; omega
  obtain hk | hk | hk | hk : s.kind = 8 ∨ s.kind = 3 ∨ s.kind = 4 ∨ s.kind = 5 := by
    unfold isAct at hk
    simp only [Bool.or_eq_true, beq_iff_eq] at hk
    omega
  all_goals
    rw [hk] at x0
    have HK := Lib.hid hk
    clear hk
    go_enter Try.func62, Try.ntmps62
    go_upto_region 1 with (fail)
    rw [← HW.out]
    go_wp2_with fail
    refine (pget_any s.a W LL.out).mono ?_
    rintro e w1 ⟨rfl, rfl⟩
    go_wp2_with fail
    refine (word_any FF.out _ UA.out).mono ?_
    rintro e w1 ⟨rfl, rfl⟩
  · have HR := Lib.hid (show actV s ⟨a + 1, v, now, out⟩ = ⟨a + 1, v, now, out ++ [getV v s.a]⟩ by unfold actV; rw [if_pos HK.out])
    go_wp2_with fail
    have SW : Hid (Below W.heap.size W W.drew) := Lib.hid ((Below.refl _ _).drew)
    refine Hd.start 11 (fun w' => w'.cell? ⟨q, 5, none⟩ = some (.slice O out.length oc) ∧ w'.cell? ⟨w.heap.size, 2, none⟩ = some (.int .i64 s.a)) (by kernel_rfl) ?_
    have SA : W.drew.cell? ⟨q, 5, none⟩ = some (.slice O out.length oc) ∧ W.drew.cell? ⟨w.heap.size, 2, none⟩ = some (.int .i64 s.a) := ⟨y5, x2⟩
    refine Hd.take (i := 0) (v := ?v1) rfl (by decide +kernel) (by decide +kernel) (fun _ _ _ h => h) rfl ?hy1 SA ?rest1
    case hy1 =>
      intro wq hSw
      obtain ⟨s1, s2⟩ := hSw
      go_simp
      try with_reducible rfl
    try simp only [Act.put, zA, zB, zC]
    refine Hd.take (i := 1) (v := ?v2) rfl (by decide +kernel) (by decide +kernel) (fun _ _ _ h => h) rfl ?hy2 SA ?rest2
    case hy2 =>
      intro wq hSw
      obtain ⟨s1, s2⟩ := hSw
      go_simp
      try with_reducible rfl
    try simp only [Act.put, zA, zB, zC]
    refine Hd.take (i := 2) (v := ?v3) rfl (by decide +kernel) (by decide +kernel) (fun _ _ _ h => h) rfl ?hy3 SA ?rest3
    case hy3 =>
      intro wq hSw
      obtain ⟨s1, s2⟩ := hSw
      go_simp
      try with_reducible rfl
    try simp only [Act.put, zA, zB, zC]
    refine Hd.take (i := 3) (v := ?v4) rfl (by decide +kernel) (by decide +kernel) (fun _ _ _ h => h) rfl ?hy4 SA ?rest4
    case hy4 =>
      intro wq hSw
      obtain ⟨s1, s2⟩ := hSw
      go_simp
      try with_reducible rfl
    try simp only [Act.put, zA, zB, zC]
    refine Hd.take (i := 4) (v := ?v5) rfl (by decide +kernel) (by decide +kernel) (fun _ _ _ h => h) rfl ?hy5 SA ?rest5
    case hy5 =>
      intro wq hSw
      obtain ⟨s1, s2⟩ := hSw
      go_simp
      try with_reducible rfl
    try simp only [Act.put, zA, zB, zC]
    refine Hd.take (i := 5) (v := ?v6) rfl (by decide +kernel) (by decide +kernel) (fun _ _ _ h => h) rfl ?hy6 SA ?rest6
    case hy6 =>
      intro wq hSw
      obtain ⟨s1, s2⟩ := hSw
      go_simp
      try with_reducible rfl
    try simp only [Act.put, zA, zB, zC]
    refine Hd.take (i := 6) (v := ?v7) rfl (by decide +kernel) (by decide +kernel) (fun _ _ _ h => h) rfl ?hy7 SA ?rest7
    case hy7 =>
      intro wq hSw
      obtain ⟨s1, s2⟩ := hSw
      go_simp
      try with_reducible rfl
    try simp only [Act.put, zA, zB, zC]
    refine Hd.take (i := 7) (v := ?v8) rfl (by decide +kernel) (by decide +kernel) (fun _ _ _ h => h) rfl ?hy8 SA ?rest8
    case hy8 =>
      intro wq hSw
      obtain ⟨s1, s2⟩ := hSw
      go_simp
      try with_reducible rfl
    try simp only [Act.put, zA, zB, zC]
    refine Hd.one (i := 8) rfl (by kernel_rfl) rfl (fun K hK => ?_)
    go_simp
    refine (pget_any s.a W.drew (LL.out.keep SW.out)).mono ?_
    rintro e w2 ⟨rfl, rfl⟩
    refine hK _ _ (fun _ => SA) ?_
    clear hK K
    try simp only [Act.put, zA, zB, zC]
    refine Hd.one (i := 9) rfl (by kernel_rfl) rfl (fun K hK => ?_)
    go_simp
    have SB : (W.drew.alloc (.cells #[.int .u64 (getV v s.a)] 53)).cell? ⟨q, 5, none⟩ = some (.slice O out.length oc) ∧ (W.drew.alloc (.cells #[.int .u64 (getV v s.a)] 53)).cell? ⟨w.heap.size, 2, none⟩ = some (.int .i64 s.a) := ⟨(World.cell?_alloc_lt _ _ _ FF.out.qlt).trans SA.1, (World.cell?_alloc_lt _ _ _ hwlt).trans SA.2⟩
    refine hK _ _ (fun _ => SB) ?_
    clear hK K
    try simp only [Act.put, zA, zB, zC]
    refine Hd.one (i := 10) rfl (by kernel_rfl) rfl (fun K hK => ?_)
    have BW3 : Hid (Below W.heap.size W (W.drew.alloc (.cells #[.int .u64 (getV v s.a)] 53))) := Lib.hid (SW.out.alloc SW.out.size _)
    have hsl : Sl (W.drew.alloc (.cells #[.int .u64 (getV v s.a)] 53)) (some ⟨W.heap.size, 0, none⟩) 1 1 1 (fun _ => [uw (getV v s.a)]) := sl_one W.drew [uw (getV v s.a)] 53
    refine wp_app _ _ _ rfl elU 0 O out.length oc _ rfl ((FF.out.keep BW3.out).row) (some ⟨W.heap.size, 0, none⟩) 1 1 (fun _ => [uw (getV v s.a)]) rfl hsl (fun _ _ => rfl) (fun _ _ u hu => by simp at hu; subst hu; rfl) (by unfold maxLen; omega) (by omega) (Nat.zero_le _) ?_
    intro O2 oc2 w5 hown5 hg5 hat5
    have hq5 : w5.heap[q]? = (W.drew.alloc (.cells #[.int .u64 (getV v s.a)] 53)).heap[q]? := hg5.block q (Nat.lt_of_lt_of_le FF.out.qlt BW3.out.size) (fun e => FF.out.qo (FF.out.oF q e.symm))
    have hx5 : w5.heap[w.heap.size]? = (W.drew.alloc (.cells #[.int .u64 (getV v s.a)] 53)).heap[w.heap.size]? := hg5.block _ (Nat.lt_of_lt_of_le hwlt BW3.out.size) (fun e => by have := q_o.out _ (FF.out.oF _ e.symm); omega)
    have TT := Lib.hid (FF.out.told (z := (getV v s.a)) BW3.out hown5 (fun k hk hn => hg5.block k hk (fun e => hn e.symm)) ⟨hg5.os, hg5.tape, hg5.output, hg5.size, fun k hk => absurd hk (by omega)⟩ (hat5.imp id (fun e k hk => by rw [e] at hk; cases hk; exact Nat.le_refl _)))
    have HT5 : Hid (∀ k, O2.map (·.block) = some k → k ∈ Fo ∨ w.heap.size ≤ k) := Lib.hid (fun k hk => by rcases hat5 with e | e; (left; rw [e] at hk; exact FF.out.oF k hk); (right; rw [e] at hk; cases hk; exact Nat.le_trans HB.out.size BW3.out.size))
    have fq5 : ∀ i, w5.frozen? ⟨q, i, none⟩ = false := fun i => ((blk_same hq5).2 i).trans ((FF.out.keep BW3.out).free i)
    have y55 := ((blk_same hq5).1 5).trans SB.1
    refine hK _ _ (fun _ => ⟨y55, ((blk_same hx5).1 2).trans SB.2⟩) ?_
    clear hown5 hg5 hat5 hq5 hx5 hsl SB SA
    clear hK K
    try simp only [Act.put, zA, zB, zC]
    refine Hd.one (i := 11) rfl (by kernel_rfl) rfl (fun K hK => ?_)
    go_simp
    refine hK _ _ (fun h => absurd h (by omega)) ?_
    clear hK K
    try simp only [Act.put, zA, zB, zC]
    refine Hd.one (i := 12) rfl (by kernel_rfl) rfl (fun K hK => ?_)
    go_simp
    refine hK _ _ (fun h => absurd h (by omega)) ?_
    clear hK K
    try simp only [Act.put, zA, zB, zC]
    refine Hd.one (i := 13) rfl (by kernel_rfl) rfl (fun K hK => ?_)
    go_simp
    refine hK _ _ (fun h => absurd h (by omega)) ?_
    clear hK K
    try simp only [Act.put, zA, zB, zC]
    refine Hd.done (by kernel_rfl) ?_ _
    have LF := Lib.hid (LL.out.far TT.out.2 (fun k hk hm => by
      rcases List.mem_cons.1 hm with e | e
      · subst e; exact DQ.out hk
      · exact DO.out k e hk))
    clear y2 fp x0 x1 x2 x3 x4 y5 fq
    have y2 := LF.out.c4
    have fp := LF.out.free
    have T9 := LF.out.set 4 (.int .i64 ((a : Int) + 1)) (a' := ((a + 1 : Nat) : Int)) (st' := st) (by simp)
    have T := Lib.hid T9
    clear T9
    go_wp2_with fail
    go_ret
    have F9 := TT.out.1.far T.out.2 (fun hm => DQ.out (by rw [List.mem_singleton.1 hm]; exact hpF.out)) (fun k hk hm => DM.out k hk (by rw [List.mem_singleton.1 hm]; exact hpF.out)) (fun k hk hm => by
      rw [List.mem_singleton.1 hm] at hk
      rcases List.mem_append.1 hk with e | e
      · exact DO.out p e hpF.out
      · rcases HT5.out p (by simpa using e) with e | e
        · exact DO.out p e hpF.out
        · have := q_l.out p hpF.out; omega)
    refine ⟨rfl, _, _, _, by rw [HR.out]; exact F9, by rw [HR.out]; exact T.out.1, ((Only.of_below HB.out).seq (TT.out.2.more (fun k hk => ?_))).seq (T.out.2.more (in_v (fun k hk => by rw [List.mem_singleton.1 hk]; exact hpF.out))), fun k hk => ?_⟩
    · rcases List.mem_cons.1 hk with e | e
      · simp [e]
      · simp [e]
    · rcases List.mem_append.1 hk with e | e
      · exact .inl e
      · exact HT5.out k (by simpa using e)
  · have HR := Lib.hid (show actV s ⟨a + 1, v, now, out⟩ = ⟨a + 1, putV v s.d (rd now (plc now.length (getV v s.a))), now, out⟩ by unfold actV plcP; rw [if_neg (by rw [HK.out]; decide), if_pos HK.out]; dsimp only; rw [PA.out])
    obtain ⟨o, ho⟩ : ∃ o, (plc now.length (getV v s.a)) = o := ⟨_, rfl⟩
    rw [ho] at HR ⊢
    cases o with
    | none =>
      rw [show wAt B none = none from rfl]
      go_wp2_with fail
      refine (pset_any s.d _ W LL.out).mono ?_
      rintro e w3 ⟨rfl, hL3, hO3⟩
      have L3 := Lib.hid hL3
      have HO3 : Hid (Only Fl W w3) := Lib.hid (hO3.more (fun k hk => hvF.out k (by simpa using hk)))
      clear hL3 hO3 y2 fp x0 x1 x2 x3 x4 y5 fq
      have y2 := L3.out.c4
      have fp := L3.out.free
      have T9 := L3.out.set 4 (.int .i64 ((a : Int) + 1)) (a' := ((a + 1 : Nat) : Int)) (st' := st) (by simp)
      have T := Lib.hid T9
      clear T9
      go_wp2_with fail
      go_ret
      have HO4 := HO3.out.seq (T.out.2.more (F' := Fl) (fun k hk => by rw [List.mem_singleton.1 hk]; exact hpF.out))
      have F9 := FF.out.far HO4 DQ.out DM.out DO.out
      have O9 : Only (q :: (Fm ++ Fo ++ Fl)) w _ := ((Only.of_below HB.out)).seq (HO4.more (in_v (fun k hk => hk)))
      exact ⟨rfl, Fo, O, oc, by rw [HR.out]; exact F9, by rw [HR.out]; exact T.out.1, O9, fun k hk => .inl hk⟩
    | some i =>
      obtain ⟨k1, k2, k3, k4⟩ := plc_some ho
      obtain ⟨g, hBg⟩ := FF.out.some_ (by omega)
      subst hBg
      rw [show wAt (some ⟨g, 0, none⟩) (some i) = some ⟨g, i, none⟩ from rfl]
      obtain ⟨m1, m2⟩ := FF.out.cell_m k4
      have hrd : rd now (some i) = now.getD i 0 := rfl
      rw [hrd] at HR
      clear hrd
      obtain ⟨zz, hzz⟩ : ∃ zz, now.getD i 0 = zz := ⟨_, rfl⟩
      rw [hzz] at HR m1
      clear hzz
      clear ho k1 k2 k3
      go_wp2_with fail
      refine (pset_any s.d _ W LL.out).mono ?_
      rintro e w3 ⟨rfl, hL3, hO3⟩
      have L3 := Lib.hid hL3
      have HO3 : Hid (Only Fl W w3) := Lib.hid (hO3.more (fun k hk => hvF.out k (by simpa using hk)))
      clear hL3 hO3 y2 fp x0 x1 x2 x3 x4 y5 fq
      have y2 := L3.out.c4
      have fp := L3.out.free
      have T9 := L3.out.set 4 (.int .i64 ((a : Int) + 1)) (a' := ((a + 1 : Nat) : Int)) (st' := st) (by simp)
      have T := Lib.hid T9
      clear T9
      go_wp2_with fail
      go_ret
      have HO4 := HO3.out.seq (T.out.2.more (F' := Fl) (fun k hk => by rw [List.mem_singleton.1 hk]; exact hpF.out))
      have F9 := FF.out.far HO4 DQ.out DM.out DO.out
      have O9 : Only (q :: (Fm ++ Fo ++ Fl)) w _ := ((Only.of_below HB.out)).seq (HO4.more (in_v (fun k hk => hk)))
      exact ⟨rfl, Fo, O, oc, by rw [HR.out]; exact F9, by rw [HR.out]; exact T.out.1, O9, fun k hk => .inl hk⟩
  · have HR := Lib.hid (show actV s ⟨a + 1, v, now, out⟩ = ⟨a + 1, v, put now (plc now.length (getV v s.a)) (getV v s.b), out⟩ by unfold actV plcP; rw [if_neg (by rw [HK.out]; decide), if_neg (by rw [HK.out]; decide), if_pos HK.out]; dsimp only; rw [PA.out])
    obtain ⟨o, ho⟩ : ∃ o, (plc now.length (getV v s.a)) = o := ⟨_, rfl⟩
    rw [ho] at HR ⊢
    cases o with
    | none =>
      rw [show wAt B none = none from rfl]
      have y2 := LL.out.c4
      have fp := LL.out.free
      have T9 := LL.out.set 4 (.int .i64 ((a : Int) + 1)) (a' := ((a + 1 : Nat) : Int)) (st' := st) (by simp)
      have T := Lib.hid T9
      clear T9
      go_wp2_with fail
      go_ret
      have HO4 := T.out.2.more (F' := Fl) (fun k hk => by rw [List.mem_singleton.1 hk]; exact hpF.out)
      refine ⟨rfl, Fo, O, oc, by rw [HR.out]; exact FF.out.far HO4 DQ.out DM.out DO.out, by rw [HR.out]; exact T.out.1, ((Only.of_below HB.out)).seq (HO4.more (in_v (fun k hk => hk))), fun k hk => .inl hk⟩
    | some i =>
      obtain ⟨k1, k2, k3, k4⟩ := plc_some ho
      obtain ⟨g, hBg⟩ := FF.out.some_ (by omega)
      subst hBg
      rw [show wAt (some ⟨g, 0, none⟩) (some i) = some ⟨g, i, none⟩ from rfl]
      obtain ⟨m1, m2⟩ := FF.out.cell_m k4
      have SM := Lib.hid (FF.out.set_m i (getV v s.b) UB.out)
      have hpt : put now (some i) (getV v s.b) = now.set i (getV v s.b) := rfl
      rw [hpt] at HR
      have hgl := FF.out.mF g rfl
      have LM := Lib.hid (LL.out.far SM.out.2 (fun k hk hm => DM.out k hm hk))
      clear ho k1 k2 k3 y2 fp
      go_wp2_with fail
      refine (pget_any s.b W LL.out).mono ?_
      rintro e w1 ⟨rfl, rfl⟩
      clear x0 x1 x2 x3 x4 y5 fq
      have y2 := LM.out.c4
      have fp := LM.out.free
      have T9 := LM.out.set 4 (.int .i64 ((a : Int) + 1)) (a' := ((a + 1 : Nat) : Int)) (st' := st) (by simp)
      have T := Lib.hid T9
      clear T9
      go_wp2_with fail
      go_ret
      have HO4 := T.out.2.more (F' := Fl) (fun k hk => by rw [List.mem_singleton.1 hk]; exact hpF.out)
      refine ⟨rfl, Fo, O, oc, by rw [HR.out]; exact SM.out.1.far HO4 DQ.out DM.out DO.out, by rw [HR.out]; exact T.out.1, ((Only.of_below HB.out).seq (SM.out.2.more (fun k hk => by simp [hk]))).seq (HO4.more (in_v (fun k hk => hk))), fun k hk => .inl hk⟩
  · have HV : Hid (casV s ⟨a + 1, v, now, out⟩ = ((plc now.length (getV v s.a)).isSome && (rd now (plc now.length (getV v s.a)) == getV v s.b))) := Lib.hid (by unfold casV plcP; dsimp only; rw [PA.out])
    have HR0 : Hid (actV s ⟨a + 1, v, now, out⟩ = ⟨a + 1, putV v s.d (bitV (casV s ⟨a + 1, v, now, out⟩)), if casV s ⟨a + 1, v, now, out⟩ then put now (plc now.length (getV v s.a)) (getV v s.c) else now, out⟩) := Lib.hid (by
      rw [show actV s ⟨a + 1, v, now, out⟩ = ⟨a + 1, putV v s.d (bitV (casV s ⟨a + 1, v, now, out⟩)), if casV s ⟨a + 1, v, now, out⟩ then put now (plc now.length (addrV (getV v s.a))) (getV v s.c) else now, out⟩ by unfold actV plcP; rw [if_neg (by rw [HK.out]; decide), if_neg (by rw [HK.out]; decide), if_neg (by rw [HK.out]; decide), if_pos HK.out]]
      rw [PA.out])
    have SW : Hid (Below W.heap.size W W.drew) := Lib.hid ((Below.refl _ _).drew)
    have LD := Lib.hid (LL.out.keep SW.out)
    have FD := Lib.hid (FF.out.keep SW.out)
    have HBD := Lib.hid (HB.out.trans (SW.out.mono HB.out.size))
    obtain ⟨o, ho⟩ : ∃ o, (plc now.length (getV v s.a)) = o := ⟨_, rfl⟩
    rw [ho] at HR0 HV ⊢
    cases o with
    | none =>
      have HV2 : casV s ⟨a + 1, v, now, out⟩ = false := by rw [HV.out]; rfl
      have HR := Lib.hid (show actV s ⟨a + 1, v, now, out⟩ = ⟨a + 1, putV v s.d 0, now, out⟩ by rw [HR0.out, HV2]; rfl)
      clear HV2 ho
      rw [show wAt B none = none from rfl]
      go_wp2_with fail
      go_quiet (fail)
      have LD2 := Lib.hid (LL.out.keep (below_drawn W nq))
      have FD2 := Lib.hid (FF.out.keep (below_drawn W nq))
      have HB2 := Lib.hid (HB.out.trans ((below_drawn W nq).mono HB.out.size))
      go_wp2_with fail
      refine (pset_any s.d _ (W.drewN nq) LD2.out).mono ?_
      rintro e w3 ⟨rfl, hL3, hO3⟩
      have L3 := Lib.hid hL3
      have HO3 : Hid (Only Fl (W.drewN nq) w3) := Lib.hid (hO3.more (fun k hk => hvF.out k (by simpa using hk)))
      clear hL3 hO3 y2 fp x0 x1 x2 x3 x4 y5 fq
      have y2 := L3.out.c4
      have fp := L3.out.free
      have T9 := L3.out.set 4 (.int .i64 ((a : Int) + 1)) (a' := ((a + 1 : Nat) : Int)) (st' := st) (by simp)
      have T := Lib.hid T9
      clear T9
      go_wp2_with fail
      go_ret
      have HO4 := HO3.out.seq (T.out.2.more (F' := Fl) (fun k hk => by rw [List.mem_singleton.1 hk]; exact hpF.out))
      have F9 := FD2.out.far HO4 DQ.out DM.out DO.out
      have O9 : Only (q :: (Fm ++ Fo ++ Fl)) w _ := ((Only.of_below HB2.out)).seq (HO4.more (in_v (fun k hk => hk)))
      exact ⟨rfl, Fo, O, oc, by rw [HR.out]; exact F9, by rw [HR.out]; exact T.out.1, O9, fun k hk => .inl hk⟩
    | some i =>
      obtain ⟨k1, k2, k3, k4⟩ := plc_some ho
      obtain ⟨g, hBg⟩ := FF.out.some_ (by omega)
      subst hBg
      rw [show wAt (some ⟨g, 0, none⟩) (some i) = some ⟨g, i, none⟩ from rfl]
      obtain ⟨m1, m2⟩ := FF.out.cell_m k4
      have hrd : rd now (some i) = now.getD i 0 := rfl
      rw [hrd] at HV
      obtain ⟨zz, hzz⟩ : ∃ zz, now.getD i 0 = zz := ⟨_, rfl⟩
      rw [hzz] at HV m1
      have hgl := FF.out.mF g rfl
      have hglt := q_m.out g hgl
      clear ho k1 k2 k3 hzz hrd
      cases he : (zz == getV v s.b)
      · have HV2 : casV s ⟨a + 1, v, now, out⟩ = false := by rw [HV.out, he]; rfl
        have HR := Lib.hid (show actV s ⟨a + 1, v, now, out⟩ = ⟨a + 1, putV v s.d 0, now, out⟩ by rw [HR0.out, HV2]; rfl)
        clear HV2 HV HR0
        go_wp2_with fail
        refine wp_region_still_lit (by kernel_rfl) (by kernel_rfl) ?_
        repeat still_step
        still_call (pget_still s.b W.drew LD.out)
        repeat still_step
        refine wpStill_nil ?_
        go_wp2_with fail
        refine (pset_any s.d _ W.drew LD.out).mono ?_
        rintro e w3 ⟨rfl, hL3, hO3⟩
        have L3 := Lib.hid hL3
        have HO3 : Hid (Only Fl W.drew w3) := Lib.hid (hO3.more (fun k hk => hvF.out k (by simpa using hk)))
        clear hL3 hO3 y2 fp x0 x1 x2 x3 x4 y5 fq
        have y2 := L3.out.c4
        have fp := L3.out.free
        have T9 := L3.out.set 4 (.int .i64 ((a : Int) + 1)) (a' := ((a + 1 : Nat) : Int)) (st' := st) (by simp)
        have T := Lib.hid T9
        clear T9
        go_wp2_with fail
        go_ret
        have HO4 := HO3.out.seq (T.out.2.more (F' := Fl) (fun k hk => by rw [List.mem_singleton.1 hk]; exact hpF.out))
        have F9 := FD.out.far HO4 DQ.out DM.out DO.out
        have O9 : Only (q :: (Fm ++ Fo ++ Fl)) w _ := ((Only.of_below HBD.out)).seq (HO4.more (in_v (fun k hk => hk)))
        exact ⟨rfl, Fo, O, oc, by rw [HR.out]; exact F9, by rw [HR.out]; exact T.out.1, O9, fun k hk => .inl hk⟩
      · have HV2 : casV s ⟨a + 1, v, now, out⟩ = true := by rw [HV.out, he]; rfl
        have HR := Lib.hid (show actV s ⟨a + 1, v, now, out⟩ = ⟨a + 1, putV v s.d 1, now.set i (getV v s.c), out⟩ by rw [HR0.out, HV2]; rfl)
        have SM := Lib.hid (FD.out.set_m i (getV v s.c) UC.out)
        have LM := Lib.hid (LD.out.far SM.out.2 (fun k hk hm => DM.out k hm hk))
        clear HV2 HV HR0
        go_wp2_with fail
        refine wp_region_still_lit (by kernel_rfl) (by kernel_rfl) ?_
        repeat still_step
        still_call (pget_still s.b W.drew LD.out)
        repeat still_step
        refine wpStill_nil ?_
        go_wp2_with fail
        refine (pget_any s.c W.drew LD.out).mono ?_
        rintro e w1 ⟨rfl, rfl⟩
        have ho1 : Only [g] W.drew (W.drew.setCell ⟨g, i, none⟩ (.int .u64 (getV v s.c))) := (Only.refl _ _).setCell (by simp) _
        have x1' := (ho1.cell (p := ⟨w.heap.size, 1, none⟩) hwlt (by simp; omega)).trans x1
        clear ho1
        go_wp2_with fail
        refine (pset_any s.d _ (W.drew.setCell ⟨g, i, none⟩ (.int .u64 (getV v s.c))) LM.out).mono ?_
        rintro e w3 ⟨rfl, hL3, hO3⟩
        have L3 := Lib.hid hL3
        have HO3 : Hid (Only Fl (W.drew.setCell ⟨g, i, none⟩ (.int .u64 (getV v s.c))) w3) := Lib.hid (hO3.more (fun k hk => hvF.out k (by simpa using hk)))
        clear x1' m1 m2 hL3 hO3 y2 fp x0 x1 x2 x3 x4 y5 fq
        have y2 := L3.out.c4
        have fp := L3.out.free
        have T9 := L3.out.set 4 (.int .i64 ((a : Int) + 1)) (a' := ((a + 1 : Nat) : Int)) (st' := st) (by simp)
        have T := Lib.hid T9
        clear T9
        go_wp2_with fail
        go_ret
        have HO4 := HO3.out.seq (T.out.2.more (F' := Fl) (fun k hk => by rw [List.mem_singleton.1 hk]; exact hpF.out))
        have F9 := SM.out.1.far HO4 DQ.out DM.out DO.out
        have O9 : Only (q :: (Fm ++ Fo ++ Fl)) w _ := (((Only.of_below HBD.out).seq (SM.out.2.more (fun k hk => by simp [hk])))).seq (HO4.more (in_v (fun k hk => hk)))
        exact ⟨rfl, Fo, O, oc, by rw [HR.out]; exact F9, by rw [HR.out]; exact T.out.1, O9, fun k hk => .inl hk⟩
end Go.Proofs.Ytapnnbbbgopobaa.Pa
