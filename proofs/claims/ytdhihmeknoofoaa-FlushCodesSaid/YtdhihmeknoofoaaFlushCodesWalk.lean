/-
  WALK: the law FlushCodes.
-/
import Derived.Test.YtdhihmeknoofoaaStOpen
import Derived.Deep.RegionHeld3
import Derived.Deep.DrawnRows
namespace Go.Proofs.Ytdhihmeknoofoaa.FlC
set_option linter.unusedVariables false
set_option linter.unusedSimpArgs false
open Go.RowKit Go.WideShapes Go.ChangeShapes Cm Mm Ow Stp StW StC StM StF StO
attribute [local go_sem ↓] Go.wp_at_zero Go.wp_at_succ

/-- the two codes' variables and what they show; nothing elder has turned -/
abbrev SS (w0 : World) (p q : Nat) (x y : Int) (A1 A2 : Option Addr) (n1 c1 n2 c2 : Nat) (l : List St) (w' : World) : Prop :=
  (w'.cell? ⟨p, 0, none⟩ = some (.int .i64 x) ∧ w'.cell? ⟨p, 1, none⟩ = some (.int .i64 y) ∧ w'.cell? ⟨p, 2, none⟩ = some (.slice A1 n1 c1) ∧ w'.cell? ⟨q, 0, none⟩ = some (.int .i64 x) ∧ w'.cell? ⟨q, 1, none⟩ = some (.int .i64 y) ∧ w'.cell? ⟨q, 2, none⟩ = some (.slice A2 n2 c2)) ∧
    (IsSt w' A1 n1 c1 l ∧ IsSt w' A2 n2 c2 (flush l)) ∧ Below w0.heap.size w0 w'
theorem SS.keep {w0 w w' : World} {p q : Nat} {x y : Int} {A1 A2 : Option Addr} {n1 c1 n2 c2 : Nat} {l : List St} (h : SS w0 p q x y A1 A2 n1 c1 n2 c2 l w) (hb : Below w.heap.size w w') : SS w0 p q x y A1 A2 n1 c1 n2 c2 l w' := by
  obtain ⟨⟨h0, h1, h2, h3, h4, h5⟩, ⟨i1, i2⟩, hz⟩ := h
  have k : ∀ (x : Addr) (u : Value), w.cell? x = some u → w'.cell? x = some u := fun x u hx => by
    rw [World.cell?_of_block (hb.block _ (World.block_lt_of_cell? w x hx))]; exact hx
  exact ⟨⟨k _ _ h0, k _ _ h1, k _ _ h2, k _ _ h3, k _ _ h4, k _ _ h5⟩, ⟨i1.keep hb, i2.keep hb⟩, hz.trans (hb.mono hz.size)⟩

theorem rflush_S (w0 : World) (p q : Nat) (x y : Int) (A1 A2 : Option Addr) (n1 c1 n2 c2 : Nat) (l : List St) (w : World) (h : SS w0 p q x y A1 A2 n1 c1 n2 c2 l w) (hn : n1 ≤ 65536) :
    Calls Try.prog 19 #[.agg #[.int .i64 x, .int .i64 y, .slice A1 n1 c1]] w fun e w' => ∃ A3 c3, e = .returned (.agg #[.int .i64 x, .int .i64 y, .slice A3 n2 c3]) ∧ IsSt w' A3 n2 c3 (flush l) ∧ SS w0 p q x y A1 A2 n1 c1 n2 c2 l w' := by
  refine (rflush_any x y A1 n1 c1 l w h.2.1.1 hn).mono ?_
  rintro e w' ⟨A3, m, c3, rfl, hown, hb⟩
  have hI := isSt_own hown
  obtain rfl : m = n2 := by have := hI.1; have := h.2.1.2.1; omega
  exact ⟨A3, c3, rfl, hI, h.keep hb⟩
theorem same_S (w0 : World) (p q : Nat) (x y : Int) (A1 A2 A3 : Option Addr) (n1 c1 n2 c2 c3 : Nat) (l : List St) (w : World) (h : SS w0 p q x y A1 A2 n1 c1 n2 c2 l w) (h3 : IsSt w A3 n2 c3 (flush l)) (hn : n2 ≤ 200000) :
    Calls Try.prog 18 #[.agg #[.int .i64 x, .int .i64 y, .slice A2 n2 c2], .agg #[.int .i64 x, .int .i64 y, .slice A3 n2 c3]] w fun e w' => e = .returned (.bool true) ∧ SS w0 p q x y A1 A2 n1 c1 n2 c2 l w' :=
  (same_any x y A2 A3 n2 c2 c3 (flush l) w h.2.1.2 h3 hn).mono fun e w' ⟨h1, h2⟩ => ⟨h1, h.keep h2⟩
theorem dur1_S (w0 : World) (p q : Nat) (x y : Int) (A1 A2 : Option Addr) (n1 c1 n2 c2 : Nat) (l : List St) (w : World) (h : SS w0 p q x y A1 A2 n1 c1 n2 c2 l w) (hn : n1 ≤ 65536) :
    Calls Try.prog 20 #[.agg #[.int .i64 x, .int .i64 y, .slice A1 n1 c1]] w fun e w' => e = .returned (.bool (durT l)) ∧ SS w0 p q x y A1 A2 n1 c1 n2 c2 l w' :=
  (durable_any x y A1 n1 c1 l w h.2.1.1 hn).mono fun e w' ⟨h1, h2⟩ => ⟨h1, h.keep h2⟩
theorem dur2_S (w0 : World) (p q : Nat) (x y : Int) (A1 A2 : Option Addr) (n1 c1 n2 c2 : Nat) (l : List St) (w : World) (h : SS w0 p q x y A1 A2 n1 c1 n2 c2 l w) (hn : n2 ≤ 65536) :
    Calls Try.prog 20 #[.agg #[.int .i64 x, .int .i64 y, .slice A2 n2 c2]] w fun e w' => e = .returned (.bool true) ∧ SS w0 p q x y A1 A2 n1 c1 n2 c2 l w' :=
  (durable_any x y A2 n2 c2 (flush l) w h.2.1.2 hn).mono fun e w' ⟨h1, h2⟩ => ⟨by rw [h1, durT_flush], h.keep h2⟩
theorem rdur_S (w0 : World) (p q : Nat) (x y : Int) (A1 A2 : Option Addr) (n1 c1 n2 c2 : Nat) (l : List St) (w : World) (h : SS w0 p q x y A1 A2 n1 c1 n2 c2 l w) (hn : n1 ≤ 65536) :
    Calls Try.prog 21 #[.agg #[.int .i64 x, .int .i64 y, .slice A1 n1 c1]] w fun e w' => e = .returned (.bool (durT l)) ∧ SS w0 p q x y A1 A2 n1 c1 n2 c2 l w' :=
  (rdurable_any x y A1 n1 c1 l w h.2.1.1 hn).mono fun e w' ⟨h1, h2⟩ => ⟨h1, h.keep h2⟩

set_option maxHeartbeats 3200000 in
set_option maxRecDepth 100000 in
theorem walkCodes {H : Type} {enc : TypeId × Value → H} {d : DataW H} {P : List MemPlace} {r : Reach} {b0 : Nat} (v : Value) (w : World)
    (k1 : DataW.Trod enc Try.prog w 0 (fun _ => true) true 24 v d P) (ok1 : Value.okWide Try.prog w r b0 24 v) :
    Calls Try.prog 3 #[v] w fun e w' => e = .returned (.bool true) ∧ Below w.heap.size w w' := by
  obtain ⟨x, y, A, n, cap, l, rfl, hx, hy, hI⟩ := open_code k1 ok1
  clear k1 ok1
  have hl := hI.1
  have HL := Lib.hid hl
  obtain ⟨W, hW⟩ : ∃ W, W = w.alloc (.cells #[.int .i64 x, .int .i64 y, .slice A n cap] 24) := ⟨_, rfl⟩
  have hB : Below w.heap.size w W := by rw [hW]; exact below_al _ _
  have hV : Vr W w.heap.size x y A n cap := by rw [hW]; exact vr_new _ _ _ _ _ _ _ _ rfl
  have HI := Lib.hid (hI.keep hB)
  have HV := Lib.hid hV
  have HW := Lib.hid hW
  have hwl : w.heap.size < W.heap.size := hV.lt
  clear hV hW hl hI
  by_cases hn : n ≤ 300
  · have hn2 : n ≤ 65536 := by omega
    go_enter Try.func3, Try.ntmps3
    go_wp2_with fail
    rw [← HW.out]
    refine (alive_any _).mono ?_
    rintro e w2 ⟨rfl, hb2⟩
    obtain ⟨v0, v1, v2, v3⟩ := HV.out.keep hb2
    go_wp2_with fail
    refine (fcode_any x y A n cap l w2 (HI.out.keep hb2) (by omega)).mono ?_
    rintro e w3 ⟨A2, m, c, rfl, hown, hb3⟩
    have hI2 := isSt_own hown
    have hm := hI2.1
    have hm2 := flush_len l
    have hm3 : m ≤ 900 := by have := HL.out; omega
    have hm4 : m ≤ 200000 := by omega
    have hm5 : m ≤ 65536 := by omega
    have S0 : SS w w.heap.size w3.heap.size x y A A2 n cap m c l ((w3.alloc (.cells #[.int .i64 x, .int .i64 y, .slice A2 m c] 24))) := by
      have h1 := (HV.out.keep hb2).keep (hb3.trans ((below_al w3 (.cells #[.int .i64 x, .int .i64 y, .slice A2 m c] 24)).mono hb3.size))
      have h2 : Vr (w3.alloc (.cells #[.int .i64 x, .int .i64 y, .slice A2 m c] 24)) w3.heap.size x y A2 m c := vr_new _ _ _ _ _ _ _ _ rfl
      exact ⟨⟨h1.c0, h1.c1, h1.c2, h2.c0, h2.c1, h2.c2⟩, ⟨((HI.out.keep hb2).keep hb3).keep (below_al _ _), hI2.keep (below_al _ _)⟩, (hB.trans (hb2.mono hB.size)).trans ((hb3.trans ((below_al _ _).mono hb3.size)).mono (Nat.le_trans hB.size hb2.size))⟩
    have S0 := Lib.hid (S0.keep ((Below.refl _ _).drew))
    clear hI2 hm hm2 hown hb3 v0 v1 v2 v3
    go_wp2_with fail
    generalize (w3.alloc (.cells #[.int .i64 x, .int .i64 y, .slice A2 m c] 24)) = wb at *
    generalize w3.heap.size = q at *
    have SB := S0.out
    clear S0
    go_region_held3 (fun w' => (w'.cell? ⟨w.heap.size, 0, none⟩ = some (.int .i64 x) ∧ w'.cell? ⟨w.heap.size, 1, none⟩ = some (.int .i64 y) ∧ w'.cell? ⟨w.heap.size, 2, none⟩ = some (.slice A n cap) ∧ w'.cell? ⟨q, 0, none⟩ = some (.int .i64 x) ∧ w'.cell? ⟨q, 1, none⟩ = some (.int .i64 y) ∧ w'.cell? ⟨q, 2, none⟩ = some (.slice A2 m c)) ∧
        (IsSt w' A n cap l ∧ IsSt w' A2 m c (flush l)) ∧ Below w.heap.size w w') (with_reducible assumption)
      (first
        | (go_at_call 19; with_reducible refine (rflush_S w w.heap.size q x y A A2 n cap m c l _ (by with_reducible assumption) hn2).mono ?_; rintro e wx ⟨A3, c3, rfl, I3, SC⟩)
        | (go_at_call 18; with_reducible refine (same_S w w.heap.size q x y A A2 A3 n cap m c c3 l _ (by with_reducible assumption) I3 hm4).mono ?_; rintro e wx ⟨rfl, SC⟩)
        | (go_at_call 20; with_reducible refine (dur1_S w w.heap.size q x y A A2 n cap m c l _ (by with_reducible assumption) hn2).mono ?_; rintro e wx ⟨rfl, SC⟩)
        | (go_at_call 20; with_reducible refine (dur2_S w w.heap.size q x y A A2 n cap m c l _ (by with_reducible assumption) hm5).mono ?_; rintro e wx ⟨rfl, SC⟩)
        | (go_at_call 21; with_reducible refine (rdur_S w w.heap.size q x y A A2 n cap m c l _ (by with_reducible assumption) hn2).mono ?_; rintro e wx ⟨rfl, SC⟩))
    go_wp2_with fail
    go_ret
    exact ⟨rfl, SC.2.2⟩
  · go_enter Try.func3, Try.ntmps3
    go_wp2_with fail
    rw [← HW.out]
    refine (alive_any _).mono ?_
    rintro e w2 ⟨rfl, hb2⟩
    obtain ⟨v0, v1, v2, v3⟩ := HV.out.keep hb2
    go_wp2_with fail
    go_ret
    exact ⟨rfl, hB.trans (hb2.mono hB.size)⟩
end Go.Proofs.Ytdhihmeknoofoaa.FlC
