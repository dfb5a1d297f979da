/-
  WALK: the law ElideCodes.
-/
import Derived.Test.YtdhihmeknoofoaaElideLaw
namespace Go.Proofs.Ytdhihmeknoofoaa.ElC
set_option linter.unusedVariables false
set_option linter.unusedSimpArgs false
open Go.RowKit Go.WideShapes Go.ChangeShapes Cm Mm Ow Stp StW StC StM StF ElW ElR StO ElM ElS ElL
attribute [local go_sem ↓] Go.wp_at_zero Go.wp_at_succ

/-- a code among the arguments, one in a variable, and what they show; nothing elder has turned -/
abbrev SE (w0 : World) (b o q : Nat) (x y : Int) (A1 A2 As : Option Addr) (n1 c1 n2 c2 ns cs : Nat) (l l2 : List St) (sole : List Bool) (w' : World) : Prop :=
  (w'.cell? ⟨b, o, none⟩ = some (.int .i64 x) ∧ w'.cell? ⟨b, o + 1, none⟩ = some (.int .i64 y) ∧ w'.cell? ⟨b, o + 2, none⟩ = some (.slice A1 n1 c1) ∧ w'.cell? ⟨q, 0, none⟩ = some (.int .i64 x) ∧ w'.cell? ⟨q, 1, none⟩ = some (.int .i64 y) ∧ w'.cell? ⟨q, 2, none⟩ = some (.slice A2 n2 c2)) ∧
    (IsSt w' A1 n1 c1 l ∧ IsSt w' A2 n2 c2 l2 ∧ IsBo w' As ns cs sole) ∧ Below w0.heap.size w0 w'
theorem SE.keep {w0 w w' : World} {b o q : Nat} {x y : Int} {A1 A2 As : Option Addr} {n1 c1 n2 c2 ns cs : Nat} {l l2 : List St} {sole : List Bool} (h : SE w0 b o q x y A1 A2 As n1 c1 n2 c2 ns cs l l2 sole w) (hb : Below w.heap.size w w') : SE w0 b o q x y A1 A2 As n1 c1 n2 c2 ns cs l l2 sole w' := by
  obtain ⟨⟨h0, h1, h2, h3, h4, h5⟩, ⟨i1, i2, i3⟩, hz⟩ := h
  have k : ∀ (x : Addr) (u : Value), w.cell? x = some u → w'.cell? x = some u := fun x u hx => by
    rw [World.cell?_of_block (hb.block _ (World.block_lt_of_cell? w x hx))]; exact hx
  exact ⟨⟨k _ _ h0, k _ _ h1, k _ _ h2, k _ _ h3, k _ _ h4, k _ _ h5⟩, ⟨i1.keep hb, i2.keep hb, i3.keep hb⟩, hz.trans (hb.mono hz.size)⟩
/-- what was left out of a code: made, and of the length that it must have -/
theorem elide_len (x y : Int) (A As : Option Addr) (n cap ns cs m : Nat) (l : List St) (sole : List Bool) (w : World) (h : IsSt w A n cap l) (hs : IsBo w As ns cs sole) (hn : n ≤ 65536) (hm : (elide sole l).length = m) :
    Calls Try.prog 36 #[.agg #[.int .i64 x, .int .i64 y, .slice A n cap], .slice As ns cs] w fun e w' => ∃ A3 c3, e = .returned (.agg #[.int .i64 x, .int .i64 y, .slice A3 m c3]) ∧ IsSt w' A3 m c3 (elide sole l) ∧ Below w.heap.size w w' := by
  refine (elide_any x y A As n cap ns cs l sole w h hs hn).mono ?_
  rintro e w' ⟨A3, m', c3, rfl, hown, hb⟩
  have hI := isSt_own hown
  obtain rfl : m' = m := by have := hI.1; omega
  exact ⟨A3, c3, rfl, hI, hb⟩
theorem relide_len (x y : Int) (A As : Option Addr) (n cap ns cs m : Nat) (l : List St) (sole : List Bool) (w : World) (h : IsSt w A n cap l) (hs : IsBo w As ns cs sole) (hn : n ≤ 65536) (hm : (elide sole l).length = m) :
    Calls Try.prog 37 #[.agg #[.int .i64 x, .int .i64 y, .slice A n cap], .slice As ns cs] w fun e w' => ∃ A3 c3, e = .returned (.agg #[.int .i64 x, .int .i64 y, .slice A3 m c3]) ∧ IsSt w' A3 m c3 (elide sole l) ∧ Below w.heap.size w w' := by
  refine (relide_any x y A As n cap ns cs l sole w h hs hn).mono ?_
  rintro e w' ⟨A3, m', c3, rfl, hown, hb⟩
  have hI := isSt_own hown
  obtain rfl : m' = m := by have := hI.1; omega
  exact ⟨A3, c3, rfl, hI, hb⟩
theorem elide_le (sole : List Bool) : ∀ (n : Nat) (l : List St), l.length ≤ n → (elide sole l).length ≤ l.length := by
  intro n
  induction n with
  | zero => intro l h; obtain rfl : l = [] := List.eq_nil_of_length_eq_zero (by omega); simp [elide]
  | succ n ih =>
    intro l h
    cases l with
    | nil => simp [elide]
    | cons s t =>
      rw [elide]
      simp only [List.length_cons] at h ⊢
      split
      · have := ih (t.drop 2) (by rw [List.length_drop]; omega)
        rw [List.length_drop] at this
        omega
      · have := ih t (by omega); omega

theorem elide1_S (w0 : World) (b o q : Nat) (x y : Int) (A1 A2 As : Option Addr) (n1 c1 n2 c2 ns cs m : Nat) (l l2 : List St) (sole : List Bool) (w : World) (h : SE w0 b o q x y A1 A2 As n1 c1 n2 c2 ns cs l l2 sole w) (hn : n1 ≤ 65536) (hm : (elide sole l).length = m) :
    Calls Try.prog 36 #[.agg #[.int .i64 x, .int .i64 y, .slice A1 n1 c1], .slice As ns cs] w fun e w' => ∃ A3 c3, e = .returned (.agg #[.int .i64 x, .int .i64 y, .slice A3 m c3]) ∧ IsSt w' A3 m c3 (elide sole l) ∧ SE w0 b o q x y A1 A2 As n1 c1 n2 c2 ns cs l l2 sole w' := by
  refine (elide_len x y A1 As n1 c1 ns cs m l sole w h.2.1.1 h.2.1.2.2 hn hm).mono ?_
  rintro e w' ⟨A3, c3, rfl, hI, hb⟩
  exact ⟨A3, c3, rfl, hI, h.keep hb⟩
theorem relide1_S (w0 : World) (b o q : Nat) (x y : Int) (A1 A2 As : Option Addr) (n1 c1 n2 c2 ns cs m : Nat) (l l2 : List St) (sole : List Bool) (w : World) (h : SE w0 b o q x y A1 A2 As n1 c1 n2 c2 ns cs l l2 sole w) (hn : n1 ≤ 65536) (hm : (elide sole l).length = m) :
    Calls Try.prog 37 #[.agg #[.int .i64 x, .int .i64 y, .slice A1 n1 c1], .slice As ns cs] w fun e w' => ∃ A3 c3, e = .returned (.agg #[.int .i64 x, .int .i64 y, .slice A3 m c3]) ∧ IsSt w' A3 m c3 (elide sole l) ∧ Below w.heap.size w w' ∧ SE w0 b o q x y A1 A2 As n1 c1 n2 c2 ns cs l l2 sole w' := by
  refine (relide_len x y A1 As n1 c1 ns cs m l sole w h.2.1.1 h.2.1.2.2 hn hm).mono ?_
  rintro e w' ⟨A3, c3, rfl, hI, hb⟩
  exact ⟨A3, c3, rfl, hI, hb, h.keep hb⟩
theorem elide2_S (w0 : World) (b o q : Nat) (x y : Int) (A1 A2 As : Option Addr) (n1 c1 n2 c2 ns cs m : Nat) (l l2 : List St) (sole : List Bool) (w : World) (h : SE w0 b o q x y A1 A2 As n1 c1 n2 c2 ns cs l l2 sole w) (hn : n2 ≤ 65536) (hm : (elide sole l2).length = m) :
    Calls Try.prog 36 #[.agg #[.int .i64 x, .int .i64 y, .slice A2 n2 c2], .slice As ns cs] w fun e w' => ∃ A3 c3, e = .returned (.agg #[.int .i64 x, .int .i64 y, .slice A3 m c3]) ∧ IsSt w' A3 m c3 (elide sole l2) ∧ SE w0 b o q x y A1 A2 As n1 c1 n2 c2 ns cs l l2 sole w' := by
  refine (elide_len x y A2 As n2 c2 ns cs m l2 sole w h.2.1.2.1 h.2.1.2.2 hn hm).mono ?_
  rintro e w' ⟨A3, c3, rfl, hI, hb⟩
  exact ⟨A3, c3, rfl, hI, h.keep hb⟩
theorem relide2_S (w0 : World) (b o q : Nat) (x y : Int) (A1 A2 As : Option Addr) (n1 c1 n2 c2 ns cs m : Nat) (l l2 : List St) (sole : List Bool) (w : World) (h : SE w0 b o q x y A1 A2 As n1 c1 n2 c2 ns cs l l2 sole w) (hn : n2 ≤ 65536) (hm : (elide sole l2).length = m) :
    Calls Try.prog 37 #[.agg #[.int .i64 x, .int .i64 y, .slice A2 n2 c2], .slice As ns cs] w fun e w' => ∃ A3 c3, e = .returned (.agg #[.int .i64 x, .int .i64 y, .slice A3 m c3]) ∧ IsSt w' A3 m c3 (elide sole l2) ∧ Below w.heap.size w w' ∧ SE w0 b o q x y A1 A2 As n1 c1 n2 c2 ns cs l l2 sole w' := by
  refine (relide_len x y A2 As n2 c2 ns cs m l2 sole w h.2.1.2.1 h.2.1.2.2 hn hm).mono ?_
  rintro e w' ⟨A3, c3, rfl, hI, hb⟩
  exact ⟨A3, c3, rfl, hI, hb, h.keep hb⟩
theorem sameE_S (w0 : World) (b o q : Nat) (x y : Int) (A1 A2 As A3 A4 : Option Addr) (n1 c1 n2 c2 ns cs m c3 c4 : Nat) (l l2 L : List St) (sole : List Bool) (w : World) (h : SE w0 b o q x y A1 A2 As n1 c1 n2 c2 ns cs l l2 sole w) (h3 : IsSt w A3 m c3 L) (h4 : IsSt w A4 m c4 L) (hm : m ≤ 200000) :
    Calls Try.prog 18 #[.agg #[.int .i64 x, .int .i64 y, .slice A3 m c3], .agg #[.int .i64 x, .int .i64 y, .slice A4 m c4]] w fun e w' => e = .returned (.bool true) ∧ SE w0 b o q x y A1 A2 As n1 c1 n2 c2 ns cs l l2 sole w' :=
  (same_any x y A3 A4 m c3 c4 L w h3 h4 hm).mono fun e w' ⟨h1, h2⟩ => ⟨h1, h.keep h2⟩

set_option maxHeartbeats 6400000 in
set_option maxRecDepth 100000 in
theorem walkCodes {H : Type} {enc : TypeId × Value → H} {d0 d2 : DataW H} {P0 P2 : List MemPlace} {r : Reach} {b0 : Nat} (v0 : Value) (cells : Int) (v2 : Value) (w : World)
    (k0 : DataW.Trod enc Try.prog w 0 (fun _ => true) true 32 v0 d0 P0) (ok0 : Value.okWide Try.prog w r b0 32 v0) (w1 : (Lit.int .i64 cells).wf = true)
    (k2 : DataW.Trod enc Try.prog w 0 (fun _ => true) true 57 v2 d2 P2) (ok2 : Value.okWide Try.prog w r b0 57 v2) :
    Calls Try.prog 8 #[v0, .int .i64 cells, v2] w fun e w' => e = .returned (.bool true) ∧ Below w.heap.size w w' := by
  obtain ⟨A, n, cap, ls, rfl, hC⟩ := open_codes k0 ok0
  obtain ⟨As, ns, cs, sole, rfl, hS⟩ := open_bools k2 ok2
  clear k0 ok0 k2 ok2 w1
  have HC := Lib.hid hC
  have HS := Lib.hid hS
  have HL := Lib.hid hC.1
  clear hC hS
  by_cases hn : n ≤ 8
  · by_cases hns : ns ≤ 30
    · go_enter Try.func8, Try.ntmps8
      go_wp2_with fail
      refine (alive16_any _).mono ?_
      rintro e w2 ⟨rfl, hb2⟩
      go_wp2_with fail
      go_loopw [8] (fun i wr => ∃ (k : Nat), k ≤ n ∧ i = .int .i64 k ∧ Hid (∀ j, j < k → (ls.getD j zeroCd).n ≤ 65536) ∧ Below w.heap.size w wr) (fun i _ => n - (intOf i).toNat)
      case atStart => exact ⟨0, by omega, rfl, fun j hj => absurd hj (by omega), hb2⟩
      case round =>
        obtain ⟨k, hk, rfl, HN, hbel⟩ := hrel
        have hsz := hbel.size
        have HC1 := Lib.hid (HC.out.keep hbel)
        have HS1 := Lib.hid (HS.out.keep hbel)
        by_cases hkn : k < n
        · obtain ⟨b, o, rfl, hb, s0, s1, s2, hx, hy, hI⟩ := HC1.out.cell (k := k) (by omega)
          have hcap := HC1.out.2.1.le
          have HN2 := Lib.hid (fun (h : (ls.getD k zeroCd).n ≤ 65536) (j : Nat) (hj : j < k + 1) => (show (ls.getD j zeroCd).n ≤ 65536 by
            by_cases e : j = k
            · subst e; exact h
            · exact HN.out j (by omega)))
          generalize hc : ls.getD k zeroCd = cd at *
          clear hc
          obtain ⟨x, y, A1, n1, c1, l⟩ := cd
          have i1 : (k : Int) < n := by omega
          clear hx hy
          by_cases h200 : n1 ≤ 200
          · have HI := Lib.hid hI; clear hI
            have hlen := Lib.hid HI.out.1
            go_wp2_with fail
            refine (rflush_any x y A1 n1 c1 l wr HI.out (by omega)).mono ?_
            rintro e w3 ⟨A2, m, c, rfl, hown, hb3⟩
            have hI2 := isSt_own hown
            have hm := hI2.1
            have hm2 := flush_len l
            have hm3 : m ≤ 600 := by have := hlen.out; omega
            have e1 := elide_le sole _ l (Nat.le_refl _)
            have e2 := elide_le sole _ (flush l) (Nat.le_refl _)
            obtain ⟨m1, hm1⟩ : ∃ m1, (elide sole l).length = m1 := ⟨_, rfl⟩
            obtain ⟨m2, hm2'⟩ : ∃ m2, (elide sole (flush l)).length = m2 := ⟨_, rfl⟩
            have hm1b : m1 ≤ 200000 := by have := hlen.out; omega
            have hm2b : m2 ≤ 200000 := by omega
            have hn1 : n1 ≤ 65536 := by omega
            have hmm : m ≤ 65536 := by omega
            have M1 := Lib.hid hm1
            have M2 := Lib.hid hm2'
            have S0 : SE w b (o + k * 3) w3.heap.size x y A1 A2 As n1 c1 m c ns cs l (flush l) sole (w3.alloc (.cells #[.int .i64 x, .int .i64 y, .slice A2 m c] 24)) := by
              have hb4 := hb3.trans ((below_al w3 (.cells #[.int .i64 x, .int .i64 y, .slice A2 m c] 24)).mono hb3.size)
              have h2 : Vr (w3.alloc (.cells #[.int .i64 x, .int .i64 y, .slice A2 m c] 24)) w3.heap.size x y A2 m c := vr_new _ _ _ _ _ _ _ _ rfl
              exact ⟨⟨(hb4.cell (p := ⟨b, o + k * 3, none⟩) hb).trans s0, (hb4.cell (p := ⟨b, o + k * 3 + 1, none⟩) hb).trans s1, (hb4.cell (p := ⟨b, o + k * 3 + 2, none⟩) hb).trans s2, h2.c0, h2.c1, h2.c2⟩, ⟨HI.out.keep hb4, hI2.keep (below_al _ _), HS1.out.keep hb4⟩, hbel.trans (hb4.mono hsz)⟩
            have S0 := Lib.hid (S0.keep ((Below.refl _ _).drew))
            have t0 := (hb3.cell (p := ⟨b, o + k * 3, none⟩) hb).trans s0
            have t1 := (hb3.cell (p := ⟨b, o + k * 3 + 1, none⟩) hb).trans s1
            have t2 := (hb3.cell (p := ⟨b, o + k * 3 + 2, none⟩) hb).trans s2
            clear hm hm2 hown e1 e2 hm1 hm2'
            have hI2 := Lib.hid hI2
            go_wp2_with fail
            generalize (w3.alloc (.cells #[.int .i64 x, .int .i64 y, .slice A2 m c] 24)) = wb at *
            generalize w3.heap.size = q at *
            have SB := S0.out
            clear S0 t0 t1 t2 s0 s1 s2
            have j1 : (0 : Int) ≤ k := by omega
            go_region_held3 (fun w' => (w'.cell? ⟨b, o + k * 3, none⟩ = some (.int .i64 x) ∧ w'.cell? ⟨b, o + k * 3 + 1, none⟩ = some (.int .i64 y) ∧ w'.cell? ⟨b, o + k * 3 + 2, none⟩ = some (.slice A1 n1 c1) ∧ w'.cell? ⟨q, 0, none⟩ = some (.int .i64 x) ∧ w'.cell? ⟨q, 1, none⟩ = some (.int .i64 y) ∧ w'.cell? ⟨q, 2, none⟩ = some (.slice A2 m c)) ∧
                (IsSt w' A1 n1 c1 l ∧ IsSt w' A2 m c (flush l) ∧ IsBo w' As ns cs sole) ∧ Below w.heap.size w w') (with_reducible assumption)
              (first
                | (go_at_call 36; with_reducible refine (elide1_S w b (o + k * 3) q x y A1 A2 As n1 c1 m c ns cs m1 l (flush l) sole _ (by with_reducible assumption) hn1 M1.out).mono ?_; rintro e wx ⟨A3, c3, rfl, I3, SC⟩)
                | (go_at_call 37; with_reducible refine (relide1_S w b (o + k * 3) q x y A1 A2 As n1 c1 m c ns cs m1 l (flush l) sole _ (by with_reducible assumption) hn1 M1.out).mono ?_; rintro e wx ⟨A4, c4, rfl, I4, hb4, SC⟩; have I3 := I3.keep hb4)
                | (go_at_call 18; with_reducible refine (sameE_S w b (o + k * 3) q x y A1 A2 As A3 A4 n1 c1 m c ns cs m1 c3 c4 l (flush l) (elide sole l) sole _ (by with_reducible assumption) I3 I4 hm1b).mono ?_; rintro e wx ⟨rfl, SC⟩)
                | (go_at_call 36; with_reducible refine (elide2_S w b (o + k * 3) q x y A1 A2 As n1 c1 m c ns cs m2 l (flush l) sole _ (by with_reducible assumption) hmm M2.out).mono ?_; rintro e wx ⟨A5, c5, rfl, I5, SC⟩)
                | (go_at_call 37; with_reducible refine (relide2_S w b (o + k * 3) q x y A1 A2 As n1 c1 m c ns cs m2 l (flush l) sole _ (by with_reducible assumption) hmm M2.out).mono ?_; rintro e wx ⟨A6, c6, rfl, I6, hb6, SC⟩; have I5 := I5.keep hb6)
                | (go_at_call 18; with_reducible refine (sameE_S w b (o + k * 3) q x y A1 A2 As A5 A6 n1 c1 m c ns cs m2 c5 c6 l (flush l) (elide sole (flush l)) sole _ (by with_reducible assumption) I5 I6 hm2b).mono ?_; rintro e wx ⟨rfl, SC⟩))
            go_wp2_with fail
            go_roundw
            case rel => exact ⟨k + 1, by omega, by go_num, HN2.out hn1, SC.2.2⟩
            case measure => simp [intOf]; omega
          · go_wp2_with fail
            go_ret
            exact ⟨rfl, hbel⟩
        · obtain rfl : k = n := by omega
          go_wp2_with fail
          refine (sole_any A k cap cells ls _ HC1.out (by omega) HN.out).mono ?_
          rintro e w3 ⟨A3, m3, c3, rfl, hown3, hb3⟩
          have hI3 := Lib.hid (isBo_own hown3)
          clear hown3
          go_wp2_with fail
          refine (rsole_any A k cap cells ls _ (HC1.out.keep hb3) (by omega) HN.out).mono ?_
          rintro e w4 ⟨A4, m4, c4, rfl, hown4, hb4⟩
          have hI4 := isBo_own hown4
          have hm : m3 = m4 := by have := hI3.out.1; have := hI4.1; omega
          subst hm
          have hm3 : m3 ≤ 200000 := by have := hI4.1; unfold soles solesN at this; simp at this; unfold cutN at this; omega
          clear hown4
          go_wp2_with fail
          refine (samebo_any A3 A4 m3 c3 c4 _ _ (hI3.out.keep hb4) hI4 hm3).mono ?_
          rintro e w5 ⟨rfl, hb5⟩
          go_wp2_with fail
          go_ret
          exact ⟨rfl, hbel.trans ((hb3.trans ((hb4.trans (hb5.mono hb4.size)).mono hb3.size)).mono hsz)⟩
    · go_enter Try.func8, Try.ntmps8
      go_wp2_with fail
      refine (alive16_any _).mono ?_
      rintro e w2 ⟨rfl, hb2⟩
      go_wp2_with fail
      go_ret
      exact ⟨rfl, hb2⟩
  · go_enter Try.func8, Try.ntmps8
    go_wp2_with fail
    refine (alive16_any _).mono ?_
    rintro e w2 ⟨rfl, hb2⟩
    go_wp2_with fail
    go_ret
    exact ⟨rfl, hb2⟩
end Go.Proofs.Ytdhihmeknoofoaa.ElC
