/-
  WALK: the program's run of steps: up to9 and behind the next action.
-/
import Derived.Test.YtapnnbbbgopobaaPrgQuiet
import Derived.Shelf.Slices.Clone
set_option linter.unusedVariables false
set_option linter.unusedSimpArgs false
namespace Go.Proofs.Ytapnnbbbgopobaa.Pr
open Go.RowKit Cm Mm Ow Ow2 Me Stp StW Rm Sp Sr Pn Pa Pq
open Sc (Stc)
theorem goV_end {c : List St} {k : Nat} {p : Ps} {s : St} (hs : c.getD p.at_ zeroSt = s) (hp : p.at_ < c.length) (hk : s.kind = 12) : goV c (k + 1) p = (1, { p with at_ := c.length }) := by
  rw [Sg.goV_quiet hs hp (by rw [hk]; rfl)]
  obtain ⟨a, v, now, out⟩ := p
  rw [Sg.quiet12 hk]
  exact goV_done _ _ _ (Nat.le_refl _)
theorem quiet_u {c : List St} {s : St} {p : Ps} (hs : isU s.n) (hv : ∀ z ∈ p.v, isU z) : ∀ z ∈ (quietV c s p).v, isU z := by
  unfold quietV
  repeat' split
  · exact putV_u hv _ _ hs
  · exact putV_u hv _ _ (getV_u hv _)
  · exact putV_u hv _ _ (opV_u _ _ _)
  all_goals exact hv
theorem rd_u {now : List Int} (h : ∀ z ∈ now, isU z) (o : Option Nat) : isU (rd now o) := by
  cases o with
  | none => exact (⟨by decide, by decide⟩ : isU 0)
  | some i =>
    show isU (now.getD i 0)
    by_cases hi : i < now.length
    · refine h _ ?_
      simp [List.getD, hi]
    · simp [List.getD, Nat.le_of_not_lt hi]
      exact ⟨by decide, by decide⟩
theorem act_u {s : St} {p : Ps} (hn : ∀ z ∈ p.now, isU z) (hv : ∀ z ∈ p.v, isU z) : ∀ z ∈ (actV s p).v, isU z := by
  have hb : ∀ c : Bool, isU (bitV c) := fun c => by cases c <;> exact ⟨by decide, by decide⟩
  unfold actV
  repeat' split
  · exact hv
  · exact putV_u hv _ _ (rd_u hn _)
  · exact hv
  · exact putV_u hv _ _ (hb _)
  · exact putV_u hv _ _ (hb _)
  · exact hv
def PGone (w : World) (q p : Nat) (H : Hp) (Fm Fo Fl : List Nat) (x y : Int) (A : Option Addr) (n cap : Nat) (V : Option Addr) (cv : Nat) (B : Option Addr) (bc : Nat) (r : Nat × Ps) (e : Ending) (w' : World) : Prop :=
  e = .returned (.int .i64 (r.1 : Int)) ∧ ∃ Fo' O' oc' a', Fop w' q { H with ill := H.ill || (r.1 == 2) } Fm Fo' B bc O' oc' r.2.now r.2.out ∧ ThAt w' p Fl x y A n cap V cv r.2.v a' (r.1 : Int) ∧ (r.1 = 0 → a' = (r.2.at_ : Int)) ∧ (∀ z ∈ r.2.v, isU z) ∧ Only (q :: (Fm ++ Fo ++ Fl)) w w' ∧ (∀ k ∈ Fo', k ∈ Fo ∨ w.heap.size ≤ k)
theorem hp_id (H : Hp) : ({ H with ill := H.ill || false } : Hp) = H := by cases H; simp
theorem hp_ill (H : Hp) : ({ H with ill := H.ill || true } : Hp) = { H with ill := true } := by cases H; simp
theorem fop_set {w : World} {q : Nat} {H H' : Hp} {Fm Fo : List Nat} {B : Option Addr} {bc : Nat} {O : Option Addr} {oc : Nat} {now out : List Int} (h : Fop w q H Fm Fo B bc O oc now out) (i : Nat) (u : Value)
    (hu : (#[H.s0, H.s1, H.s2, H.l, .slice B now.length bc, .slice O out.length oc, H.rc, H.th, .bool H.sd, .bool H.ill] : Array Value).setIfInBounds i u = #[H'.s0, H'.s1, H'.s2, H'.l, .slice B now.length bc, .slice O out.length oc, H'.rc, H'.th, .bool H'.sd, .bool H'.ill]) :
    Fop (w.setCell ⟨q, i, none⟩ u) q H' Fm Fo B bc O oc now out ∧ Only [q] w (w.setCell ⟨q, i, none⟩ u) := by
  have ho : Only [q] w (w.setCell ⟨q, i, none⟩ u) := (Only.refl _ _).setCell (by simp) _
  refine ⟨⟨?_, ho.row h.mrow (fun g hg hm => h.qm (by rw [← List.mem_singleton.1 hm]; exact h.mF g hg)), h.mF, Sa.own_only h.row ho (fun g hg hm => h.qo (by rw [← List.mem_singleton.1 hm]; exact h.oF g hg)), h.oF, Nat.lt_of_lt_of_le h.qlt ho.size, fun k hk => Nat.lt_of_lt_of_le (h.mLt k hk) ho.size, fun k hk => Nat.lt_of_lt_of_le (h.oLt k hk) ho.size, h.qm, h.qo, h.mo, h.small, h.nu⟩, ho⟩
  have hd := h.head
  unfold rnO at hd ⊢
  simp only [World.setCell, Array.getElem?_modify, hd, if_true, Option.map_some]
  rw [← hu]
  rfl
structure Rdp (w wr : World) (q p : Nat) (H : Hp) (Fm Fo Fl : List Nat) (B : Option Addr) (bc : Nat) (O : Option Addr) (oc : Nat) (now out : List Int) (x y : Int) (A : Option Addr) (n cap : Nat) (V : Option Addr) (cv : Nat) (v : List Int) (a : Nat) (c : List St) (r : Nat × Ps) (k : Nat) : Prop where
  F : Fop wr q H Fm Fo B bc O oc now out
  L : ThAt wr p Fl x y A n cap V cv v a 0
  C : IsSt wr A n cap c
  Oy : Only Fl w wr
  le : a ≤ n
  eq : r = goV c (20000 - k) ⟨a, v, now, out⟩
  u : ∀ z ∈ v, isU z
set_option maxRecDepth 200000 in
set_option maxHeartbeats 12800000 in
theorem prun_any {w : World} {q p : Nat} {H : Hp} {Fm Fo Fl : List Nat} {B : Option Addr} {bc : Nat} {O : Option Addr} {oc : Nat} {now out : List Int} {x y : Int} {A : Option Addr} {n cap : Nat} {V : Option Addr} {cv : Nat} {v : List Int} {a : Nat} {c : List St}
    (hF : Fop w q H Fm Fo B bc O oc now out) (hL : ThAt w p Fl x y A n cap V cv v a 0) (hC : IsSt w A n cap c) (hcu : ∀ s ∈ c, isU s.n) (hvu : ∀ z ∈ v, isU z) (hql : q ∉ Fl) (hml : ∀ k ∈ Fm, k ∉ Fl) (hol : ∀ k ∈ Fo, k ∉ Fl) (hA : 0 < n → ∀ g, A.map (·.block) = some g → g ∉ Fl) (hout : out.length ≤ 1000000) (hn : n ≤ 65536) (ha : a ≤ n) :
    Calls Try.prog 39 #[.pointer (some ⟨q, 0, none⟩), .pointer (some ⟨p, 0, none⟩)] w (PGone w q p H Fm Fo Fl x y A n cap V cv B bc (goV c 20000 ⟨a, v, now, out⟩)) := by
  have DQ := Lib.hid hql
  have DM := Lib.hid hml
  have DO := Lib.hid hol
  have DA := Lib.hid hA
  have CU := Lib.hid hcu
  have hl := Lib.hid hC.1
  have RR : Hid (Rdp w w q p H Fm Fo Fl B bc O oc now out x y A n cap V cv v a c (goV c 20000 ⟨a, v, now, out⟩) 0) := Lib.hid ⟨hF, hL, hC, Only.refl _ _, ha, rfl, hvu⟩
  have hn2 : (n : Int) ≤ 65536 := by omega
  have hwq := hF.qlt
  have QM := Lib.hid hF.mLt
  have QO := Lib.hid hF.oLt
  have QL := Lib.hid hL.lt
  have PF := Lib.hid hL.pF
  generalize goV c 20000 ⟨a, v, now, out⟩ = r at *
  clear hF hL hC hcu hvu hql hml hol hA ha
  go_enter Try.func39, Try.ntmps39
  go_wp2_with fail
  go_loopw [5] (fun i wr => ∃ (k : Nat), i = .int .i64 k ∧ ((k ≤ 20000 ∧ ∃ (v : List Int) (a : Nat), Rdp w wr q p H Fm Fo Fl B bc O oc now out x y A n cap V cv v a c r k) ∨ (k ≤ 20001 ∧ (((r.1 : Nat) : Int) == 0) = false ∧ PGone w q p H Fm Fo Fl x y A n cap V cv B bc r (.returned (.int .i64 (r.1 : Int))) wr ∧ wr.cell? ⟨p, 5, none⟩ = some (.int .i64 (r.1 : Int))))) (fun i _ => 20002 - (intOf i).toNat)
  case atStart => exact ⟨0, rfl, .inl ⟨by omega, v, a, RR.out⟩⟩
  case round =>
    obtain ⟨k, rfl, ⟨hk, v, a, hR⟩ | ⟨hk, hr0, hG, hc5⟩⟩ := hrel
    rotate_left
    · have GG := Lib.hid hG
      clear hG RR
      go_wp2_with fail
      go_ret
      exact GG.out
    have HR := Lib.hid hR
    have hae := hR.le
    clear hR RR
    have g2 := HR.out.L.c2
    have g4 := HR.out.L.c4
    have g5 := HR.out.L.c5
    by_cases hna : n ≤ a
    · have h1 : decide ((n : Int) ≤ (a : Int)) = true := decide_eq_true (by omega)
      have e1 : r = (1, ⟨a, v, now, out⟩) := by rw [HR.out.eq]; exact goV_done _ _ _ (by rw [hl.out]; exact hna)
      have E1 := Lib.hid e1
      clear e1
      go_wp2_with fail
      go_quiet (fail)
      have B2 := below_drawn wr nq
      obtain ⟨w2, hw2⟩ : ∃ w2, wr.drewN nq = w2 := ⟨_, rfl⟩
      rw [hw2] at B2 ⊢
      have L2 := HR.out.L.keep B2
      have F2 := Lib.hid (HR.out.F.keep B2)
      have O2 : Hid (Only Fl w w2) := Lib.hid (HR.out.Oy.seq (Only.of_below B2))
      clear g2 g4 g5 hw2
      have g5 := L2.c5
      have fp := L2.free
      have T := L2.set 5 (.int .i64 1) (a' := a) (st' := 1) rfl
      have g52 := Lib.hid T.1.c5
      have HO : Only Fl w2 (w2.setCell ⟨p, 5, none⟩ (.int .i64 1)) := T.2.more (fun k hk => by rw [List.mem_singleton.1 hk]; exact PF.out)
      have G3 := Lib.hid (show PGone w q p H Fm Fo Fl x y A n cap V cv B bc r (.returned (.int .i64 (r.1 : Int))) (w2.setCell ⟨p, 5, none⟩ (.int .i64 1)) from by
        rw [E1.out]
        refine ⟨rfl, Fo, O, oc, a, ?_, T.1, fun h => absurd (show (1 : Nat) = 0 from h) (by decide), HR.out.u, (O2.out.seq HO).more (fun k hk => by simp [hk]), fun k hk => .inl hk⟩
        show Fop _ q { H with ill := H.ill || false } _ _ _ _ _ _ _ _
        rw [hp_id]
        exact F2.out.far HO DQ.out DM.out DO.out)
      clear L2 T HO B2
      go_wp2_with fail
      go_roundw
      case rel => exact ⟨k + 1, by go_num, .inr ⟨by omega, by rw [E1.out]; rfl, G3.out, by rw [E1.out]; exact g52.out⟩⟩
      case measure => simp [intOf]; omega
    · have h1 : decide ((n : Int) ≤ (a : Int)) = false := decide_eq_false (by omega)
      obtain ⟨b, o, hAe, hb, z0, z1, z2, z3, z4, z5, z6, z7, z8⟩ := HR.out.C.cell (k := a) (by omega)
      have DAb := Lib.hid (DA.out (by omega) b (by rw [hAe]; rfl))
      obtain ⟨s, hs⟩ : ∃ s, c.getD a zeroSt = s := ⟨_, rfl⟩
      have HS := Lib.hid hs
      have US := Lib.hid (CU.out s (by rw [← hs]; simp [List.getD, show a < c.length by have := hl.out; omega]))
      rw [hs] at z0 z1 z2 z3 z4 z5 z6 z7 z8
      clear hs
      have a1 : (a : Int) < n := by omega
      have a2 : (0 : Int) ≤ (a : Int) := by omega
      have HAE := Lib.hid hAe
      subst hAe
      by_cases hk2 : k = 20000
      · subst hk2
        have e1 : r = (2, ⟨a, v, now, out⟩) := by rw [HR.out.eq]; exact Sg.goV_stuck (by rw [hl.out]; show a < n; omega)
        have E1 := Lib.hid e1
        clear e1
        cases b12 : (s.kind == 12)
        all_goals
          go_wp2_with fail
          go_quiet (fail)
          have B2 := below_drawn wr nq
          obtain ⟨w2, hw2⟩ : ∃ w2, wr.drewN nq = w2 := ⟨_, rfl⟩
          rw [hw2] at B2 ⊢
          have L2 := HR.out.L.keep B2
          have F2 := Lib.hid (HR.out.F.keep B2)
          have O2 : Hid (Only Fl w w2) := Lib.hid (HR.out.Oy.seq (Only.of_below B2))
          clear g2 g4 g5 hw2 z0 z1 z2 z3 z4 z5 z6 z7 z8
          have g5 := L2.c5
          have fp := L2.free
          have T := L2.set 5 (.int .i64 2) (a' := a) (st' := 2) rfl
          have HO : Only Fl w2 (w2.setCell ⟨p, 5, none⟩ (.int .i64 2)) := T.2.more (fun k hk => by rw [List.mem_singleton.1 hk]; exact PF.out)
          have F3 := F2.out.far HO DQ.out DM.out DO.out
          have g9 := F3.cs.2.2.2.2.2.2.2.2.2
          have fq := F3.free'
          have F4 := fop_set F3 9 (.bool true) (H' := { H with ill := true }) rfl
          have L4 := T.1.far F4.2 (fun k hk hm => DQ.out (by rw [← List.mem_singleton.1 hm]; exact hk))
          have g52 := Lib.hid L4.c5
          have G3 := Lib.hid (show PGone w q p H Fm Fo Fl x y (some ⟨b, o, none⟩) n cap V cv B bc r (.returned (.int .i64 (r.1 : Int))) ((w2.setCell ⟨p, 5, none⟩ (.int .i64 2)).setCell ⟨q, 9, none⟩ (.bool true)) from by
            rw [E1.out]
            refine ⟨rfl, Fo, O, oc, a, ?_, L4, fun h => absurd (show (2 : Nat) = 0 from h) (by decide), HR.out.u, ((O2.out.seq HO).more (F' := q :: (Fm ++ Fo ++ Fl)) (fun k hk => by simp [hk])).seq (F4.2.more (fun k hk => by rw [List.mem_singleton.1 hk]; simp)), fun k hk => .inl hk⟩
            show Fop _ q { H with ill := H.ill || true } _ _ _ _ _ _ _ _
            rw [hp_ill]
            exact F4.1)
          clear L2 T HO B2 F3 F4 L4
          go_wp2_with fail
          go_roundw
          case rel => exact ⟨20001, by go_num, .inr ⟨by omega, by rw [E1.out]; rfl, G3.out, by rw [E1.out]; exact g52.out⟩⟩
          case measure => simp [intOf]
      · have k1 : (k : Int) < 20000 := by omega
        have k2 : ((k : Int) == 20000) = false := by rw [beq_eq_false_iff_ne]; omega
        by_cases hk12 : s.kind = 12
        · have b12 : (s.kind == 12) = true := by rw [hk12]; rfl
          have e1 : r = (1, ⟨c.length, v, now, out⟩) := by
            rw [HR.out.eq, show 20000 - k = (20000 - (k + 1)) + 1 by omega]
            exact goV_end HS.out (by rw [hl.out]; show a < n; omega) hk12
          have E1 := Lib.hid e1
          clear e1 hk12
          go_wp2_with fail
          go_quiet (fail)
          have B2 := below_drawn wr nq
          obtain ⟨w2, hw2⟩ : ∃ w2, wr.drewN nq = w2 := ⟨_, rfl⟩
          rw [hw2] at B2 ⊢
          have L2 := HR.out.L.keep B2
          have F2 := Lib.hid (HR.out.F.keep B2)
          have O2 : Hid (Only Fl w w2) := Lib.hid (HR.out.Oy.seq (Only.of_below B2))
          clear g2 g4 g5 hw2 z0 z1 z2 z3 z4 z5 z6 z7 z8
          have g5 := L2.c5
          have fp := L2.free
          have T := L2.set 5 (.int .i64 1) (a' := a) (st' := 1) rfl
          have g52 := Lib.hid T.1.c5
          have HO : Only Fl w2 (w2.setCell ⟨p, 5, none⟩ (.int .i64 1)) := T.2.more (fun k hk => by rw [List.mem_singleton.1 hk]; exact PF.out)
          have G3 := Lib.hid (show PGone w q p H Fm Fo Fl x y (some ⟨b, o, none⟩) n cap V cv B bc r (.returned (.int .i64 (r.1 : Int))) (w2.setCell ⟨p, 5, none⟩ (.int .i64 1)) from by
            rw [E1.out]
            refine ⟨rfl, Fo, O, oc, a, ?_, T.1, fun h => absurd (show (1 : Nat) = 0 from h) (by decide), HR.out.u, (O2.out.seq HO).more (fun k hk => by simp [hk]), fun k hk => .inl hk⟩
            show Fop _ q { H with ill := H.ill || false } _ _ _ _ _ _ _ _
            rw [hp_id]
            exact F2.out.far HO DQ.out DM.out DO.out)
          clear L2 T HO B2
          go_wp2_with fail
          go_roundw
          case rel => exact ⟨k + 1, by go_num, .inr ⟨by omega, by rw [E1.out]; rfl, G3.out, by rw [E1.out]; exact g52.out⟩⟩
          case measure => simp [intOf]; omega
        · have b12 : (s.kind == 12) = false := by rw [beq_eq_false_iff_ne]; exact hk12
          have QE : Hid (isAct s.kind = false → r = goV c (20000 - (k + 1)) (quietV c s ⟨a + 1, v, now, out⟩)) := Lib.hid (fun hq => by
            rw [HR.out.eq, show 20000 - k = (20000 - (k + 1)) + 1 by omega]
            exact Sg.goV_quiet HS.out (by rw [hl.out]; show a < n; omega) hq)
          have AE : Hid (isAct s.kind = true → r = (0, actV s ⟨a + 1, v, now, out⟩)) := Lib.hid (fun hq => by
            rw [HR.out.eq, show 20000 - k = (20000 - (k + 1)) + 1 by omega]
            exact Sg.goV_act HS.out (by rw [hl.out]; show a < n; omega) hq)
          have N12 := Lib.hid hk12
          clear hk12
          go_wp2_with fail
          go_quiet (fail)
          have B2 := below_drawn wr nq
          obtain ⟨w2, hw2⟩ : ∃ w2, wr.drewN nq = w2 := ⟨_, rfl⟩
          rw [hw2] at B2 ⊢
          have k0 : ∀ (g oo : Nat) (u : Value), wr.cell? ⟨g, oo, none⟩ = some u → w2.cell? ⟨g, oo, none⟩ = some u := fun g oo u hu => by rw [← hw2]; exact hu
          have y0 := k0 _ _ _ z0
          have y1 := k0 _ _ _ z1
          have y2 := k0 _ _ _ z2
          have y3 := k0 _ _ _ z3
          have y4 := k0 _ _ _ z4
          have y5 := k0 _ _ _ z5
          have y6 := k0 _ _ _ z6
          have y7 := k0 _ _ _ z7
          have y8 := k0 _ _ _ z8
          have h2 := k0 _ _ _ g2
          have h4 := k0 _ _ _ g4
          have L2 := Lib.hid (HR.out.L.keep B2)
          have F2 := Lib.hid (HR.out.F.keep B2)
          have C2 := Lib.hid (HR.out.C.keep B2)
          have O2 : Hid (Only Fl w w2) := Lib.hid (HR.out.Oy.seq (Only.of_below B2))
          have HU := Lib.hid HR.out.u
          have hb2 : b < w2.heap.size := Nat.lt_of_lt_of_le hb B2.size
          clear g2 g4 g5 hw2 z0 z1 z2 z3 z4 z5 z6 z7 z8 k0 B2 HR
          have BD : Hid (Below w2.heap.size w2 w2.drew) := Lib.hid ((Below.refl _ _).drew)
          have LD := Lib.hid (L2.out.keep BD.out)
          have FD := Lib.hid (F2.out.keep BD.out)
          have CD := Lib.hid (C2.out.keep BD.out)
          have OD : Hid (Only Fl w w2.drew) := Lib.hid (O2.out.seq (Only.of_below BD.out))
          have ha6 : a ≤ 65536 := by omega
          go_wp2_with fail
          go_still_tail 13, (by kernel_rfl)
          go_wp2_with fail
          cases hact : isAct s.kind
          · refine (pact_no s FD.out LD.out HU.out hact).mono ?_
            rintro e w3 ⟨rfl, hb3⟩
            have L3 := Lib.hid (LD.out.keep hb3)
            have F3 := Lib.hid (FD.out.keep hb3)
            have C3 := Lib.hid (CD.out.keep hb3)
            have O3 := Lib.hid (OD.out.seq (Only.of_below hb3))
            have kk : ∀ (oo : Nat) (u : Value), w2.cell? ⟨b, oo, none⟩ = some u → w3.cell? ⟨b, oo, none⟩ = some u := fun oo u hu => (hb3.cell (p := ⟨b, oo, none⟩) hb2).trans hu
            have y0 := kk _ _ y0
            have y1 := kk _ _ y1
            have y2 := kk _ _ y2
            have y3 := kk _ _ y3
            have y4 := kk _ _ y4
            have y5 := kk _ _ y5
            have y6 := kk _ _ y6
            have y7 := kk _ _ y7
            have y8 := kk _ _ y8
            have h2 := L3.out.c2
            have h4 := L3.out.c4
            have HQ := Lib.hid hact
            have BD3 : Hid (Below w3.heap.size w3 w3.drew) := Lib.hid ((Below.refl _ _).drew)
            have LD3 := Lib.hid (L3.out.keep BD3.out)
            have FD3 := Lib.hid (F3.out.keep BD3.out)
            have CD3 := Lib.hid (C3.out.keep BD3.out)
            have OD3 : Hid (Only Fl w w3.drew) := Lib.hid (O3.out.seq (Only.of_below BD3.out))
            clear hb3 hact kk
            go_wp2_with fail
            go_still_tail 12, (by kernel_rfl)
            go_wp2_with fail
            refine (pquiet_any (now := now) (out := out) s LD3.out CD3.out (fun _ g hg => by cases hg; exact DAb.out) hn ha6 HQ.out N12.out).mono ?_
            rintro e w4 ⟨rfl, hL4, hO4⟩
            have E4 := QE.out HQ.out
            have hle : (quietV c s ⟨a + 1, v, now, out⟩).at_ ≤ n := by rw [← hl.out]; exact Sg.quietV_at _ _ _ (by rw [hl.out]; show a + 1 ≤ n; omega)
            obtain ⟨e5, e6⟩ := Sg.quietV_now c s ⟨a + 1, v, now, out⟩
            have hu4 := quiet_u (c := c) (s := s) (p := ⟨a + 1, v, now, out⟩) US.out HU.out
            have F4 := FD3.out.far hO4 DQ.out DM.out DO.out
            have C4 := isSt_only0 CD3.out hO4 (fun _ g hg => by cases hg; exact DAb.out)
            have R4 : Hid (Rdp w w4 q p H Fm Fo Fl B bc O oc now out x y (some ⟨b, o, none⟩) n cap V cv (quietV c s ⟨a + 1, v, now, out⟩).v (quietV c s ⟨a + 1, v, now, out⟩).at_ c r (k + 1)) := Lib.hid
              ⟨F4, hL4, C4, OD3.out.seq hO4, hle, by
                rw [E4]
                generalize hqq : quietV c s ⟨a + 1, v, now, out⟩ = qq at e5 e6 ⊢
                obtain ⟨qa, qv, qn, qo⟩ := qq
                dsimp only at e5 e6 ⊢
                rw [e5, e6], hu4⟩
            clear hL4 hO4 E4 hle e5 e6 hu4 F4 C4
            go_wp2_with fail
            go_roundw
            case rel => exact ⟨k + 1, by go_num, .inl ⟨by omega, _, _, R4.out⟩⟩
            case measure => simp [intOf]; omega
          · refine (pact_any s FD.out LD.out HU.out DQ.out DM.out DO.out hout ha6 hact).mono ?_
            rintro e w3 ⟨rfl, Fo', O', oc', hF3, hL3, hO3, hS3⟩
            have e1 := AE.out hact
            have G3 := Lib.hid (show PGone w q p H Fm Fo Fl x y (some ⟨b, o, none⟩) n cap V cv B bc r (.returned (.int .i64 0)) w3 from by
              rw [e1]
              refine ⟨rfl, Fo', O', oc', _, ?_, hL3, fun _ => rfl, act_u (p := ⟨a + 1, v, now, out⟩) F2.out.nu HU.out, (OD.out.more (fun k hk => by simp [hk])).seq hO3, fun k hk => ?_⟩
              · show Fop w3 q { H with ill := H.ill || false } _ _ _ _ _ _ _ _
                rw [hp_id]
                exact hF3
              · rcases hS3 k hk with h | h
                · exact .inl h
                · exact .inr (Nat.le_trans OD.out.size h))
            clear hF3 hL3 hO3 hS3 e1 hact
            go_wp2_with fail
            go_ret
            exact G3.out
end Go.Proofs.Ytapnnbbbgopobaa.Pr
namespace Go.Proofs.Ytapnnbbbgopobaa.Pm
open Go.RowKit Cm Mm Ow Ow2 Me Stp StW Rm Sp Sd Sx Sr Pn Pa Pq Pr
open ElM (Cd zeroCd cdL okCd IsCd)
theorem elems_of (l : List Int) : List.map (fun i => [uw (l.getD i 0)]) (List.range l.length) = (l.map uw).map fun v => [v] := by
  refine List.ext_getElem (by simp) (fun i h1 h2 => ?_)
  simp at h1
  simp [List.getD, h1]
theorem uclone_any (A : Option Addr) (n c : Nat) (l : List Int) (w : World) (h : IsU w A n c l) (hn : n ≤ 1000000) :
    Calls Try.prog 42 #[.slice A n c] w (GaveU w l) := by
  have hsl := Lib.hid h.2
  have hl := h.1
  have HG := Lib.hid (show ∀ (A : Option Addr) (c : Nat) (w' : World), Own w' w.heap.size 53 1 A n c (List.map (fun i => [uw (l.getD i 0)]) (List.range n)) → Below w.heap.size w w' → GaveU w l (.returned (.slice A n c)) w' from fun A c w' ho hb => ⟨A, n, c, rfl, row_of_own (by rw [← hl, elems_of] at ho; rw [hl] at ho; exact ho), hb⟩)
  have he := fun wx => Lib.run_eql_slice_nil (P := Try.prog) wx 50 53 A n c 0 0 Try.underlying50
  cases A with
  | none =>
    have h0 : n = 0 := by
      rcases Nat.eq_zero_or_pos n with h0 | h0
      · exact h0
      · obtain ⟨b, o, e, _⟩ := h.2.at_ h0
        cases e
    subst h0
    obtain rfl : l = [] := List.eq_nil_of_length_eq_zero hl
    clear hsl hl HG h
    go_enter Try.func42, Try.ntmps42
    go_wp2_with fail
    go_ret
    exact ⟨none, 0, 0, rfl, World.ownsRow_nil _ _ _ _, Below.refl _ _⟩
  | some ad =>
    clear hl h
    have hO : Own (w.alloc (.cells #[] 53)) w.heap.size 53 1 (some ⟨w.heap.size, 0, none⟩) 0 0 [] :=
      ⟨rfl, fun x h => by simp at h, World.ownsRow_made w #[] 0 (Nat.le_refl _) (by unfold maxLen; omega) rfl⟩
    have HO := Lib.hid hO; clear hO
    have hB : Below w.heap.size w (w.alloc (.cells #[] 53)) := (Below.refl _ _).alloc (Nat.le_refl _) _
    have hs2 := Lib.hid (hsl.out.keep hB)
    go_enter Try.func42, Try.ntmps42
    go_wp2_with (at_builtin; refine wpList_app _ rfl _ _ rfl elU w.heap.size (some ⟨w.heap.size, 0, none⟩) 0 0 [] rfl HO.out (some ad) n c _ rfl hs2.out (fun _ _ => rfl) (fun _ _ u hu => by simp at hu; subst hu; rfl) (by unfold maxLen; omega) (by omega) (by simp) ?_; intro A2' c2' w2 hown hg hat)
    simp only [Nat.zero_add, List.nil_append] at hown
    go_ret
    exact HG.out _ _ _ (by simpa using hown) (hB.trans ((Below.refl _ _).grown hg (by simp) (fun k hk => by simp at hk; omega)))
def GaveSt (w : World) (l : List St) (n : Nat) (e : Ending) (w' : World) : Prop := ∃ A' c', e = .returned (.slice A' n c') ∧ Own w' w.heap.size 55 9 A' n c' (l.map stL) ∧ Below w.heap.size w w'
theorem st_range (l : List St) (n : Nat) (h : l.length = n) : List.map (fun i => stL (l.getD i zeroSt)) (List.range n) = l.map stL := by
  subst h
  refine List.ext_getElem (by simp) (fun i h1 h2 => ?_)
  simp at h1
  simp [List.getD, h1]
theorem sclone_any (A : Option Addr) (n c : Nat) (l : List St) (w : World) (h : IsSt w A n c l) (hn : n ≤ 65536) :
    Calls Try.prog 56 #[.slice A n c] w (GaveSt w l n) := by
  have hsl := Lib.hid h.2
  have hl := h.1
  have HR := Lib.hid (st_range l n hl)
  have he := fun wx => Lib.run_eql_slice_nil (P := Try.prog) wx 32 55 A n c 0 0 Try.underlying32
  cases A with
  | none =>
    have h0 : n = 0 := by
      rcases Nat.eq_zero_or_pos n with h0 | h0
      · exact h0
      · obtain ⟨b, o, e, _⟩ := h.2.at_ h0
        cases e
    subst h0
    obtain rfl : l = [] := List.eq_nil_of_length_eq_zero hl
    clear hsl hl HR h
    go_enter Try.func56, Try.ntmps56
    go_wp2_with fail
    go_ret
    exact ⟨none, 0, rfl, Own.nil _ _ _ _, Below.refl _ _⟩
  | some ad =>
    clear hl h
    have hO : Own (w.alloc (.cells #[] 55)) w.heap.size 55 9 (some ⟨w.heap.size, 0, none⟩) 0 0 [] :=
      ⟨rfl, fun x h => by simp at h, World.ownsRow_made w #[] 0 (Nat.le_refl _) (by unfold maxLen; omega) rfl⟩
    have HO := Lib.hid hO; clear hO
    have hB : Below w.heap.size w (w.alloc (.cells #[] 55)) := (Below.refl _ _).alloc (Nat.le_refl _) _
    have hs2 := Lib.hid (hsl.out.keep hB)
    go_enter Try.func56, Try.ntmps56
    go_wp2_with (at_builtin; refine wpList_app _ rfl _ _ rfl elSt w.heap.size (some ⟨w.heap.size, 0, none⟩) 0 0 [] rfl HO.out (some ad) n c _ rfl hs2.out (fun _ _ => rfl) (fun _ _ => st_one _) (by unfold maxLen; omega) (by omega) (by simp) ?_; intro A2' c2' w2 hown hg hat)
    simp only [Nat.zero_add, List.nil_append] at hown
    rw [HR.out] at hown
    go_ret
    exact ⟨A2', c2', by simp, hown, hB.trans ((Below.refl _ _).grown hg (by simp) (fun k hk => by simp at hk; omega))⟩
def GaveCd (w : World) (x y : Int) (l : List St) (n : Nat) (e : Ending) (w' : World) : Prop := ∃ A' c', e = .returned (.agg #[.int .i64 x, .int .i64 y, .slice A' n c']) ∧ Own w' w.heap.size 55 9 A' n c' (l.map stL) ∧ Below w.heap.size w w'
set_option maxHeartbeats 1600000 in
theorem cclone_any (x y : Int) (A : Option Addr) (n c : Nat) (l : List St) (w : World) (h : IsSt w A n c l) (hn : n ≤ 65536) :
    Calls Try.prog 34 #[.agg #[.int .i64 x, .int .i64 y, .slice A n c]] w (GaveCd w x y l n) := by
  obtain ⟨W, hW⟩ : ∃ W, W = (w.alloc (.cells #[.int .i64 x, .int .i64 y, .slice A n c] 34)).alloc (.cells #[.int .i64 0, .int .i64 0, .slice none 0 0] 34) := ⟨_, rfl⟩
  have hB : Below w.heap.size w W := by rw [hW]; go_grown
  have hWs : W.heap.size = w.heap.size + 1 + 1 := by rw [hW]; simp
  have HW := Lib.hid hW
  have HWs := Lib.hid hWs
  have hS := Lib.hid (h.keep hB)
  clear hWs hW h
  go_enter Try.func34, Try.ntmps34
  go_wp2_with fail
  rw [← HW.out]
  refine (sclone_any A n c l W hS.out hn).mono ?_
  rintro e wr ⟨A', c', rfl, HO, hbel⟩
  have hc1 : ∀ o, wr.cell? ⟨w.heap.size, o, none⟩ = W.cell? ⟨w.heap.size, o, none⟩ := fun o => hbel.cell (p := ⟨w.heap.size, o, none⟩) (by show w.heap.size < _; have := HWs.out; omega)
  have hc2 : ∀ o, wr.cell? ⟨w.heap.size + 1, o, none⟩ = W.cell? ⟨w.heap.size + 1, o, none⟩ := fun o => hbel.cell (p := ⟨w.heap.size + 1, o, none⟩) (by show w.heap.size + 1 < _; have := HWs.out; omega)
  have hf1 : ∀ o, wr.frozen? ⟨w.heap.size, o, none⟩ = W.frozen? ⟨w.heap.size, o, none⟩ := fun o => hbel.frozen (p := ⟨w.heap.size, o, none⟩) (by show w.heap.size < _; have := HWs.out; omega)
  have hf2 : ∀ o, wr.frozen? ⟨w.heap.size + 1, o, none⟩ = W.frozen? ⟨w.heap.size + 1, o, none⟩ := fun o => hbel.frozen (p := ⟨w.heap.size + 1, o, none⟩) (by show w.heap.size + 1 < _; have := HWs.out; omega)
  have hsz := hbel.size
  have hws := HWs.out
  simp only [HW.out] at hc1 hc2 hf1 hf2
  simp at hf1 hf2
  have HO2 := Lib.hid HO
  have HB2 := Lib.hid hbel
  have HB1 := Lib.hid hB
  clear HO hbel hB
  go_wp2_with fail
  refine bodyPost_ret (v := .agg #[.int .i64 x, .int .i64 y, .slice A' n c']) (by simp [results, Try.results34, go_sem, hc1, hc2]) rfl ?_
  exact ⟨A', c', rfl, (Ow2.own_set (Ow2.own_set (Ow2.own_set (Ow2.own_set HO2.out (by show w.heap.size < W.heap.size; omega) _) (by show w.heap.size + 1 < W.heap.size; omega) _) (by show w.heap.size + 1 < W.heap.size; omega) _) (by show w.heap.size + 1 < W.heap.size; omega) _).low (by omega), ((((HB1.out.trans (HB2.out.mono (by omega))).setCell (by simp) _).setCell (by simp) _).setCell (by simp) _).setCell (by simp) _⟩
end Go.Proofs.Ytapnnbbbgopobaa.Pm
namespace Go.Proofs.Ytapnnbbbgopobaa.Ph
open Go.RowKit Cm Mm Ow Ow2 Me Stp StW Rm Sp Sd Sx Sr Pn Pa Pq Pr Pm
open ElM (Cd zeroCd cdL okCd IsCd)
def CodeU (c : List St) : Prop := ∀ s ∈ c, isU s.n
def LnQ (w : World) (C : Nat → Prop) (u : Value) (F : List Nat) (a : Ln) : Prop :=
  ∃ p x y A n cap V cv at_ st, u = .pointer (some ⟨p, 0, none⟩) ∧ ThAt w p F x y A n cap V cv a.v at_ st ∧ Cod w C ⟨x, y, A, n, cap, a.c⟩ ∧ CodeU a.c ∧ (∀ z ∈ a.v, isU z) ∧ ((a.en = false ∧ st = 0 ∧ at_ = (a.at_ : Int) ∧ a.at_ ≤ n) ∨ (a.en = true ∧ st = 1 ∧ a.c.length ≤ a.at_))
theorem LnQ.far {w w' : World} {C : Nat → Prop} {u : Value} {F : List Nat} {a : Ln} {X : List Nat} (h : LnQ w C u F a) (ho : Only X w w') (hX : ∀ k ∈ X, ¬ C k) (hF : ∀ k ∈ F, k ∉ X) : LnQ w' C u F a := by
  obtain ⟨p, x, y, A, n, cap, V, cv, at_, st, rfl, h1, h2, h3⟩ := h
  exact ⟨p, x, y, A, n, cap, V, cv, at_, st, rfl, h1.far ho hF, h2.far ho hX, h3⟩
theorem LnQ.lt {w : World} {C : Nat → Prop} {u : Value} {F : List Nat} {a : Ln} (h : LnQ w C u F a) : ∀ k ∈ F, k < w.heap.size := by
  obtain ⟨p, x, y, A, n, cap, V, cv, at_, st, rfl, h1, h2, h3⟩ := h
  exact h1.lt
theorem LnQ.st (w : World) {C : Nat → Prop} {u : Value} {F : List Nat} {a : Ln} (h : LnQ w C u F a) : ∃ p, u = .pointer (some ⟨p, 0, none⟩) ∧ p ∈ F ∧ w.cell? ⟨p, 5, none⟩ = some (.int .i64 (if a.en then 1 else 0)) := by
  obtain ⟨p, x, y, A, n, cap, V, cv, at_, st, rfl, h1, h2, h3, h4, h5⟩ := h
  refine ⟨p, rfl, h1.pF, ?_⟩
  have := h1.c5
  rcases h5 with ⟨e1, e2, -⟩ | ⟨e1, e2, -⟩
  · rw [e2] at this; rw [e1]; exact this
  · rw [e2] at this; rw [e1]; exact this
structure Prq where
  H : Hp
  Fm : List Nat
  Fo : List Nat
  Fr : List Nat
  B : Option Addr
  bc : Nat
  O : Option Addr
  oc : Nat
  LA : Option Addr
  lc : Nat
  us : List (Value × List Nat)
  CA : Option Addr
  cc : Nat
  lab : Nat → Nat
structure RunQ (w : World) (q : Nat) (C : Nat → Prop) (G : List Nat) (s : Cd) (cs : List Cd) (rc : Ln) (sd : Bool) (tl : List Ln) (now out : List Int) (t : Prq) : Prop where
  foc : Fop w q t.H t.Fm t.Fo t.B t.bc t.O t.oc now out
  ill : t.H.ill = false
  hsd : t.H.sd = sd
  h0 : t.H.s0 = .int .i64 s.x
  h1 : t.H.s1 = .int .i64 s.y
  h2 : t.H.s2 = .slice s.A s.n s.cap
  h3 : t.H.l = .slice t.CA cs.length t.cc
  code : Cod w C s
  cu : CodeU s.l
  codes : IsCd w t.CA cs.length t.cc cs
  cod : ∀ i, i < cs.length → Cod w C (cs.getD i zeroCd)
  cus : ∀ i, i < cs.length → CodeU (cs.getD i zeroCd).l
  cf : 0 < cs.length → ∀ g, t.CA.map (·.block) = some g → C g
  rc : LnQ w C t.H.rc t.Fr rc
  hl : t.H.th = .slice t.LA tl.length t.lc
  lr : Own w 0 76 1 t.LA tl.length t.lc (t.us.map fun u => [u.1])
  ul : t.us.length = tl.length
  ll : ∀ i (h : i < tl.length), LnQ w C (t.us.getD i zeroU).1 (t.us.getD i zeroU).2 tl[i]
  lq : t.lab q = 0
  lm : ∀ k ∈ t.Fm, t.lab k = 1
  lo : ∀ k ∈ t.Fo, t.lab k = 2
  lf : ∀ k ∈ t.Fr, t.lab k = 3
  lL : ∀ g, t.LA.map (·.block) = some g → t.lab g = 4
  lu : ∀ i, i < tl.length → ∀ k ∈ (t.us.getD i zeroU).2, t.lab k = 5 + i
  gq : q ∈ G
  gm : ∀ k ∈ t.Fm, k ∈ G
  go : ∀ k ∈ t.Fo, k ∈ G
  gf : ∀ k ∈ t.Fr, k ∈ G
  gL : ∀ g, t.LA.map (·.block) = some g → g ∈ G
  gu : ∀ i, i < tl.length → ∀ k ∈ (t.us.getD i zeroU).2, k ∈ G
  gB : ∀ k ∈ G, ¬ C k
  Bw : ∀ k, w.heap.size ≤ k → ¬ C k
  gLt : ∀ k ∈ G, k < w.heap.size
section
variable {w w' : World} {q : Nat} {C : Nat → Prop} {G : List Nat} {s : Cd} {cs : List Cd} {rc : Ln} {sd : Bool} {tl : List Ln} {now out : List Int} {t : Prq}
theorem RunQ.far {X : List Nat} (h : RunQ w q C G s cs rc sd tl now out t) (ho : Only X w w') (hX : ∀ k ∈ X, ¬ C k) (hG : ∀ k ∈ G, k ∉ X) : RunQ w' q C G s cs rc sd tl now out t where
  foc := h.foc.far ho (hG q h.gq) (fun k hk => hG k (h.gm k hk)) (fun k hk => hG k (h.go k hk))
  ill := h.ill
  hsd := h.hsd
  h0 := h.h0
  h1 := h.h1
  h2 := h.h2
  h3 := h.h3
  code := h.code.far ho hX
  cu := h.cu
  codes := isCd_far h.codes h.cod h.cf ho hX
  cod := fun i hi => (h.cod i hi).far ho hX
  cus := h.cus
  cf := h.cf
  rc := h.rc.far ho hX (fun k hk => hG k (h.gf k hk))
  hl := h.hl
  lr := Sa.own_only h.lr ho (fun g hg => hG g (h.gL g hg))
  ul := h.ul
  ll := fun i hi => (h.ll i hi).far ho hX (fun k hk => hG k (h.gu i hi k hk))
  lq := h.lq
  lm := h.lm
  lo := h.lo
  lf := h.lf
  lL := h.lL
  lu := h.lu
  gq := h.gq
  gm := h.gm
  go := h.go
  gf := h.gf
  gL := h.gL
  gu := h.gu
  gB := h.gB
  Bw := fun k hk => h.Bw k (Nat.le_trans ho.size hk)
  gLt := fun k hk => Nat.lt_of_lt_of_le (h.gLt k hk) ho.size
theorem RunQ.keep (h : RunQ w q C G s cs rc sd tl now out t) (hb : Below w.heap.size w w') : RunQ w' q C G s cs rc sd tl now out t := h.far (X := []) (Only.of_below hb) (fun _ hx => by cases hx) (fun _ _ hx => by cases hx)
def KeptQ (w : World) (q : Nat) (C : Nat → Prop) (G : List Nat) (s : Cd) (cs : List Cd) (rc : Ln) (sd : Bool) (tl : List Ln) (now out : List Int) (w' : World) : Prop := ∃ G' t', RunQ w' q C G' s cs rc sd tl now out t' ∧ (∀ k ∈ G', k ∈ G ∨ w.heap.size ≤ k) ∧ Only G w w'
theorem KeptQ.seq {w w1 w2 : World} {q : Nat} {C : Nat → Prop} {G : List Nat} {s : Cd} {cs : List Cd} {rc rc2 : Ln} {sd sd2 : Bool} {tl tl2 : List Ln} {now now2 out out2 : List Int} (h : ∃ G' t', RunQ w1 q C G' s cs rc sd tl now out t' ∧ (∀ k ∈ G', k ∈ G ∨ w.heap.size ≤ k) ∧ Only G w w1 ∧ KeptQ w1 q C G' s cs rc2 sd2 tl2 now2 out2 w2) : KeptQ w q C G s cs rc2 sd2 tl2 now2 out2 w2 := by
  obtain ⟨G1, t1, h1, h2, h3, G2, t2, h4, h5, h6⟩ := h
  refine ⟨G2, t2, h4, fun k hk => ?_, h3.trans h6 h2⟩
  rcases h5 k hk with e | e
  · exact h2 k e
  · exact .inr (Nat.le_trans h3.size e)
def WentQ (w : World) (q : Nat) (C : Nat → Prop) (t : Prq) (u : Value) (F : List Nat) (x : Res Ln) (e : Ending) (w' : World) : Prop :=
  ∃ Fo' O' oc', e = .returned (.int .i64 (x.r : Int)) ∧ Fop w' q { t.H with ill := t.H.ill || (x.r == 2) } t.Fm Fo' t.B t.bc O' oc' x.now x.out ∧ (x.r ≠ 2 → LnQ w' C u F x.ln) ∧ Only (q :: (t.Fm ++ t.Fo ++ F)) w w' ∧ (∀ k ∈ Fo', k ∈ t.Fo ∨ w.heap.size ≤ k)
theorem goL_en {a : Ln} {now out : List Int} (h : a.c.length ≤ a.at_) : goL a now out = ⟨1, ⟨a.c, a.v, a.at_, true⟩, now, out⟩ := by
  unfold goL
  rw [goV_done a.c 20000 ⟨a.at_, a.v, now, out⟩ h]
  cases a.en <;> rfl
theorem goV_one (c : List St) : ∀ (k : Nat) (p : Ps), (goV c k p).1 = 1 → c.length ≤ (goV c k p).2.at_
  | 0, p, h => by
    rw [goV] at h ⊢
    by_cases h1 : c.length ≤ p.at_
    · rw [if_pos h1]; exact h1
    · rw [if_neg h1] at h; exact absurd (show (2 : Nat) = 1 from h) (by decide)
  | k + 1, p, h => by
    rw [goV] at h ⊢
    by_cases h1 : c.length ≤ p.at_
    · rw [if_pos h1]; exact h1
    · rw [if_neg h1] at h ⊢
      by_cases h2 : isAct (c.getD p.at_ zeroSt).kind = true
      · rw [if_pos h2] at h; exact absurd (show (0 : Nat) = 1 from h) (by decide)
      · rw [if_neg h2] at h ⊢; exact goV_one c k _ h
set_option maxHeartbeats 1600000 in
theorem prun_done {p : Nat} {Fl : List Nat} {x y : Int} {A : Option Addr} {n cap : Nat} {V : Option Addr} {cv : Nat} {v : List Int} {a : Int} (q : Nat) (w : World) (hL : ThAt w p Fl x y A n cap V cv v a 1) :
    Calls Try.prog 39 #[.pointer (some ⟨q, 0, none⟩), .pointer (some ⟨p, 0, none⟩)] w fun e w' => e = .returned (.int .i64 1) ∧ w = w' := by
  have g5 := hL.c5
  clear hL
  go_enter Try.func39, Try.ntmps39
  go_wp2_with fail
  go_loopw [5] (fun i wr => i = .int .i64 0 ∧ wr = w) (fun i _ => 0)
  case atStart => exact ⟨rfl, rfl⟩
  case round =>
    obtain ⟨rfl, rfl⟩ := hrel
    go_wp2_with fail
    go_ret
    exact ⟨rfl, rfl⟩
theorem wentq_any (h : RunQ w q C G s cs rc sd tl now out t) {u : Value} {F : List Nat} {a : Ln} (hL : LnQ w C u F a) (hF : ∀ k ∈ F, k ∈ G) (hq : q ∉ F) (hm : ∀ k ∈ t.Fm, k ∉ F) (ho : ∀ k ∈ t.Fo, k ∉ F) (hout : out.length ≤ 1000000) :
    Calls Try.prog 39 #[.pointer (some ⟨q, 0, none⟩), u] w (WentQ w q C t u F (goL a now out)) := by
  obtain ⟨p, x, y, A, n, cap, V, cv, at_, st, rfl, h1, h2, h3, h4, h5⟩ := hL
  have hlen := h2.st.1
  have hX : ∀ k ∈ q :: (t.Fm ++ t.Fo ++ F), ¬ C k := fun k hk => by
    refine h.gB k ?_
    rcases List.mem_cons.1 hk with e | e
    · rw [e]; exact h.gq
    · rcases List.mem_append.1 e with e | e
      · rcases List.mem_append.1 e with e | e
        · exact h.gm k e
        · exact h.go k e
      · exact hF k e
  rcases h5 with ⟨e1, rfl, rfl, e4⟩ | ⟨e1, rfl, e3⟩
  · refine (prun_any h.foc h1 h2.st h3 h4 hq hm ho (fun h0 g hg hm => h.gB g (hF g hm) (h2.low h0 g hg)) hout h2.n e4).mono ?_
    rintro e w' ⟨rfl, Fo', O', oc', a', g1, g2, g3, g4, g5, g6⟩
    refine ⟨Fo', O', oc', rfl, g1, fun hne => ?_, g5, g6⟩
    have hr : (goV a.c 20000 ⟨a.at_, a.v, now, out⟩).1 ≤ 2 := goV_r a.c 20000 _
    refine ⟨p, x, y, A, n, cap, V, cv, a', _, rfl, g2, h2.far g5 hX, h3, g4, ?_⟩
    have hne : (goV a.c 20000 ⟨a.at_, a.v, now, out⟩).1 ≠ 2 := hne
    obtain hr0 | hr1 : (goV a.c 20000 ⟨a.at_, a.v, now, out⟩).1 = 0 ∨ (goV a.c 20000 ⟨a.at_, a.v, now, out⟩).1 = 1 := by omega
    · left
      refine ⟨?_, by rw [hr0]; rfl, g3 hr0, ?_⟩
      · show (a.en || _ == 1) = false
        rw [e1, hr0]; rfl
      · have := Sg.goV_at a.c 20000 ⟨a.at_, a.v, now, out⟩ (by show a.at_ ≤ a.c.length; rw [hlen]; exact e4)
        rw [hlen] at this
        exact this
    · right
      refine ⟨?_, by rw [hr1]; rfl, goV_one _ _ _ hr1⟩
      show (a.en || _ == 1) = true
      rw [e1, hr1]; rfl
  · have hg := goL_en (now := now) (out := out) e3
    refine (prun_done q w h1).mono ?_
    rintro e w' ⟨rfl, rfl⟩
    rw [hg]
    refine ⟨t.Fo, t.O, t.oc, rfl, ?_, fun _ => ⟨p, x, y, A, n, cap, V, cv, at_, 1, rfl, h1, h2, h3, h4, .inr ⟨rfl, rfl, e3⟩⟩, Only.refl _ _, fun k hk => .inl hk⟩
    show Fop w q { t.H with ill := t.H.ill || false } _ _ _ _ _ _ _ _
    rw [hp_id]
    exact h.foc
theorem hq_eq {H : Hp} (h : H.ill = false) : ({ H with ill := H.ill || false } : Hp) = H := by cases H; simp
theorem RunQ.wentRec (h : RunQ w q C G s cs rc sd tl now out t) {x : Res Ln} {e : Ending} (hx : x.r ≠ 2) (hW : WentQ w q C t t.H.rc t.Fr x e w') : KeptQ w q C G s cs x.ln sd tl x.now x.out w' := by
  obtain ⟨Fo', O', oc', -, F1, L1, ho, hn⟩ := hW
  have e2 : (x.r == 2) = false := beq_eq_false_iff_ne.2 hx
  rw [e2, hq_eq h.ill] at F1
  have hX : ∀ k ∈ q :: (t.Fm ++ t.Fo ++ t.Fr), k ∈ G ∧ t.lab k ≤ 3 := fun k hk => by
    rcases List.mem_cons.1 hk with e | e
    · rw [e]; exact ⟨h.gq, by have := h.lq; omega⟩
    · rcases List.mem_append.1 e with e | e
      · rcases List.mem_append.1 e with e | e
        · exact ⟨h.gm k e, by have := h.lm k e; omega⟩
        · exact ⟨h.go k e, by have := h.lo k e; omega⟩
      · exact ⟨h.gf k e, by have := h.lf k e; omega⟩
  have hB : ∀ k ∈ q :: (t.Fm ++ t.Fo ++ t.Fr), ¬ C k := fun k hk => h.gB k (hX k hk).1
  have lr := h.foc.qlt
  have lm := h.foc.mLt
  have lF := h.rc.lt
  refine ⟨G ++ Fo', { t with Fo := Fo', O := O', oc := oc', lab := fun k => if k < w.heap.size then t.lab k else 2 }, ?_, ?_, ho.more (fun k hk => (hX k hk).1)⟩
  · exact {
      foc := F1, ill := h.ill, hsd := h.hsd, h0 := h.h0, h1 := h.h1, h2 := h.h2, h3 := h.h3, code := h.code.far ho hB, cu := h.cu, codes := isCd_far h.codes h.cod h.cf ho hB, cod := fun i hi => (h.cod i hi).far ho hB, cus := h.cus, cf := h.cf
      rc := L1 hx, hl := h.hl
      lr := Sa.own_only h.lr ho (fun g hg hm => by have := h.lL g hg; have := (hX g hm).2; omega)
      ul := h.ul
      ll := fun i hi => (h.ll i hi).far ho hB (fun k hk hm => by have := h.lu i hi k hk; have := (hX k hm).2; omega)
      lq := by show (if q < w.heap.size then t.lab q else 2) = 0; rw [if_pos lr]; exact h.lq
      lm := fun k hk => by show (if k < w.heap.size then t.lab k else 2) = 1; rw [if_pos (lm k hk)]; exact h.lm k hk
      lo := fun k hk => by
        show (if k < w.heap.size then t.lab k else 2) = 2
        split
        · rcases hn k hk with e | e
          · exact h.lo k e
          · omega
        · rfl
      lf := fun k hk => by show (if k < w.heap.size then t.lab k else 2) = 3; rw [if_pos (lF k hk)]; exact h.lf k hk
      lL := fun g hg => by show (if g < w.heap.size then t.lab g else 2) = 4; rw [if_pos ((h.lr.lt g hg).2)]; exact h.lL g hg
      lu := fun i hi k hk => by show (if k < w.heap.size then t.lab k else 2) = 5 + i; rw [if_pos ((h.ll i hi).lt k hk)]; exact h.lu i hi k hk
      gq := List.mem_append_left _ h.gq, gm := fun k hk => List.mem_append_left _ (h.gm k hk), go := fun k hk => List.mem_append_right _ hk, gf := fun k hk => List.mem_append_left _ (h.gf k hk), gL := fun g hg => List.mem_append_left _ (h.gL g hg)
      gu := fun i hi k hk => List.mem_append_left _ (h.gu i hi k hk)
      gB := fun k hk => by
        rcases List.mem_append.1 hk with e | e
        · exact h.gB k e
        · rcases hn k e with e | e
          · exact h.gB k (h.go k e)
          · exact h.Bw k e
      Bw := fun k hk => h.Bw k (Nat.le_trans ho.size hk)
      gLt := fun k hk => by
        rcases List.mem_append.1 hk with e | e
        · exact Nat.lt_of_lt_of_le (h.gLt k e) ho.size
        · exact F1.oLt k e }
  · intro k hk
    rcases List.mem_append.1 hk with e | e
    · exact .inl e
    · rcases hn k e with e | e
      · exact .inl (h.go k e)
      · exact .inr e
theorem RunQ.wentLane (h : RunQ w q C G s cs rc sd tl now out t) {i : Nat} (hi : i < tl.length) {x : Res Ln} {e : Ending} (hx : x.r ≠ 2) (hW : WentQ w q C t (t.us.getD i zeroU).1 (t.us.getD i zeroU).2 x e w') : KeptQ w q C G s cs rc sd (tl.set i x.ln) x.now x.out w' := by
  obtain ⟨Fo', O', oc', -, F1, L1, ho, hn⟩ := hW
  have e2 : (x.r == 2) = false := beq_eq_false_iff_ne.2 hx
  rw [e2, hq_eq h.ill] at F1
  have hX : ∀ k ∈ q :: (t.Fm ++ t.Fo ++ (t.us.getD i zeroU).2), k ∈ G ∧ (t.lab k ≤ 2 ∨ t.lab k = 5 + i) := fun k hk => by
    rcases List.mem_cons.1 hk with e | e
    · rw [e]; exact ⟨h.gq, by have := h.lq; omega⟩
    · rcases List.mem_append.1 e with e | e
      · rcases List.mem_append.1 e with e | e
        · exact ⟨h.gm k e, by have := h.lm k e; omega⟩
        · exact ⟨h.go k e, by have := h.lo k e; omega⟩
      · exact ⟨h.gu i hi k e, by have := h.lu i hi k e; omega⟩
  have hB : ∀ k ∈ q :: (t.Fm ++ t.Fo ++ (t.us.getD i zeroU).2), ¬ C k := fun k hk => h.gB k (hX k hk).1
  have lr := h.foc.qlt
  have lm := h.foc.mLt
  have lF := h.rc.lt
  refine ⟨G ++ Fo', { t with Fo := Fo', O := O', oc := oc', lab := fun k => if k < w.heap.size then t.lab k else 2 }, ?_, ?_, ho.more (fun k hk => (hX k hk).1)⟩
  · exact {
      foc := F1, ill := h.ill, hsd := h.hsd, h0 := h.h0, h1 := h.h1, h2 := h.h2, h3 := h.h3, code := h.code.far ho hB, cu := h.cu, codes := isCd_far h.codes h.cod h.cf ho hB, cod := fun i hi => (h.cod i hi).far ho hB, cus := h.cus, cf := h.cf
      rc := h.rc.far ho hB (fun k hk hm => by have := h.lf k hk; have := (hX k hm).2; omega)
      hl := by rw [List.length_set]; exact h.hl
      lr := by rw [List.length_set]; exact Sa.own_only h.lr ho (fun g hg hm => by have := h.lL g hg; have := (hX g hm).2; omega)
      ul := by rw [List.length_set]; exact h.ul
      ll := fun j hj => by
        rw [List.length_set] at hj
        dsimp only
        by_cases e : i = j
        · subst e
          rw [List.getElem_set_self]
          exact L1 hx
        · rw [List.getElem_set_ne e]
          exact (h.ll j hj).far ho hB (fun k hk hm => by have := h.lu j hj k hk; have := (hX k hm).2; omega)
      lq := by show (if q < w.heap.size then t.lab q else 2) = 0; rw [if_pos lr]; exact h.lq
      lm := fun k hk => by show (if k < w.heap.size then t.lab k else 2) = 1; rw [if_pos (lm k hk)]; exact h.lm k hk
      lo := fun k hk => by
        show (if k < w.heap.size then t.lab k else 2) = 2
        split
        · rcases hn k hk with e | e
          · exact h.lo k e
          · omega
        · rfl
      lf := fun k hk => by show (if k < w.heap.size then t.lab k else 2) = 3; rw [if_pos (lF k hk)]; exact h.lf k hk
      lL := fun g hg => by show (if g < w.heap.size then t.lab g else 2) = 4; rw [if_pos ((h.lr.lt g hg).2)]; exact h.lL g hg
      lu := fun i hi k hk => by rw [List.length_set] at hi; show (if k < w.heap.size then t.lab k else 2) = 5 + i; rw [if_pos ((h.ll i hi).lt k hk)]; exact h.lu i hi k hk
      gq := List.mem_append_left _ h.gq, gm := fun k hk => List.mem_append_left _ (h.gm k hk), go := fun k hk => List.mem_append_right _ hk, gf := fun k hk => List.mem_append_left _ (h.gf k hk), gL := fun g hg => List.mem_append_left _ (h.gL g hg)
      gu := fun i hi k hk => by rw [List.length_set] at hi; exact List.mem_append_left _ (h.gu i hi k hk)
      gB := fun k hk => by
        rcases List.mem_append.1 hk with e | e
        · exact h.gB k e
        · rcases hn k e with e | e
          · exact h.gB k (h.go k e)
          · exact h.Bw k e
      Bw := fun k hk => h.Bw k (Nat.le_trans ho.size hk)
      gLt := fun k hk => by
        rcases List.mem_append.1 hk with e | e
        · exact Nat.lt_of_lt_of_le (h.gLt k e) ho.size
        · exact F1.oLt k e }
  · intro k hk
    rcases List.mem_append.1 hk with e | e
    · exact .inl e
    · rcases hn k e with e | e
      · exact .inl (h.go k e)
      · exact .inr e
theorem RunQ.wentIll (h : RunQ w q C G s cs rc sd tl now out t) {u : Value} {F : List Nat} (hF : ∀ k ∈ F, k ∈ G) {x : Res Ln} {e : Ending} (hW : WentQ w q C t u F x e w') : e = .returned (.int .i64 (x.r : Int)) ∧ w'.cell? ⟨q, 9, none⟩ = some (.bool (x.r == 2)) ∧ Only G w w' := by
  obtain ⟨Fo', O', oc', rfl, F1, L1, ho, hn⟩ := hW
  refine ⟨rfl, ?_, ho.more (fun k hk => ?_)⟩
  · have := F1.cs.2.2.2.2.2.2.2.2.2
    rw [h.ill] at this
    simpa using this
  · rcases List.mem_cons.1 hk with e | e
    · rw [e]; exact h.gq
    · rcases List.mem_append.1 e with e | e
      · rcases List.mem_append.1 e with e | e
        · exact h.gm k e
        · exact h.go k e
      · exact hF k e
theorem RunQ.started (h : RunQ w q C G s cs rc sd tl now out t) : KeptQ w q C G s cs rc true tl now out (w.setCell ⟨q, 8, none⟩ (.bool true)) := by
  have F6 := fop_set h.foc 8 (.bool true) (H' := { t.H with sd := true }) rfl
  have ho := F6.2
  have hX : ∀ k ∈ [q], k ∈ G ∧ t.lab k = 0 := fun k hk => by rw [List.mem_singleton.1 hk]; exact ⟨h.gq, h.lq⟩
  have hB : ∀ k ∈ [q], ¬ C k := fun k hk => h.gB k (hX k hk).1
  refine ⟨G, { t with H := { t.H with sd := true } }, ?_, fun k hk => .inl hk, ho.more (fun k hk => (hX k hk).1)⟩
  exact {
    foc := F6.1, ill := h.ill, hsd := rfl, h0 := h.h0, h1 := h.h1, h2 := h.h2, h3 := h.h3, code := h.code.far ho hB, cu := h.cu, codes := isCd_far h.codes h.cod h.cf ho hB, cod := fun i hi => (h.cod i hi).far ho hB, cus := h.cus, cf := h.cf
    rc := h.rc.far ho hB (fun k hk hm => by have := h.lf k hk; have := (hX k hm).2; omega), hl := h.hl, lr := Sa.own_only h.lr ho (fun g hg hm => by have := h.lL g hg; have := (hX g hm).2; omega), ul := h.ul
    ll := fun i hi => (h.ll i hi).far ho hB (fun k hk hm => by have := h.lu i hi k hk; have := (hX k hm).2; omega)
    lq := h.lq, lm := h.lm, lo := h.lo, lf := h.lf, lL := h.lL, lu := h.lu, gq := h.gq, gm := h.gm, go := h.go, gf := h.gf
    gL := h.gL, gu := h.gu, gB := h.gB, Bw := fun k hk => h.Bw k (Nat.le_trans ho.size hk), gLt := fun k hk => Nat.lt_of_lt_of_le (h.gLt k hk) ho.size }
end
end Go.Proofs.Ytapnnbbbgopobaa.Ph
