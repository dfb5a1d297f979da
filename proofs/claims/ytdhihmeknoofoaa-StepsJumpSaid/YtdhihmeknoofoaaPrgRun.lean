/-
  WALK: the program's run of steps: up to and behind the next action.
-/
import Derived.Test.YtdhihmeknoofoaaPrgQuiet
namespace Go.Proofs.Ytdhihmeknoofoaa.Pr
set_option linter.unusedVariables false
set_option linter.unusedSimpArgs false
open Go.RowKit Cm Mm Ow Ow2 Me Stp StW Rm Sp Sr Pn Pa Pq
open Sc (Stc)

theorem goV_end {c : List St} {k : Nat} {p : Ps} {s : St} (hs : c.getD p.at_ zeroSt = s) (hp : p.at_ < c.length) (hk : s.kind = 12) : goV c (k + 1) p = (1, { p with at_ := c.length }) := by
  rw [Sg.goV_quiet hs hp (by rw [hk]; rfl)]
  obtain ⟨a, v, now, out⟩ := p
  rw [Sg.quiet12 hk]
  exact goV_done _ _ _ (Nat.le_refl _)
theorem quiet_u {c : List St} {s : St} {p : Ps} (hs : isU s.n) (hv : ∀ z ∈ p.v, isU z) : ∀ z ∈ (quietV c s p).v, isU z := by
  unfold quietV
  repeat' split
  · exact putV_u hv _ _ hs
  · exact putV_u hv _ _ (getV_u hv _)
  · exact putV_u hv _ _ (opV_u _ _ _)
  all_goals exact hv
theorem rd_u {now : List Int} (h : ∀ z ∈ now, isU z) (o : Option Nat) : isU (rd now o) := by
  cases o with
  | none => exact (⟨by decide, by decide⟩ : isU 0)
  | some i =>
    show isU (now.getD i 0)
    by_cases hi : i < now.length
    · refine h _ ?_
      simp [List.getD, hi]
    · simp [List.getD, Nat.le_of_not_lt hi]
      exact ⟨by decide, by decide⟩
theorem act_u {s : St} {p : Ps} (hn : ∀ z ∈ p.now, isU z) (hv : ∀ z ∈ p.v, isU z) : ∀ z ∈ (actV s p).v, isU z := by
  have hb : ∀ c : Bool, isU (bitV c) := fun c => by cases c <;> exact ⟨by decide, by decide⟩
  unfold actV
  repeat' split
  · exact hv
  · exact putV_u hv _ _ (rd_u hn _)
  · exact hv
  · exact putV_u hv _ _ (hb _)
  · exact putV_u hv _ _ (hb _)
  · exact hv
/-- behind it -/
def PGone (w : World) (q p : Nat) (H : Hp) (Fm Fo Fl : List Nat) (x y : Int) (A : Option Addr) (n cap : Nat) (V : Option Addr) (cv : Nat) (B : Option Addr) (bc : Nat) (r : Nat × Ps) (e : Ending) (w' : World) : Prop :=
  e = .returned (.int .i64 (r.1 : Int)) ∧ ∃ Fo' O' oc' a', Fop w' q { H with ill := H.ill || (r.1 == 2) } Fm Fo' B bc O' oc' r.2.now r.2.out ∧ ThAt w' p Fl x y A n cap V cv r.2.v a' (r.1 : Int) ∧ (r.1 = 0 → a' = (r.2.at_ : Int)) ∧ (∀ z ∈ r.2.v, isU z) ∧ Only (q :: (Fm ++ Fo ++ Fl)) w w' ∧ (∀ k ∈ Fo', k ∈ Fo ∨ w.heap.size ≤ k)
theorem hp_id (H : Hp) : ({ H with ill := H.ill || false } : Hp) = H := by cases H; simp
theorem hp_ill (H : Hp) : ({ H with ill := H.ill || true } : Hp) = { H with ill := true } := by cases H; simp
theorem fop_set {w : World} {q : Nat} {H H' : Hp} {Fm Fo : List Nat} {B : Option Addr} {bc : Nat} {O : Option Addr} {oc : Nat} {now out : List Int} (h : Fop w q H Fm Fo B bc O oc now out) (i : Nat) (u : Value)
    (hu : (#[H.s0, H.s1, H.s2, H.l, .slice B now.length bc, .slice O out.length oc, H.rc, H.th, .bool H.sd, .bool H.ill] : Array Value).setIfInBounds i u = #[H'.s0, H'.s1, H'.s2, H'.l, .slice B now.length bc, .slice O out.length oc, H'.rc, H'.th, .bool H'.sd, .bool H'.ill]) :
    Fop (w.setCell ⟨q, i, none⟩ u) q H' Fm Fo B bc O oc now out ∧ Only [q] w (w.setCell ⟨q, i, none⟩ u) := by
  have ho : Only [q] w (w.setCell ⟨q, i, none⟩ u) := (Only.refl _ _).setCell (by simp) _
  refine ⟨⟨?_, ho.row h.mrow (fun g hg hm => h.qm (by rw [← List.mem_singleton.1 hm]; exact h.mF g hg)), h.mF, Sa.own_only h.row ho (fun g hg hm => h.qo (by rw [← List.mem_singleton.1 hm]; exact h.oF g hg)), h.oF, Nat.lt_of_lt_of_le h.qlt ho.size, fun k hk => Nat.lt_of_lt_of_le (h.mLt k hk) ho.size, fun k hk => Nat.lt_of_lt_of_le (h.oLt k hk) ho.size, h.qm, h.qo, h.mo, h.small, h.nu⟩, ho⟩
  have hd := h.head
  unfold rnO at hd ⊢
  simp only [World.setCell, Array.getElem?_modify, hd, if_true, Option.map_some]
  rw [← hu]
  rfl
/-- a loop's round -/
structure Rdp (w wr : World) (q p : Nat) (H : Hp) (Fm Fo Fl : List Nat) (B : Option Addr) (bc : Nat) (O : Option Addr) (oc : Nat) (now out : List Int) (x y : Int) (A : Option Addr) (n cap : Nat) (V : Option Addr) (cv : Nat) (v : List Int) (a : Nat) (c : List St) (r : Nat × Ps) (k : Nat) : Prop where
  F : Fop wr q H Fm Fo B bc O oc now out
  L : ThAt wr p Fl x y A n cap V cv v a 0
  C : IsSt wr A n cap c
  Oy : Only Fl w wr
  le : a ≤ n
  eq : r = goV c (20000 - k) ⟨a, v, now, out⟩
  u : ∀ z ∈ v, isU z

set_option maxRecDepth 200000 in
set_option maxHeartbeats 12800000 in
theorem prun_any {w : World} {q p : Nat} {H : Hp} {Fm Fo Fl : List Nat} {B : Option Addr} {bc : Nat} {O : Option Addr} {oc : Nat} {now out : List Int} {x y : Int} {A : Option Addr} {n cap : Nat} {V : Option Addr} {cv : Nat} {v : List Int} {a : Nat} {c : List St}
    (hF : Fop w q H Fm Fo B bc O oc now out) (hL : ThAt w p Fl x y A n cap V cv v a 0) (hC : IsSt w A n cap c) (hcu : ∀ s ∈ c, isU s.n) (hvu : ∀ z ∈ v, isU z) (hql : q ∉ Fl) (hml : ∀ k ∈ Fm, k ∉ Fl) (hol : ∀ k ∈ Fo, k ∉ Fl) (hA : 0 < n → ∀ g, A.map (·.block) = some g → g ∉ Fl) (hout : out.length ≤ 1000000) (hn : n ≤ 65536) (ha : a ≤ n) :
    Calls Try.prog 71 #[.pointer (some ⟨q, 0, none⟩), .pointer (some ⟨p, 0, none⟩)] w (PGone w q p H Fm Fo Fl x y A n cap V cv B bc (goV c 20000 ⟨a, v, now, out⟩)) := by
  have DQ := Lib.hid hql
  have DM := Lib.hid hml
  have DO := Lib.hid hol
  have DA := Lib.hid hA
  have CU := Lib.hid hcu
  have hl := Lib.hid hC.1
  have RR : Hid (Rdp w w q p H Fm Fo Fl B bc O oc now out x y A n cap V cv v a c (goV c 20000 ⟨a, v, now, out⟩) 0) := Lib.hid ⟨hF, hL, hC, Only.refl _ _, ha, rfl, hvu⟩
  have hn2 : (n : Int) ≤ 65536 := by omega
  have hwq := hF.qlt
  have QM := Lib.hid hF.mLt
  have QO := Lib.hid hF.oLt
  have QL := Lib.hid hL.lt
  have PF := Lib.hid hL.pF
  generalize goV c 20000 ⟨a, v, now, out⟩ = r at *
  clear hF hL hC hcu hvu hql hml hol hA ha
  go_enter Try.func71, Try.ntmps71
  go_wp2_with fail
  go_loopw [5] (fun i wr => ∃ (k : Nat), i = .int .i64 k ∧ ((k ≤ 20000 ∧ ∃ (v : List Int) (a : Nat), Rdp w wr q p H Fm Fo Fl B bc O oc now out x y A n cap V cv v a c r k) ∨ (k ≤ 20001 ∧ (((r.1 : Nat) : Int) == 0) = false ∧ PGone w q p H Fm Fo Fl x y A n cap V cv B bc r (.returned (.int .i64 (r.1 : Int))) wr ∧ wr.cell? ⟨p, 5, none⟩ = some (.int .i64 (r.1 : Int))))) (fun i _ => 20002 - (intOf i).toNat)
  case atStart => exact ⟨0, rfl, .inl ⟨by omega, v, a, RR.out⟩⟩
  case round =>
    obtain ⟨k, rfl, ⟨hk, v, a, hR⟩ | ⟨hk, hr0, hG, hc5⟩⟩ := hrel
    rotate_left
    · have GG := Lib.hid hG
      clear hG RR
      go_wp2_with fail
      go_ret
      exact GG.out
    have HR := Lib.hid hR
    have hae := hR.le
    clear hR RR
    have g2 := HR.out.L.c2
    have g4 := HR.out.L.c4
    have g5 := HR.out.L.c5
    by_cases hna : n ≤ a
    · have h1 : decide ((n : Int) ≤ (a : Int)) = true := decide_eq_true (by omega)
      have e1 : r = (1, ⟨a, v, now, out⟩) := by rw [HR.out.eq]; exact goV_done _ _ _ (by rw [hl.out]; exact hna)
      have E1 := Lib.hid e1
      clear e1
      go_wp2_with fail
      go_quiet (fail)
      have B2 := below_drawn wr nq
      obtain ⟨w2, hw2⟩ : ∃ w2, wr.drewN nq = w2 := ⟨_, rfl⟩
      rw [hw2] at B2 ⊢
      have L2 := HR.out.L.keep B2
      have F2 := Lib.hid (HR.out.F.keep B2)
      have O2 : Hid (Only Fl w w2) := Lib.hid (HR.out.Oy.seq (Only.of_below B2))
      clear g2 g4 g5 hw2
      have g5 := L2.c5
      have fp := L2.free
      have T := L2.set 5 (.int .i64 1) (a' := a) (st' := 1) rfl
      have g52 := Lib.hid T.1.c5
      have HO : Only Fl w2 (w2.setCell ⟨p, 5, none⟩ (.int .i64 1)) := T.2.more (fun k hk => by rw [List.mem_singleton.1 hk]; exact PF.out)
      have G3 := Lib.hid (show PGone w q p H Fm Fo Fl x y A n cap V cv B bc r (.returned (.int .i64 (r.1 : Int))) (w2.setCell ⟨p, 5, none⟩ (.int .i64 1)) from by
        rw [E1.out]
        refine ⟨rfl, Fo, O, oc, a, ?_, T.1, fun h => absurd (show (1 : Nat) = 0 from h) (by decide), HR.out.u, (O2.out.seq HO).more (fun k hk => by simp [hk]), fun k hk => .inl hk⟩
        show Fop _ q { H with ill := H.ill || false } _ _ _ _ _ _ _ _
        rw [hp_id]
        exact F2.out.far HO DQ.out DM.out DO.out)
      clear L2 T HO B2
      go_wp2_with fail
      go_roundw
      case rel => exact ⟨k + 1, by go_num, .inr ⟨by omega, by rw [E1.out]; rfl, G3.out, by rw [E1.out]; exact g52.out⟩⟩
      case measure => simp [intOf]; omega
    · have h1 : decide ((n : Int) ≤ (a : Int)) = false := decide_eq_false (by omega)
      obtain ⟨b, o, hAe, hb, z0, z1, z2, z3, z4, z5, z6, z7, z8⟩ := HR.out.C.cell (k := a) (by omega)
      have DAb := Lib.hid (DA.out (by omega) b (by rw [hAe]; rfl))
      obtain ⟨s, hs⟩ : ∃ s, c.getD a zeroSt = s := ⟨_, rfl⟩
      have HS := Lib.hid hs
      have US := Lib.hid (CU.out s (by rw [← hs]; simp [List.getD, show a < c.length by have := hl.out; omega]))
      rw [hs] at z0 z1 z2 z3 z4 z5 z6 z7 z8
      clear hs
      have a1 : (a : Int) < n := by omega
      have a2 : (0 : Int) ≤ (a : Int) := by omega
      have HAE := Lib.hid hAe
      subst hAe
      by_cases hk2 : k = 20000
      · subst hk2
        have e1 : r = (2, ⟨a, v, now, out⟩) := by rw [HR.out.eq]; exact Sg.goV_stuck (by rw [hl.out]; show a < n; omega)
        have E1 := Lib.hid e1
        clear e1
        cases b12 : (s.kind == 12)
        all_goals
          go_wp2_with fail
          go_quiet (fail)
          have B2 := below_drawn wr nq
          obtain ⟨w2, hw2⟩ : ∃ w2, wr.drewN nq = w2 := ⟨_, rfl⟩
          rw [hw2] at B2 ⊢
          have L2 := HR.out.L.keep B2
          have F2 := Lib.hid (HR.out.F.keep B2)
          have O2 : Hid (Only Fl w w2) := Lib.hid (HR.out.Oy.seq (Only.of_below B2))
          clear g2 g4 g5 hw2 z0 z1 z2 z3 z4 z5 z6 z7 z8
          have g5 := L2.c5
          have fp := L2.free
          have T := L2.set 5 (.int .i64 2) (a' := a) (st' := 2) rfl
          have HO : Only Fl w2 (w2.setCell ⟨p, 5, none⟩ (.int .i64 2)) := T.2.more (fun k hk => by rw [List.mem_singleton.1 hk]; exact PF.out)
          have F3 := F2.out.far HO DQ.out DM.out DO.out
          have g9 := F3.cs.2.2.2.2.2.2.2.2.2
          have fq := F3.free'
          have F4 := fop_set F3 9 (.bool true) (H' := { H with ill := true }) rfl
          have L4 := T.1.far F4.2 (fun k hk hm => DQ.out (by rw [← List.mem_singleton.1 hm]; exact hk))
          have g52 := Lib.hid L4.c5
          have G3 := Lib.hid (show PGone w q p H Fm Fo Fl x y (some ⟨b, o, none⟩) n cap V cv B bc r (.returned (.int .i64 (r.1 : Int))) ((w2.setCell ⟨p, 5, none⟩ (.int .i64 2)).setCell ⟨q, 9, none⟩ (.bool true)) from by
            rw [E1.out]
            refine ⟨rfl, Fo, O, oc, a, ?_, L4, fun h => absurd (show (2 : Nat) = 0 from h) (by decide), HR.out.u, ((O2.out.seq HO).more (F' := q :: (Fm ++ Fo ++ Fl)) (fun k hk => by simp [hk])).seq (F4.2.more (fun k hk => by rw [List.mem_singleton.1 hk]; simp)), fun k hk => .inl hk⟩
            show Fop _ q { H with ill := H.ill || true } _ _ _ _ _ _ _ _
            rw [hp_ill]
            exact F4.1)
          clear L2 T HO B2 F3 F4 L4
          go_wp2_with fail
          go_roundw
          case rel => exact ⟨20001, by go_num, .inr ⟨by omega, by rw [E1.out]; rfl, G3.out, by rw [E1.out]; exact g52.out⟩⟩
          case measure => simp [intOf]
      · have k1 : (k : Int) < 20000 := by omega
        have k2 : ((k : Int) == 20000) = false := by rw [beq_eq_false_iff_ne]; omega
        by_cases hk12 : s.kind = 12
        · have b12 : (s.kind == 12) = true := by rw [hk12]; rfl
          have e1 : r = (1, ⟨c.length, v, now, out⟩) := by
            rw [HR.out.eq, show 20000 - k = (20000 - (k + 1)) + 1 by omega]
            exact goV_end HS.out (by rw [hl.out]; show a < n; omega) hk12
          have E1 := Lib.hid e1
          clear e1 hk12
          go_wp2_with fail
          go_quiet (fail)
          have B2 := below_drawn wr nq
          obtain ⟨w2, hw2⟩ : ∃ w2, wr.drewN nq = w2 := ⟨_, rfl⟩
          rw [hw2] at B2 ⊢
          have L2 := HR.out.L.keep B2
          have F2 := Lib.hid (HR.out.F.keep B2)
          have O2 : Hid (Only Fl w w2) := Lib.hid (HR.out.Oy.seq (Only.of_below B2))
          clear g2 g4 g5 hw2 z0 z1 z2 z3 z4 z5 z6 z7 z8
          have g5 := L2.c5
          have fp := L2.free
          have T := L2.set 5 (.int .i64 1) (a' := a) (st' := 1) rfl
          have g52 := Lib.hid T.1.c5
          have HO : Only Fl w2 (w2.setCell ⟨p, 5, none⟩ (.int .i64 1)) := T.2.more (fun k hk => by rw [List.mem_singleton.1 hk]; exact PF.out)
          have G3 := Lib.hid (show PGone w q p H Fm Fo Fl x y (some ⟨b, o, none⟩) n cap V cv B bc r (.returned (.int .i64 (r.1 : Int))) (w2.setCell ⟨p, 5, none⟩ (.int .i64 1)) from by
            rw [E1.out]
            refine ⟨rfl, Fo, O, oc, a, ?_, T.1, fun h => absurd (show (1 : Nat) = 0 from h) (by decide), HR.out.u, (O2.out.seq HO).more (fun k hk => by simp [hk]), fun k hk => .inl hk⟩
            show Fop _ q { H with ill := H.ill || false } _ _ _ _ _ _ _ _
            rw [hp_id]
            exact F2.out.far HO DQ.out DM.out DO.out)
          clear L2 T HO B2
          go_wp2_with fail
          go_roundw
          case rel => exact ⟨k + 1, by go_num, .inr ⟨by omega, by rw [E1.out]; rfl, G3.out, by rw [E1.out]; exact g52.out⟩⟩
          case measure => simp [intOf]; omega
        · have b12 : (s.kind == 12) = false := by rw [beq_eq_false_iff_ne]; exact hk12
          have QE : Hid (isAct s.kind = false → r = goV c (20000 - (k + 1)) (quietV c s ⟨a + 1, v, now, out⟩)) := Lib.hid (fun hq => by
            rw [HR.out.eq, show 20000 - k = (20000 - (k + 1)) + 1 by omega]
            exact Sg.goV_quiet HS.out (by rw [hl.out]; show a < n; omega) hq)
          have AE : Hid (isAct s.kind = true → r = (0, actV s ⟨a + 1, v, now, out⟩)) := Lib.hid (fun hq => by
            rw [HR.out.eq, show 20000 - k = (20000 - (k + 1)) + 1 by omega]
            exact Sg.goV_act HS.out (by rw [hl.out]; show a < n; omega) hq)
          have N12 := Lib.hid hk12
          clear hk12
          go_wp2_with fail
          go_quiet (fail)
          have B2 := below_drawn wr nq
          obtain ⟨w2, hw2⟩ : ∃ w2, wr.drewN nq = w2 := ⟨_, rfl⟩
          rw [hw2] at B2 ⊢
          have k0 : ∀ (g oo : Nat) (u : Value), wr.cell? ⟨g, oo, none⟩ = some u → w2.cell? ⟨g, oo, none⟩ = some u := fun g oo u hu => by rw [← hw2]; exact hu
          have y0 := k0 _ _ _ z0
          have y1 := k0 _ _ _ z1
          have y2 := k0 _ _ _ z2
          have y3 := k0 _ _ _ z3
          have y4 := k0 _ _ _ z4
          have y5 := k0 _ _ _ z5
          have y6 := k0 _ _ _ z6
          have y7 := k0 _ _ _ z7
          have y8 := k0 _ _ _ z8
          have h2 := k0 _ _ _ g2
          have h4 := k0 _ _ _ g4
          have L2 := Lib.hid (HR.out.L.keep B2)
          have F2 := Lib.hid (HR.out.F.keep B2)
          have C2 := Lib.hid (HR.out.C.keep B2)
          have O2 : Hid (Only Fl w w2) := Lib.hid (HR.out.Oy.seq (Only.of_below B2))
          have HU := Lib.hid HR.out.u
          have hb2 : b < w2.heap.size := Nat.lt_of_lt_of_le hb B2.size
          clear g2 g4 g5 hw2 z0 z1 z2 z3 z4 z5 z6 z7 z8 k0 B2 HR
          have BD : Hid (Below w2.heap.size w2 w2.drew) := Lib.hid ((Below.refl _ _).drew)
          have LD := Lib.hid (L2.out.keep BD.out)
          have FD := Lib.hid (F2.out.keep BD.out)
          have CD := Lib.hid (C2.out.keep BD.out)
          have OD : Hid (Only Fl w w2.drew) := Lib.hid (O2.out.seq (Only.of_below BD.out))
          have ha6 : a ≤ 65536 := by omega
          go_wp2_with fail
          go_still_tail 13, (by kernel_rfl)
          go_wp2_with fail
          cases hact : isAct s.kind
          · refine (pact_no s FD.out LD.out HU.out hact).mono ?_
            rintro e w3 ⟨rfl, hb3⟩
            have L3 := Lib.hid (LD.out.keep hb3)
            have F3 := Lib.hid (FD.out.keep hb3)
            have C3 := Lib.hid (CD.out.keep hb3)
            have O3 := Lib.hid (OD.out.seq (Only.of_below hb3))
            have kk : ∀ (oo : Nat) (u : Value), w2.cell? ⟨b, oo, none⟩ = some u → w3.cell? ⟨b, oo, none⟩ = some u := fun oo u hu => (hb3.cell (p := ⟨b, oo, none⟩) hb2).trans hu
            have y0 := kk _ _ y0
            have y1 := kk _ _ y1
            have y2 := kk _ _ y2
            have y3 := kk _ _ y3
            have y4 := kk _ _ y4
            have y5 := kk _ _ y5
            have y6 := kk _ _ y6
            have y7 := kk _ _ y7
            have y8 := kk _ _ y8
            have h2 := L3.out.c2
            have h4 := L3.out.c4
            have HQ := Lib.hid hact
            have BD3 : Hid (Below w3.heap.size w3 w3.drew) := Lib.hid ((Below.refl _ _).drew)
            have LD3 := Lib.hid (L3.out.keep BD3.out)
            have FD3 := Lib.hid (F3.out.keep BD3.out)
            have CD3 := Lib.hid (C3.out.keep BD3.out)
            have OD3 : Hid (Only Fl w w3.drew) := Lib.hid (O3.out.seq (Only.of_below BD3.out))
            clear hb3 hact kk
            go_wp2_with fail
            go_still_tail 12, (by kernel_rfl)
            go_wp2_with fail
            refine (pquiet_any (now := now) (out := out) s LD3.out CD3.out (fun _ g hg => by cases hg; exact DAb.out) hn ha6 HQ.out N12.out).mono ?_
            rintro e w4 ⟨rfl, hL4, hO4⟩
            have E4 := QE.out HQ.out
            have hle : (quietV c s ⟨a + 1, v, now, out⟩).at_ ≤ n := by rw [← hl.out]; exact Sg.quietV_at _ _ _ (by rw [hl.out]; show a + 1 ≤ n; omega)
            obtain ⟨e5, e6⟩ := Sg.quietV_now c s ⟨a + 1, v, now, out⟩
            have hu4 := quiet_u (c := c) (s := s) (p := ⟨a + 1, v, now, out⟩) US.out HU.out
            have F4 := FD3.out.far hO4 DQ.out DM.out DO.out
            have C4 := isSt_only0 CD3.out hO4 (fun _ g hg => by cases hg; exact DAb.out)
            have R4 : Hid (Rdp w w4 q p H Fm Fo Fl B bc O oc now out x y (some ⟨b, o, none⟩) n cap V cv (quietV c s ⟨a + 1, v, now, out⟩).v (quietV c s ⟨a + 1, v, now, out⟩).at_ c r (k + 1)) := Lib.hid
              ⟨F4, hL4, C4, OD3.out.seq hO4, hle, by
                rw [E4]
                generalize hqq : quietV c s ⟨a + 1, v, now, out⟩ = qq at e5 e6 ⊢
                obtain ⟨qa, qv, qn, qo⟩ := qq
                dsimp only at e5 e6 ⊢
                rw [e5, e6], hu4⟩
            clear hL4 hO4 E4 hle e5 e6 hu4 F4 C4
            go_wp2_with fail
            go_roundw
            case rel => exact ⟨k + 1, by go_num, .inl ⟨by omega, _, _, R4.out⟩⟩
            case measure => simp [intOf]; omega
          · refine (pact_any s FD.out LD.out HU.out DQ.out DM.out DO.out hout ha6 hact).mono ?_
            rintro e w3 ⟨rfl, Fo', O', oc', hF3, hL3, hO3, hS3⟩
            have e1 := AE.out hact
            have G3 := Lib.hid (show PGone w q p H Fm Fo Fl x y (some ⟨b, o, none⟩) n cap V cv B bc r (.returned (.int .i64 0)) w3 from by
              rw [e1]
              refine ⟨rfl, Fo', O', oc', _, ?_, hL3, fun _ => rfl, act_u (p := ⟨a + 1, v, now, out⟩) F2.out.nu HU.out, (OD.out.more (fun k hk => by simp [hk])).seq hO3, fun k hk => ?_⟩
              · show Fop w3 q { H with ill := H.ill || false } _ _ _ _ _ _ _ _
                rw [hp_id]
                exact hF3
              · rcases hS3 k hk with h | h
                · exact .inl h
                · exact .inr (Nat.le_trans OD.out.size h))
            clear hF3 hL3 hO3 hS3 e1 hact
            go_wp2_with fail
            go_ret
            exact G3.out
end Go.Proofs.Ytdhihmeknoofoaa.Pr
