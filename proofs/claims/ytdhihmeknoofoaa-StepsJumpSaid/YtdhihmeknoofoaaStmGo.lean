/-
  WALK: the run of steps: up to and behind the next action.
-/
import Derived.Test.YtdhihmeknoofoaaStmAct2
namespace Go.Proofs.Ytdhihmeknoofoaa.Sg
set_option linter.unusedVariables false
set_option linter.unusedSimpArgs false
open Go.RowKit Cm Mm Ow Ow2 Me Stp StW Rm Sp Sn Sa Sc

theorem goV_quiet {c : List St} {k : Nat} {p : Ps} {s : St} (hs : c.getD p.at_ zeroSt = s) (hp : p.at_ < c.length) (hq : isAct s.kind = false) : goV c (k + 1) p = goV c k (quietV c s { p with at_ := p.at_ + 1 }) := by
  rw [goV, if_neg (by omega), hs, hq]; rfl
theorem goV_act {c : List St} {k : Nat} {p : Ps} {s : St} (hs : c.getD p.at_ zeroSt = s) (hp : p.at_ < c.length) (hq : isAct s.kind = true) : goV c (k + 1) p = (0, actV s { p with at_ := p.at_ + 1 }) := by
  rw [goV, if_neg (by omega), hs, hq]; rfl
theorem goV_stuck {c : List St} {p : Ps} (hp : p.at_ < c.length) : goV c 0 p = (2, p) := by
  rw [goV, if_neg (by omega)]
theorem jumpV_le (c : List St) (to : Int) : jumpV c to ≤ c.length := List.findIdx_le_length
theorem quietV_now (c : List St) (s : St) (p : Ps) : (quietV c s p).now = p.now ∧ (quietV c s p).out = p.out := by
  unfold quietV; repeat' split
  all_goals exact ⟨rfl, rfl⟩
theorem quietV_at (c : List St) (s : St) (p : Ps) (h : p.at_ ≤ c.length) : (quietV c s p).at_ ≤ c.length := by
  unfold quietV; repeat' split
  all_goals first | exact h | exact jumpV_le _ _ | exact Nat.le_refl _
theorem actV_at (s : St) (p : Ps) : (actV s p).at_ = p.at_ := by
  unfold actV; repeat' split
  all_goals rfl
theorem goV_at (c : List St) : ∀ (k : Nat) (p : Ps), p.at_ ≤ c.length → (goV c k p).2.at_ ≤ c.length := by
  intro k
  induction k with
  | zero => intro p h; rw [goV]; split <;> exact h
  | succ k ih =>
    intro p h
    rw [goV]
    split
    · exact h
    · split
      · rw [actV_at]; show p.at_ + 1 ≤ _; omega
      · exact ih _ (quietV_at _ _ _ (by show p.at_ + 1 ≤ _; omega))

/-- behind it -/
def Gone (w : World) (q p : Nat) (H : Hm) (Fm Fo Fl : List Nat) (x y : Int) (A : Option Addr) (n cap : Nat) (V : Option Addr) (cv : Nat) (r : Nat × Ps) (e : Ending) (w' : World) : Prop :=
  e = .returned (.bool (r.1 == 0)) ∧ ∃ Fo' O' oc' kept' ver' en', Foc w' q { H with ill := H.ill || (r.1 == 2) } Fm Fo' O' oc' r.2.now kept' ver' r.2.out ∧ LnAt w' p Fl x y A n cap V cv r.2.v r.2.at_ (r.1 == 2) en' ∧ Only (q :: (Fm ++ Fo ++ Fl)) w w' ∧ (∀ k ∈ Fo', k ∈ Fo ∨ w.heap.size ≤ k)
/-- the run's own struct is written -/
theorem foc_ill {w : World} {q : Nat} {H : Hm} {Fm Fo : List Nat} {O : Option Addr} {oc : Nat} {now kept ver out : List Int} (h : Foc w q H Fm Fo O oc now kept ver out) : Foc (w.setCell ⟨q, 8, none⟩ (.bool true)) q { H with ill := true } Fm Fo O oc now kept ver out ∧ Only [q] w (w.setCell ⟨q, 8, none⟩ (.bool true)) := by
  have ho : Only [q] w (w.setCell ⟨q, 8, none⟩ (.bool true)) := (Only.refl _ _).setCell (by simp) _
  refine ⟨⟨?_, h.mem.far ho (fun k hk hm => h.qm (by rw [← List.mem_singleton.1 hm]; exact hk)), own_only h.row ho (fun g hg hm => h.qo (by rw [← List.mem_singleton.1 hm]; exact h.oF g hg)), h.oF, Nat.lt_of_lt_of_le h.qlt ho.size, fun k hk => Nat.lt_of_lt_of_le (h.oLt k hk) ho.size, h.qm, h.qo, h.mo⟩, ho⟩
  have hd := h.head
  unfold mcO at hd ⊢
  simp [World.setCell, Array.getElem?_modify, hd]
theorem isSt_only {w w' : World} {G : List Nat} {A : Option Addr} {n cap : Nat} {l : List St} (h : IsSt w A n cap l) (ho : Only G w w') (hn : ∀ g, A.map (·.block) = some g → g ∉ G) : IsSt w' A n cap l :=
  ⟨h.1, h.2.le, h.2.cap_le, fun h0 => by
    obtain ⟨b, o, e, hl, hc⟩ := h.2.at_ h0
    exact ⟨b, o, e, Nat.lt_of_lt_of_le hl ho.size, fun i hi j hj => (ho.cell (p := ⟨b, o + (i * 9 + j), none⟩) hl (hn b (by rw [e]; rfl))).trans (hc i hi j hj)⟩⟩
theorem ln_c6 {w : World} {p : Nat} {F : List Nat} {x y : Int} {A : Option Addr} {n cap : Nat} {V : Option Addr} {cv : Nat} {v : List Int} {a : Nat} {st en : Bool} (h : LnAt w p F x y A n cap V cv v a st en) : w.cell? ⟨p, 6, none⟩ = some (.bool en) := by simp [World.cell?, h.head, lnO]
theorem hm_id (H : Hm) : ({ H with ill := H.ill || false } : Hm) = H := by cases H; simp
theorem hm_ill (H : Hm) : ({ H with ill := H.ill || true } : Hm) = { H with ill := true } := by cases H; simp
theorem quiet0 {c : List St} {s : St} {a : Nat} {v now out : List Int} (h : s.kind = 0) : quietV c s ⟨a, v, now, out⟩ = ⟨a, putV v s.d s.n, now, out⟩ := by unfold quietV; rw [if_pos h]
theorem quiet1 {c : List St} {s : St} {a : Nat} {v now out : List Int} (h : s.kind = 1) : quietV c s ⟨a, v, now, out⟩ = ⟨a, putV v s.d (getV v s.a), now, out⟩ := by unfold quietV; rw [h]; rfl
theorem quiet2 {c : List St} {s : St} {a : Nat} {v now out : List Int} (h : s.kind = 2) : quietV c s ⟨a, v, now, out⟩ = ⟨a, putV v s.d (opV s.op (getV v s.a) (getV v s.b)), now, out⟩ := by unfold quietV; rw [h]; rfl
theorem quiet10 {c : List St} {s : St} {a : Nat} {v now out : List Int} (h : s.kind = 10) : quietV c s ⟨a, v, now, out⟩ = ⟨jumpV c s.to, v, now, out⟩ := by unfold quietV; rw [h]; rfl
theorem quiet11 {c : List St} {s : St} {a : Nat} {v now out : List Int} (h : s.kind = 11) : quietV c s ⟨a, v, now, out⟩ = ⟨if getV v s.a = 0 then jumpV c s.to else a, v, now, out⟩ := by unfold quietV; rw [h]; simp only [show ¬ (11 : Int) = 0 by decide, show ¬ (11 : Int) = 1 by decide, show ¬ (11 : Int) = 2 by decide, show ¬ (11 : Int) = 10 by decide, if_false, if_true]; split <;> rfl
theorem quiet12 {c : List St} {s : St} {a : Nat} {v now out : List Int} (h : s.kind = 12) : quietV c s ⟨a, v, now, out⟩ = ⟨c.length, v, now, out⟩ := by unfold quietV; rw [h]; rfl
theorem quietO {c : List St} {s : St} {p : Ps} (h : ¬ s.kind = 0 ∧ ¬ s.kind = 1 ∧ ¬ s.kind = 2 ∧ ¬ s.kind = 10 ∧ ¬ s.kind = 11 ∧ ¬ s.kind = 12) : quietV c s p = p := by
  obtain ⟨h1, h2, h3, h4, h5, h6⟩ := h
  unfold quietV; rw [if_neg h1, if_neg h2, if_neg h3, if_neg h4, if_neg h5, if_neg h6]
/-- a loop's round -/
structure Rd (w wr : World) (q p : Nat) (H : Hm) (Fm Fo Fl : List Nat) (O : Option Addr) (oc : Nat) (now kept ver out : List Int) (x y : Int) (A : Option Addr) (n cap : Nat) (V : Option Addr) (cv : Nat) (v : List Int) (a : Nat) (en : Bool) (c : List St) (r : Nat × Ps) (k : Nat) : Prop where
  F : Foc wr q H Fm Fo O oc now kept ver out
  L : LnAt wr p Fl x y A n cap V cv v a false en
  C : IsSt wr A n cap c
  Oy : Only Fl w wr
  le : a ≤ n
  eq : r = goV c (20000 - k) ⟨a, v, now, out⟩

set_option maxRecDepth 200000 in
set_option maxHeartbeats 12800000 in
theorem go_any {w : World} {q p : Nat} {H : Hm} {Fm Fo Fl : List Nat} {O : Option Addr} {oc : Nat} {now kept ver out : List Int} {x y : Int} {A : Option Addr} {n cap : Nat} {V : Option Addr} {cv : Nat} {v : List Int} {a : Nat} {en : Bool} {c : List St}
    (hF : Foc w q H Fm Fo O oc now kept ver out) (hL : LnAt w p Fl x y A n cap V cv v a false en) (hC : IsSt w A n cap c) (hql : q ∉ Fl) (hml : ∀ k ∈ Fm, k ∉ Fl) (hol : ∀ k ∈ Fo, k ∉ Fl) (hA : 0 < n → ∀ g, A.map (·.block) = some g → g ∉ Fl) (hout : out.length ≤ 1000000) (hn : n ≤ 65536) (ha : a ≤ n) :
    Calls Try.prog 59 #[.pointer (some ⟨q, 0, none⟩), .pointer (some ⟨p, 0, none⟩)] w (Gone w q p H Fm Fo Fl x y A n cap V cv (goV c 20000 ⟨a, v, now, out⟩)) := by
  have DQ := Lib.hid hql
  have DM := Lib.hid hml
  have DO := Lib.hid hol
  have DA := Lib.hid hA
  have hl := Lib.hid hC.1
  have RR : Hid (Rd w w q p H Fm Fo Fl O oc now kept ver out x y A n cap V cv v a en c (goV c 20000 ⟨a, v, now, out⟩) 0) := Lib.hid ⟨hF, hL, hC, Only.refl _ _, ha, rfl⟩
  have hn2 : (n : Int) ≤ 65536 := by omega
  have hwq := hF.qlt
  have QM := Lib.hid hF.mem.lt
  have QO := Lib.hid hF.oLt
  have QL := Lib.hid hL.lt
  have PF := Lib.hid hL.pF
  generalize goV c 20000 ⟨a, v, now, out⟩ = r at *
  clear hF hL hC hql hml hol hA ha
  go_enter Try.func59, Try.ntmps59
  go_wp2_with fail
  go_loopw [5] (fun i wr => ∃ (k : Nat) (v : List Int) (a : Nat), k ≤ 20000 ∧ i = .int .i64 k ∧ Rd w wr q p H Fm Fo Fl O oc now kept ver out x y A n cap V cv v a en c r k) (fun i _ => 20001 - (intOf i).toNat)
  case atStart => exact ⟨0, v, a, by omega, rfl, RR.out⟩
  case round =>
    obtain ⟨k, v, a, hk, rfl, hR⟩ := hrel
    have HR := Lib.hid hR
    have hae := hR.le
    clear hR RR
    have g2 := HR.out.L.c2
    have g4 := HR.out.L.c4
    have g5 := HR.out.L.c5
    go_wp2_with fail
    refine (over_any wr HR.out.L).mono ?_
    rintro e w2 ⟨rfl, m2, rfl⟩
    have B2 : Hid (Below wr.heap.size wr (wr.drewN m2)) := Lib.hid (below_drawn _ _)
    obtain ⟨w2, hw2⟩ : ∃ w2, wr.drewN m2 = w2 := ⟨_, rfl⟩
    rw [hw2] at B2
    rw [hw2]
    clear g2 g4 g5 hw2
    have F2 := Lib.hid (HR.out.F.keep B2.out)
    have L2 := Lib.hid (HR.out.L.keep B2.out)
    have C2 := Lib.hid (HR.out.C.keep B2.out)
    have O2 : Hid (Only Fl w w2) := Lib.hid (HR.out.Oy.seq (Only.of_below B2.out))
    have RE := Lib.hid HR.out.eq
    have fp := L2.out.free
    have fq := F2.out.free'
    have g2 := L2.out.c2
    have g4 := L2.out.c4
    have g5 := L2.out.c5
    have g8 := F2.out.c8
    by_cases hna : n ≤ a
    · have h1 : decide (n ≤ a) = true := decide_eq_true hna
      have e1 : r = (1, ⟨a, v, now, out⟩) := by rw [RE.out]; exact goV_done _ _ _ (by rw [hl.out]; exact hna)
      have g6 := ln_c6 L2.out
      have T := L2.out.set 6 (.bool true) (a' := a) (st' := false) (en' := true) rfl
      have HO : Only Fl w2 (w2.setCell ⟨p, 6, none⟩ (.bool true)) := T.2.more (fun k hk => by rw [List.mem_singleton.1 hk]; exact PF.out)
      have G3 := Lib.hid (show Gone w q p H Fm Fo Fl x y A n cap V cv r (.returned (.bool false)) (w2.setCell ⟨p, 6, none⟩ (.bool true)) from by
        rw [e1]
        refine ⟨rfl, Fo, O, oc, kept, ver, true, ?_, T.1, (O2.out.seq HO).more (fun k hk => by simp [hk]), fun k hk => .inl hk⟩
        show Foc _ q { H with ill := H.ill || false } _ _ _ _ _ _ _ _
        rw [hm_id]
        exact F2.out.far HO DQ.out DM.out DO.out)
      clear T HO e1
      go_wp2_with fail
      go_ret
      exact G3.out
    · have h1 : decide (n ≤ a) = false := decide_eq_false hna
      by_cases hk2 : k = 20000
      · subst hk2
        have e1 : r = (2, ⟨a, v, now, out⟩) := by rw [RE.out]; exact goV_stuck (by rw [hl.out]; show a < n; omega)
        have T := L2.out.set 5 (.bool true) (a' := a) (st' := true) (en' := en) rfl
        have HO : Only Fl w2 (w2.setCell ⟨p, 5, none⟩ (.bool true)) := T.2.more (fun k hk => by rw [List.mem_singleton.1 hk]; exact PF.out)
        have F3 := F2.out.far HO DQ.out DM.out DO.out
        have fq3 := F3.free'
        have g83 := F3.c8
        have F4 := foc_ill F3
        have L4 := T.1.far F4.2 (fun k hk hm => DQ.out (by rw [← List.mem_singleton.1 hm]; exact hk))
        have fp4 := L4.free
        have g54 := L4.c5
        have g64 := ln_c6 L4
        have T5 := L4.set 6 (.bool false) (a' := a) (st' := true) (en' := false) rfl
        have HO5 := T5.2.more (F' := Fl) (fun k hk => by rw [List.mem_singleton.1 hk]; exact PF.out)
        have F5 := F4.1.far HO5 DQ.out DM.out DO.out
        have OO := (((O2.out.seq HO).more (F' := q :: (Fm ++ Fo ++ Fl)) (fun k hk => by simp [hk])).seq (F4.2.more (fun k hk => by rw [List.mem_singleton.1 hk]; simp))).seq (HO5.more (fun k hk => by simp [hk]))
        have G3 := Lib.hid (show Gone w q p H Fm Fo Fl x y A n cap V cv r (.returned (.bool false)) (((w2.setCell ⟨p, 5, none⟩ (.bool true)).setCell ⟨q, 8, none⟩ (.bool true)).setCell ⟨p, 6, none⟩ (.bool false)) from by
          rw [e1]
          refine ⟨rfl, Fo, O, oc, kept, ver, false, ?_, T5.1, OO, fun k hk => .inl hk⟩
          show Foc _ q { H with ill := H.ill || true } _ _ _ _ _ _ _ _
          rw [hm_ill]
          exact F5)
        clear T HO e1 F3 F4 T5 HO5 F5 OO L4
        go_wp2_with fail
        go_ret
        exact G3.out
      · have hk3 : ¬ (20000 : Int) ≤ (k : Int) := by omega
        obtain ⟨b, o, hAe, hb, z0, z1, z2, z3, z4, z5, z6, z7, z8⟩ := C2.out.cell (k := a) (by omega)
        have DAb := Lib.hid (DA.out (by omega) b (by rw [hAe]; rfl))
        subst hAe
        obtain ⟨s, hs⟩ : ∃ s, c.getD a zeroSt = s := ⟨_, rfl⟩
        have HS := Lib.hid hs
        rw [hs] at z0 z1 z2 z3 z4 z5 z6 z7 z8
        clear hs
        have a1 : (a : Int) < n := by omega
        have a2 : (0 : Int) ≤ (a : Int) := by omega
        go_wp2_with fail
        refine Hd.start 12 (fun w' => w'.cell? ⟨p, 2, none⟩ = some (.slice (some ⟨b, o, none⟩) n cap) ∧ w'.cell? ⟨p, 4, none⟩ = some (.int .i64 a) ∧ w'.cell? ⟨b, o + a * 9, none⟩ = some (.int .i64 s.kind) ∧ w'.cell? ⟨b, o + a * 9 + 1, none⟩ = some (.int .i64 s.d) ∧ w'.cell? ⟨b, o + a * 9 + 2, none⟩ = some (.int .i64 s.a) ∧ w'.cell? ⟨b, o + a * 9 + 3, none⟩ = some (.int .i64 s.b) ∧ w'.cell? ⟨b, o + a * 9 + 4, none⟩ = some (.int .i64 s.c) ∧ w'.cell? ⟨b, o + a * 9 + 5, none⟩ = some (.int .i64 s.to) ∧ w'.cell? ⟨b, o + a * 9 + 6, none⟩ = some (.int .i64 s.cell) ∧ w'.cell? ⟨b, o + a * 9 + 7, none⟩ = some (.int .u64 s.n) ∧ w'.cell? ⟨b, o + a * 9 + 8, none⟩ = some (.int .u8 s.op)) (by kernel_rfl) ?_
        have SA : w2.drew.cell? ⟨p, 2, none⟩ = some (.slice (some ⟨b, o, none⟩) n cap) ∧ w2.drew.cell? ⟨p, 4, none⟩ = some (.int .i64 a) ∧ w2.drew.cell? ⟨b, o + a * 9, none⟩ = some (.int .i64 s.kind) ∧ w2.drew.cell? ⟨b, o + a * 9 + 1, none⟩ = some (.int .i64 s.d) ∧ w2.drew.cell? ⟨b, o + a * 9 + 2, none⟩ = some (.int .i64 s.a) ∧ w2.drew.cell? ⟨b, o + a * 9 + 3, none⟩ = some (.int .i64 s.b) ∧ w2.drew.cell? ⟨b, o + a * 9 + 4, none⟩ = some (.int .i64 s.c) ∧ w2.drew.cell? ⟨b, o + a * 9 + 5, none⟩ = some (.int .i64 s.to) ∧ w2.drew.cell? ⟨b, o + a * 9 + 6, none⟩ = some (.int .i64 s.cell) ∧ w2.drew.cell? ⟨b, o + a * 9 + 7, none⟩ = some (.int .u64 s.n) ∧ w2.drew.cell? ⟨b, o + a * 9 + 8, none⟩ = some (.int .u8 s.op) := ⟨g2, g4, z0, z1, z2, z3, z4, z5, z6, z7, z8⟩
        refine Hd.take (i := 0) (v := ?v1) rfl (by decide +kernel) (by decide +kernel) (fun _ _ _ h => h) rfl ?hy1 SA ?rest1
        case hy1 =>
          intro wq hSw
          obtain ⟨s0, s1, t0, t1, t2, t3, t4, t5, t6, t7, t8⟩ := hSw
          go_simp
          try with_reducible rfl
        try simp only [Act.put, List.setIfInBounds_toArray, List.set_cons_zero, List.set_cons_succ]
        refine Hd.take (i := 1) (v := ?v2) rfl (by decide +kernel) (by decide +kernel) (fun _ _ _ h => h) rfl ?hy2 SA ?rest2
        case hy2 =>
          intro wq hSw
          obtain ⟨s0, s1, t0, t1, t2, t3, t4, t5, t6, t7, t8⟩ := hSw
          go_simp
          try with_reducible rfl
        try simp only [Act.put, List.setIfInBounds_toArray, List.set_cons_zero, List.set_cons_succ]
        refine Hd.take (i := 2) (v := ?v3) rfl (by decide +kernel) (by decide +kernel) (fun _ _ _ h => h) rfl ?hy3 SA ?rest3
        case hy3 =>
          intro wq hSw
          obtain ⟨s0, s1, t0, t1, t2, t3, t4, t5, t6, t7, t8⟩ := hSw
          go_simp
          try with_reducible rfl
        try simp only [Act.put, List.setIfInBounds_toArray, List.set_cons_zero, List.set_cons_succ]
        refine Hd.take (i := 3) (v := ?v4) rfl (by decide +kernel) (by decide +kernel) (fun _ _ _ h => h) rfl ?hy4 SA ?rest4
        case hy4 =>
          intro wq hSw
          obtain ⟨s0, s1, t0, t1, t2, t3, t4, t5, t6, t7, t8⟩ := hSw
          go_simp
          try with_reducible rfl
        try simp only [Act.put, List.setIfInBounds_toArray, List.set_cons_zero, List.set_cons_succ]
        refine Hd.take (i := 4) (v := ?v5) rfl (by decide +kernel) (by decide +kernel) (fun _ _ _ h => h) rfl ?hy5 SA ?rest5
        case hy5 =>
          intro wq hSw
          obtain ⟨s0, s1, t0, t1, t2, t3, t4, t5, t6, t7, t8⟩ := hSw
          go_simp
          try with_reducible rfl
        try simp only [Act.put, List.setIfInBounds_toArray, List.set_cons_zero, List.set_cons_succ]
        refine Hd.take (i := 5) (v := ?v6) rfl (by decide +kernel) (by decide +kernel) (fun _ _ _ h => h) rfl ?hy6 SA ?rest6
        case hy6 =>
          intro wq hSw
          obtain ⟨s0, s1, t0, t1, t2, t3, t4, t5, t6, t7, t8⟩ := hSw
          go_simp
          try with_reducible rfl
        try simp only [Act.put, List.setIfInBounds_toArray, List.set_cons_zero, List.set_cons_succ]
        refine Hd.take (i := 6) (v := ?v7) rfl (by decide +kernel) (by decide +kernel) (fun _ _ _ h => h) rfl ?hy7 SA ?rest7
        case hy7 =>
          intro wq hSw
          obtain ⟨s0, s1, t0, t1, t2, t3, t4, t5, t6, t7, t8⟩ := hSw
          go_simp
          try with_reducible rfl
        try simp only [Act.put, List.setIfInBounds_toArray, List.set_cons_zero, List.set_cons_succ]
        refine Hd.take (i := 7) (v := ?v8) rfl (by decide +kernel) (by decide +kernel) (fun _ _ _ h => h) rfl ?hy8 SA ?rest8
        case hy8 =>
          intro wq hSw
          obtain ⟨s0, s1, t0, t1, t2, t3, t4, t5, t6, t7, t8⟩ := hSw
          go_simp
          try with_reducible rfl
        try simp only [Act.put, List.setIfInBounds_toArray, List.set_cons_zero, List.set_cons_succ]
        refine Hd.take (i := 8) (v := ?v9) rfl (by decide +kernel) (by decide +kernel) (fun _ _ _ h => h) rfl ?hy9 SA ?rest9
        case hy9 =>
          intro wq hSw
          obtain ⟨s0, s1, t0, t1, t2, t3, t4, t5, t6, t7, t8⟩ := hSw
          go_simp
          try with_reducible rfl
        try simp only [Act.put, List.setIfInBounds_toArray, List.set_cons_zero, List.set_cons_succ]
        refine Hd.take (i := 9) (v := ?v10) rfl (by decide +kernel) (by decide +kernel) (fun _ _ _ h => h) rfl ?hy10 SA ?rest10
        case hy10 =>
          intro wq hSw
          obtain ⟨s0, s1, t0, t1, t2, t3, t4, t5, t6, t7, t8⟩ := hSw
          go_simp
          try with_reducible rfl
        try simp only [Act.put, List.setIfInBounds_toArray, List.set_cons_zero, List.set_cons_succ]
        refine Hd.take (i := 10) (v := ?v11) rfl (by decide +kernel) (by decide +kernel) (fun _ _ _ h => h) rfl ?hy11 SA ?rest11
        case hy11 =>
          intro wq hSw
          obtain ⟨s0, s1, t0, t1, t2, t3, t4, t5, t6, t7, t8⟩ := hSw
          go_simp
          try with_reducible rfl
        try simp only [Act.put, List.setIfInBounds_toArray, List.set_cons_zero, List.set_cons_succ]
        have hbl := hb
        refine Hd.one (i := 11) rfl (by kernel_rfl) rfl (fun K hK => ?_)
        go_simp
        have SB : (w2.alloc (.cells #[.int .i64 0, .int .i64 0, .int .i64 0, .int .i64 0, .int .i64 0, .int .i64 0, .int .i64 0, .int .u64 0, .int .u8 0] 31)).drew.cell? ⟨p, 2, none⟩ = some (.slice (some ⟨b, o, none⟩) n cap) ∧ (w2.alloc (.cells #[.int .i64 0, .int .i64 0, .int .i64 0, .int .i64 0, .int .i64 0, .int .i64 0, .int .i64 0, .int .u64 0, .int .u8 0] 31)).drew.cell? ⟨p, 4, none⟩ = some (.int .i64 a) ∧ (w2.alloc (.cells #[.int .i64 0, .int .i64 0, .int .i64 0, .int .i64 0, .int .i64 0, .int .i64 0, .int .i64 0, .int .u64 0, .int .u8 0] 31)).drew.cell? ⟨b, o + a * 9, none⟩ = some (.int .i64 s.kind) ∧ (w2.alloc (.cells #[.int .i64 0, .int .i64 0, .int .i64 0, .int .i64 0, .int .i64 0, .int .i64 0, .int .i64 0, .int .u64 0, .int .u8 0] 31)).drew.cell? ⟨b, o + a * 9 + 1, none⟩ = some (.int .i64 s.d) ∧ (w2.alloc (.cells #[.int .i64 0, .int .i64 0, .int .i64 0, .int .i64 0, .int .i64 0, .int .i64 0, .int .i64 0, .int .u64 0, .int .u8 0] 31)).drew.cell? ⟨b, o + a * 9 + 2, none⟩ = some (.int .i64 s.a) ∧ (w2.alloc (.cells #[.int .i64 0, .int .i64 0, .int .i64 0, .int .i64 0, .int .i64 0, .int .i64 0, .int .i64 0, .int .u64 0, .int .u8 0] 31)).drew.cell? ⟨b, o + a * 9 + 3, none⟩ = some (.int .i64 s.b) ∧ (w2.alloc (.cells #[.int .i64 0, .int .i64 0, .int .i64 0, .int .i64 0, .int .i64 0, .int .i64 0, .int .i64 0, .int .u64 0, .int .u8 0] 31)).drew.cell? ⟨b, o + a * 9 + 4, none⟩ = some (.int .i64 s.c) ∧ (w2.alloc (.cells #[.int .i64 0, .int .i64 0, .int .i64 0, .int .i64 0, .int .i64 0, .int .i64 0, .int .i64 0, .int .u64 0, .int .u8 0] 31)).drew.cell? ⟨b, o + a * 9 + 5, none⟩ = some (.int .i64 s.to) ∧ (w2.alloc (.cells #[.int .i64 0, .int .i64 0, .int .i64 0, .int .i64 0, .int .i64 0, .int .i64 0, .int .i64 0, .int .u64 0, .int .u8 0] 31)).drew.cell? ⟨b, o + a * 9 + 6, none⟩ = some (.int .i64 s.cell) ∧ (w2.alloc (.cells #[.int .i64 0, .int .i64 0, .int .i64 0, .int .i64 0, .int .i64 0, .int .i64 0, .int .i64 0, .int .u64 0, .int .u8 0] 31)).drew.cell? ⟨b, o + a * 9 + 7, none⟩ = some (.int .u64 s.n) ∧ (w2.alloc (.cells #[.int .i64 0, .int .i64 0, .int .i64 0, .int .i64 0, .int .i64 0, .int .i64 0, .int .i64 0, .int .u64 0, .int .u8 0] 31)).drew.cell? ⟨b, o + a * 9 + 8, none⟩ = some (.int .u8 s.op) := by
          have l1 := L2.out.lt p PF.out
          have k1 : ∀ (g oo : Nat) (u : Value), g < w2.heap.size → w2.cell? ⟨g, oo, none⟩ = some u → (w2.alloc (.cells #[.int .i64 0, .int .i64 0, .int .i64 0, .int .i64 0, .int .i64 0, .int .i64 0, .int .i64 0, .int .u64 0, .int .u8 0] 31)).drew.cell? ⟨g, oo, none⟩ = some u := fun g oo u hg hu => (World.cell?_alloc_lt _ _ _ hg).trans hu
          exact ⟨k1 _ _ _ l1 g2, k1 _ _ _ l1 g4, k1 _ _ _ hb z0, k1 _ _ _ hb z1, k1 _ _ _ hb z2, k1 _ _ _ hb z3, k1 _ _ _ hb z4, k1 _ _ _ hb z5, k1 _ _ _ hb z6, k1 _ _ _ hb z7, k1 _ _ _ hb z8⟩
        refine hK _ _ (fun _ => SB) ?_
        clear hK K
        try simp only [Act.put, List.setIfInBounds_toArray, List.set_cons_zero, List.set_cons_succ]
        refine Hd.one (i := 12) rfl (by kernel_rfl) rfl (fun K hK => ?_)
        go_simp
        refine hK _ _ (fun h => absurd h (by omega)) ?_
        clear SA SB
        clear hK K
        try simp only [Act.put, List.setIfInBounds_toArray, List.set_cons_zero, List.set_cons_succ]
        refine Hd.done (by kernel_rfl) ?_ _
        obtain ⟨W7, hW7⟩ : ∃ W7, (w2.alloc (.cells #[.int .i64 s.kind, .int .i64 s.d, .int .i64 s.a, .int .i64 s.b, .int .i64 s.c, .int .i64 s.to, .int .i64 s.cell, .int .u64 s.n, .int .u8 s.op] 31)).drew = W7 := ⟨_, rfl⟩
        have hB7 : Below w2.heap.size w2 W7 := by rw [← hW7]; exact ((Below.refl _ _).alloc (Nat.le_refl _) _).drew
        have S7 : Stc W7 w2.heap.size s := by rw [← hW7]; exact Stc.new w2 s
        have L7 := L2.out.keep hB7
        have F7 := F2.out.keep hB7
        have C7 := C2.out.keep hB7
        have T7 := L7.set 4 (.int .i64 ((a : Int) + 1)) (a' := a + 1) (st' := false) (en' := en) rfl
        have h74 := L7.c4
        have f7 := L7.free
        have hgp : w2.heap.size ≠ p := fun e => by have := L2.out.lt p PF.out; omega
        have S8 := Lib.hid (S7.far T7.2 (fun hm => hgp (List.mem_singleton.1 hm)))
        have L8 := Lib.hid T7.1
        have PO : Hid (Only Fl W7 (W7.setCell ⟨p, 4, none⟩ (.int .i64 ((a : Int) + 1)))) := Lib.hid (T7.2.more (fun k hk => by rw [List.mem_singleton.1 hk]; exact PF.out))
        have F8 := Lib.hid (F7.far PO.out DQ.out DM.out DO.out)
        have C8 := Lib.hid (isSt_only C7 PO.out (fun g hg => by cases hg; exact DAb.out))
        have O8 := Lib.hid ((O2.out.seq (Only.of_below hB7)).seq PO.out)
        have QE : Hid (isAct s.kind = false → r = goV c (20000 - (k + 1)) (quietV c s ⟨a + 1, v, now, out⟩)) := Lib.hid (fun hq => by
          rw [RE.out, show 20000 - k = (20000 - (k + 1)) + 1 by omega]
          exact goV_quiet HS.out (by rw [hl.out]; show a < n; omega) hq)
        have AE : Hid (isAct s.kind = true → r = (0, actV s ⟨a + 1, v, now, out⟩)) := Lib.hid (fun hq => by
          rw [RE.out, show 20000 - k = (20000 - (k + 1)) + 1 by omega]
          exact goV_act HS.out (by rw [hl.out]; show a < n; omega) hq)
        have hgl : Hid (w2.heap.size ∉ Fl ∧ w2.heap.size ≠ q) := Lib.hid ⟨fun hm => by have := L2.out.lt _ hm; omega, fun e => by have := F2.out.qlt; omega⟩
        rw [hW7]
        clear hW7 S7 L7 F7 C7 T7 PO hgp g2 g4 g5 g8 z0 z1 z2 z3 z4 z5 z6 z7 z8 hB7 fp fq
        have hk4 : k + 1 ≤ 20000 := by omega
        go_upto_region 9 with (fail)
        obtain ⟨W8, hW8⟩ : ∃ W8, W7.setCell ⟨p, 4, none⟩ (.int .i64 ((a : Int) + 1)) = W8 := ⟨_, rfl⟩
        rw [hW8] at S8 L8 F8 C8 O8
        rw [hW8]
        clear hW8 h74 f7
        obtain ⟨g, hg⟩ : ∃ g, w2.heap.size = g := ⟨_, rfl⟩
        rw [hg] at S8 hgl
        rw [hg]
        clear hg
        have x0 := S8.out.c0
        have x1 := S8.out.c1
        have x2 := S8.out.c2
        have x3 := S8.out.c3
        have x4 := S8.out.c4
        have x5 := S8.out.c5
        have x6 := S8.out.c6
        have x7 := S8.out.c7
        have x8 := S8.out.c8
        have fp := L8.out.free
        have g2 := L8.out.c2
        have g4 := L8.out.c4
        have hCases : s.kind = 0 ∨ s.kind = 1 ∨ s.kind = 2 ∨ s.kind = 10 ∨ s.kind = 11 ∨ s.kind = 12 ∨ s.kind = 3 ∨ s.kind = 4 ∨ s.kind = 5 ∨ s.kind = 8 ∨ (¬ s.kind = 0 ∧ ¬ s.kind = 1 ∧ ¬ s.kind = 2 ∧ ¬ s.kind = 10 ∧ ¬ s.kind = 11 ∧ ¬ s.kind = 12 ∧ ¬ s.kind = 3 ∧ ¬ s.kind = 4 ∧ ¬ s.kind = 5 ∧ ¬ s.kind = 8) := by omega
        rcases hCases with hk9 | hk9 | hk9 | hk9 | hk9 | hk9 | hk9 | hk9 | hk9 | hk9 | hk9
        · have HK := Lib.hid hk9
          clear hk9
          have b0 : (s.kind == 0) = true := by rw [HK.out]; rfl
          go_wp2_with fail
          refine (put_any s.d s.n W8 L8.out).mono ?_
          rintro e w3 ⟨rfl, hL3, hO3⟩
          have HO3 : Hid (Only Fl W8 w3) := Lib.hid (hO3.more (fun k hk => L8.out.vF k (by simpa using hk)))
          have L3 := Lib.hid hL3
          have F3 := Lib.hid (F8.out.far HO3.out DQ.out DM.out DO.out)
          have C3 := Lib.hid (isSt_only C8.out HO3.out (fun g hg => by cases hg; exact DAb.out))
          have E3 := QE.out (by rw [HK.out]; rfl)
          rw [quiet0 HK.out] at E3
          have E3 := Lib.hid E3
          have O3 := Lib.hid (O8.out.seq HO3.out)
          clear hL3 hO3 x0 x1 x2 x3 x4 x5 x6 x7 x8 g2 g4 fp
          go_wp2_with fail
          go_roundw
          case rel => exact ⟨k + 1, _, _, by omega, by go_num, ⟨F3.out, L3.out, C3.out, O3.out, by omega, E3.out⟩⟩
          case measure => simp [intOf]; omega
        · have HK := Lib.hid hk9
          clear hk9
          have b0 : (s.kind == 0) = false := by rw [HK.out]; rfl
          have b1 : (s.kind == 1) = true := by rw [HK.out]; rfl
          go_wp2_with fail
          have BD : Hid (Below W8.heap.size W8 W8.drew) := Lib.hid ((Below.refl _ _).drew)
          go_still_tail 7, (by kernel_rfl)
          still_call (get_still s.a W8.drew (L8.out.keep BD.out))
          refine wpStill_nil ?_
          go_wp2_with fail
          refine (put_any s.d _ W8.drew (L8.out.keep BD.out)).mono ?_
          rintro e w3 ⟨rfl, hL3, hO3⟩
          have HO3 : Hid (Only Fl W8 w3) := Lib.hid ((Only.of_below (F := Fl) BD.out).seq (hO3.more (fun k hk => L8.out.vF k (by simpa using hk))))
          have L3 := Lib.hid hL3
          have F3 := Lib.hid (F8.out.far HO3.out DQ.out DM.out DO.out)
          have C3 := Lib.hid (isSt_only C8.out HO3.out (fun g hg => by cases hg; exact DAb.out))
          have E3 := QE.out (by rw [HK.out]; rfl)
          rw [quiet1 HK.out] at E3
          have E3 := Lib.hid E3
          have O3 := Lib.hid (O8.out.seq HO3.out)
          clear hL3 hO3 x0 x1 x2 x3 x4 x5 x6 x7 x8 g2 g4 fp
          go_wp2_with fail
          go_roundw
          case rel => exact ⟨k + 1, _, _, by omega, by go_num, ⟨F3.out, L3.out, C3.out, O3.out, by omega, E3.out⟩⟩
          case measure => simp [intOf]; omega
        · have HK := Lib.hid hk9
          clear hk9
          have b0 : (s.kind == 0) = false := by rw [HK.out]; rfl
          have b1 : (s.kind == 1) = false := by rw [HK.out]; rfl
          have b2 : (s.kind == 2) = true := by rw [HK.out]; rfl
          go_wp2_with fail
          have BD : Hid (Below W8.heap.size W8 W8.drew) := Lib.hid ((Below.refl _ _).drew)
          go_still_tail 14, (by kernel_rfl)
          still_call (get_still s.a W8.drew (L8.out.keep BD.out))
          repeat still_step
          still_call (get_still s.b W8.drew (L8.out.keep BD.out))
          repeat still_step
          still_call (op_still s.op _ _ W8.drew)
          refine wpStill_nil ?_
          go_wp2_with fail
          refine (put_any s.d _ W8.drew (L8.out.keep BD.out)).mono ?_
          rintro e w3 ⟨rfl, hL3, hO3⟩
          have HO3 : Hid (Only Fl W8 w3) := Lib.hid ((Only.of_below (F := Fl) BD.out).seq (hO3.more (fun k hk => L8.out.vF k (by simpa using hk))))
          have L3 := Lib.hid hL3
          have F3 := Lib.hid (F8.out.far HO3.out DQ.out DM.out DO.out)
          have C3 := Lib.hid (isSt_only C8.out HO3.out (fun g hg => by cases hg; exact DAb.out))
          have E3 := QE.out (by rw [HK.out]; rfl)
          rw [quiet2 HK.out] at E3
          have E3 := Lib.hid E3
          have O3 := Lib.hid (O8.out.seq HO3.out)
          clear hL3 hO3 x0 x1 x2 x3 x4 x5 x6 x7 x8 g2 g4 fp
          go_wp2_with fail
          go_roundw
          case rel => exact ⟨k + 1, _, _, by omega, by go_num, ⟨F3.out, L3.out, C3.out, O3.out, by omega, E3.out⟩⟩
          case measure => simp [intOf]; omega
        · have HK := Lib.hid hk9
          clear hk9
          have b0 : (s.kind == 0) = false := by rw [HK.out]; rfl
          have b1 : (s.kind == 1) = false := by rw [HK.out]; rfl
          have b2 : (s.kind == 2) = false := by rw [HK.out]; rfl
          have b10 : (s.kind == 10) = true := by rw [HK.out]; rfl
          go_wp2_with fail
          refine (jump_any s.to W8 L8.out C8.out hn).mono ?_
          rintro e w3 ⟨rfl, hL3, hO3⟩
          have HO3 : Hid (Only Fl W8 w3) := Lib.hid (hO3.more (fun k hk => by rw [List.mem_singleton.1 hk]; exact PF.out))
          have L3 := Lib.hid hL3
          have F3 := Lib.hid (F8.out.far HO3.out DQ.out DM.out DO.out)
          have C3 := Lib.hid (isSt_only C8.out HO3.out (fun g hg => by cases hg; exact DAb.out))
          have E3 := QE.out (by rw [HK.out]; rfl)
          rw [quiet10 HK.out] at E3
          have E3 := Lib.hid E3
          have O3 := Lib.hid (O8.out.seq HO3.out)
          have hjl : jumpV c s.to ≤ n := by rw [← hl.out]; exact jumpV_le _ _
          clear hL3 hO3 x0 x1 x2 x3 x4 x5 x6 x7 x8 g2 g4 fp
          go_wp2_with fail
          go_roundw
          case rel => exact ⟨k + 1, _, _, by omega, by go_num, ⟨F3.out, L3.out, C3.out, O3.out, hjl, E3.out⟩⟩
          case measure => simp [intOf]; omega
        · have HK := Lib.hid hk9
          clear hk9
          have b0 : (s.kind == 0) = false := by rw [HK.out]; rfl
          have b1 : (s.kind == 1) = false := by rw [HK.out]; rfl
          have b2 : (s.kind == 2) = false := by rw [HK.out]; rfl
          have b10 : (s.kind == 10) = false := by rw [HK.out]; rfl
          have b11 : (s.kind == 11) = true := by rw [HK.out]; rfl
          go_wp2_with fail
          refine (get_any s.a W8 L8.out).mono ?_
          rintro e w3 ⟨rfl, rfl⟩
          by_cases hz : getV v s.a = 0
          · have HZ := Lib.hid hz
            have hz1 : (getV v s.a == 0) = true := by rw [beq_iff_eq]; exact hz
            clear hz
            go_wp2_with fail
            refine (jump_any s.to W8 L8.out C8.out hn).mono ?_
            rintro e w3 ⟨rfl, hL3, hO3⟩
            have HO3 : Hid (Only Fl W8 w3) := Lib.hid (hO3.more (fun k hk => by rw [List.mem_singleton.1 hk]; exact PF.out))
            have L3 := Lib.hid hL3
            have F3 := Lib.hid (F8.out.far HO3.out DQ.out DM.out DO.out)
            have C3 := Lib.hid (isSt_only C8.out HO3.out (fun g hg => by cases hg; exact DAb.out))
            have E3 := QE.out (by rw [HK.out]; rfl)
            rw [quiet11 HK.out, if_pos HZ.out] at E3
            have E3 := Lib.hid E3
            have O3 := Lib.hid (O8.out.seq HO3.out)
            have hjl : jumpV c s.to ≤ n := by rw [← hl.out]; exact jumpV_le _ _
            clear hL3 hO3 x0 x1 x2 x3 x4 x5 x6 x7 x8 g2 g4 fp
            go_wp2_with fail
            go_roundw
            case rel => exact ⟨k + 1, _, _, by omega, by go_num, ⟨F3.out, L3.out, C3.out, O3.out, hjl, E3.out⟩⟩
            case measure => simp [intOf]; omega
          · have HZ := Lib.hid hz
            have hz1 : (getV v s.a == 0) = false := by rw [beq_eq_false_iff_ne]; exact hz
            clear hz
            have E3 := QE.out (by rw [HK.out]; rfl)
            rw [quiet11 HK.out, if_neg HZ.out] at E3
            have E3 := Lib.hid E3
            go_wp2_with fail
            go_roundw
            case rel => exact ⟨k + 1, _, _, by omega, by go_num, ⟨F8.out, L8.out, C8.out, O8.out, by omega, E3.out⟩⟩
            case measure => simp [intOf]; omega
        · have HK := Lib.hid hk9
          clear hk9
          have b0 : (s.kind == 0) = false := by rw [HK.out]; rfl
          have b1 : (s.kind == 1) = false := by rw [HK.out]; rfl
          have b2 : (s.kind == 2) = false := by rw [HK.out]; rfl
          have b10 : (s.kind == 10) = false := by rw [HK.out]; rfl
          have b11 : (s.kind == 11) = false := by rw [HK.out]; rfl
          have b12 : (s.kind == 12) = true := by rw [HK.out]; rfl
          have T9 := L8.out.set 4 (.int .i64 (n : Int)) (a' := n) (st' := false) (en' := en) rfl
          have HO3 : Hid (Only Fl W8 (W8.setCell ⟨p, 4, none⟩ (.int .i64 (n : Int)))) := Lib.hid (T9.2.more (fun k hk => by rw [List.mem_singleton.1 hk]; exact PF.out))
          have L3 := Lib.hid T9.1
          have F3 := Lib.hid (F8.out.far HO3.out DQ.out DM.out DO.out)
          have C3 := Lib.hid (isSt_only C8.out HO3.out (fun g hg => by cases hg; exact DAb.out))
          have E3 := QE.out (by rw [HK.out]; rfl)
          rw [quiet12 HK.out, hl.out] at E3
          have E3 := Lib.hid E3
          have O3 := Lib.hid (O8.out.seq HO3.out)
          clear T9
          go_wp2_with fail
          go_roundw
          case rel => exact ⟨k + 1, _, _, by omega, by go_num, ⟨F3.out, L3.out, C3.out, O3.out, Nat.le_refl _, E3.out⟩⟩
          case measure => simp [intOf]; omega
        · have HK := Lib.hid hk9
          clear hk9
          have b0 : (s.kind == 0) = false := by rw [HK.out]; rfl
          have b1 : (s.kind == 1) = false := by rw [HK.out]; rfl
          have b2 : (s.kind == 2) = false := by rw [HK.out]; rfl
          have b10 : (s.kind == 10) = false := by rw [HK.out]; rfl
          have b11 : (s.kind == 11) = false := by rw [HK.out]; rfl
          have b12 : (s.kind == 12) = false := by rw [HK.out]; rfl
          have b3 : (s.kind == 3) = true := by rw [HK.out]; rfl
          have E3 := Lib.hid (AE.out (by rw [HK.out]; rfl))
          go_wp2_with fail
          refine (act_any s F8.out L8.out DQ.out DM.out DO.out hout (by rw [HK.out]; rfl)).mono ?_
          rintro e w3 ⟨rfl, Fo', O', oc', kept', ver', hF3, hL3, hO3, hS3⟩
          have hat : (actV s ⟨a + 1, v, now, out⟩).at_ = a + 1 := actV_at _ _
          have G3 := Lib.hid (show Gone w q p H Fm Fo Fl x y (some ⟨b, o, none⟩) n cap V cv r (.returned (.bool true)) w3 from by
            rw [E3.out]
            refine ⟨rfl, Fo', O', oc', kept', ver', en, ?_, hL3, (O8.out.more (fun k hk => by simp [hk])).seq hO3, fun k hk => ?_⟩
            · show Foc w3 q { H with ill := H.ill || false } _ _ _ _ _ _ _ _
              rw [hm_id]
              exact hF3
            · rcases hS3 k hk with h | h
              · exact .inl h
              · exact .inr (Nat.le_trans O8.out.size h))
          clear hF3 hL3 hO3 hS3 hat
          go_wp2_with fail
          go_ret
          exact G3.out
        · have HK := Lib.hid hk9
          clear hk9
          have b0 : (s.kind == 0) = false := by rw [HK.out]; rfl
          have b1 : (s.kind == 1) = false := by rw [HK.out]; rfl
          have b2 : (s.kind == 2) = false := by rw [HK.out]; rfl
          have b10 : (s.kind == 10) = false := by rw [HK.out]; rfl
          have b11 : (s.kind == 11) = false := by rw [HK.out]; rfl
          have b12 : (s.kind == 12) = false := by rw [HK.out]; rfl
          have b3 : (s.kind == 3) = false := by rw [HK.out]; rfl
          have b4 : (s.kind == 4) = true := by rw [HK.out]; rfl
          have E3 := Lib.hid (AE.out (by rw [HK.out]; rfl))
          go_wp2_with fail
          refine (act_any s F8.out L8.out DQ.out DM.out DO.out hout (by rw [HK.out]; rfl)).mono ?_
          rintro e w3 ⟨rfl, Fo', O', oc', kept', ver', hF3, hL3, hO3, hS3⟩
          have hat : (actV s ⟨a + 1, v, now, out⟩).at_ = a + 1 := actV_at _ _
          have G3 := Lib.hid (show Gone w q p H Fm Fo Fl x y (some ⟨b, o, none⟩) n cap V cv r (.returned (.bool true)) w3 from by
            rw [E3.out]
            refine ⟨rfl, Fo', O', oc', kept', ver', en, ?_, hL3, (O8.out.more (fun k hk => by simp [hk])).seq hO3, fun k hk => ?_⟩
            · show Foc w3 q { H with ill := H.ill || false } _ _ _ _ _ _ _ _
              rw [hm_id]
              exact hF3
            · rcases hS3 k hk with h | h
              · exact .inl h
              · exact .inr (Nat.le_trans O8.out.size h))
          clear hF3 hL3 hO3 hS3 hat
          go_wp2_with fail
          go_ret
          exact G3.out
        · have HK := Lib.hid hk9
          clear hk9
          have b0 : (s.kind == 0) = false := by rw [HK.out]; rfl
          have b1 : (s.kind == 1) = false := by rw [HK.out]; rfl
          have b2 : (s.kind == 2) = false := by rw [HK.out]; rfl
          have b10 : (s.kind == 10) = false := by rw [HK.out]; rfl
          have b11 : (s.kind == 11) = false := by rw [HK.out]; rfl
          have b12 : (s.kind == 12) = false := by rw [HK.out]; rfl
          have b3 : (s.kind == 3) = false := by rw [HK.out]; rfl
          have b4 : (s.kind == 4) = false := by rw [HK.out]; rfl
          have b5 : (s.kind == 5) = true := by rw [HK.out]; rfl
          have E3 := Lib.hid (AE.out (by rw [HK.out]; rfl))
          go_wp2_with fail
          refine (act_any s F8.out L8.out DQ.out DM.out DO.out hout (by rw [HK.out]; rfl)).mono ?_
          rintro e w3 ⟨rfl, Fo', O', oc', kept', ver', hF3, hL3, hO3, hS3⟩
          have hat : (actV s ⟨a + 1, v, now, out⟩).at_ = a + 1 := actV_at _ _
          have G3 := Lib.hid (show Gone w q p H Fm Fo Fl x y (some ⟨b, o, none⟩) n cap V cv r (.returned (.bool true)) w3 from by
            rw [E3.out]
            refine ⟨rfl, Fo', O', oc', kept', ver', en, ?_, hL3, (O8.out.more (fun k hk => by simp [hk])).seq hO3, fun k hk => ?_⟩
            · show Foc w3 q { H with ill := H.ill || false } _ _ _ _ _ _ _ _
              rw [hm_id]
              exact hF3
            · rcases hS3 k hk with h | h
              · exact .inl h
              · exact .inr (Nat.le_trans O8.out.size h))
          clear hF3 hL3 hO3 hS3 hat
          go_wp2_with fail
          go_ret
          exact G3.out
        · have HK := Lib.hid hk9
          clear hk9
          have b0 : (s.kind == 0) = false := by rw [HK.out]; rfl
          have b1 : (s.kind == 1) = false := by rw [HK.out]; rfl
          have b2 : (s.kind == 2) = false := by rw [HK.out]; rfl
          have b10 : (s.kind == 10) = false := by rw [HK.out]; rfl
          have b11 : (s.kind == 11) = false := by rw [HK.out]; rfl
          have b12 : (s.kind == 12) = false := by rw [HK.out]; rfl
          have b3 : (s.kind == 3) = false := by rw [HK.out]; rfl
          have b4 : (s.kind == 4) = false := by rw [HK.out]; rfl
          have b5 : (s.kind == 5) = false := by rw [HK.out]; rfl
          have b8 : (s.kind == 8) = true := by rw [HK.out]; rfl
          have E3 := Lib.hid (AE.out (by rw [HK.out]; rfl))
          go_wp2_with fail
          refine (act_any s F8.out L8.out DQ.out DM.out DO.out hout (by rw [HK.out]; rfl)).mono ?_
          rintro e w3 ⟨rfl, Fo', O', oc', kept', ver', hF3, hL3, hO3, hS3⟩
          have hat : (actV s ⟨a + 1, v, now, out⟩).at_ = a + 1 := actV_at _ _
          have G3 := Lib.hid (show Gone w q p H Fm Fo Fl x y (some ⟨b, o, none⟩) n cap V cv r (.returned (.bool true)) w3 from by
            rw [E3.out]
            refine ⟨rfl, Fo', O', oc', kept', ver', en, ?_, hL3, (O8.out.more (fun k hk => by simp [hk])).seq hO3, fun k hk => ?_⟩
            · show Foc w3 q { H with ill := H.ill || false } _ _ _ _ _ _ _ _
              rw [hm_id]
              exact hF3
            · rcases hS3 k hk with h | h
              · exact .inl h
              · exact .inr (Nat.le_trans O8.out.size h))
          clear hF3 hL3 hO3 hS3 hat
          go_wp2_with fail
          go_ret
          exact G3.out
        · have HK := Lib.hid hk9
          clear hk9
          have b0 : (s.kind == 0) = false := by rw [beq_eq_false_iff_ne]; exact HK.out.1
          have b1 : (s.kind == 1) = false := by rw [beq_eq_false_iff_ne]; exact HK.out.2.1
          have b2 : (s.kind == 2) = false := by rw [beq_eq_false_iff_ne]; exact HK.out.2.2.1
          have b10 : (s.kind == 10) = false := by rw [beq_eq_false_iff_ne]; exact HK.out.2.2.2.1
          have b11 : (s.kind == 11) = false := by rw [beq_eq_false_iff_ne]; exact HK.out.2.2.2.2.1
          have b12 : (s.kind == 12) = false := by rw [beq_eq_false_iff_ne]; exact HK.out.2.2.2.2.2.1
          have b3 : (s.kind == 3) = false := by rw [beq_eq_false_iff_ne]; exact HK.out.2.2.2.2.2.2.1
          have b4 : (s.kind == 4) = false := by rw [beq_eq_false_iff_ne]; exact HK.out.2.2.2.2.2.2.2.1
          have b5 : (s.kind == 5) = false := by rw [beq_eq_false_iff_ne]; exact HK.out.2.2.2.2.2.2.2.2.1
          have b8 : (s.kind == 8) = false := by rw [beq_eq_false_iff_ne]; exact HK.out.2.2.2.2.2.2.2.2.2
          have E3 := QE.out (by unfold isAct; rw [b3, b4, b5, b8]; rfl)
          rw [quietO ⟨HK.out.1, HK.out.2.1, HK.out.2.2.1, HK.out.2.2.2.1, HK.out.2.2.2.2.1, HK.out.2.2.2.2.2.1⟩] at E3
          have E3 := Lib.hid E3
          go_wp2_with fail
          go_roundw
          case rel => exact ⟨k + 1, _, _, by omega, by go_num, ⟨F8.out, L8.out, C8.out, O8.out, by omega, E3.out⟩⟩
          case measure => simp [intOf]; omega
end Go.Proofs.Ytdhihmeknoofoaa.Sg
