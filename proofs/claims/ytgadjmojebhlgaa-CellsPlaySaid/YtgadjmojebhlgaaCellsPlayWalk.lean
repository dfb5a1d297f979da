/-
  WALK: the law CellsPlay.
-/
import Derived.Test.YtgadjmojebhlgaaCellsKeepWalk
import Derived.Test.YtgadjmojebhlgaaFieldRefs
import Derived.Deep.RegionHeld3
namespace Go.Proofs.Ytgadjmojebhlgaa.ClP
set_option linter.unusedVariables false
set_option linter.unusedSimpArgs false
open Go.RowKit Cm Mm Ow Me Rm Cl ClL ClA ClK

theorem rline_any (a : Int) (w : World) (h1 : -9223372036854775808 ≤ a) (h2 : a ≤ 9223372036854775807) :
    Calls Try.prog 51 #[.int .i64 a] w fun e w' => e = .returned (.int .i64 (line a)) ∧ w = w' := by
  by_cases h : a < 4096
  · have e : line a = -1 := if_pos h
    have E := Lib.hid e; clear e
    go_enter Try.func51, Try.ntmps51
    go_wp2
    go_ret
    exact ⟨by rw [E.out]; rfl, rfl⟩
  · have e : line a = (a - 4096) / 64 := if_neg h
    have E := Lib.hid e; clear e
    go_enter Try.func51, Try.ntmps51
    go_wp2
    go_ret
    exact ⟨by rw [E.out]; rfl, rfl⟩

/-- the three memories -/
structure Pl (w : World) (B p po pr : Nat) (F Fo Fr : List Nat) (n : Nat) (nw kp ver : List Int) : Prop where
  m : Mem w 66 p F n nw kp ver
  r : Mem w 71 pr Fr n nw kp ver
  o : ∃ a b c, Mem w 66 po Fo 9 a b c
  d1 : ∀ k ∈ F, k ∉ Fo
  d2 : ∀ k ∈ F, k ∉ Fr
  d3 : ∀ k ∈ Fo, k ∉ Fr
  bF : ∀ k ∈ F, B ≤ k
  bFo : ∀ k ∈ Fo, B ≤ k
  bFr : ∀ k ∈ Fr, B ≤ k
theorem Pl.keep {w w' : World} {B p po pr : Nat} {F Fo Fr : List Nat} {n : Nat} {nw kp ver : List Int} (h : Pl w B p po pr F Fo Fr n nw kp ver) (hb : Below w.heap.size w w') : Pl w' B p po pr F Fo Fr n nw kp ver := by
  obtain ⟨a, b, c, o⟩ := h.o
  exact ⟨h.m.keep hb, h.r.keep hb, ⟨a, b, c, o.keep hb⟩, h.d1, h.d2, h.d3, h.bF, h.bFo, h.bFr⟩
theorem Pl.drew {w : World} {B p po pr : Nat} {F Fo Fr : List Nat} {n : Nat} {nw kp ver : List Int} (h : Pl w B p po pr F Fo Fr n nw kp ver) : Pl w.drew B p po pr F Fo Fr n nw kp ver :=
  h.keep ((Below.refl _ _).drew)
theorem Pl.other {w w' : World} {B p po pr : Nat} {F Fo Fr : List Nat} {n : Nat} {nw kp ver a b c : List Int} (h : Pl w B p po pr F Fo Fr n nw kp ver) (ho : Only Fo w w') (hm : Mem w' 66 po Fo 9 a b c) : Pl w' B p po pr F Fo Fr n nw kp ver :=
  ⟨h.m.far ho h.d1, h.r.far ho (fun k hk hx => h.d3 k hx hk), ⟨_, _, _, hm⟩, h.d1, h.d2, h.d3, h.bF, h.bFo, h.bFr⟩
theorem Pl.both {w w2 w3 : World} {B p po pr : Nat} {F Fo Fr Fr' : List Nat} {n : Nat} {nw kp ver nw' kp' ver' : List Int} (h : Pl w B p po pr F Fo Fr n nw kp ver) (O1 : Only F w w2) (M1 : Mem w2 66 p F n nw' kp' ver')
    (O2 : Only Fr w2 w3) (M2 : Mem w3 71 pr Fr' n nw' kp' ver') (hF : ∀ k ∈ Fr', k ∈ Fr ∨ w2.heap.size ≤ k) (hB : B ≤ w.heap.size) : Pl w3 B p po pr F Fo Fr' n nw' kp' ver' := by
  obtain ⟨a, b, c, o⟩ := h.o
  have o1 := o.far O1 (fun k hk hx => h.d1 k hx hk)
  refine ⟨M1.far O2 h.d2, M2, ⟨a, b, c, o1.far O2 h.d3⟩, h.d1, fun k hk hx => ?_, fun k hk hx => ?_, h.bF, h.bFo, fun k hk => ?_⟩
  · rcases hF k hx with h1 | h1
    · exact h.d2 k hk h1
    · have := M1.lt k hk; omega
  · rcases hF k hx with h1 | h1
    · exact h.d3 k hk h1
    · have := o1.lt k hk; omega
  · rcases hF k hk with h1 | h1
    · exact h.bFr k h1
    · have := O1.size; omega

theorem samew_same (A A' : Option Addr) (n c n' c' : Nat) (l : List Int) (w : World) (h : IsU w A n c l) (h' : IsU w A' n' c' l) :
    Calls Try.prog 42 #[.slice A n c, .slice A' n' c'] w fun e w' => e = .returned (.bool true) ∧ ∃ m, w' = w.drewN m := by
  have := samew_any A A' n c n' c' l l w h h'
  rwa [decide_eq_true rfl] at this
/-- the round's act, in a block of its own -/
def Ac (w : World) (q : Nat) (a : Act4) : Prop := w.cell? ⟨q, 0, none⟩ = some (.int .i64 a.way) ∧ w.cell? ⟨q, 1, none⟩ = some (.int .i64 a.at_) ∧ w.cell? ⟨q, 2, none⟩ = some (.int .i64 a.n) ∧ w.cell? ⟨q, 3, none⟩ = some (.int .u64 a.v)
theorem Ac.far {w w' : World} {q : Nat} {a : Act4} {G : List Nat} (h : Ac w q a) (ho : Only G w w') (hq : q < w.heap.size) (hG : q ∉ G) : Ac w' q a :=
  ⟨(ho.cell (p := ⟨q, 0, none⟩) hq hG).trans h.1, (ho.cell (p := ⟨q, 1, none⟩) hq hG).trans h.2.1, (ho.cell (p := ⟨q, 2, none⟩) hq hG).trans h.2.2.1, (ho.cell (p := ⟨q, 3, none⟩) hq hG).trans h.2.2.2⟩
theorem Ac.keep {w w' : World} {q : Nat} {a : Act4} (h : Ac w q a) (hb : Below w.heap.size w w') (hq : q < w.heap.size) : Ac w' q a := h.far (G := []) (Only.of_below hb) hq (by simp)
/-- what holds ahead of round i -/
def Rel (w : World) (N n p po pr : Nat) (F Fo : List Nat) (i : Value) (wr : World) : Prop := ∃ (k : Nat) (Fr : List Nat) (nw kp ver : List Int), k ≤ N ∧ i = .int .i64 k ∧ Pl wr w.heap.size p po pr F Fo Fr n nw kp ver ∧ Below w.heap.size w wr

set_option maxRecDepth 20000 in
set_option maxHeartbeats 3200000 in
theorem walk {H : Type} {enc : TypeId × Value → H} {d : DataW H} {P : List MemPlace} {r : Reach} {b0 : Nat} (a0 : Int) (v : Value) (w : World) (w0 : (Lit.int .i64 a0).wf = true)
    (k1 : DataW.Trod enc Try.prog w 0 (fun _ => true) true 48 v d P) (ok1 : Value.okWide Try.prog w r b0 48 v) :
    Calls Try.prog 14 #[.int .i64 a0, v] w fun e w' => e = .returned (.bool true) ∧ Below w.heap.size w w' := by
  obtain ⟨l1, u1⟩ := i64_bounds w0
  clear w0
  obtain ⟨A, N, cap, l, rfl, HA⟩ := open_a k1 ok1
  clear k1 ok1
  have hlen := HA.1
  have HA := Lib.hid HA
  have HL := Lib.hid hlen; clear hlen
  by_cases hb : (N : Int) ≤ 100
  · have R0 := fun w => rnew_any a0 w (fun w => by have := FldR.rcut_any a0 0 64 w (by omega); rwa [words_int] at this)
    have hN := cnew_any a0
    generalize words a0 = n at *
    have HN := Lib.hid hN; clear hN
    have HO := cnew_any 9
    rw [show words 9 = 9 by decide] at HO
    have HO := Lib.hid HO
    have HR := Lib.hid R0; clear R0
    go_enter Try.func14, Try.ntmps14
    go_wp2_with fail
    refine (alive_any w).mono ?_
    rintro e w2 ⟨rfl, hb2⟩
    go_wp2_with fail
    refine (HN.out w2).mono ?_
    rintro e w3 ⟨p, F, rfl, M3, hF, hb3⟩
    go_wp2_with fail
    refine (HO.out w3).mono ?_
    rintro e w4 ⟨po, Fo, rfl, M4, hFo, hb4⟩
    go_wp2_with fail
    refine (HR.out w4).mono ?_
    rintro e w5 ⟨pr, Fr, rfl, M5, hFr, hb5⟩
    have P5 : Pl w5 w.heap.size p po pr F Fo Fr n (zeros n) (zeros n) (zeros n) := by
      have s2 := hb2.size
      have s3 := hb3.size
      have s4 := hb4.size
      exact ⟨(M3.keep hb4).keep hb5, M5, ⟨_, _, _, M4.keep hb5⟩, fun k hk hx => by have := M3.lt k hk; have := hFo k hx; omega, fun k hk hx => by have := M3.lt k hk; have := hFr k hx; omega,
        fun k hk hx => by have := M4.lt k hk; have := hFr k hx; omega, fun k hk => by have := hF k hk; omega, fun k hk => by have := hFo k hk; omega, fun k hk => by have := hFr k hk; omega⟩
    have B5 : Below w.heap.size w w5 := below_seq (below_seq (below_seq hb2 hb3) hb4) hb5
    have HP5 := Lib.hid P5
    clear P5 M3 M4 M5 hF hFo hFr hb2 hb3 hb4 hb5
    go_wp2_with fail
    go_loopw [9] (fun i wr => Rel w N n p po pr F Fo i wr) (fun i _ => N - (intOf i).toNat)
    case atStart => exact ⟨0, Fr, _, _, _, by omega, rfl, HP5.out, B5⟩
    case round =>
      clear HP5 B5
      obtain ⟨k, Fr, nw, kp, ver, hk, rfl, HP, hbel⟩ := hrel
      by_cases hkn : k < N
      · obtain ⟨b, o, a, rfl, ea, hcs⟩ := ClK.look HA.out hkn
        obtain ⟨hlt, y0, y1, y2, y3, o0, o1, o2⟩ := hcs wr hbel
        have HP := Lib.hid HP
        have hcs := Lib.hid hcs
        go_wp2_with fail
        obtain ⟨wa, hwa⟩ : ∃ wa, wa = wr.alloc (.cells #[.int .i64 a.way, .int .i64 a.at_, .int .i64 a.n, .int .u64 a.v] 50) := ⟨_, rfl⟩
        rw [← hwa]
        have Ba : Below wr.heap.size wr wa := by rw [hwa]; exact (Below.refl _ _).alloc (Nat.le_refl _) _
        have Ka : Ac wa wr.heap.size a := by rw [hwa]; refine ⟨?_, ?_, ?_, ?_⟩ <;> simp only [World.cell?, heap_alloc_new] <;> rfl
        have ha : wr.heap.size < wa.heap.size := by rw [hwa]; simp
        have Pa := HP.out.keep Ba
        obtain ⟨xa, xb, xc, Mo⟩ := Pa.o
        have W := cwrite_any po 9 4096 (k : Int) Fo xa xb xc wa (by omega) (by omega) Mo
        have HW := Lib.hid W; clear W hwa
        have qF : wr.heap.size ∉ F := fun h => by have := HP.out.m.lt _ h; omega
        have qFo : wr.heap.size ∉ Fo := fun h => by obtain ⟨_, _, _, o⟩ := HP.out.o; have := o.lt _ h; omega
        have qFr : wr.heap.size ∉ Fr := fun h => by have := HP.out.r.lt _ h; omega
        have Hbs := hbel.size
        generalize wr.heap.size = q at *
        refine HW.out.mono ?_
        rintro e w6 ⟨rfl, M6, O6⟩
        have P6 := Lib.hid (Pa.other O6 M6)
        have K6 := Lib.hid (Ka.far O6 ha qFo)
        have h6 : q < w6.heap.size := Nat.lt_of_lt_of_le ha O6.size
        obtain ⟨c0, c1, c2, c3⟩ := K6.out
        have B6 := Lib.hid ((hbel.trans (Ba.mono Hbs)).trans (O6.below Pa.bFo (by omega)))
        have z6 : w.heap.size ≤ w6.heap.size := by omega
        clear HW Ka Ba Pa Mo M6 O6 HP hbel y0 y1 y2 y3 hlt
        obtain t0 | t1 | t2 | ⟨t0, t1, t2⟩ : a.way = 0 ∨ a.way = 1 ∨ a.way = 2 ∨ (¬ a.way = 0 ∧ ¬ a.way = 1 ∧ ¬ a.way = 2) := by omega
        focus
          have Pd := Lib.hid P6.out.drew
          have Kd : w6.drew.cell? ⟨q, 0, none⟩ = some (.int .i64 a.way) ∧ w6.drew.cell? ⟨q, 1, none⟩ = some (.int .i64 a.at_) ∧ w6.drew.cell? ⟨q, 2, none⟩ = some (.int .i64 a.n) ∧ w6.drew.cell? ⟨q, 3, none⟩ = some (.int .u64 a.v) := K6.out
          go_wp2_with fail
          go_region_held3 (fun w' => w'.cell? ⟨q, 0, none⟩ = some (.int .i64 a.way) ∧ w'.cell? ⟨q, 1, none⟩ = some (.int .i64 a.at_) ∧ w'.cell? ⟨q, 2, none⟩ = some (.int .i64 a.n) ∧ w'.cell? ⟨q, 3, none⟩ = some (.int .u64 a.v)) (assumption)
            (first
              | (go_at_call 37; refine (cwrite_any p n a.at_ a.v F nw kp ver _ o1.1 o1.2 Pd.out.m).mono ?_; rintro e w7 ⟨rfl, M7, O7⟩; have K7 : Ac w7 q a := Ac.far (w := w6.drew) Kd O7 h6 qF; have R7 := Pd.out.r.far O7 (fun k hk hx => Pd.out.d2 k hx hk))
              | (go_at_call 46; refine (rwrite_any pr n a.at_ a.v Fr nw kp ver _ o1.1 o1.2 R7).mono ?_; rintro e wq ⟨rfl, M8, O8⟩; have K8 : Ac wq q a := K7.far O8 (Nat.lt_of_lt_of_le h6 O7.size) qFr))
          have KQ : Ac wq q a := K8
          obtain ⟨FrQ, nwQ, kpQ, verQ, PQ⟩ : ∃ Fr nw kp ver, Pl wq w.heap.size p po pr F Fo Fr n nw kp ver := ⟨_, _, _, _, Pd.out.both O7 M7 O8 M8 (fun k hk => .inl hk) z6⟩
          have O7' : Only F w6 w7 := (Only.refl _ _).drew.seq O7
          have hq : q < wq.heap.size := by have := O7'.size; have := O8.size; omega
          have BQ : Below w.heap.size w wq := (B6.out.trans (O7'.below P6.out.bF z6)).trans (O8.below P6.out.bFr (by have := O7'.size; omega))
          clear O7' O7 O8 M7 M8 R7 K7 K8 Kd Pd
        rotate_left
        focus
          have Pd := Lib.hid P6.out.drew
          have Kd : w6.drew.cell? ⟨q, 0, none⟩ = some (.int .i64 a.way) ∧ w6.drew.cell? ⟨q, 1, none⟩ = some (.int .i64 a.at_) ∧ w6.drew.cell? ⟨q, 2, none⟩ = some (.int .i64 a.n) ∧ w6.drew.cell? ⟨q, 3, none⟩ = some (.int .u64 a.v) := K6.out
          go_wp2_with fail
          go_region_held3 (fun w' => w'.cell? ⟨q, 0, none⟩ = some (.int .i64 a.way) ∧ w'.cell? ⟨q, 1, none⟩ = some (.int .i64 a.at_) ∧ w'.cell? ⟨q, 2, none⟩ = some (.int .i64 a.n) ∧ w'.cell? ⟨q, 3, none⟩ = some (.int .u64 a.v)) (assumption)
            (first
              | (go_at_call 40; refine (cback_any p n a.n F nw kp ver _ o2.1 o2.2 Pd.out.m).mono ?_; rintro e w7 ⟨rfl, M7, O7⟩; have K7 : Ac w7 q a := Ac.far (w := w6.drew) Kd O7 h6 qF; have R7 := Pd.out.r.far O7 (fun k hk hx => Pd.out.d2 k hx hk))
              | (go_at_call 47; refine (rback_any pr n a.n Fr nw kp ver _ o2.1 o2.2 R7).mono ?_; rintro e wq ⟨rfl, M8, O8⟩; have K8 : Ac wq q a := K7.far O8 (Nat.lt_of_lt_of_le h6 O7.size) qFr))
          have KQ : Ac wq q a := K8
          obtain ⟨FrQ, nwQ, kpQ, verQ, PQ⟩ : ∃ Fr nw kp ver, Pl wq w.heap.size p po pr F Fo Fr n nw kp ver := ⟨_, _, _, _, Pd.out.both O7 M7 O8 M8 (fun k hk => .inl hk) z6⟩
          have O7' : Only F w6 w7 := (Only.refl _ _).drew.seq O7
          have hq : q < wq.heap.size := by have := O7'.size; have := O8.size; omega
          have BQ : Below w.heap.size w wq := (B6.out.trans (O7'.below P6.out.bF z6)).trans (O8.below P6.out.bFr (by have := O7'.size; omega))
          clear O7' O7 O8 M7 M8 R7 K7 K8 Kd Pd
        rotate_left
        focus
          have C := Lib.hid (ccrash_any p n F nw kp ver w6 P6.out.m)
          go_wp2_with fail
          refine C.out.mono ?_
          rintro e w7 ⟨rfl, M7, O7⟩
          have R7 := Lib.hid (rcrash_any pr n Fr nw kp ver w7 (P6.out.r.far O7 (fun k hk hx => P6.out.d2 k hx hk)))
          have M7 := Lib.hid M7
          go_wp2_with fail
          refine R7.out.mono ?_
          rintro e wq ⟨FrQ, rfl, M8, O8, hF8⟩
          have KQ : Ac wq q a := (K6.out.far O7 h6 qF).far O8 (Nat.lt_of_lt_of_le h6 O7.size) qFr
          obtain ⟨FrQ, nwQ, kpQ, verQ, PQ⟩ : ∃ Fr nw kp ver, Pl wq w.heap.size p po pr F Fo Fr n nw kp ver := ⟨_, _, _, _, P6.out.both O7 M7.out O8 M8 hF8 z6⟩
          have hq : q < wq.heap.size := by have := O7.size; have := O8.size; omega
          have BQ : Below w.heap.size w wq := (B6.out.trans (O7.below P6.out.bF z6)).trans (O8.below P6.out.bFr (by have := O7.size; omega))
          clear O7 O8 M7 M8 hF8 R7 C
        rotate_left
        focus
          generalize w6 = wq at *
          have KQ := K6.out
          obtain ⟨FrQ, nwQ, kpQ, verQ, PQ⟩ : ∃ Fr nw kp ver, Pl wq w.heap.size p po pr F Fo Fr n nw kp ver := ⟨_, _, _, _, P6.out⟩
          have hq : q < wq.heap.size := h6
          have BQ : Below w.heap.size w wq := B6.out
          go_wp2_with fail
        rotate_left
        all_goals
          have hPQ := Lib.hid PQ
          have hKQ := Lib.hid KQ
          have hBQ := Lib.hid BQ
          obtain ⟨c0, c1, c2, c3⟩ := KQ
          have MR := Lib.hid (cread_any p n a.at_ F nwQ kpQ verQ wq o1.1 o1.2 PQ.m)
          have RR := Lib.hid (rread_any pr n a.at_ FrQ nwQ kpQ verQ wq o1.1 o1.2 PQ.r)
          have sq := BQ.size
          clear PQ BQ
          go_wp2_with fail
          refine MR.out.mono ?_
          rintro e wx ⟨rfl, rfl⟩
          go_wp2_with fail
          refine RR.out.mono ?_
          rintro e wx ⟨rfl, rfl⟩
          clear MR RR
          have Pd := Lib.hid hPQ.out.drew
          have Kd : wq.drew.cell? ⟨q, 0, none⟩ = some (.int .i64 a.way) ∧ wq.drew.cell? ⟨q, 1, none⟩ = some (.int .i64 a.at_) ∧ wq.drew.cell? ⟨q, 2, none⟩ = some (.int .i64 a.n) ∧ wq.drew.cell? ⟨q, 3, none⟩ = some (.int .u64 a.v) := hKQ.out
          go_wp2_with fail
          go_region_held3 (fun w' => w'.cell? ⟨q, 0, none⟩ = some (.int .i64 a.way) ∧ w'.cell? ⟨q, 1, none⟩ = some (.int .i64 a.at_) ∧ w'.cell? ⟨q, 2, none⟩ = some (.int .i64 a.n) ∧ w'.cell? ⟨q, 3, none⟩ = some (.int .u64 a.v)) (assumption)
            (first
              | (go_at_call 38; refine (cversion_any p n a.at_ F nwQ kpQ verQ _ o1.1 o1.2 Pd.out.m).mono ?_; rintro e wx ⟨rfl, rfl⟩)
              | (go_at_call 50; refine (rversion_any pr n a.at_ FrQ nwQ kpQ verQ _ o1.1 o1.2 Pd.out.r).mono ?_; rintro e wx ⟨rfl, rfl⟩)
              | (go_at_call 39; refine (cline_any a.at_ _ o1.1 o1.2).mono ?_; rintro e wx ⟨rfl, rfl⟩)
              | (go_at_call 51; refine (rline_any a.at_ _ o1.1 o1.2).mono ?_; rintro e wx ⟨rfl, rfl⟩)
              | (go_at_call 43; refine (cnow_any p n F nwQ kpQ verQ _ Pd.out.m).mono ?_; rintro e wa ⟨A1, n1, c1', rfl, row1, hb1⟩; have Ka : Ac wa q a := Ac.keep (w := wq.drew) Kd hb1 hq; have Pa := Pd.out.keep hb1; have ka : q < wa.heap.size := Nat.lt_of_lt_of_le hq hb1.size)
              | (go_at_call 52; refine (rnow_any pr n FrQ nwQ kpQ verQ wa Pa.r).mono ?_; rintro e wb ⟨A2, n2, c2', rfl, row2, hb2⟩; have Kb : Ac wb q a := Ka.keep hb2 ka; have Pb := Pa.keep hb2; have kb : q < wb.heap.size := Nat.lt_of_lt_of_le ka hb2.size)
              | (go_at_call 42; refine (samew_same _ _ n5 c5' n6 c6' kpQ we ((isU_of_row row5).keep hb6) (isU_of_row row6)).mono ?_; rintro e wf ⟨rfl, m7, rfl⟩; have Kf : Ac (we.drewN m7) q a := Ke)
              | (go_at_call 42; refine (samew_same _ _ n1 c1' n2 c2' nwQ wb ((isU_of_row row1).keep hb2) (isU_of_row row2)).mono ?_; rintro e wf ⟨rfl, m3, rfl⟩; have Kc : Ac (wb.drewN m3) q a := Kb; have Pc : Pl (wb.drewN m3) w.heap.size p po pr F Fo FrQ n nwQ kpQ verQ := Pb.keep (below_drawn _ _))
              | (go_at_call 44; refine (ckept_any p n F nwQ kpQ verQ _ Pc.m).mono ?_; rintro e wd ⟨A5, n5, c5', rfl, row5, hb5⟩; have Kd' : Ac wd q a := Ac.keep (w := wb.drewN m3) Kc hb5 kb; have Pd' := Pc.keep hb5; have kd : q < wd.heap.size := Nat.lt_of_lt_of_le kb hb5.size)
              | (go_at_call 53; refine (rkept_any pr n FrQ nwQ kpQ verQ wd Pd'.r).mono ?_; rintro e we ⟨A6, n6, c6', rfl, row6, hb6⟩; have Ke : Ac we q a := Kd'.keep hb6 kd; have Pe := Pd'.keep hb6))
          have Pf : Pl (we.drewN m7) w.heap.size p po pr F Fo FrQ n nwQ kpQ verQ := Pe.keep (below_drawn we m7)
          have Bf : Below w.heap.size w (we.drewN m7) := below_drewN (below_seq (below_seq (below_drewN (below_seq (below_seq hBQ.out.drew hb1) hb2) m3) hb5) hb6) m7
          have Pf := Lib.hid Pf
          have Bf := Lib.hid Bf
          clear Pe Ke Pd' Kd' Kf Pc Kc Pb Kb Pa Ka Kd Pd hb1 hb2 hb5 hb6 row1 row2 row5 row6
          go_wp2_with fail
          exact ⟨⟨k + 1, FrQ, nwQ, kpQ, verQ, by omega, by go_num, Pf.out, Bf.out⟩, by simp [intOf]; omega⟩
      · go_wp2_with fail
        go_ret
        exact ⟨rfl, hbel⟩
  · go_enter Try.func14, Try.ntmps14
    go_wp2_with fail
    refine (alive_any w).mono ?_
    rintro e w2 ⟨rfl, hb2⟩
    go_wp2_with fail
    all_goals go_ret
    all_goals exact ⟨rfl, hb2⟩
end Go.Proofs.Ytgadjmojebhlgaa.ClP
