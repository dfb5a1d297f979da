/-
  A PROGRAM OF THE LANGUAGE IN THE HEAP; what the reader has read is one.
-/
import Derived.Test.YtapnnbbbgopobaaG17
import Derived.Test.YtapnnbbbgopobaaG13
set_option linter.unusedVariables false
set_option linter.unusedSimpArgs false
namespace Go.Proofs.Ytapnnbbbgopobaa.Rr
open Go.RowKit Cm Mm Ow Me Ml Lg Lx
def zeroTh : ByteArray × Bd := (⟨#[]⟩, .nil)
structure IsTh (w : World) (A : Option Addr) (n cap : Nat) (ts : List (ByteArray × Bd)) : Prop where
  len : ts.length = n
  le : n ≤ cap
  cap : cap ≤ maxLen
  n2 : n ≤ 20000
  cell : ∀ i, i < n → ∃ b o BA bn bc, A = some ⟨b, o, none⟩ ∧ b < w.heap.size ∧ w.cell? ⟨b, o + i * 2, none⟩ = some (.string (ts.getD i zeroTh).1) ∧ w.cell? ⟨b, o + i * 2 + 1, none⟩ = some (.slice BA bn bc) ∧ IsBd 0 w (ts.getD i zeroTh).2 BA bn bc ∧ bsz (ts.getD i zeroTh).2 ≤ 80000 ∧ (ts.getD i zeroTh).1.size ≤ maxLen
structure IsPg (w : World) (cA : Option Addr) (cn cc : Nat) (tA : Option Addr) (tn tc : Nat) (rA : Option Addr) (rn rc : Nat) (cs : List Lay.Cl) (ts : List (ByteArray × Bd)) (rb : Bd) : Prop where
  cl : Lay.IsCl w cA cn cc cs
  cn2 : cn ≤ 20000
  th : IsTh w tA tn tc ts
  rec_ : IsBd 0 w rb rA rn rc
  rz : bsz rb ≤ 80000
section
variable {w w' : World} {A : Option Addr} {n cap : Nat} {ts : List (ByteArray × Bd)}
theorem IsTh.keep (h : IsTh w A n cap ts) (hb : Below w.heap.size w w') : IsTh w' A n cap ts := ⟨h.len, h.le, h.cap, h.n2, fun i hi => by
  obtain ⟨b, o, BA, bn, bc, e, hl, c0, c1, hB, hz, hs⟩ := h.cell i hi
  exact ⟨b, o, BA, bn, bc, e, Nat.lt_of_lt_of_le hl hb.size, (hb.cell (p := ⟨b, o + i * 2, none⟩) hl).trans c0, (hb.cell (p := ⟨b, o + i * 2 + 1, none⟩) hl).trans c1, hB.keep hb, hz, hs⟩⟩
variable {cA : Option Addr} {cn cc : Nat} {tA : Option Addr} {tn tc : Nat} {rA : Option Addr} {rn rc : Nat} {cs : List Lay.Cl} {rb : Bd}
theorem IsPg.keep (h : IsPg w cA cn cc tA tn tc rA rn rc cs ts rb) (hb : Below w.heap.size w w') : IsPg w' cA cn cc tA tn tc rA rn rc cs ts rb := ⟨h.cl.keep hb, h.cn2, h.th.keep hb, h.rec_.keep hb, h.rz⟩
/-! what the reader has is a program -/
def clOf : List Value → Lay.Cl
  | [.string s, .int _ z] => (s, z)
  | _ => (⟨#[]⟩, 0)
def nmOf : List Value → ByteArray
  | [.string s, _] => s
  | _ => ⟨#[]⟩
variable {q at_ : Nat} {f : Fx} {LC LT : List (List Value)} {tb : List Bd}
theorem pg_of (h : TpV w q f at_ cA cn cc LC tA tn tc LT rA rn rc tb rb) (ha : at_ ≤ 20000) (hfn : f.n ≤ 20000) : ∃ cs ts, IsPg w cA cn cc tA tn tc rA rn rc cs ts rb ∧ (∀ i, i < tn → bsz (ts.getD i zeroTh).2 ≤ 4 * f.n) ∧ bsz rb ≤ 4 * f.n := by
  have hlc := h.oc.len
  have hlt := h.ot.len
  refine ⟨LC.map clOf, (List.range tn).map (fun i => (nmOf (LT.getD i []), tb.getD i .nil)), ⟨⟨by simp [hlc], ?_, ?_⟩, Nat.le_trans h.cl ha, ⟨by simp, h.ot.sl.le, h.ot.sl.cap_le, Nat.le_trans h.tl ha, fun i hi => ?_⟩, isV_of (fun b _ => Nat.zero_le b) h.rb, by have := h.rz; omega⟩, fun i hi => ?_, h.rz⟩
  · have hs := h.oc.sl
    refine ⟨hs.le, hs.cap_le, fun h0 => ?_⟩
    obtain ⟨b, o, e, hb, hc⟩ := hs.at_ h0
    refine ⟨b, o, e, hb, fun i hi j hj => ?_⟩
    rw [hc i hi j hj]
    have hi' : i < LC.length := by omega
    have hm : LC.getD i [] ∈ LC := by rw [List.getD, List.getElem?_eq_getElem hi']; exact List.getElem_mem _
    obtain ⟨s, z, hr, -⟩ := h.cs _ hm
    have e2 : (LC.map clOf).getD i Lay.zero = clOf (LC.getD i []) := by simp [List.getD, hi']
    show (LC.getD i [])[j]? = (Lay.cells ((LC.map clOf).getD i Lay.zero))[j]?
    rw [e2, hr]
    rfl
  · intro i hi
    have hi' : i < LC.length := by omega
    have hm : LC.getD i [] ∈ LC := by rw [List.getD, List.getElem?_eq_getElem hi']; exact List.getElem_mem _
    obtain ⟨s, z, hr, h1, h2, h3⟩ := h.cs _ hm
    have e2 : (LC.map clOf).getD i Lay.zero = clOf (LC.getD i []) := by simp [List.getD, hi']
    rw [e2, hr]
    exact ⟨h1, by show _ ≤ z; omega, by show z ≤ _; omega⟩
  · obtain ⟨s, A, n, c, hr, hs, hB, hz⟩ := h.th.2 i (by omega)
    obtain ⟨b, o, e, hb, hc⟩ := h.ot.sl.at_ (by omega)
    have e2 : ((List.range tn).map (fun i => (nmOf (LT.getD i []), tb.getD i .nil))).getD i zeroTh = (s, tb.getD i .nil) := by
      simp only [List.getD, List.getElem?_map, List.getElem?_range, hi, if_true]
      have hr' := hr
      simp only [List.getD] at hr'
      simp [hr', nmOf]
    rw [e2]
    have c0 := hc i hi 0 (by omega)
    have c1 := hc i hi 1 (by omega)
    rw [hr] at c0 c1
    exact ⟨b, o, A, n, c, e, hb, by simpa using c0, by simpa [Nat.add_assoc] using c1, isV_of (fun b _ => Nat.zero_le b) hB, Nat.le_trans hz (by omega), hs⟩
  · obtain ⟨s, A, n, c, hr, hs, hB, hz⟩ := h.th.2 i (by omega)
    simpa [List.getD, hi] using hz
theorem tp_new {A : Option Addr} {n c : Nat} (w : World) (q : Nat) : Tp w q ⟨A, n, c, false, .slice none 0 0, .slice none 0 0, .slice none 0 0⟩ 0 :=
  ⟨none, 0, 0, [], none, 0, 0, [], none, 0, 0, [], .nil, rfl, rfl, rfl, Own.nil _ _ _ _, Own.nil _ _ _ _, (fun g hg => by cases hg), (fun r hr => by cases hr), ThOk.nil _ _ _, Nat.zero_le _, ⟨rfl, Nat.le_refl _, by unfold maxLen; omega, fun h => absurd h (by omega)⟩, Nat.le_refl _, Nat.le_refl _⟩
theorem rd_new {w : World} {A : Option Addr} {n c : Nat} (h : IsTok w A n c) : Rd (w.alloc (rdO ⟨A, n, c, false, .slice none 0 0, .slice none 0 0, .slice none 0 0⟩ 0 0 0)) w.heap.size ⟨A, n, c, false, .slice none 0 0, .slice none 0 0, .slice none 0 0⟩ 0 0 0 := by
  obtain ⟨L, h1, h2, h3, h4, h5⟩ := h
  refine ⟨heap_alloc_new _ _, IsTok.keep ⟨L, h1, h2, h3, h4, h5⟩ (below_new _ _), fun b o m hA => ?_, h4, fun h => absurd rfl h⟩
  obtain ⟨b', o', e, hb, -⟩ := h2.at_ h4
  have hA' : A = some ⟨b, o, m⟩ := hA
  rw [e] at hA'
  injection hA' with hA'
  injection hA' with hA'
  omega
structure Pv (w : World) (g : Nat) (a b c : Value) : Prop where
  at_ : w.heap[g]? = some (.cells #[a, b, c] 29 (0, 0))
variable {g : Nat} {a b c : Value}
theorem Pv.c0 (h : Pv w g a b c) : w.cell? ⟨g, 0, none⟩ = some a := by simp only [World.cell?, h.at_]; simp
theorem Pv.c1 (h : Pv w g a b c) : w.cell? ⟨g, 1, none⟩ = some b := by simp only [World.cell?, h.at_]; simp
theorem Pv.c2 (h : Pv w g a b c) : w.cell? ⟨g, 2, none⟩ = some c := by simp only [World.cell?, h.at_]; simp
theorem Pv.free (h : Pv w g a b c) (k : Nat) : w.frozen? ⟨g, k, none⟩ = false := by simp only [World.frozen?, h.at_]; simp
theorem Pv.lt (h : Pv w g a b c) : g < w.heap.size := (Array.getElem?_eq_some_iff.1 h.at_).1
theorem Pv.keep (h : Pv w g a b c) (hb : Below w.heap.size w w') : Pv w' g a b c := ⟨(hb.block _ h.lt).trans h.at_⟩
theorem Pv.store (h : Pv w g a b c) (x y z : Value) : Pv (((w.setCell ⟨g, 0, none⟩ x).setCell ⟨g, 1, none⟩ y).setCell ⟨g, 2, none⟩ z) g x y z := ⟨blk_set (blk_set (blk_set h.at_ _) _) _⟩
def ProgA (w : World) (N : Nat) (en : Ending) (w' : World) : Prop := ∃ (cA : Option Addr) (cn cc : Nat) (tA : Option Addr) (tn tc : Nat) (rA : Option Addr) (rn rc : Nat) (at_ e : Int), en = .returned (.tuple #[.agg #[.slice cA cn cc, .slice tA tn tc, .slice rA rn rc], .int .i64 at_, .int .i64 e]) ∧ Below w.heap.size w w' ∧ (e = 0 → ∃ cs ts rb, IsPg w' cA cn cc tA tn tc rA rn rc cs ts rb ∧ (∀ i, i < tn → bsz (ts.getD i zeroTh).2 ≤ 4 * (N + 1)) ∧ bsz rb ≤ 4 * (N + 1))
theorem prog_ret {N : Nat} {w w' : World} {tmps : Array Value} {g : Nat} {cA : Option Addr} {cn cc : Nat} {tA : Option Addr} {tn tc : Nat} {rA : Option Addr} {rn rc : Nat} {at_ e : Int} (h2 : tmps[2]?.getD undef = .pointer (some ⟨g, 0, none⟩)) (h3 : tmps[3]?.getD undef = .int .i64 at_) (h4 : tmps[4]?.getD undef = .int .i64 e) (hT : Pv w' g (.slice cA cn cc) (.slice tA tn tc) (.slice rA rn rc)) (hb : Below w.heap.size w w')
    (hc : e = 0 → ∃ cs ts rb, IsPg w' cA cn cc tA tn tc rA rn rc cs ts rb ∧ (∀ i, i < tn → bsz (ts.getD i zeroTh).2 ≤ 4 * (N + 1)) ∧ bsz rb ≤ 4 * (N + 1)) : bodyPost Try.prog Try.f5 (ProgA w N) Exit.ret { tmps := tmps, defers := [] } w' := by
  have y0 := hT.c0
  have y1 := hT.c1
  have y2 := hT.c2
  refine bodyPost_ret (v := .tuple #[.agg #[.slice cA cn cc, .slice tA tn tc, .slice rA rn rc], .int .i64 at_, .int .i64 e]) ?_ rfl ⟨cA, cn, cc, tA, tn, tc, rA, rn, rc, at_, e, rfl, hb, hc⟩
  simp [results, Try.results5, go_sem, h2, h3, h4, y0, y1, y2]
end
set_option maxRecDepth 20000 in
set_option maxHeartbeats 6400000 in
theorem program_any (A : Option Addr) (n cap : Nat) (x : Nat → Int) (w : World) (h : IsBy w A n cap x) :
    Calls Try.prog 5 #[.slice A n cap] w (ProgA w n) := by
  have hb0 := below_new w (.cells #[.slice none 0 0, .slice none 0 0, .slice none 0 0] 29)
  have B0 := Lib.hid hb0
  have H0 := Lib.hid (h.keep hb0)
  have P0 : Hid (Pv (w.alloc (.cells #[.slice none 0 0, .slice none 0 0, .slice none 0 0] 29)) w.heap.size (.slice none 0 0) (.slice none 0 0) (.slice none 0 0)) := Lib.hid ⟨heap_alloc_new _ _⟩
  clear h hb0
  go_enter Try.func5, Try.ntmps5
  go_upto_region 1 with fail
  obtain ⟨W0, hW⟩ : ∃ W, w.alloc (.cells #[.slice none 0 0, .slice none 0 0, .slice none 0 0] 29) = W := ⟨_, rfl⟩
  have hwl : w.heap.size < W0.heap.size := by rw [← hW]; simp
  rw [hW] at B0 H0 P0
  try rw [hW]
  clear hW
  go_wp2_with fail
  refine (tokens_any A n cap x W0 H0.out).mono ?_
  rintro en w1 ⟨lA, ln, lc, at_, er, rfl, hb1, htok⟩
  have B1 := Lib.hid (B0.out.trans (hb1.mono B0.out.size))
  have P1 := Lib.hid (P0.out.keep hb1)
  have HT := Lib.hid htok
  have hw1 := B1.out.size
  have hwl1 : w.heap.size < w1.heap.size := Nat.lt_of_lt_of_le hwl hb1.size
  clear hb1 htok H0 P0 B0
  obtain ⟨g, hg⟩ : ∃ g, w.heap.size = g := ⟨_, rfl⟩
  have HG := Lib.hid hg
  rw [hg] at P1 hwl1
  try simp only [hg]
  clear hg
  by_cases he : er = 0
  · subst he
    have TK := Lib.hid (HT.out rfl).1
    have hln := (HT.out rfl).2
    clear HT
    have R2 := Lib.hid (rd_new TK.out)
    have hb2 := below_new w1 (rdO ⟨lA, ln, lc, false, .slice none 0 0, .slice none 0 0, .slice none 0 0⟩ 0 0 0)
    have B2 := Lib.hid hb2
    clear hb2
    go_wp2_with fail
    go_loopw [] (fun wr => ∃ (f : Fx) (at2 : Nat) (e2 bd : Int), f.A = lA ∧ f.n = ln ∧ f.cap = lc ∧ Rd wr w1.heap.size f at2 e2 bd ∧ Below w1.heap.size w1 wr ∧ (e2 = 0 → Tp wr w1.heap.size f at2)) (fun wr => rdM ln wr w1.heap.size)
    case atStart => exact ⟨_, 0, 0, 0, rfl, rfl, rfl, R2.out, B2.out, fun _ => tp_new _ _⟩
    case round =>
      obtain ⟨f, at2, e2, bd, rfl, rfl, rfl, hR, hB, hT⟩ := hrel
      have hn20k : f.n ≤ 20000 := by obtain ⟨L, -, -, -, -, h5, -⟩ := hR.tok; exact h5
      have R := Lib.hid hR
      have B := Lib.hid hB
      have HT := Lib.hid hT
      have HM := Lib.hid hR.meas
      have c2 := hR.c2
      have hlt := hR.lt
      clear hR hB hT R2 B2
      by_cases he : e2 = 0
      · subst he
        have T := Lib.hid (HT.out rfl)
        clear HT
        have f0 : ∀ (kd : Int) (tx : ByteArray) (nn a2 : Int) (W : World), (Instr.field 63 (.agg #[.int .i64 kd, .string tx, .int .u64 nn, .int .i64 a2]) 0).run Try.prog W = .ok (.int .i64 kd) W := fun kd tx nn a2 W => fd_0 kd tx nn a2 W
        go_wp2_with fail
        refine (now_any R.out).mono ?_
        rintro en w3 ⟨kd, tx, nn, a2, rfl, hb3, -, -⟩
        have R3 := Lib.hid (R.out.keep hb3)
        have B3 := Lib.hid (B.out.trans (hb3.mono B.out.size))
        have T3 : Hid (Tp w3 w1.heap.size f at2) := Lib.hid (by
          obtain ⟨cA, cn, cc, LC, tA, tn, tc, LT, rA, rn, rc, ts, rb, ht⟩ := T.out
          exact ⟨cA, cn, cc, LC, tA, tn, tc, LT, rA, rn, rc, ts, rb, ht.only (Only.of_below hb3) (Nat.le_refl _)⟩)
        have c23 := R3.out.c2
        clear hb3 R B T c2
        by_cases h5 : kd = 5
        · subst h5
          obtain ⟨cA, cn, cc, LC, tA, tn, tc, LT, rA, rn, rc, ts, rb, ht⟩ := T3.out
          have c5 := R3.out.c5
          have c6 := R3.out.c6
          have c7 := R3.out.c7
          rw [ht.s5] at c5
          rw [ht.s6] at c6
          rw [ht.s7] at c7
          have P3 := Lib.hid (P1.out.keep (B3.out))
          have z0 := P3.out.c0
          have z1 := P3.out.c1
          have z2 := P3.out.c2
          have zf := P3.out.free
          have hgl := P3.out.lt
          have P4 := Lib.hid (P3.out.store (.slice cA cn cc) (.slice tA tn tc) (.slice rA rn rc))
          have B4 : Hid (Below w.heap.size w (((w3.setCell ⟨g, 0, none⟩ (.slice cA cn cc)).setCell ⟨g, 1, none⟩ (.slice tA tn tc)).setCell ⟨g, 2, none⟩ (.slice rA rn rc))) := Lib.hid ((((B1.out.trans (B3.out.mono hw1)).setCell (p := ⟨g, 0, none⟩) (Nat.le_of_eq HG.out) _).setCell (p := ⟨g, 1, none⟩) (Nat.le_of_eq HG.out) _).setCell (p := ⟨g, 2, none⟩) (Nat.le_of_eq HG.out) _)
          have PG4 : Hid (∃ cs ts rb, IsPg (((w3.setCell ⟨g, 0, none⟩ (.slice cA cn cc)).setCell ⟨g, 1, none⟩ (.slice tA tn tc)).setCell ⟨g, 2, none⟩ (.slice rA rn rc)) cA cn cc tA tn tc rA rn rc cs ts rb ∧ (∀ i, i < tn → bsz (ts.getD i zeroTh).2 ≤ 4 * (n + 1)) ∧ bsz rb ≤ 4 * (n + 1)) := Lib.hid (by
            have SS : Only [g] w3 (((w3.setCell ⟨g, 0, none⟩ (.slice cA cn cc)).setCell ⟨g, 1, none⟩ (.slice tA tn tc)).setCell ⟨g, 2, none⟩ (.slice rA rn rc)) := ((only_q w3 g 0 _).setCell (p := ⟨g, 1, none⟩) (by simp) _).setCell (p := ⟨g, 2, none⟩) (by simp) _
            have hl : ∀ b, cA.map (·.block) = some b → b ∉ [g] := fun b hb hx => by have := ht.oc.lt b hb; simp at hx; omega
            have hl2 : ∀ b, tA.map (·.block) = some b → b ∉ [g] := fun b hb hx => by have := ht.ot.lt b hb; simp at hx; omega
            have hG : ∀ y ∈ [g], ¬ PB w1.heap.size cA tA y := fun y hy hh => by have := hh.1; simp at hy; omega
            obtain ⟨cs', ts', hp⟩ := pg_of (f := f) (q := w1.heap.size) (at_ := at2) (rb := rb) ⟨ht.s5, ht.s6, ht.s7, own_only ht.oc SS hl, own_only ht.ot SS hl2, ht.ne, ht.cs, ht.th.only SS hG, ht.rz, isP_only SS hG ht.rb, ht.cl, ht.tl⟩ (by omega) (by omega)
            exact ⟨cs', ts', rb, hp.1, fun i hi => Nat.le_trans (hp.2.1 i hi) (by omega), Nat.le_trans hp.2.2 (by omega)⟩)
          clear T3 ht R3 B3
          go_wp2_with fail
          exact prog_ret rfl rfl rfl P4.out B4.out (fun _ => PG4.out)
        · have t5 : (kd != 5) = true := by simpa using h5
          go_wp2_with fail
          refine (top_any R3.out T3.out hn20k).mono ?_
          rintro en w4 ⟨rfl, f', at4, e4, bad4, hA, hn4, hc4, hR4, hb4, hat4, hok4⟩
          have R4 := Lib.hid hR4
          have B4 := Lib.hid (B3.out.trans hb4)
          have HO4 := Lib.hid hok4
          have HM4 := Lib.hid hR4.meas
          clear hR4 hb4 hok4 R3 B3 T3 c23
          go_wp2_with fail
          go_roundw
          case rel => exact ⟨f', at4, e4, bad4, hA, hn4, hc4, R4.out, B4.out, fun h0 => (HO4.out h0).2⟩
          case measure =>
            have hm := HM4.out
            rw [hn4] at hm
            rw [hm, HM.out]
            by_cases h4 : e4 = 0
            · have := (HO4.out h4).1
              have := R4.out.lt
              simp [h4]; omega
            · simp [h4]
      · have t0 : (e2 == 0) = false := by simpa using he
        have t1 : (e2 != 0) = true := by simpa using he
        have hbd := R.out.bd he
        have c3 := R.out.c3
        obtain ⟨b, o, kd, tx, nn, a2, hA, hbl, x0, x1, x2, x3, -, -⟩ := R.out.tok.cell (k := bd.toNat) (by omega)
        have hb1 : (bd.toNat : Int) = bd := by omega
        have P3 := Lib.hid (P1.out.keep B.out)
        have z0 := P3.out.c0
        have z1 := P3.out.c1
        have z2 := P3.out.c2
        have zf := P3.out.free
        have hbg : b ≠ g := fun e => by
          subst e
          have y := P3.out.at_
          simp only [World.cell?, y] at x0
          match h : o + bd.toNat * 4, x0 with
          | 0, x0 => simp [h] at x0
          | 1, x0 => simp [h] at x0
          | 2, x0 => simp [h] at x0
          | j + 3, x0 => simp [h] at x0
        have hgq : g ≠ w1.heap.size := by omega
        have P4 := Lib.hid (P3.out.store (.slice none 0 0) (.slice none 0 0) (.slice none 0 0))
        have B4 : Hid (Below w.heap.size w (((wr.drew.setCell ⟨g, 0, none⟩ (.slice none 0 0)).setCell ⟨g, 1, none⟩ (.slice none 0 0)).setCell ⟨g, 2, none⟩ (.slice none 0 0))) := Lib.hid ((((B1.out.trans (B.out.mono hw1)).drew.setCell (p := ⟨g, 0, none⟩) (Nat.le_of_eq HG.out) _).setCell (p := ⟨g, 1, none⟩) (Nat.le_of_eq HG.out) _).setCell (p := ⟨g, 2, none⟩) (Nat.le_of_eq HG.out) _)
        have SB : (((wr.drew.setCell ⟨g, 0, none⟩ (.slice none 0 0)).setCell ⟨g, 1, none⟩ (.slice none 0 0)).setCell ⟨g, 2, none⟩ (.slice none 0 0)).cell? ⟨w1.heap.size, 2, none⟩ = some (.int .i64 e2) ∧ (((wr.drew.setCell ⟨g, 0, none⟩ (.slice none 0 0)).setCell ⟨g, 1, none⟩ (.slice none 0 0)).setCell ⟨g, 2, none⟩ (.slice none 0 0)).cell? ⟨w1.heap.size, 3, none⟩ = some (.int .i64 bd) ∧ (((wr.drew.setCell ⟨g, 0, none⟩ (.slice none 0 0)).setCell ⟨g, 1, none⟩ (.slice none 0 0)).setCell ⟨g, 2, none⟩ (.slice none 0 0)).cell? ⟨b, o + bd.toNat * 4 + 3, none⟩ = some (.int .i64 a2) := by
          have SS : Only [g] wr (((wr.drew.setCell ⟨g, 0, none⟩ (.slice none 0 0)).setCell ⟨g, 1, none⟩ (.slice none 0 0)).setCell ⟨g, 2, none⟩ (.slice none 0 0)) := (((Only.refl _ _).drew.setCell (p := ⟨g, 0, none⟩) (by simp) _).setCell (p := ⟨g, 1, none⟩) (by simp) _).setCell (p := ⟨g, 2, none⟩) (by simp) _
          exact ⟨(only_cell SS R.out.qlt (by simp; omega) 2).trans c2, (only_cell SS R.out.qlt (by simp; omega) 3).trans c3, (only_cell SS hbl (by simp; exact hbg) _).trans x3⟩
        have P4 : Hid (Pv (((wr.drew.setCell ⟨g, 0, none⟩ (.slice none 0 0)).setCell ⟨g, 1, none⟩ (.slice none 0 0)).setCell ⟨g, 2, none⟩ (.slice none 0 0)) g (.slice none 0 0) (.slice none 0 0) (.slice none 0 0)) := Lib.hid (Pv.store (w := wr.drew) ⟨P3.out.at_⟩ _ _ _)
        go_upto_region 8 with fail
        refine Hh.start (fun w' => w'.cell? ⟨w1.heap.size, 2, none⟩ = some (.int .i64 e2) ∧ w'.cell? ⟨w1.heap.size, 3, none⟩ = some (.int .i64 bd) ∧ w'.cell? ⟨b, o + bd.toNat * 4 + 3, none⟩ = some (.int .i64 a2)) (by kernel_rfl) ?_
        have SA : wr.drew.cell? ⟨w1.heap.size, 2, none⟩ = some (.int .i64 e2) ∧ wr.drew.cell? ⟨w1.heap.size, 3, none⟩ = some (.int .i64 bd) ∧ wr.drew.cell? ⟨b, o + bd.toNat * 4 + 3, none⟩ = some (.int .i64 a2) := ⟨c2, c3, x3⟩
        refine Hh.take (i := 0) (v := ?vk0) rfl (by decide +kernel) (by decide +kernel) (fun _ _ _ h => h) rfl ?hyk0 SA ?restk0
        case hyk0 =>
          intro wq hSw
          obtain ⟨s1, s2, s3⟩ := hSw
          go_simp
          try with_reducible rfl
        try simp only [Act.put, zA, zB, zC]
        refine Hh.take (i := 1) (v := ?vk1) rfl (by decide +kernel) (by decide +kernel) (fun _ _ _ h => h) rfl ?hyk1 SA ?restk1
        case hyk1 =>
          intro wq hSw
          obtain ⟨s1, s2, s3⟩ := hSw
          go_simp
          try with_reducible rfl
        try simp only [Act.put, zA, zB, zC]
        refine Hh.take (i := 2) (v := ?vk2) rfl (by decide +kernel) (by decide +kernel) (fun _ _ _ h => h) rfl ?hyk2 SA ?restk2
        case hyk2 =>
          intro wq hSw
          obtain ⟨s1, s2, s3⟩ := hSw
          go_simp
          try with_reducible rfl
        try simp only [Act.put, zA, zB, zC]
        refine Hh.take (i := 3) (v := ?vk3) rfl (by decide +kernel) (by decide +kernel) (fun _ _ _ h => h) rfl ?hyk3 SA ?restk3
        case hyk3 =>
          intro wq hSw
          obtain ⟨s1, s2, s3⟩ := hSw
          go_simp
          try with_reducible rfl
        try simp only [Act.put, zA, zB, zC]
        refine Hh.take (i := 4) (v := ?vk4) rfl (by decide +kernel) (by decide +kernel) (fun _ _ _ h => h) rfl ?hyk4 SA ?restk4
        case hyk4 =>
          intro wq hSw
          obtain ⟨s1, s2, s3⟩ := hSw
          go_simp
          try with_reducible rfl
        try simp only [Act.put, zA, zB, zC]
        refine Hh.take (i := 5) (v := ?vk5) rfl (by decide +kernel) (by decide +kernel) (fun _ _ _ h => h) rfl ?hyk5 SA ?restk5
        case hyk5 =>
          intro wq hSw
          obtain ⟨s1, s2, s3⟩ := hSw
          go_simp
          try with_reducible rfl
        try simp only [Act.put, zA, zB, zC]
        refine Hh.take (i := 6) (v := ?vk6) rfl (by decide +kernel) (by decide +kernel) (fun _ _ _ h => h) rfl ?hyk6 SA ?restk6
        case hyk6 =>
          intro wq hSw
          obtain ⟨s1, s2, s3⟩ := hSw
          go_simp
          try with_reducible rfl
        try simp only [Act.put, zA, zB, zC]
        refine Hh.take (i := 7) (v := ?vk7) rfl (by decide +kernel) (by decide +kernel) (fun _ _ _ h => h) rfl ?hyk7 SA ?restk7
        case hyk7 =>
          intro wq hSw
          obtain ⟨s1, s2, s3⟩ := hSw
          go_simp
          try with_reducible rfl
        try simp only [Act.put, zA, zB, zC]
        refine Hh.take (i := 8) (v := ?vk8) rfl (by decide +kernel) (by decide +kernel) (fun _ _ _ h => h) rfl ?hyk8 SA ?restk8
        case hyk8 =>
          intro wq hSw
          obtain ⟨s1, s2, s3⟩ := hSw
          go_simp
          try with_reducible rfl
        try simp only [Act.put, zA, zB, zC]
        refine Hh.take (i := 9) (v := ?vk9) rfl (by decide +kernel) (by decide +kernel) (fun _ _ _ h => h) rfl ?hyk9 SA ?restk9
        case hyk9 =>
          intro wq hSw
          obtain ⟨s1, s2, s3⟩ := hSw
          go_simp
          try with_reducible rfl
        try simp only [Act.put, zA, zB, zC]
        refine Hh.take (i := 10) (v := ?vk10) rfl (by decide +kernel) (by decide +kernel) (fun _ _ _ h => h) rfl ?hyk10 SA ?restk10
        case hyk10 =>
          intro wq hSw
          obtain ⟨s1, s2, s3⟩ := hSw
          go_simp
          try with_reducible rfl
        try simp only [Act.put, zA, zB, zC]
        refine Hh.take (i := 11) (v := ?vk11) rfl (by decide +kernel) (by decide +kernel) (fun _ _ _ h => h) rfl ?hyk11 SA ?restk11
        case hyk11 =>
          intro wq hSw
          obtain ⟨s1, s2, s3⟩ := hSw
          go_simp
          try with_reducible rfl
        try simp only [Act.put, zA, zB, zC]
        refine Hh.take (i := 12) (v := ?vk12) rfl (by decide +kernel) (by decide +kernel) (fun _ _ _ h => h) rfl ?hyk12 SA ?restk12
        case hyk12 =>
          intro wq hSw
          obtain ⟨s1, s2, s3⟩ := hSw
          go_simp
          try with_reducible rfl
        try simp only [Act.put, zA, zB, zC]
        refine Hh.one (i := 13) rfl (by kernel_rfl) rfl (fun K hK => ?_)
        go_simp
        refine hK _ _ SB ?_
        clear hK K SA
        try simp only [Act.put, zA, zB, zC]
        refine Hh.one (i := 14) rfl (by kernel_rfl) rfl (fun K hK => ?_)
        go_simp
        refine hK _ _ SB ?_
        clear hK K
        try simp only [Act.put, zA, zB, zC]
        refine Hh.one (i := 15) rfl (by kernel_rfl) rfl (fun K hK => ?_)
        go_simp
        refine hK _ _ SB ?_
        clear hK K
        try simp only [Act.put, zA, zB, zC]
        refine Hh.done (by kernel_rfl) ?_ _
        go_wp2_with fail
        exact prog_ret rfl rfl rfl P4.out B4.out (fun h0 => absurd h0 he)
  · have t0 : (er != 0) = true := by simpa using he
    have z0 := P1.out.c0
    have z1 := P1.out.c1
    have z2 := P1.out.c2
    have zf := P1.out.free
    have B4 : Hid (Below w.heap.size w (((w1.setCell ⟨g, 0, none⟩ (.slice none 0 0)).setCell ⟨g, 1, none⟩ (.slice none 0 0)).setCell ⟨g, 2, none⟩ (.slice none 0 0))) := Lib.hid (((B1.out.setCell (p := ⟨g, 0, none⟩) (Nat.le_of_eq HG.out) _).setCell (p := ⟨g, 1, none⟩) (Nat.le_of_eq HG.out) _).setCell (p := ⟨g, 2, none⟩) (Nat.le_of_eq HG.out) _)
    go_wp2_with fail
    exact prog_ret rfl rfl rfl (P1.out.store _ _ _) B4.out (fun h0 => absurd h0 he)
end Go.Proofs.Ytapnnbbbgopobaa.Rr
