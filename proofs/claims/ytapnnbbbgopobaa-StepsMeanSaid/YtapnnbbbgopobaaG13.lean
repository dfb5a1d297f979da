/-
  WALKS: the reference's names: names, Locals; loading one element of a slice of structs.
-/
import Derived.Test.YtapnnbbbgopobaaG12
import Derived.Test.YtapnnbbbgopobaaProg
import Derived.Test.YtapnnbbbgopobaaG01
import Derived.Test.YtapnnbbbgopobaaStWalks
import Derived.Test.YtapnnbbbgopobaaG05
set_option linter.unusedVariables false
set_option linter.unusedSimpArgs false
namespace Go.Proofs.Ytapnnbbbgopobaa.Fr
open Go.RowKit Cm Mm Ow Me Ml Lg Rr
theorem wpList_load_at {P : Program} {ops : Array Oper} {rest : List Oper} {o : Oper} {a : Act} {w : World} {Q : Exit → Act → World → Prop} (hgd : o.guard = none) (ty : TypeId) (x : Operand) (ho : o.op = .load ty x) (b off : Nat) (hx : a.eval x = .pointer (some ⟨b, off, none⟩)) (vs : List Value) (d : TypeDesc)
    (hc : ∀ j, j < vs.length → w.cell? ⟨b, off + j, none⟩ = vs[j]?) (hu : P.underlying ty = some d) (hd : (match d with | .struct _ | .array _ _ => true | _ => false) = true) (hi : (P.info? ty).map (·.size) = some vs.length)
    (h : wpList P ops Q rest (a.put o.dst (.agg vs.toArray)) w) : wpList P ops Q (o :: rest) a w := by
  have hl : (loadCells ⟨b, off, none⟩ vs.length).run P w = .ok vs.toArray w :=
    run_loadCells_list (P := P) w ⟨b, off, none⟩ vs (fun j v hv => by
      have hadd : (⟨b, off, none⟩ : Addr).add j = ⟨b, off + j, none⟩ := by unfold Addr.add; split <;> simp_all
      have hj : j < vs.length := (List.getElem?_eq_some_iff.1 hv).1
      rw [hadd, hc j hj, hv])
  have hv : (loadVar ty ⟨b, off, none⟩).run P w = .ok (.agg vs.toArray) w := by
    cases hq : P.info? ty with
    | none => simp [hq] at hi
    | some i =>
      have hs : i.size = vs.length := by simpa [hq] using hi
      have hagg : (isAgg ty).run P w = .ok true w := by
        unfold isAgg
        rw [Sem.run_bind, run_underlying hu w]
        cases d <;> simp_all
      simp [loadVar, Sem.run_bind, hagg, sizeOf, typeInfo, hq, hs, hl]
  refine wpList_plain hgd fun K hK => ?_
  unfold Oper.wp execOp
  simp only [ho, hx, Instr.loadAt, Instr.sureAddr, Sem.run_bind, Sem.run_pure, Result.andThen_ok, hv]
  exact hK _ _ h
/-! one statement of a body -/
def dropB : Bd → Nat → Bd
  | b, 0 => b
  | .nil, _ => .nil
  | .cons _ _ _ r, i + 1 => dropB r i
theorem dropB_nil : ∀ i, dropB .nil i = .nil
  | 0 => rfl
  | _ + 1 => rfl
theorem dropB_all : ∀ (b : Bd) (i : Nat), blen b ≤ i → dropB b i = .nil
  | .nil, i, _ => dropB_nil i
  | .cons _ _ _ r, 0, h => absurd h (by simp [blen])
  | .cons _ _ _ r, i + 1, h => dropB_all r i (by simp only [blen] at h; omega)
theorem bd_at {P : Nat → Prop} {w : World} : ∀ (b : Bd) {blk off : Nat} (i : Nat), bdP P w b blk off → i < blen b →
    ∃ h b1 b2 vs, dropB b i = .cons h b1 b2 (dropB b (i + 1)) ∧ (∀ j, j < 21 → w.cell? ⟨blk, off + i * 21 + j, none⟩ = vs[j]?) ∧ StP P w h b1 b2 vs ∧ bsz b1 + bsz b2 + (1 + (lv h.i + lv h.x + lv h.y)) ≤ bsz b
  | .nil, blk, off, i, _, hi => absurd hi (by simp [blen])
  | .cons h body els rest, blk, off, 0, hh, hi => by
    unfold bdP at hh
    obtain ⟨⟨vi, vx, vy, BA, bn, bc, EA, en, ec, h1, h2, h3, h4, h5, h6, h7, h8⟩, hr⟩ := hh
    exact ⟨h, body, els, _, by cases rest <;> rfl, fun j hj => by rw [Nat.zero_mul, Nat.add_zero]; exact h1 j hj, ⟨vi, vx, vy, BA, bn, bc, EA, en, ec, rfl, h2, h3, h4, h5, h6, h7, h8⟩, by simp only [bsz]; omega⟩
  | .cons h body els rest, blk, off, i + 1, hh, hi => by
    unfold bdP at hh
    obtain ⟨h', b1, b2, vs, e1, e2, e3, e4⟩ := bd_at rest i hh.2 (by simp only [blen] at hi; omega)
    exact ⟨h', b1, b2, vs, e1, fun j hj => by rw [← e2 j hj]; congr 2; omega, e3, by simp only [bsz]; omega⟩
theorem dropB_succ : ∀ (b : Bd) (i : Nat), bsz (dropB b i) ≤ bsz b
  | b, 0 => by cases b <;> exact Nat.le_refl _
  | .nil, i + 1 => by rw [dropB_nil]; exact Nat.le_refl _
  | .cons _ _ _ r, i + 1 => by have := dropB_succ r i; simp only [dropB, bsz]; omega
theorem StP.len {P : Nat → Prop} {w : World} {h : Hd} {b1 b2 : Bd} {vs : List Value} (hs : StP P w h b1 b2 vs) : vs.length = 21 := by
  obtain ⟨vi, vx, vy, BA, bn, bc, EA, en, ec, rfl, h2, h3, h4, -⟩ := hs
  simp [stVs, exP_len h2, exP_len h3, exP_len h4]
theorem StP.ends {P : Nat → Prop} {w : World} {h : Hd} {b1 b2 : Bd} {vs : List Value} (hs : StP P w h b1 b2 vs) : vs[0]? = some (.int .i64 h.kind) ∧ vs[1]? = some (.int .i64 h.at_) ∧ vs[2]? = some (.string h.name) ∧ vs[3]? = some (.string h.cell) ∧
    ∃ BA bn bc EA en ec, vs[19]? = some (.slice BA bn bc) ∧ vs[20]? = some (.slice EA en ec) ∧ IsBdP P w b1 BA bn bc ∧ IsBdP P w b2 EA en ec := by
  obtain ⟨vi, vx, vy, BA, bn, bc, EA, en, ec, rfl, h2, h3, h4, h5, h6, h7, h8⟩ := hs
  obtain ⟨a0, a1, a2, a3, a4, rfl⟩ := Fr.len5 (exP_len h2)
  obtain ⟨b0, b1, b2, b3, b4, rfl⟩ := Fr.len5 (exP_len h3)
  obtain ⟨c0, c1, c2, c3, c4, rfl⟩ := Fr.len5 (exP_len h4)
  exact ⟨rfl, rfl, rfl, rfl, BA, bn, bc, EA, en, ec, rfl, rfl, h7, h8⟩
structure Nk (k : Nat) : Prop where
  go : ∀ {b : Bd} {w : World} {B : Nat} {A : Option Addr} {n c : Nat} {l : List ByteArray} {BA : Option Addr} {bn bc : Nat}, bsz b ≤ k → IsBdP (Lo B) w b BA bn bc → Nm w B A n c l → n + bsz b ≤ 2000000 → B ≤ w.heap.size →
    Calls Try.prog 73 #[.slice A n c, .slice BA bn bc] w (NmA w B A (namesN l b))
set_option maxRecDepth 20000 in
set_option maxHeartbeats 6400000 in
theorem names_of (k : Nat) (IH : ∀ j, j < k → Nk j) : Nk k := by
  refine ⟨fun {b w B A n c l BA bn bc} hk hb hN hn hB => ?_⟩
  have IHH := Lib.hid IH
  have N0 := Lib.hid hN
  have HBD := Lib.hid hb
  have AP := Lib.hid hN.apart
  have LN := Lib.hid hN.len
  have hbl := hb.1
  have hbm := hb.2.2.1
  have hbc := hb.2.1
  have hbz := blen_bsz b
  clear IH hb hN
  have HU : Try.prog.underlying 122 = some _ := Try.underlying122
  go_enter Try.func73, Try.ntmps73
  go_wp2_with fail
  go_loopw [0, 5] (fun s i wr => ∃ (j : Nat) (A1 : Option Addr) (n1 c1 : Nat) (l1 : List ByteArray), j ≤ bn ∧ s = .slice A1 n1 c1 ∧ i = .int .i64 j ∧ Nm wr B A1 n1 c1 l1 ∧ Grw A A1 w wr ∧ namesN l1 (dropB b j) = namesN l b ∧ n1 + bsz (dropB b j) ≤ n + bsz b) (fun _ i _ => bn - (intOf i).toNat)
  case atStart => exact ⟨0, A, n, c, l, Nat.zero_le _, rfl, rfl, N0.out, Grw.refl _ _, by cases b <;> rfl, by have := dropB_succ b 0; omega⟩
  case round =>
    obtain ⟨j, A1, n1, c1, l1, hj, rfl, rfl, hN1, hG1, hE1, hW1⟩ := hrel
    have N1 := Lib.hid hN1
    have G1 := Lib.hid hG1
    have E1 := Lib.hid hE1
    have W1 := Lib.hid hW1
    have hsz : B ≤ wr.heap.size := Nat.le_trans hB hG1.only.size
    clear hN1 hG1 hE1 hW1 N0
    by_cases hjn : j < bn
    · have d1 : decide ((j : Int) < (bn : Int)) = true := decide_eq_true (by omega)
      have hji : (j : Int) < (bn : Int) := by omega
      have HB1 := Lib.hid (isP_only G1.out.only AP.out HBD.out)
      obtain ⟨blk, off, rfl, hlo, hlt, hat⟩ := HB1.out.2.2.2 (by omega)
      obtain ⟨h, b1, b2, vs, hd, hc, hst, hwt⟩ := bd_at b j hat (by omega)
      obtain ⟨v0, -, -, -, B1, bn1, bc1, B2, bn2, bc2, v19, v20, hB1, hB2⟩ := Fr.StP.ends hst
      have c0 : wr.cell? ⟨blk, off + j * 21, none⟩ = some (.int .i64 h.kind) := (hc 0 (by omega)).trans v0
      have HC := Lib.hid (fun jj (hjj : jj < vs.length) => hc jj (by have := StP.len hst; omega))
      have HI : (Try.prog.info? 122).map (·.size) = some vs.length := by rw [StP.len hst]; kernel_rfl
      have HII := Lib.hid HI
      have ST := Lib.hid hst
      have HB1' := Lib.hid hB1
      have HB2' := Lib.hid hB2
      have hD := Lib.hid hd
      have hw1 : n1 + (1 + (lv h.i + lv h.x + lv h.y)) + bsz b1 + bsz b2 + bsz (dropB b (j + 1)) ≤ n + bsz b := by
        have := W1.out
        rw [hd] at this
        simp only [bsz] at this
        omega
      have LN1 := Lib.hid N1.out.len
      have EQ : Hid (namesN l1 (.cons h b1 b2 (dropB b (j + 1))) = namesN l b) := Lib.hid (by rw [← hd]; exact E1.out)
      have V := Lib.hid (And.intro v19 v20)
      have HCC := Lib.hid hc
      clear hst hB1 hB2 hd HI hc hat v0 v19 v20 HB1
      go_wp2_with (first | (refine wpList_load_at rfl 122 _ rfl blk (off + j * 21) rfl vs _ HC.out HU rfl HII.out ?_) | fail)
      refine (own_any ST.out N1.out (by omega) hsz).mono ?_
      rintro e w2 ⟨A2, n2, c2, rfl, hn2, hg2⟩
      have c20 : w2.cell? ⟨blk, off + j * 21, none⟩ = some (.int .i64 h.kind) := (only_cell hg2.only hlt (fun hx => N1.out.apart _ hx hlo) _).trans c0
      have c219 : w2.cell? ⟨blk, off + j * 21 + 19, none⟩ = some (.slice B1 bn1 bc1) := (only_cell hg2.only hlt (fun hx => N1.out.apart _ hx hlo) _).trans ((HCC.out 19 (by omega)).trans V.out.1)
      have c220 : w2.cell? ⟨blk, off + j * 21 + 20, none⟩ = some (.slice B2 bn2 bc2) := (only_cell hg2.only hlt (fun hx => N1.out.apart _ hx hlo) _).trans ((HCC.out 20 (by omega)).trans V.out.2)
      have hl2 : blk < w2.heap.size := Nat.lt_of_lt_of_le hlt hg2.only.size
      have N2 := Lib.hid hn2
      have G2 := Lib.hid hg2
      have LEN2 : Hid (n2 ≤ n1 + (1 + (lv h.i + lv h.x + lv h.y))) := Lib.hid (by have := hn2.len; have := (ownN_len h l1).2; have := LN1.out; omega)
      clear hn2 hg2 c0 HC HII ST V HCC
      by_cases h6 : h.kind = 6
      · rw [h6] at c20
        have H6 := Lib.hid h6
        clear h6
        go_wp2_with fail
        refine ((IHH.out (bsz b1) (by omega)).go (Nat.le_refl _) (isP_only G2.out.only N1.out.apart HB1'.out) N2.out (by have := LEN2.out; omega) (Nat.le_trans hsz G2.out.only.size)).mono ?_
        rintro e w3 ⟨A3, n3, c3, rfl, hn3, hg3⟩
        have c30 : w3.cell? ⟨blk, off + j * 21, none⟩ = some (.int .i64 6) := (only_cell hg3.only hl2 (fun hx => N2.out.apart _ hx hlo) _).trans c20
        have c319 : w3.cell? ⟨blk, off + j * 21 + 19, none⟩ = some (.slice B1 bn1 bc1) := (only_cell hg3.only hl2 (fun hx => N2.out.apart _ hx hlo) _).trans c219
        have c320 : w3.cell? ⟨blk, off + j * 21 + 20, none⟩ = some (.slice B2 bn2 bc2) := (only_cell hg3.only hl2 (fun hx => N2.out.apart _ hx hlo) _).trans c220
        have hl3 : blk < w3.heap.size := Nat.lt_of_lt_of_le hl2 hg3.only.size
        have N3 := Lib.hid hn3
        have G3 := Lib.hid (G2.out.trans hg3)
        have LEN3 : Hid (n3 ≤ n1 + (1 + (lv h.i + lv h.x + lv h.y)) + bsz b1) := Lib.hid (by have := hn3.len; have := (namesN_len b1 (ownN l1 h)).2; have := N2.out.len; have := LEN2.out; omega)
        clear hn3 hg3 c20 c219 c220
        go_wp2_with fail
        refine ((IHH.out (bsz b2) (by omega)).go (Nat.le_refl _) (isP_only G3.out.only N1.out.apart HB2'.out) N3.out (by have := LEN3.out; omega) (Nat.le_trans hsz G3.out.only.size)).mono ?_
        rintro e w4 ⟨A4, n4, c4, rfl, hn4, hg4⟩
        have c40 : w4.cell? ⟨blk, off + j * 21, none⟩ = some (.int .i64 6) := (only_cell hg4.only hl3 (fun hx => N3.out.apart _ hx hlo) _).trans c30
        have c419 : w4.cell? ⟨blk, off + j * 21 + 19, none⟩ = some (.slice B1 bn1 bc1) := (only_cell hg4.only hl3 (fun hx => N3.out.apart _ hx hlo) _).trans c319
        have c420 : w4.cell? ⟨blk, off + j * 21 + 20, none⟩ = some (.slice B2 bn2 bc2) := (only_cell hg4.only hl3 (fun hx => N3.out.apart _ hx hlo) _).trans c320
        have hl4 : blk < w4.heap.size := Nat.lt_of_lt_of_le hl3 hg4.only.size
        have N4 := Lib.hid hn4
        have G4 := Lib.hid (G3.out.trans hg4)
        have LEN4 : Hid (n4 ≤ n1 + (1 + (lv h.i + lv h.x + lv h.y)) + bsz b1 + bsz b2) := Lib.hid (by have := hn4.len; have := (namesN_len b2 (namesN (ownN l1 h) b1)).2; have := N3.out.len; have := LEN3.out; omega)
        clear hn4 hg4 c30 c319 c320
        go_wp2_with fail
        go_roundw
        case rel => exact ⟨j + 1, A4, n4, c4, _, by omega, rfl, by go_num, N4.out, G1.out.trans G4.out, by have := EQ.out; rw [namesN] at this; simpa [H6.out] using this, by have := LEN4.out; omega⟩
        case measure => simp [intOf]; omega
      by_cases h7 : h.kind = 7
      · rw [h7] at c20
        have H7 := Lib.hid h7
        clear h6 h7
        go_wp2_with fail
        refine ((IHH.out (bsz b1) (by omega)).go (Nat.le_refl _) (isP_only G2.out.only N1.out.apart HB1'.out) N2.out (by have := LEN2.out; omega) (Nat.le_trans hsz G2.out.only.size)).mono ?_
        rintro e w3 ⟨A3, n3, c3, rfl, hn3, hg3⟩
        have c30 : w3.cell? ⟨blk, off + j * 21, none⟩ = some (.int .i64 7) := (only_cell hg3.only hl2 (fun hx => N2.out.apart _ hx hlo) _).trans c20
        have c319 : w3.cell? ⟨blk, off + j * 21 + 19, none⟩ = some (.slice B1 bn1 bc1) := (only_cell hg3.only hl2 (fun hx => N2.out.apart _ hx hlo) _).trans c219
        have c320 : w3.cell? ⟨blk, off + j * 21 + 20, none⟩ = some (.slice B2 bn2 bc2) := (only_cell hg3.only hl2 (fun hx => N2.out.apart _ hx hlo) _).trans c220
        have hl3 : blk < w3.heap.size := Nat.lt_of_lt_of_le hl2 hg3.only.size
        have N3 := Lib.hid hn3
        have G3 := Lib.hid (G2.out.trans hg3)
        have LEN3 : Hid (n3 ≤ n1 + (1 + (lv h.i + lv h.x + lv h.y)) + bsz b1) := Lib.hid (by have := hn3.len; have := (namesN_len b1 (ownN l1 h)).2; have := N2.out.len; have := LEN2.out; omega)
        clear hn3 hg3 c20 c219 c220
        go_wp2_with fail
        go_roundw
        case rel => exact ⟨j + 1, A3, n3, c3, _, by omega, rfl, by go_num, N3.out, G1.out.trans G3.out, by have := EQ.out; rw [namesN] at this; simpa [H7.out] using this, by have := LEN3.out; omega⟩
        case measure => simp [intOf]; omega
      · have t6 : (h.kind == 6) = false := by simpa using h6
        have t7 : (h.kind == 7) = false := by simpa using h7
        have H67 := Lib.hid (And.intro h6 h7)
        clear h6 h7
        go_wp2_with fail
        go_roundw
        case rel => exact ⟨j + 1, A2, n2, c2, _, by omega, rfl, by go_num, N2.out, G1.out.trans G2.out, by have := EQ.out; rw [namesN] at this; simpa [H67.out.1, H67.out.2] using this, by have := LEN2.out; omega⟩
        case measure => simp [intOf]; omega
    · obtain rfl : j = bn := by omega
      have d1 : decide ((j : Int) < (j : Int)) = false := decide_eq_false (by omega)
      have HE : Hid (l1 = namesN l b) := Lib.hid (by have := E1.out; rw [dropB_all b j (by omega)] at this; exact this)
      go_wp2_with fail
      go_ret
      exact ⟨A1, n1, c1, rfl, by rw [← HE.out]; exact N1.out, G1.out⟩
theorem names_any (k : Nat) : Nk k := Nat.strongRecOn k (fun k IH => names_of k IH)
theorem isP_lo {w : World} {b : Bd} {A : Option Addr} {n c : Nat} (h : IsBd 0 w b A n c) : IsBdP (Lo w.heap.size) w b A n c := isP_of (P := Lo w.heap.size) (fun b _ hl => hl) h
def LocA (b : Bd) (w : World) (e : Ending) (w' : World) : Prop := ∃ A n c, e = .returned (.slice A n c) ∧ Nm w' w.heap.size A n c (namesN [] b) ∧ Below w.heap.size w w'
theorem locals_any {b : Bd} {w : World} {BA : Option Addr} {bn bc : Nat} (hb : IsBd 0 w b BA bn bc) (hz : bsz b ≤ 80000) : Calls Try.prog 53 #[.slice BA bn bc] w (LocA b w) := by
  have C := Lib.hid ((names_any (bsz b)).go (Nat.le_refl _) (isP_lo hb) (Nm.nil w w.heap.size) (by omega) (Nat.le_refl _))
  clear hb
  go_enter Try.func53, Try.ntmps53
  go_wp2_with fail
  refine C.out.mono ?_
  rintro e w2 ⟨A, n, c, rfl, h1, h2⟩
  have N := Lib.hid h1
  have G := Lib.hid h2
  clear h1 h2
  go_wp2_with fail
  go_ret
  exact ⟨A, n, c, rfl, N.out, G.out.below (fun g hg => by cases hg) (Nat.le_refl _)⟩
end Go.Proofs.Ytapnnbbbgopobaa.Fr
namespace Go.Proofs.Ytapnnbbbgopobaa.Lay
open Go.RowKit Cm Mm
abbrev Cl := ByteArray × Int
def zero : Cl := (ByteArray.empty, 0)
def cells (c : Cl) : List Value := [.string c.1, .int .i64 c.2]
def okCl (c : Cl) : Prop := c.1.size ≤ maxLen ∧ -9223372036854775808 ≤ c.2 ∧ c.2 ≤ 9223372036854775807
def one (c : Cl) : Int := max 1 (min c.2 64)
def words (l : List Cl) : Int := (l.map one).sum
def place (l : List Cl) (i : Int) : Int := if 0 ≤ i ∧ i < l.length then 4096 + 8 * words (l.take i.toNat) else 4096
def find (l : List Cl) (s : List UInt8) : Int := match l.findIdx? (fun c => c.1.toList == s) with | some i => (i : Int) | none => -1
def IsCl (w : World) (A : Option Addr) (n cap : Nat) (l : List Cl) : Prop := l.length = n ∧ Sl w A n cap 2 (fun i => cells (l.getD i zero)) ∧ ∀ i, i < n → okCl (l.getD i zero)
theorem one_bd (c : Cl) : 1 ≤ one c ∧ one c ≤ 64 := by unfold one; omega
theorem words_snoc (l : List Cl) (k : Nat) (h : k < l.length) : words (l.take (k + 1)) = words (l.take k) + one (l.getD k zero) := by
  have e : l.take (k + 1) = l.take k ++ [l.getD k zero] := by
    rw [List.take_succ_eq_append_getElem h]; simp [List.getD, h]
  unfold words
  rw [e]
  simp
theorem words_bd (l : List Cl) : 0 ≤ words l ∧ words l ≤ 64 * l.length := by
  induction l with
  | nil => simp [words]
  | cons c l ih =>
    have h1 := one_bd c
    have e : words (c :: l) = one c + words l := by simp [words]
    rw [e]
    simp only [List.length_cons]
    omega
theorem words_take_bd (l : List Cl) (k : Nat) (hk : k ≤ l.length) : 0 ≤ words (l.take k) ∧ words (l.take k) ≤ 64 * k := by
  have h := words_bd (l.take k)
  have e : (l.take k).length = k := by simp [hk]
  rw [e] at h
  exact h
theorem IsCl.keep {w w' : World} {A : Option Addr} {n cap : Nat} {l : List Cl} (h : IsCl w A n cap l) (hb : Below w.heap.size w w') : IsCl w' A n cap l := ⟨h.1, h.2.1.keep hb, h.2.2⟩
theorem IsCl.take {w : World} {A : Option Addr} {n cap k : Nat} {l : List Cl} (h : IsCl w A n cap l) (hk : k ≤ n) : IsCl w A k cap (l.take k) := by
  have hl := h.1
  have e : ∀ i, i < k → l.getD i zero = (l.take k).getD i zero := fun i hi => by simp [List.getD, List.getElem?_take, hi]
  exact ⟨by simp; omega, (h.2.1.take hk).ext fun i hi => by rw [e i hi], fun i hi => by rw [← e i hi]; exact h.2.2 i (by omega)⟩
theorem IsCl.cell {w : World} {A : Option Addr} {n cap : Nat} {l : List Cl} (h : IsCl w A n cap l) {k : Nat} (hk : k < n) :
    ∃ b o, A = some ⟨b, o, none⟩ ∧ b < w.heap.size ∧ w.cell? ⟨b, o + k * 2, none⟩ = some (.string (l.getD k zero).1) ∧ w.cell? ⟨b, o + k * 2 + 1, none⟩ = some (.int .i64 (l.getD k zero).2) ∧ okCl (l.getD k zero) := by
  obtain ⟨b, o, e, hb, hc⟩ := h.2.1.at_ (by omega)
  exact ⟨b, o, e, hb, by simpa [cells] using hc k hk 0 (by omega), by simpa [cells, Nat.add_assoc] using hc k hk 1 (by omega), h.2.2 k hk⟩
theorem rsize_any (s : Value) (z : Int) (w : World) (h1 : -9223372036854775808 ≤ z) (h2 : z ≤ 9223372036854775807) :
    Calls Try.prog 36 #[.agg #[s, .int .i64 z]] w fun e w' => e = .returned (.int .i64 (max 1 (min z 64))) ∧ Below w.heap.size w w' := by
  go_enter Try.func36, Try.ntmps36
  go_wp2
  all_goals go_ret
  all_goals exact ⟨ret1 (by omega), (Below.refl _ _).alloc (Nat.le_refl _) _⟩
theorem rwords_any (A : Option Addr) (n cap : Nat) (l : List Cl) (w : World) (h : IsCl w A n cap l) (hn : n ≤ 65536) :
    Calls Try.prog 12 #[.slice A n cap] w fun e w' => e = .returned (.int .i64 (words l)) ∧ Below w.heap.size w w' := by
  have hl := Lib.hid h.1
  go_enter Try.func12, Try.ntmps12
  go_wp2
  go_loopw [3, 4] (fun t i wr => ∃ (k : Nat), k ≤ n ∧ i = .int .i64 k ∧ t = .int .i64 (words (l.take k)) ∧ Below w.heap.size w wr) (fun _ i _ => n - (intOf i).toNat)
  case atStart => exact ⟨0, by omega, rfl, rfl, Below.refl _ _⟩
  case round =>
    obtain ⟨k, hk, rfl, rfl, hbel⟩ := hrel
    have wb := words_take_bd l k (by have := hl.out; omega)
    by_cases hkn : k < n
    · have ws := Lib.hid (words_snoc l k (by have := hl.out; omega))
      obtain ⟨b, o, rfl, hb, g0, g1, g2⟩ := (h.keep hbel).cell hkn
      obtain ⟨_, z1, z2⟩ := g2
      generalize hc : l.getD k zero = c at *
      have o1 : one c = max 1 (min c.2 64) := rfl
      have O1 := Lib.hid o1; clear o1
      clear hc
      obtain ⟨c1, c2⟩ := c
      generalize words (l.take k) = q at *
      go_wp2_with (go_at_call 36; refine (rsize_any _ _ _ (by assumption) (by assumption)).mono ?_; rintro e w' ⟨rfl, hb2⟩)
      go_roundw
      case rel => exact ⟨k + 1, by omega, by go_num, by rw [ws.out, O1.out], below_seq hbel (hb2.mono (by omega))⟩
      case measure => simp [intOf]; omega
    · obtain rfl : k = n := by omega
      have e : l.take k = l := by rw [← hl.out]; exact List.take_length
      rw [e] at *
      go_wp2_with fail
      go_ret
      exact ⟨rfl, hbel⟩
section
attribute [local go_sem] if_min if_max
end
theorem rat_any (A : Option Addr) (n cap : Nat) (i : Int) (l : List Cl) (w : World) (h : IsCl w A n cap l) (hn : n ≤ 65536) :
    Calls Try.prog 91 #[.slice A n cap, .int .i64 i] w fun e w' => e = .returned (.int .i64 (place l i)) ∧ Below w.heap.size w w' := by
  have hl := Lib.hid h.1
  by_cases hi : 0 ≤ i ∧ i < n
  · obtain ⟨h0, hi⟩ := hi
    obtain ⟨m, rfl⟩ := Int.eq_ofNat_of_zero_le h0
    have hp : place l (m : Int) = 4096 + 8 * words (l.take m) := by unfold place; have := hl.out; rw [if_pos ⟨h0, by omega⟩]; simp
    have HP := Lib.hid hp; clear hp
    go_enter Try.func91, Try.ntmps91
    go_wp2
    go_loopw [5, 6] (fun t i wr => ∃ (k : Nat), k ≤ m ∧ i = .int .i64 k ∧ t = .int .i64 (4096 + 8 * words (l.take k)) ∧ Below w.heap.size w wr) (fun _ i _ => m - (intOf i).toNat)
    case atStart => exact ⟨0, by omega, rfl, rfl, Below.refl _ _⟩
    case round =>
      obtain ⟨k, hk, rfl, rfl, hbel⟩ := hrel
      have wb := words_take_bd l k (by have := hl.out; omega)
      by_cases hkn : (k : Int) < m
      · have ws := Lib.hid (words_snoc l k (by have := hl.out; omega))
        obtain ⟨b, o, rfl, hb, g0, g1, g2⟩ := (h.keep hbel).cell (k := k) (by omega)
        obtain ⟨_, z1, z2⟩ := g2
        generalize hc : l.getD k zero = c at *
        have o1 : one c = max 1 (min c.2 64) := rfl
        have O1 := Lib.hid o1; clear o1
        clear hc
        obtain ⟨c1, c2⟩ := c
        generalize words (l.take k) = q at *
        go_wp2_with (go_at_call 36; refine (rsize_any _ _ _ (by assumption) (by assumption)).mono ?_; rintro e w' ⟨rfl, hb2⟩)
        go_roundw
        case rel => exact ⟨k + 1, by omega, by go_num, by rw [ws.out, O1.out]; go_num, below_seq hbel (hb2.mono (by omega))⟩
        case measure => simp [intOf]; omega
      · obtain rfl : k = m := by omega
        go_wp2_with fail
        go_ret
        exact ⟨ret1 HP.out.symm, hbel⟩
  · have hp : place l i = 4096 := by unfold place; have := hl.out; rw [if_neg (by omega)]
    have HP := Lib.hid hp; clear hp
    obtain hi' | ⟨hi', hi''⟩ : i ≤ 0 ∨ (0 < i ∧ (n : Int) ≤ i) := by omega
    all_goals
      go_enter Try.func91, Try.ntmps91
      go_wp2
      refine wp_loop_rounds 1 ?_
      rw [rounds_succ]
      go_wp2_with fail
      go_ret
      exact ⟨ret1 HP.out.symm, Below.refl _ _⟩
/-! finding a name -/
theorem find_none (l : List Cl) (s : List UInt8) (h : ∀ i, i < l.length → ((l.getD i zero).1.toList == s) = false) : find l s = -1 := by
  unfold find
  have e : l.findIdx? (fun c => c.1.toList == s) = none := by
    rw [List.findIdx?_eq_none_iff]
    intro c hc
    obtain ⟨i, hi, rfl⟩ := List.getElem_of_mem hc
    have := h i hi
    simpa [List.getD, hi] using this
  rw [e]
theorem find_some (l : List Cl) (s : List UInt8) (k : Nat) (hk : k < l.length) (h : ∀ i, i < k → ((l.getD i zero).1.toList == s) = false) (hs : ((l.getD k zero).1.toList == s) = true) : find l s = (k : Int) := by
  unfold find
  have e : l.findIdx? (fun c => c.1.toList == s) = some k := by
    rw [List.findIdx?_eq_some_iff_getElem]
    refine ⟨hk, by simpa [List.getD, hk] using hs, fun j hj => ?_⟩
    have := h j hj
    simpa [List.getD, show j < l.length by omega] using this
  rw [e]
theorem no_snoc {l : List Cl} {s : List UInt8} {k : Nat} {c : Cl} (hno : Hid (∀ i, i < k → ((l.getD i zero).1.toList == s) = false)) (hc : Hid (l.getD k zero = c)) (h : (c.1.toList == s) = false) :
    Hid (∀ i, i < k + 1 → ((l.getD i zero).1.toList == s) = false) := fun i hi => by
  by_cases e : i = k
  · subst e; rw [hc.out]; exact h
  · exact hno.out i (by omega)
theorem rfind_any (A : Option Addr) (n cap : Nat) (s : ByteArray) (l : List Cl) (w : World) (h : IsCl w A n cap l) (hn : n ≤ 65536) :
    Calls Try.prog 50 #[.slice A n cap, .string s] w fun e w' => e = .returned (.int .i64 (find l s.toList)) ∧ w = w' := by
  have hl := Lib.hid h.1
  go_enter Try.func50, Try.ntmps50
  go_wp2
  go_loop [5] (fun i => ∃ (k : Nat), k ≤ n ∧ i = .int .i64 k ∧ Hid (∀ i, i < k → ((l.getD i zero).1.toList == s.toList) = false)) (fun i => n - (intOf i).toNat)
  case atStart => exact ⟨0, by omega, rfl, fun i hi => absurd hi (by omega)⟩
  case round =>
    obtain ⟨k, hk, rfl, hno⟩ := hrel
    by_cases hkn : k < n
    · obtain ⟨b, o, rfl, hb, g0, g1, g2⟩ := h.cell hkn
      clear g2
      generalize hc : l.getD k zero = c at *
      have HC := Lib.hid hc; clear hc
      obtain ⟨c1, c2⟩ := c
      cases hs : (c1.toList == s.toList)
      · go_wp2
        go_round
        case rel => exact ⟨k + 1, by omega, by go_num, no_snoc hno HC hs⟩
        case measure => simp [intOf]; omega
      · go_wp2
        go_ret
        exact ⟨ret1 (find_some l _ k (by have := hl.out; omega) hno.out (by rw [HC.out]; exact hs)).symm, rfl⟩
    · obtain rfl : k = n := by omega
      go_wp2_with fail
      go_ret
      exact ⟨ret1 (find_none l _ (by rw [hl.out]; exact hno.out)).symm, rfl⟩
end Go.Proofs.Ytapnnbbbgopobaa.Lay
namespace Go.Proofs.Ytapnnbbbgopobaa.Fr
open Go.RowKit Cm Mm Ow Me Ml Lg Rr
def addAll (l : List ByteArray) (ms : List ByteArray) : List ByteArray := ms.foldl addN l
theorem addAll_snoc (l ms : List ByteArray) (m : ByteArray) : addAll l (ms ++ [m]) = addN (addAll l ms) m := by simp [addAll]
theorem addAll_len : ∀ (ms l : List ByteArray), (addAll l ms).length ≤ l.length + ms.length
  | [], l => Nat.le_refl _
  | m :: ms, l => by have := addAll_len ms (addN l m); have := (addN_len l m).2; simp only [addAll, List.foldl_cons, List.length_cons] at *; omega
structure OkS (cs : List Lay.Cl) (l : List ByteArray) (h : Hd) : Prop where
  cell : isCelled h.kind = true → ¬ Lay.find cs h.cell.toList < 0
  free : ∀ i, i < (ownN [] h).length → ¬ 0 ≤ Lay.find cs ((ownN [] h).getD i ⟨#[]⟩).toList
  few : (addAll l (ownN [] h)).length ≤ 12
def walkL : List ByteArray → Bd → List ByteArray
  | l, .nil => l
  | l, .cons h b e r =>
    let l1 := addAll l (ownN [] h)
    let l2 := if h.kind = 6 ∨ h.kind = 7 then walkL l1 b else l1
    let l3 := if h.kind = 6 then walkL l2 e else l2
    walkL l3 r
def walkOk (cs : List Lay.Cl) : List ByteArray → Bd → Prop
  | _, .nil => True
  | l, .cons h b e r =>
    let l1 := addAll l (ownN [] h)
    let l2 := if h.kind = 6 ∨ h.kind = 7 then walkL l1 b else l1
    let l3 := if h.kind = 6 then walkL l2 e else l2
    OkS cs l h ∧ (h.kind = 6 ∨ h.kind = 7 → walkOk cs l1 b) ∧ (h.kind = 6 → walkOk cs l2 e) ∧ walkOk cs l3 r
structure Ck (w : World) (q : Nat) (cA : Option Addr) (cn cc : Nat) (cs : List Lay.Cl) (A : Option Addr) (n c : Nat) (l : List ByteArray) (e at_ : Int) : Prop where
  blk : w.heap[q]? = some (.cells #[.slice cA cn cc, .slice A n c, .int .i64 e, .int .i64 at_] 106 (0, 0))
  cl : Lay.IsCl w cA cn cc cs
  cb : 0 < cn → ∀ b o m, cA = some ⟨b, o, m⟩ → b < q
  nm : Nm w (q + 1) A n c l
structure Cw (q : Nat) (A A' : Option Addr) (w w' : World) : Prop where
  only : Only (q :: (A.map (·.block)).toList) w w'
  blk : A'.map (·.block) = A.map (·.block) ∨ ∀ b, A'.map (·.block) = some b → w.heap.size ≤ b
section
variable {w w' w'' : World} {q : Nat} {cA : Option Addr} {cn cc : Nat} {cs : List Lay.Cl} {A A' A'' : Option Addr} {n c n' c' : Nat} {l l' : List ByteArray} {e at_ : Int}
theorem Cw.refl (q : Nat) (A : Option Addr) (w : World) : Cw q A A w w := ⟨Only.refl _ _, .inl rfl⟩
theorem Cw.of_below (h : Below w.heap.size w w') : Cw q A A w w' := ⟨Only.of_below h, .inl rfl⟩
theorem Cw.of_grw (h : Grw A A' w w') : Cw q A A' w w' := ⟨h.only.more (fun x hx => List.mem_cons_of_mem _ hx), h.blk⟩
theorem Cw.trans (h : Cw q A A' w w') (k : Cw q A' A'' w' w'') : Cw q A A'' w w'' := by
  refine ⟨h.only.trans k.only (fun x hx => ?_), ?_⟩
  · rcases List.mem_cons.1 hx with e | hx
    · exact .inl (by rw [e]; exact List.mem_cons_self ..)
    · rcases h.blk with e | e
      · exact .inl (List.mem_cons_of_mem _ (e ▸ hx))
      · exact .inr (e x (Fr.mem_blk.1 hx))
  · rcases k.blk with e | e
    · rw [e]; exact h.blk
    · exact .inr fun b hb => Nat.le_trans h.only.size (e b hb)
theorem Cw.set (h : Cw q A A' w w') (k : Nat) (v : Value) : Cw q A A' w (w'.setCell ⟨q, k, none⟩ v) := ⟨h.only.setCell (by simp) v, h.blk⟩
theorem Ck.qlt (h : Ck w q cA cn cc cs A n c l e at_) : q < w.heap.size := (Array.getElem?_eq_some_iff.1 h.blk).1
theorem Ck.c0 (h : Ck w q cA cn cc cs A n c l e at_) : w.cell? ⟨q, 0, none⟩ = some (.slice cA cn cc) := by simp only [World.cell?, h.blk]; simp
theorem Ck.c1 (h : Ck w q cA cn cc cs A n c l e at_) : w.cell? ⟨q, 1, none⟩ = some (.slice A n c) := by simp only [World.cell?, h.blk]; simp
theorem Ck.c2 (h : Ck w q cA cn cc cs A n c l e at_) : w.cell? ⟨q, 2, none⟩ = some (.int .i64 e) := by simp only [World.cell?, h.blk]; simp
theorem Ck.c3 (h : Ck w q cA cn cc cs A n c l e at_) : w.cell? ⟨q, 3, none⟩ = some (.int .i64 at_) := by simp only [World.cell?, h.blk]; simp
theorem Ck.free (h : Ck w q cA cn cc cs A n c l e at_) (k : Nat) : w.frozen? ⟨q, k, none⟩ = false := by simp only [World.frozen?, h.blk]; simp
theorem Ck.keep (h : Ck w q cA cn cc cs A n c l e at_) (hb : Below w.heap.size w w') : Ck w' q cA cn cc cs A n c l e at_ := ⟨(hb.block _ h.qlt).trans h.blk, h.cl.keep hb, h.cb, h.nm.keep hb⟩
theorem cl_only {F : List Nat} (h : Lay.IsCl w cA cn cc cs) (ho : Only F w w') (hn : 0 < cn → ∀ b o m, cA = some ⟨b, o, m⟩ → b ∉ F) : Lay.IsCl w' cA cn cc cs :=
  ⟨h.1, ⟨h.2.1.le, h.2.1.cap_le, fun h0 => by
    obtain ⟨b, o, e, hb, hc⟩ := h.2.1.at_ h0
    exact ⟨b, o, e, Nat.lt_of_lt_of_le hb ho.size, fun i hi j hj => (only_cell ho hb (hn h0 b o none e) _).trans (hc i hi j hj)⟩⟩, h.2.2⟩
theorem Ck.setE (h : Ck w q cA cn cc cs A n c l e at_) (x : Int) : Ck (w.setCell ⟨q, 2, none⟩ (.int .i64 x)) q cA cn cc cs A n c l x at_ :=
  ⟨Lx.blk_set h.blk _, cl_only h.cl (only_q w q 2 _) (fun h0 b o m hA hx => by have := h.cb h0 b o m hA; simp at hx; omega), h.cb, h.nm.only (only_q w q 2 _) (fun g hg hx => by have := h.nm.lt g hg; simp at hx; omega)⟩
theorem Ck.setAt (h : Ck w q cA cn cc cs A n c l e at_) (x : Int) : Ck (w.setCell ⟨q, 3, none⟩ (.int .i64 x)) q cA cn cc cs A n c l e x :=
  ⟨Lx.blk_set h.blk _, cl_only h.cl (only_q w q 3 _) (fun h0 b o m hA hx => by have := h.cb h0 b o m hA; simp at hx; omega), h.cb, h.nm.only (only_q w q 3 _) (fun g hg hx => by have := h.nm.lt g hg; simp at hx; omega)⟩
theorem Ck.put (h : Ck w q cA cn cc cs A n c l e at_) (hn : Nm w' (q + 1) A' n' c' l') (hg : Grw A A' w w') : Ck (w'.setCell ⟨q, 1, none⟩ (.slice A' n' c')) q cA cn cc cs A' n' c' l' e at_ :=
  ⟨Lx.blk_set ((hg.only.block q h.qlt (fun hx => by have := (h.nm.lt q (Fr.mem_blk.1 hx)).1; omega)).trans h.blk) _,
   cl_only (cl_only h.cl hg.only (fun h0 b o m hA hx => by have := h.cb h0 b o m hA; have := (h.nm.lt b (Fr.mem_blk.1 hx)).1; omega)) (only_q w' q 1 _) (fun h0 b o m hA hx => by have := h.cb h0 b o m hA; simp at hx; omega), h.cb,
   hn.only (only_q w' q 1 _) (fun g hg' hx => by have := hn.lt g hg'; simp at hx; omega)⟩
structure Cu (w0 w : World) (q g : Nat) (hd : Hd) (b1 b2 : Bd) (vs : List Value) (cA : Option Addr) (cn cc : Nat) (cs : List Lay.Cl) (A0 A : Option Addr) (n c : Nat) (l : List ByteArray) (e at_ : Int) (M : Option Addr) (mn mc : Nat) (ml : List ByteArray) : Prop where
  ck : Ck w q cA cn cc cs A n c l e at_
  cw : Cw q A0 A w0 w
  sb : w.heap[g]? = some (.cells vs.toArray 122 (0, 0))
  st : StP (Lo q) w hd b1 b2 vs
  gq : q < g
  ne : ∀ b, A.map (·.block) = some b → b ≠ g
  mi : Nm w (q + 1) M mn mc ml
  mne : ∀ b, M.map (·.block) = some b → A.map (·.block) ≠ some b
variable {w0 : World} {g : Nat} {hd : Hd} {b1 b2 : Bd} {vs : List Value} {A0 : Option Addr} {M : Option Addr} {mn mc : Nat} {ml : List ByteArray}
theorem Cu.keep (h : Cu w0 w q g hd b1 b2 vs cA cn cc cs A0 A n c l e at_ M mn mc ml) (hb : Below w.heap.size w w') : Cu w0 w' q g hd b1 b2 vs cA cn cc cs A0 A n c l e at_ M mn mc ml :=
  ⟨h.ck.keep hb, h.cw.trans (Cw.of_below hb), (hb.block _ (Array.getElem?_eq_some_iff.1 h.sb).1).trans h.sb, stP_only (Only.of_below (F := []) hb) (fun g hg => by cases hg) h.st, h.gq, h.ne, h.mi.keep hb, h.mne⟩
theorem Cu.setE (h : Cu w0 w q g hd b1 b2 vs cA cn cc cs A0 A n c l e at_ M mn mc ml) (x : Int) : Cu w0 (w.setCell ⟨q, 2, none⟩ (.int .i64 x)) q g hd b1 b2 vs cA cn cc cs A0 A n c l x at_ M mn mc ml :=
  have hgq := h.gq
  ⟨h.ck.setE x, h.cw.set 2 _, ((only_q w q 2 _).block g (Array.getElem?_eq_some_iff.1 h.sb).1 (by simp; omega)).trans h.sb, stP_only (only_q w q 2 _) (fun y hy hh => by unfold Lo at hh; simp at hy; omega) h.st, h.gq, h.ne, h.mi.only (only_q w q 2 _) (fun b hb hx => by have := h.mi.lt b hb; simp at hx; omega), h.mne⟩
theorem Cu.mine (h : Cu w0 w q g hd b1 b2 vs cA cn cc cs A0 A n c l e at_ none 0 0 []) {B : Nat} {M' : Option Addr} {mn' mc' : Nat} {ml' : List ByteArray} (hB : w.heap.size = B) (hn : Nm w' B M' mn' mc' ml') (hg : Grw none M' w w') : Cu w0 w' q g hd b1 b2 vs cA cn cc cs A0 A n c l e at_ M' mn' mc' ml' := by
  subst hB
  have hb : Below w.heap.size w w' := hg.below (fun g hg => by cases hg) (Nat.le_refl _)
  have hq := h.ck.qlt
  exact ⟨h.ck.keep hb, h.cw.trans (Cw.of_below hb), (hb.block _ (Array.getElem?_eq_some_iff.1 h.sb).1).trans h.sb, stP_only (Only.of_below (F := []) hb) (fun g hg => by cases hg) h.st, h.gq, h.ne, Own.low hn (by omega), fun b hb' hx => by have := (hn.lt b hb').1; have := (h.ck.nm.lt b hx).2; omega⟩
theorem Cu.put (h : Cu w0 w q g hd b1 b2 vs cA cn cc cs A0 A n c l e at_ M mn mc ml) (hn : Nm w' (q + 1) A' n' c' l') (hg : Grw A A' w w') : Cu w0 (w'.setCell ⟨q, 1, none⟩ (.slice A' n' c')) q g hd b1 b2 vs cA cn cc cs A0 A' n' c' l' e at_ M mn mc ml := by
  have hgq := h.gq
  have hglt : g < w.heap.size := (Array.getElem?_eq_some_iff.1 h.sb).1
  refine ⟨h.ck.put hn hg, (h.cw.trans (Cw.of_grw hg)).set 1 _, ?_, stP_only (only_q w' q 1 _) (fun y hy hh => by unfold Lo at hh; simp at hy; omega) (stP_only hg.only (fun y hy hh => by unfold Lo at hh; have := (h.ck.nm.lt y (Fr.mem_blk.1 hy)).1; omega) h.st), h.gq, fun b hb => ?_, ?_, fun b hb hx => ?_⟩
  · have e1 := (hg.only.block g hglt (fun hx => h.ne g (Fr.mem_blk.1 hx) rfl)).trans h.sb
    exact ((only_q w' q 1 _).block g (Array.getElem?_eq_some_iff.1 e1).1 (by simp; omega)).trans e1
  · rcases hg.blk with e | e
    · exact h.ne b (e ▸ hb)
    · have := e b hb; omega
  · exact (h.mi.only hg.only (fun b hb hx => h.mne b hb (Fr.mem_blk.1 hx))).only (only_q w' q 1 _) (fun b hb hx => by have := h.mi.lt b hb; simp at hx; omega)
  · have hl := (h.mi.lt b hb).2
    rcases hg.blk with e | e
    · exact h.mne b hb (e ▸ hx)
    · have := e b hx; omega
theorem Cu.cell (h : Cu w0 w q g hd b1 b2 vs cA cn cc cs A0 A n c l e at_ M mn mc ml) {j : Nat} {v : Value} (hj : vs[j]? = some v) : w.cell? ⟨g, j, none⟩ = some v := by
  simp only [World.cell?, h.sb]
  simp [hj]
theorem exP_ones {P : Nat → Prop} {w : World} {x : Ex} {vs : List Value} (h : exP P w x vs) : ∀ u ∈ vs, u.oneCell' = true := exV_ones (exV_of (B := 0) (fun b _ => Nat.zero_le b) h)
theorem StP.ones {P : Nat → Prop} {w : World} {h : Hd} {b1 b2 : Bd} {vs : List Value} (hs : StP P w h b1 b2 vs) : vs.toArray.all (·.oneCell') = true := by
  obtain ⟨vi, vx, vy, BA, bn, bc, EA, en, ec, rfl, h2, h3, h4, -⟩ := hs
  have o2 := exP_ones h2
  have o3 := exP_ones h3
  have o4 := exP_ones h4
  rw [List.all_toArray, List.all_eq_true]
  intro u hu
  simp only [stVs, List.mem_append, List.mem_cons, List.not_mem_nil, or_false] at hu
  rcases hu with (rfl | rfl | rfl | rfl) | hu | hu | hu | rfl | rfl
  · rfl
  · rfl
  · rfl
  · rfl
  · exact o2 u hu
  · exact o3 u hu
  · exact o4 u hu
  · rfl
  · rfl
end
def powerB (n : Int) : Bool := decide (1 ≤ n) && decide (n ≤ 64) && (bits .and .i64 n (n - 1) == 0)
theorem power_any (n : Int) (w : World) : Calls Try.prog 51 #[.int .i64 n] w fun e w' => e = .returned (.bool (powerB n)) ∧ w = w' := by
  have HE : Hid (powerB n = (decide (1 ≤ n) && decide (n ≤ 64) && (bits .and .i64 n (n - 1) == 0))) := Lib.hid rfl
  by_cases h1 : 1 ≤ n
  · have d1 : decide (1 ≤ n) = true := decide_eq_true h1
    by_cases h2 : n ≤ 64
    · have d2 : decide (n ≤ 64) = true := decide_eq_true h2
      go_enter Try.func51, Try.ntmps51
      go_wp2_with fail
      go_ret
      exact ⟨by rw [HE.out, d1, d2]; rfl, rfl⟩
    · have d2 : decide (n ≤ 64) = false := decide_eq_false h2
      go_enter Try.func51, Try.ntmps51
      go_wp2_with fail
      go_ret
      exact ⟨by rw [HE.out, d1, d2]; rfl, rfl⟩
  · have d1 : decide (1 ≤ n) = false := decide_eq_false h1
    go_enter Try.func51, Try.ntmps51
    go_wp2_with fail
    go_ret
    exact ⟨by rw [HE.out, d1]; rfl, rfl⟩
end Go.Proofs.Ytapnnbbbgopobaa.Fr
namespace Go.Proofs.Ytapnnbbbgopobaa.Lr
open Go.RowKit Cm Mm Ow Me Ml Lg Stp StW Rr
structure Fl where
  cA : Option Addr
  cn : Nat
  cc : Nat
  cs : List Lay.Cl
  nA : Option Addr
  nn : Nat
  nc : Nat
  nl : List ByteArray
  loc : Int
def IsN (w : World) (A : Option Addr) (n c : Nat) (l : List ByteArray) : Prop := l.length = n ∧ Sl w A n c 1 (fun i => [.string (l.getD i ⟨#[]⟩)])
theorem isN_of {w : World} {B : Nat} {A : Option Addr} {n c : Nat} {l : List ByteArray} (h : Fr.Nm w B A n c l) : IsN w A n c l := by
  have hl := h.len
  have hs := Own.sl h
  refine ⟨hl, hs.le, hs.cap_le, fun h0 => ?_⟩
  obtain ⟨b, o, e, hb, hc⟩ := hs.at_ h0
  refine ⟨b, o, e, hb, fun i hi j hj => (hc i hi j hj).trans ?_⟩
  simp [List.getD, Fr.strL, show i < l.length by omega]
theorem IsN.cell {w : World} {A : Option Addr} {n c : Nat} {l : List ByteArray} (h : IsN w A n c l) {i : Nat} (hi : i < n) : ∃ b o, A = some ⟨b, o, none⟩ ∧ b < w.heap.size ∧ w.cell? ⟨b, o + i, none⟩ = some (.string (l.getD i ⟨#[]⟩)) := by
  obtain ⟨b, o, e, hb, hc⟩ := h.2.at_ (by omega)
  exact ⟨b, o, e, hb, by simpa using hc i hi 0 (by omega)⟩
theorem isN_only {w w' : World} {F : List Nat} {A : Option Addr} {n c : Nat} {l : List ByteArray} (h : IsN w A n c l) (ho : Only F w w') (hn : 0 < n → ∀ b o m, A = some ⟨b, o, m⟩ → b ∉ F) : IsN w' A n c l :=
  ⟨h.1, ⟨h.2.le, h.2.cap_le, fun h0 => by
    obtain ⟨b, o, e, hb, hc⟩ := h.2.at_ h0
    exact ⟨b, o, e, Nat.lt_of_lt_of_le hb ho.size, fun i hi j hj => (only_cell ho hb (hn h0 b o none e) _).trans (hc i hi j hj)⟩⟩⟩
def lwO (f : Fl) (v : Int) (SA : Option Addr) (n c : Nat) (lb : Int) : Obj := .cells #[.slice f.cA f.cn f.cc, .slice f.nA f.nn f.nc, .int .i64 v, .int .i64 f.loc, .slice SA n c, .int .i64 lb] 111 (0, 0)
structure Lw (w : World) (q : Nat) (f : Fl) (v : Nat) (SA : Option Addr) (n c : Nat) (sl : List St) (lb : Nat) : Prop where
  blk : w.heap[q]? = some (lwO f v SA n c lb)
  cl : Lay.IsCl w f.cA f.cn f.cc f.cs
  cb : 0 < f.cn → ∀ b o m, f.cA = some ⟨b, o, m⟩ → b < q
  nm : IsN w f.nA f.nn f.nc f.nl
  nb : 0 < f.nn → ∀ b o m, f.nA = some ⟨b, o, m⟩ → b < q
  row : Own w (q + 1) 55 9 SA n c (sl.map stL)
  c2 : f.cn ≤ 65536
  n2 : f.nn ≤ 65536
section
variable {w w' : World} {q : Nat} {f : Fl} {v : Nat} {SA SA' : Option Addr} {n c n' c' : Nat} {sl sl' : List St} {lb : Nat}
theorem Lw.qlt (h : Lw w q f v SA n c sl lb) : q < w.heap.size := (Array.getElem?_eq_some_iff.1 h.blk).1
theorem Lw.y0 (h : Lw w q f v SA n c sl lb) : w.cell? ⟨q, 0, none⟩ = some (.slice f.cA f.cn f.cc) := by simp only [World.cell?, h.blk, lwO]; simp
theorem Lw.y1 (h : Lw w q f v SA n c sl lb) : w.cell? ⟨q, 1, none⟩ = some (.slice f.nA f.nn f.nc) := by simp only [World.cell?, h.blk, lwO]; simp
theorem Lw.y2 (h : Lw w q f v SA n c sl lb) : w.cell? ⟨q, 2, none⟩ = some (.int .i64 v) := by simp only [World.cell?, h.blk, lwO]; simp
theorem Lw.y3 (h : Lw w q f v SA n c sl lb) : w.cell? ⟨q, 3, none⟩ = some (.int .i64 f.loc) := by simp only [World.cell?, h.blk, lwO]; simp
theorem Lw.y4 (h : Lw w q f v SA n c sl lb) : w.cell? ⟨q, 4, none⟩ = some (.slice SA n c) := by simp only [World.cell?, h.blk, lwO]; simp
theorem Lw.y5 (h : Lw w q f v SA n c sl lb) : w.cell? ⟨q, 5, none⟩ = some (.int .i64 lb) := by simp only [World.cell?, h.blk, lwO]; simp
theorem Lw.free (h : Lw w q f v SA n c sl lb) (k : Nat) : w.frozen? ⟨q, k, none⟩ = false := by simp only [World.frozen?, h.blk, lwO]; simp
theorem Lw.len (h : Lw w q f v SA n c sl lb) : sl.length = n := by simpa using h.row.len
theorem Lw.lt (h : Lw w q f v SA n c sl lb) : ∀ g, SA.map (·.block) = some g → q + 1 ≤ g ∧ g < w.heap.size := h.row.lt
theorem Lw.only (h : Lw w q f v SA n c sl lb) {F : List Nat} (ho : Only F w w') (hF : ∀ g ∈ F, q < g ∧ SA.map (·.block) ≠ some g) : Lw w' q f v SA n c sl lb :=
  ⟨(ho.block q h.qlt (fun hx => by have := (hF q hx).1; omega)).trans h.blk, Fr.cl_only h.cl ho (fun h0 b o m hA hx => by have := h.cb h0 b o m hA; have := (hF b hx).1; omega), h.cb,
   isN_only h.nm ho (fun h0 b o m hA hx => by have := h.nb h0 b o m hA; have := (hF b hx).1; omega), h.nb, ⟨h.row.len, h.row.each, ho.row h.row.row (fun g hg hx => (hF g hx).2 hg)⟩, h.c2, h.n2⟩
theorem Lw.keep (h : Lw w q f v SA n c sl lb) (hb : Below w.heap.size w w') : Lw w' q f v SA n c sl lb := h.only (F := []) (Only.of_below hb) (fun g hg => by cases hg)
theorem Lw.set (h : Lw w q f v SA n c sl lb) (k : Nat) (x : Value) {v2 lb2 : Nat} (he : (w.setCell ⟨q, k, none⟩ x).heap[q]? = some (lwO f v2 SA n c lb2)) : Lw (w.setCell ⟨q, k, none⟩ x) q f v2 SA n c sl lb2 :=
  ⟨he, Fr.cl_only h.cl (only_q w q k _) (fun h0 b o m hA hx => by have := h.cb h0 b o m hA; simp at hx; omega), h.cb, isN_only h.nm (only_q w q k _) (fun h0 b o m hA hx => by have := h.nb h0 b o m hA; simp at hx; omega), h.nb,
   Ow2.own_set h.row (by simp) _, h.c2, h.n2⟩
theorem Lw.setV (h : Lw w q f v SA n c sl lb) (v2 : Nat) : Lw (w.setCell ⟨q, 2, none⟩ (.int .i64 v2)) q f v2 SA n c sl lb := h.set 2 _ (Lx.blk_set h.blk _)
theorem Lw.setL (h : Lw w q f v SA n c sl lb) (l2 : Nat) : Lw (w.setCell ⟨q, 5, none⟩ (.int .i64 l2)) q f v SA n c sl l2 := h.set 5 _ (Lx.blk_set h.blk _)
theorem Lw.put (h : Lw w q f v SA n c sl lb) (hn : Own w' (q + 1) 55 9 SA' n' c' (sl'.map stL)) (ho : Only (SA.map (·.block)).toList w w') : Lw (w'.setCell ⟨q, 4, none⟩ (.slice SA' n' c')) q f v SA' n' c' sl' lb := by
  have hF : ∀ g ∈ (SA.map (·.block)).toList, q < g := fun g hg => by have := (h.lt g (Fr.mem_blk.1 hg)).1; omega
  exact ⟨Lx.blk_set ((ho.block q h.qlt (fun hx => by have := hF q hx; omega)).trans h.blk) _,
   Fr.cl_only (Fr.cl_only h.cl ho (fun h0 b o m hA hx => by have := h.cb h0 b o m hA; have := hF b hx; omega)) (only_q w' q 4 _) (fun h0 b o m hA hx => by have := h.cb h0 b o m hA; simp at hx; omega), h.cb,
   isN_only (isN_only h.nm ho (fun h0 b o m hA hx => by have := h.nb h0 b o m hA; have := hF b hx; omega)) (only_q w' q 4 _) (fun h0 b o m hA hx => by have := h.nb h0 b o m hA; simp at hx; omega), h.nb,
   Ow2.own_set hn (by simp) _, h.c2, h.n2⟩
end
def LwA (w : World) (q : Nat) (f : Fl) (SA : Option Addr) (v' : Nat) (sl' : List St) (lb' : Nat) (w' : World) : Prop := ∃ SA' n' c', Lw w' q f v' SA' n' c' sl' lb' ∧ Fr.Cw q SA SA' w w'
theorem grown_out {W w' : World} {X : Obj} {r : Option Nat} (hg : (W.drew.alloc X).grownBy w' r) : Only r.toList W w' := ((Only.refl _ W).drew.alloc X).seq (Only.of_grown hg (fun g hg => by simp [hg]))
set_option maxRecDepth 20000 in
set_option maxHeartbeats 3200000 in
theorem step_any {w : World} {q : Nat} {f : Fl} {v : Nat} {SA : Option Addr} {n c : Nat} {sl : List St} {lb : Nat} (s : St) (h : Lw w q f v SA n c sl lb) (hn : n ≤ 10000000) :
    Calls Try.prog 55 #[.pointer (some ⟨q, 0, none⟩), .agg #[.int .i64 s.kind, .int .i64 s.d, .int .i64 s.a, .int .i64 s.b, .int .i64 s.c, .int .i64 s.to, .int .i64 s.cell, .int .u64 s.n, .int .u8 s.op]] w fun en w' => en = .returned (.tuple #[]) ∧ LwA w q f SA v (sl ++ [s]) lb w' := by
  have hb0 := below_new w (.cells #[.int .i64 s.kind, .int .i64 s.d, .int .i64 s.a, .int .i64 s.b, .int .i64 s.c, .int .i64 s.to, .int .i64 s.cell, .int .u64 s.n, .int .u8 s.op] 55)
  have H1 := Lib.hid (h.keep hb0)
  have G1 := Lib.hid (heap_alloc_new w (.cells #[.int .i64 s.kind, .int .i64 s.d, .int .i64 s.a, .int .i64 s.b, .int .i64 s.c, .int .i64 s.to, .int .i64 s.cell, .int .u64 s.n, .int .u8 s.op] 55))
  have HB := Lib.hid hb0
  have hqw := h.qlt
  have SL := Lib.hid h.lt
  have hsb := hb0.size
  clear h hb0
  go_enter Try.func55, Try.ntmps55
  go_upto_region 1 with fail
  obtain ⟨W, hW⟩ : ∃ W, w.alloc (.cells #[.int .i64 s.kind, .int .i64 s.d, .int .i64 s.a, .int .i64 s.b, .int .i64 s.c, .int .i64 s.to, .int .i64 s.cell, .int .u64 s.n, .int .u8 s.op] 55) = W := ⟨_, rfl⟩
  have hgW : w.heap.size < W.heap.size := by rw [← hW]; simp
  rw [hW] at H1 G1 HB
  try rw [hW]
  clear hW
  obtain ⟨g, hg⟩ : ∃ g, w.heap.size = g := ⟨_, rfl⟩
  have HG := Lib.hid hg
  rw [hg] at G1 SL hgW
  try simp only [hg]
  clear hg
  have SA0 : W.cell? ⟨q, 4, none⟩ = some (.slice SA n c) ∧ W.cell? ⟨g, 0, none⟩ = some (.int .i64 s.kind) ∧ W.cell? ⟨g, 1, none⟩ = some (.int .i64 s.d) ∧ W.cell? ⟨g, 2, none⟩ = some (.int .i64 s.a) ∧ W.cell? ⟨g, 3, none⟩ = some (.int .i64 s.b) ∧ W.cell? ⟨g, 4, none⟩ = some (.int .i64 s.c) ∧ W.cell? ⟨g, 5, none⟩ = some (.int .i64 s.to) ∧ W.cell? ⟨g, 6, none⟩ = some (.int .i64 s.cell) ∧ W.cell? ⟨g, 7, none⟩ = some (.int .u64 s.n) ∧ W.cell? ⟨g, 8, none⟩ = some (.int .u8 s.op) := ⟨H1.out.y4, by simp only [World.cell?, G1.out]; simp, by simp only [World.cell?, G1.out]; simp, by simp only [World.cell?, G1.out]; simp, by simp only [World.cell?, G1.out]; simp, by simp only [World.cell?, G1.out]; simp, by simp only [World.cell?, G1.out]; simp, by simp only [World.cell?, G1.out]; simp, by simp only [World.cell?, G1.out]; simp, by simp only [World.cell?, G1.out]; simp⟩
  have WD := Lib.hid (H1.out.keep (Below.refl _ _).drew)
  have SAd : W.drew.cell? ⟨q, 4, none⟩ = some (.slice SA n c) ∧ W.drew.cell? ⟨g, 0, none⟩ = some (.int .i64 s.kind) ∧ W.drew.cell? ⟨g, 1, none⟩ = some (.int .i64 s.d) ∧ W.drew.cell? ⟨g, 2, none⟩ = some (.int .i64 s.a) ∧ W.drew.cell? ⟨g, 3, none⟩ = some (.int .i64 s.b) ∧ W.drew.cell? ⟨g, 4, none⟩ = some (.int .i64 s.c) ∧ W.drew.cell? ⟨g, 5, none⟩ = some (.int .i64 s.to) ∧ W.drew.cell? ⟨g, 6, none⟩ = some (.int .i64 s.cell) ∧ W.drew.cell? ⟨g, 7, none⟩ = some (.int .u64 s.n) ∧ W.drew.cell? ⟨g, 8, none⟩ = some (.int .u8 s.op) := SA0
  refine Hd.start 9 (fun w' => w'.cell? ⟨q, 4, none⟩ = some (.slice SA n c) ∧ w'.cell? ⟨g, 0, none⟩ = some (.int .i64 s.kind) ∧ w'.cell? ⟨g, 1, none⟩ = some (.int .i64 s.d) ∧ w'.cell? ⟨g, 2, none⟩ = some (.int .i64 s.a) ∧ w'.cell? ⟨g, 3, none⟩ = some (.int .i64 s.b) ∧ w'.cell? ⟨g, 4, none⟩ = some (.int .i64 s.c) ∧ w'.cell? ⟨g, 5, none⟩ = some (.int .i64 s.to) ∧ w'.cell? ⟨g, 6, none⟩ = some (.int .i64 s.cell) ∧ w'.cell? ⟨g, 7, none⟩ = some (.int .u64 s.n) ∧ w'.cell? ⟨g, 8, none⟩ = some (.int .u8 s.op)) (by kernel_rfl) ?_
  refine Hd.take (i := 0) (v := ?v0) rfl (by decide +kernel) (by decide +kernel) (fun _ _ _ h => h) rfl ?hy0 SAd ?rest0
  case hy0 =>
    intro wq hSw
    obtain ⟨s1, s2, s3, s4, s5, s6, s7, s8, s9, s10⟩ := hSw
    go_simp
    try with_reducible rfl
  try simp only [Act.put, zA, zB, zC]
  refine Hd.take (i := 1) (v := ?v1) rfl (by decide +kernel) (by decide +kernel) (fun _ _ _ h => h) rfl ?hy1 SAd ?rest1
  case hy1 =>
    intro wq hSw
    obtain ⟨s1, s2, s3, s4, s5, s6, s7, s8, s9, s10⟩ := hSw
    go_simp
    try with_reducible rfl
  try simp only [Act.put, zA, zB, zC]
  refine Hd.take (i := 2) (v := ?v2) rfl (by decide +kernel) (by decide +kernel) (fun _ _ _ h => h) rfl ?hy2 SAd ?rest2
  case hy2 =>
    intro wq hSw
    obtain ⟨s1, s2, s3, s4, s5, s6, s7, s8, s9, s10⟩ := hSw
    go_simp
    try with_reducible rfl
  try simp only [Act.put, zA, zB, zC]
  refine Hd.take (i := 3) (v := ?v3) rfl (by decide +kernel) (by decide +kernel) (fun _ _ _ h => h) rfl ?hy3 SAd ?rest3
  case hy3 =>
    intro wq hSw
    obtain ⟨s1, s2, s3, s4, s5, s6, s7, s8, s9, s10⟩ := hSw
    go_simp
    try with_reducible rfl
  try simp only [Act.put, zA, zB, zC]
  refine Hd.take (i := 4) (v := ?v4) rfl (by decide +kernel) (by decide +kernel) (fun _ _ _ h => h) rfl ?hy4 SAd ?rest4
  case hy4 =>
    intro wq hSw
    obtain ⟨s1, s2, s3, s4, s5, s6, s7, s8, s9, s10⟩ := hSw
    go_simp
    try with_reducible rfl
  try simp only [Act.put, zA, zB, zC]
  refine Hd.take (i := 5) (v := ?v5) rfl (by decide +kernel) (by decide +kernel) (fun _ _ _ h => h) rfl ?hy5 SAd ?rest5
  case hy5 =>
    intro wq hSw
    obtain ⟨s1, s2, s3, s4, s5, s6, s7, s8, s9, s10⟩ := hSw
    go_simp
    try with_reducible rfl
  try simp only [Act.put, zA, zB, zC]
  refine Hd.take (i := 6) (v := ?v6) rfl (by decide +kernel) (by decide +kernel) (fun _ _ _ h => h) rfl ?hy6 SAd ?rest6
  case hy6 =>
    intro wq hSw
    obtain ⟨s1, s2, s3, s4, s5, s6, s7, s8, s9, s10⟩ := hSw
    go_simp
    try with_reducible rfl
  try simp only [Act.put, zA, zB, zC]
  have SB : (W.drew.alloc (.cells #[.int .i64 s.kind, .int .i64 s.d, .int .i64 s.a, .int .i64 s.b, .int .i64 s.c, .int .i64 s.to, .int .i64 s.cell, .int .u64 s.n, .int .u8 s.op] 55)).cell? ⟨q, 4, none⟩ = some (.slice SA n c) ∧ (W.drew.alloc (.cells #[.int .i64 s.kind, .int .i64 s.d, .int .i64 s.a, .int .i64 s.b, .int .i64 s.c, .int .i64 s.to, .int .i64 s.cell, .int .u64 s.n, .int .u8 s.op] 55)).cell? ⟨g, 0, none⟩ = some (.int .i64 s.kind) ∧ (W.drew.alloc (.cells #[.int .i64 s.kind, .int .i64 s.d, .int .i64 s.a, .int .i64 s.b, .int .i64 s.c, .int .i64 s.to, .int .i64 s.cell, .int .u64 s.n, .int .u8 s.op] 55)).cell? ⟨g, 1, none⟩ = some (.int .i64 s.d) ∧ (W.drew.alloc (.cells #[.int .i64 s.kind, .int .i64 s.d, .int .i64 s.a, .int .i64 s.b, .int .i64 s.c, .int .i64 s.to, .int .i64 s.cell, .int .u64 s.n, .int .u8 s.op] 55)).cell? ⟨g, 2, none⟩ = some (.int .i64 s.a) ∧ (W.drew.alloc (.cells #[.int .i64 s.kind, .int .i64 s.d, .int .i64 s.a, .int .i64 s.b, .int .i64 s.c, .int .i64 s.to, .int .i64 s.cell, .int .u64 s.n, .int .u8 s.op] 55)).cell? ⟨g, 3, none⟩ = some (.int .i64 s.b) ∧ (W.drew.alloc (.cells #[.int .i64 s.kind, .int .i64 s.d, .int .i64 s.a, .int .i64 s.b, .int .i64 s.c, .int .i64 s.to, .int .i64 s.cell, .int .u64 s.n, .int .u8 s.op] 55)).cell? ⟨g, 4, none⟩ = some (.int .i64 s.c) ∧ (W.drew.alloc (.cells #[.int .i64 s.kind, .int .i64 s.d, .int .i64 s.a, .int .i64 s.b, .int .i64 s.c, .int .i64 s.to, .int .i64 s.cell, .int .u64 s.n, .int .u8 s.op] 55)).cell? ⟨g, 5, none⟩ = some (.int .i64 s.to) ∧ (W.drew.alloc (.cells #[.int .i64 s.kind, .int .i64 s.d, .int .i64 s.a, .int .i64 s.b, .int .i64 s.c, .int .i64 s.to, .int .i64 s.cell, .int .u64 s.n, .int .u8 s.op] 55)).cell? ⟨g, 6, none⟩ = some (.int .i64 s.cell) ∧ (W.drew.alloc (.cells #[.int .i64 s.kind, .int .i64 s.d, .int .i64 s.a, .int .i64 s.b, .int .i64 s.c, .int .i64 s.to, .int .i64 s.cell, .int .u64 s.n, .int .u8 s.op] 55)).cell? ⟨g, 7, none⟩ = some (.int .u64 s.n) ∧ (W.drew.alloc (.cells #[.int .i64 s.kind, .int .i64 s.d, .int .i64 s.a, .int .i64 s.b, .int .i64 s.c, .int .i64 s.to, .int .i64 s.cell, .int .u64 s.n, .int .u8 s.op] 55)).cell? ⟨g, 8, none⟩ = some (.int .u8 s.op) := ⟨(World.cell?_alloc_lt _ _ _ (show q < W.drew.heap.size from H1.out.qlt)).trans SAd.1, (World.cell?_alloc_lt _ _ _ (show g < W.drew.heap.size from hgW)).trans SAd.2.1, (World.cell?_alloc_lt _ _ _ (show g < W.drew.heap.size from hgW)).trans SAd.2.2.1, (World.cell?_alloc_lt _ _ _ (show g < W.drew.heap.size from hgW)).trans SAd.2.2.2.1, (World.cell?_alloc_lt _ _ _ (show g < W.drew.heap.size from hgW)).trans SAd.2.2.2.2.1, (World.cell?_alloc_lt _ _ _ (show g < W.drew.heap.size from hgW)).trans SAd.2.2.2.2.2.1, (World.cell?_alloc_lt _ _ _ (show g < W.drew.heap.size from hgW)).trans SAd.2.2.2.2.2.2.1, (World.cell?_alloc_lt _ _ _ (show g < W.drew.heap.size from hgW)).trans SAd.2.2.2.2.2.2.2.1, (World.cell?_alloc_lt _ _ _ (show g < W.drew.heap.size from hgW)).trans SAd.2.2.2.2.2.2.2.2.1, (World.cell?_alloc_lt _ _ _ (show g < W.drew.heap.size from hgW)).trans SAd.2.2.2.2.2.2.2.2.2⟩
  refine Hd.one (i := 7) rfl (by kernel_rfl) rfl (fun K hK => ?_)
  go_simp
  refine hK _ _ (fun _ => SB) ?_
  clear hK K
  try simp only [Act.put, zA, zB, zC]
  refine Hd.one (i := 8) rfl (by kernel_rfl) rfl (fun K hK => ?_)
  refine wp_app _ _ _ rfl elSt (q + 1) SA n c (sl.map stL) rfl (WD.out.row.keep (below_new _ _)) (some ⟨W.drew.heap.size, 0, none⟩) 1 1 (fun _ => stL s) rfl (sl_one W.drew (stL s) 55) (fun _ _ => rfl) (fun _ _ => st_one s) (by unfold maxLen; omega) (by omega) (Nat.le_trans (show q + 1 ≤ W.heap.size by have := H1.out.qlt; omega) (show W.heap.size ≤ (W.drew.alloc (.cells #[.int .i64 s.kind, .int .i64 s.d, .int .i64 s.a, .int .i64 s.b, .int .i64 s.c, .int .i64 s.to, .int .i64 s.cell, .int .u64 s.n, .int .u8 s.op] 55)).heap.size by simp)) ?_
  intro A2 c2 w8 hown8 hg8 hat8
  have hO8 := grown_out hg8
  have hat9 : A2.map (·.block) = SA.map (·.block) ∨ ∀ b, A2.map (·.block) = some b → W.heap.size ≤ b := hat8.imp id (fun e b hb => by rw [e] at hb; injection hb with hb; subst hb; simp)
  have hown9 : Own w8 (q + 1) 55 9 A2 (n + 1) c2 ((sl ++ [s]).map stL) := by simpa using hown8
  have hqn : q ∉ (SA.map (·.block)).toList := fun hx => by have := (SL.out q (Fr.mem_blk.1 hx)).1; omega
  have hgn : g ∉ (SA.map (·.block)).toList := fun hx => by have := (SL.out g (Fr.mem_blk.1 hx)).2; omega
  have SC : w8.cell? ⟨q, 4, none⟩ = some (.slice SA n c) ∧ w8.cell? ⟨g, 0, none⟩ = some (.int .i64 s.kind) ∧ w8.cell? ⟨g, 1, none⟩ = some (.int .i64 s.d) ∧ w8.cell? ⟨g, 2, none⟩ = some (.int .i64 s.a) ∧ w8.cell? ⟨g, 3, none⟩ = some (.int .i64 s.b) ∧ w8.cell? ⟨g, 4, none⟩ = some (.int .i64 s.c) ∧ w8.cell? ⟨g, 5, none⟩ = some (.int .i64 s.to) ∧ w8.cell? ⟨g, 6, none⟩ = some (.int .i64 s.cell) ∧ w8.cell? ⟨g, 7, none⟩ = some (.int .u64 s.n) ∧ w8.cell? ⟨g, 8, none⟩ = some (.int .u8 s.op) := ⟨(only_cell hO8 H1.out.qlt hqn 4).trans SA0.1, (only_cell hO8 hgW hgn 0).trans SA0.2.1, (only_cell hO8 hgW hgn 1).trans SA0.2.2.1, (only_cell hO8 hgW hgn 2).trans SA0.2.2.2.1, (only_cell hO8 hgW hgn 3).trans SA0.2.2.2.2.1, (only_cell hO8 hgW hgn 4).trans SA0.2.2.2.2.2.1, (only_cell hO8 hgW hgn 5).trans SA0.2.2.2.2.2.2.1, (only_cell hO8 hgW hgn 6).trans SA0.2.2.2.2.2.2.2.1, (only_cell hO8 hgW hgn 7).trans SA0.2.2.2.2.2.2.2.2.1, (only_cell hO8 hgW hgn 8).trans SA0.2.2.2.2.2.2.2.2.2⟩
  refine hK _ _ (fun _ => SC) ?_
  have L8 := Lib.hid (H1.out.put hown9 hO8)
  have y84 := SC.1
  have f8 : ∀ i, w8.frozen? ⟨q, i, none⟩ = false := fun i => by
    have hbq := (hO8.block q H1.out.qlt hqn).trans H1.out.blk
    simp only [World.frozen?, hbq, lwO]; simp
  have W8 : Hid (Fr.Cw q SA A2 w (w8.setCell ⟨q, 4, none⟩ (.slice A2 (n + 1) c2))) := Lib.hid (((Fr.Cw.of_below (q := q) (A := SA) HB.out).trans ⟨hO8.more (fun x hx => List.mem_cons_of_mem _ hx), hat9⟩).set 4 _)
  clear hK K SA0 SAd SB SC hown8 hown9 hg8 hat8 hO8 hat9 hqn hgn
  try simp only [Act.put, zA, zB, zC]
  refine Hd.one (i := 9) rfl (by kernel_rfl) rfl (fun K hK => ?_)
  go_simp
  refine hK _ _ (fun h => absurd h (by omega)) ?_
  clear hK K
  try simp only [Act.put, zA, zB, zC]
  refine Hd.one (i := 10) rfl (by kernel_rfl) rfl (fun K hK => ?_)
  go_simp
  refine hK _ _ (fun h => absurd h (by omega)) ?_
  clear hK K
  try simp only [Act.put, zA, zB, zC]
  refine Hd.one (i := 11) rfl (by kernel_rfl) rfl (fun K hK => ?_)
  go_simp
  refine hK _ _ (fun h => absurd h (by omega)) ?_
  clear hK K
  try simp only [Act.put, zA, zB, zC]
  refine Hd.one (i := 12) rfl (by kernel_rfl) rfl (fun K hK => ?_)
  go_simp
  refine hK _ _ (fun h => absurd h (by omega)) ?_
  clear hK K
  try simp only [Act.put, zA, zB, zC]
  refine Hd.done (by kernel_rfl) ?_ _
  go_wp2_with fail
  go_end0
  exact ⟨rfl, A2, n + 1, c2, L8.out, W8.out⟩
set_option maxHeartbeats 1600000 in
theorem fresh_any {w : World} {q : Nat} {f : Fl} {v : Nat} {SA : Option Addr} {n c : Nat} {sl : List St} {lb : Nat} (h : Lw w q f v SA n c sl lb) (hv : v ≤ 10000000) :
    Calls Try.prog 99 #[.pointer (some ⟨q, 0, none⟩)] w fun en w' => en = .returned (.int .i64 v) ∧ Lw w' q f (v + 1) SA n c sl lb ∧ Fr.Cw q SA SA w w' := by
  have y2 := h.y2
  have yf := h.free
  have i1 : IntKind.i64.wrap ((v : Int) + 1) = (v : Int) + 1 := IntWalk.i64_in _ ⟨by omega, by omega⟩
  have i2 : IntKind.i64.wrap ((v : Int) + 1 - 1) = (v : Int) := by rw [IntWalk.i64_in _ ⟨by omega, by omega⟩]; omega
  have H2 := Lib.hid (h.setV (v + 1))
  have C2 := Lib.hid ((Fr.Cw.refl q SA w).set 2 (.int .i64 ((v + 1 : Nat) : Int)))
  clear h
  go_enter Try.func99, Try.ntmps99
  go_wp2_with fail
  go_ret
  exact ⟨by first | rfl | (congr 2; omega), by have := H2.out; simpa using this, by have := C2.out; simpa using this⟩
set_option maxHeartbeats 1600000 in
theorem label_any {w : World} {q : Nat} {f : Fl} {v : Nat} {SA : Option Addr} {n c : Nat} {sl : List St} {lb : Nat} (h : Lw w q f v SA n c sl lb) (hv : lb ≤ 10000000) :
    Calls Try.prog 89 #[.pointer (some ⟨q, 0, none⟩)] w fun en w' => en = .returned (.int .i64 lb) ∧ Lw w' q f v SA n c sl (lb + 1) ∧ Fr.Cw q SA SA w w' := by
  have y5 := h.y5
  have yf := h.free
  have i1 : IntKind.i64.wrap ((lb : Int) + 1) = (lb : Int) + 1 := IntWalk.i64_in _ ⟨by omega, by omega⟩
  have i2 : IntKind.i64.wrap ((lb : Int) + 1 - 1) = (lb : Int) := by rw [IntWalk.i64_in _ ⟨by omega, by omega⟩]; omega
  have H2 := Lib.hid (h.setL (lb + 1))
  have C2 := Lib.hid ((Fr.Cw.refl q SA w).set 5 (.int .i64 ((lb + 1 : Nat) : Int)))
  clear h
  go_enter Try.func89, Try.ntmps89
  go_wp2_with fail
  go_ret
  exact ⟨by first | rfl | (congr 2; omega), by have := H2.out; simpa using this, by have := C2.out; simpa using this⟩
theorem loc_at {nl : List ByteArray} {s : ByteArray} {k : Nat} (hk : k < nl.length) (hno : ∀ i, i < k → ((nl.getD i ⟨#[]⟩).toList == s.toList) = false) (hs : ((nl.getD k ⟨#[]⟩).toList == s.toList) = true) : locN nl s = k := by
  have e : idxN nl s = k := by
    unfold idxN
    rw [List.findIdx_eq hk]
    refine ⟨by simpa [List.getD, hk] using hs, fun j hj => ?_⟩
    have := hno j hj
    simpa [List.getD, show j < nl.length by omega] using this
  unfold locN
  rw [e, if_pos hk]
theorem loc_no {nl : List ByteArray} {s : ByteArray} (hno : ∀ i, i < nl.length → ((nl.getD i ⟨#[]⟩).toList == s.toList) = false) : locN nl s = 0 := by
  unfold locN
  rw [if_neg]
  intro h
  unfold idxN at h
  have h2 := List.findIdx_getElem (w := h)
  have h3 := hno _ h
  simp [List.getD, h] at h3
  simp at h2
  exact h3 h2
set_option maxHeartbeats 1600000 in
theorem local_any {w : World} {q : Nat} {f : Fl} {v : Nat} {SA : Option Addr} {n c : Nat} {sl : List St} {lb : Nat} (s : ByteArray) (h : Lw w q f v SA n c sl lb) :
    Calls Try.prog 87 #[.pointer (some ⟨q, 0, none⟩), .string s] w fun en w' => en = .returned (.int .i64 (locN f.nl s : Nat)) ∧ w = w' := by
  have hl := Lib.hid h.nm.1
  have H := Lib.hid h.nm
  have y1 := h.y1
  have hn2 := h.n2
  clear h
  obtain ⟨nA, nn, nc, nl, hA⟩ : ∃ nA nn nc nl, f.nA = nA ∧ f.nn = nn ∧ f.nc = nc ∧ f.nl = nl := ⟨_, _, _, _, rfl, rfl, rfl, rfl⟩
  rw [hA.1, hA.2.1, hA.2.2.1] at y1
  rw [hA.2.1] at hn2
  rw [hA.1, hA.2.1, hA.2.2.1, hA.2.2.2] at H
  rw [hA.2.1, hA.2.2.2] at hl
  rw [hA.2.2.2]
  clear hA
  go_enter Try.func87, Try.ntmps87
  go_wp2_with fail
  go_loopw [5] (fun i wr => ∃ (k : Nat), k ≤ nn ∧ i = .int .i64 k ∧ Hid (∀ i, i < k → ((nl.getD i ⟨#[]⟩).toList == s.toList) = false) ∧ w = wr) (fun i _ => nn - (intOf i).toNat)
  case atStart => exact ⟨0, by omega, rfl, fun i hi => absurd hi (by omega), rfl⟩
  case round =>
    obtain ⟨k, hk, rfl, hno, rfl⟩ := hrel
    by_cases hkn : k < nn
    · obtain ⟨b, o, rfl, hb, g0⟩ := H.out.cell hkn
      generalize hc : nl.getD k ⟨#[]⟩ = m at *
      have HC := Lib.hid hc; clear hc
      have d1 : decide ((k : Int) < (nn : Int)) = true := decide_eq_true (by omega)
      have hki : (k : Int) < (nn : Int) := by omega
      cases hs : (m.toList == s.toList)
      · go_wp2_with fail
        go_roundw
        case rel => exact ⟨k + 1, by omega, by go_num, fun i hi => (by
          by_cases e : i = k
          · subst e; rw [HC.out]; exact hs
          · exact hno.out i (by omega)), trivial⟩
        case measure => simp [intOf]; omega
      · go_wp2_with fail
        go_ret
        exact ⟨by rw [loc_at (k := k) (by have := hl.out; omega) hno.out (by rw [HC.out]; exact hs)]; rfl, rfl⟩
    · obtain rfl : k = nn := by omega
      have d1 : decide ((k : Int) < (k : Int)) = false := decide_eq_false (by omega)
      go_wp2_with fail
      go_ret
      exact ⟨by rw [loc_no (by rw [hl.out]; exact hno.out)]; rfl, rfl⟩
set_option maxHeartbeats 1600000 in
theorem constant_any {w : World} {q : Nat} {f : Fl} {v : Nat} {SA : Option Addr} {n c : Nat} {sl : List St} {lb : Nat} (x : Int) (h : Lw w q f v SA n c sl lb) (hv : v ≤ 10000000) (hn : n ≤ 10000000) :
    Calls Try.prog 97 #[.pointer (some ⟨q, 0, none⟩), .int .u64 x] w fun en w' => en = .returned (.int .i64 v) ∧ LwA w q f SA (v + 1) (sl ++ [sConst v x]) lb w' := by
  have H := Lib.hid h
  clear h
  go_enter Try.func97, Try.ntmps97
  go_wp2_with fail
  refine (fresh_any H.out hv).mono ?_
  rintro en w2 ⟨rfl, h2, hc2⟩
  have H2 := Lib.hid h2
  have C2 := Lib.hid hc2
  clear h2 hc2 H
  go_wp2_with fail
  refine (step_any (sConst v x) H2.out hn).mono ?_
  rintro en w3 ⟨rfl, SA', n', c', h3, hc3⟩
  have H3 := Lib.hid h3
  have C3 := Lib.hid (C2.out.trans hc3)
  clear h3 hc3 H2
  go_wp2_with fail
  go_ret
  exact ⟨rfl, SA', n', c', H3.out, C3.out⟩
set_option maxHeartbeats 1600000 in
theorem binary_any {w : World} {q : Nat} {f : Fl} {v : Nat} {SA : Option Addr} {n c : Nat} {sl : List St} {lb : Nat} (o : Int) (a b : Nat) (h : Lw w q f v SA n c sl lb) (hv : v ≤ 10000000) (hn : n ≤ 10000000) :
    Calls Try.prog 98 #[.pointer (some ⟨q, 0, none⟩), .int .u8 o, .int .i64 a, .int .i64 b] w fun en w' => en = .returned (.int .i64 v) ∧ LwA w q f SA (v + 1) (sl ++ [sOp o v a b]) lb w' := by
  have H := Lib.hid h
  clear h
  go_enter Try.func98, Try.ntmps98
  go_wp2_with fail
  refine (fresh_any H.out hv).mono ?_
  rintro en w2 ⟨rfl, h2, hc2⟩
  have H2 := Lib.hid h2
  have C2 := Lib.hid hc2
  clear h2 hc2 H
  go_wp2_with fail
  refine (step_any (sOp o v a b) H2.out hn).mono ?_
  rintro en w3 ⟨rfl, SA', n', c', h3, hc3⟩
  have H3 := Lib.hid h3
  have C3 := Lib.hid (C2.out.trans hc3)
  clear h3 hc3 H2
  go_wp2_with fail
  go_ret
  exact ⟨rfl, SA', n', c', H3.out, C3.out⟩
end Go.Proofs.Ytapnnbbbgopobaa.Lr
namespace Go.Proofs.Ytapnnbbbgopobaa.Lr
open Go.RowKit Cm Mm Ow Me Ml Lg Stp StW Rr
structure Lu (w0 w : World) (q g : Nat) (o : Obj) (f : Fl) (v : Nat) (SA0 SA : Option Addr) (n c : Nat) (sl : List St) (lb : Nat) : Prop where
  lw : Lw w q f v SA n c sl lb
  cw : Fr.Cw q SA0 SA w0 w
  sb : w.heap[g]? = some o
  gq : q < g
  ne : ∀ b, SA.map (·.block) = some b → b ≠ g
section
variable {w0 w w' : World} {q g : Nat} {o : Obj} {f : Fl} {v v' : Nat} {SA0 SA SA' : Option Addr} {n c n' c' : Nat} {sl sl' : List St} {lb lb' : Nat}
theorem Lu.start (h : Lw w q f v SA n c sl lb) (o : Obj) : Lu w (w.alloc o) q w.heap.size o f v SA SA n c sl lb :=
  ⟨h.keep (below_new _ _), Fr.Cw.of_below (below_new _ _), heap_alloc_new _ _, h.qlt, fun b hb e => by have := (h.lt b hb).2; omega⟩
theorem Lu.step (h : Lu w0 w q g o f v SA0 SA n c sl lb) (h2 : Lw w' q f v' SA' n' c' sl' lb') (hc : Fr.Cw q SA SA' w w') : Lu w0 w' q g o f v' SA0 SA' n' c' sl' lb' := by
  have hglt : g < w.heap.size := (Array.getElem?_eq_some_iff.1 h.sb).1
  have hgq := h.gq
  refine ⟨h2, h.cw.trans hc, (hc.only.block g hglt (fun hx => ?_)).trans h.sb, h.gq, fun b hb => ?_⟩
  · rcases List.mem_cons.1 hx with e | e
    · omega
    · exact h.ne g (Fr.mem_blk.1 e) rfl
  · rcases hc.blk with e | e
    · exact h.ne b (e ▸ hb)
    · have := e b hb; omega
theorem lw_apart (h : Lw w q f v SA n c sl lb) : ∀ y ∈ q :: (SA.map (·.block)).toList, ¬ Fr.Lo q y := fun y hy hh => by
  unfold Fr.Lo at hh
  rcases List.mem_cons.1 hy with e | e
  · omega
  · have := (h.lt y (Fr.mem_blk.1 e)).1; omega
theorem cells_of {t : TypeId} {cs : Array Value} {j : Nat} {x : Value} (h : w.heap[g]? = some (.cells cs t (0, 0))) (hj : cs[j]? = some x) : w.cell? ⟨g, j, none⟩ = some x := by
  simp only [World.cell?, h]
  simp [hj]
end
def ExprA (w : World) (q : Nat) (f : Fl) (v : Nat) (SA : Option Addr) (sl : List St) (lb : Nat) (x : Ex) (en : Ending) (w' : World) : Prop := en = .returned (.int .i64 (varE f.nl x v : Nat)) ∧ LwA w q f SA (kE x v) (sl ++ codeE f.nl x v) lb w'
theorem kE_bd : ∀ (x : Ex) (k : Nat), kE x k + 1 ≤ k + 2 * lv x
  | .num _, k => by simp only [kE, lv]; omega
  | .name _, k => by simp only [kE, lv]; omega
  | .op _ a b, k => by have := kE_bd a k; have := kE_bd b (kE a k); have := lv_pos a; have := lv_pos b; simp only [kE, lv]; omega
theorem codeE_len (names : List ByteArray) : ∀ (x : Ex) (k : Nat), (codeE names x k).length + 1 ≤ 2 * lv x
  | .num _, k => by simp [codeE, lv]
  | .name _, k => by simp [codeE, lv]
  | .op _ a b, k => by
    have h1 := codeE_len names a k
    have h2 := codeE_len names b (kE a k)
    have := lv_pos a; have := lv_pos b
    rw [codeE, List.length_append, List.length_append]
    simp only [lv, List.length_cons, List.length_nil]
    omega
set_option maxRecDepth 20000 in
set_option maxHeartbeats 3200000 in
theorem expr_any : ∀ (x : Ex) {w : World} {q : Nat} {f : Fl} {v : Nat} {SA : Option Addr} {n c : Nat} {sl : List St} {lb : Nat} {vs : List Value}, exP (Fr.Lo q) w x vs → Lw w q f v SA n c sl lb → v + 2 * lv x ≤ 10000000 → n + 2 * lv x ≤ 10000000 →
    Calls Try.prog 86 #[.pointer (some ⟨q, 0, none⟩), .agg vs.toArray] w (ExprA w q f v SA sl lb x)
  | .num z, w, q, f, v, SA, n, c, sl, lb, vs, h, hL, hv, hn => by
    unfold exP at h
    obtain ⟨rfl, _⟩ := h
    unfold lv at hv hn
    have U := Lib.hid (Lu.start hL (.cells #[.int .i64 0, .int .u64 z, .int .u8 0, .string ⟨#[]⟩, .slice none 0 0] 120))
    obtain ⟨W, hW⟩ : ∃ W, w.alloc (.cells #[.int .i64 0, .int .u64 z, .int .u8 0, .string ⟨#[]⟩, .slice none 0 0] 120) = W := ⟨_, rfl⟩
    rw [hW] at U
    have x0 := cells_of U.out.sb (j := 0) rfl
    have x1 := cells_of U.out.sb (j := 1) rfl
    clear hL
    go_enter Try.func86, Try.ntmps86
    go_upto_region 1 with fail
    try rw [hW]
    clear hW
    go_wp2_with fail
    refine (constant_any z U.out.lw (by omega) (by omega)).mono ?_
    rintro en w2 ⟨rfl, SA', n', c', h2, hc2⟩
    have U2 := Lib.hid (U.out.step h2 hc2)
    clear h2 hc2 U
    go_wp2_with fail
    go_ret
    exact ⟨rfl, SA', n', c', U2.out.lw, U2.out.cw⟩
  | .name s, w, q, f, v, SA, n, c, sl, lb, vs, h, hL, hv, hn => by
    unfold exP at h
    obtain ⟨rfl, _⟩ := h
    have U := Lib.hid (Lu.start hL (.cells #[.int .i64 1, .int .u64 0, .int .u8 0, .string s, .slice none 0 0] 120))
    obtain ⟨W, hW⟩ : ∃ W, w.alloc (.cells #[.int .i64 1, .int .u64 0, .int .u8 0, .string s, .slice none 0 0] 120) = W := ⟨_, rfl⟩
    rw [hW] at U
    have x0 := cells_of U.out.sb (j := 0) rfl
    have x3 := cells_of U.out.sb (j := 3) rfl
    clear hL
    go_enter Try.func86, Try.ntmps86
    go_upto_region 1 with fail
    try rw [hW]
    clear hW
    go_wp2_with fail
    refine (local_any s U.out.lw).mono ?_
    rintro en w2 ⟨rfl, rfl⟩
    go_wp2_with fail
    go_ret
    exact ⟨rfl, SA, n, c, by simp only [codeE, List.append_nil, kE]; exact U.out.lw, U.out.cw⟩
  | .op o a b, w, q, f, v, SA, n, c, sl, lb, vs, h, hL, hv, hn => by
    unfold exP at h
    obtain ⟨blk, va, vb, rfl, h1, h2, h3, h4, h5, h6⟩ := h
    have IA := Lib.hid (fun (w : World) (q : Nat) (f : Fl) (v : Nat) (SA : Option Addr) (n c : Nat) (sl : List St) (lb : Nat) (h : exP (Fr.Lo q) w a va) => expr_any a (f := f) (v := v) (SA := SA) (n := n) (c := c) (sl := sl) (lb := lb) h)
    have IB := Lib.hid (fun (w : World) (q : Nat) (f : Fl) (v : Nat) (SA : Option Addr) (n c : Nat) (sl : List St) (lb : Nat) (h : exP (Fr.Lo q) w b vb) => expr_any b (f := f) (v := v) (SA := SA) (n := n) (c := c) (sl := sl) (lb := lb) h)
    have U := Lib.hid (Lu.start hL (.cells #[.int .i64 2, .int .u64 0, .int .u8 o, .string ⟨#[]⟩, .slice (some ⟨blk, 0, none⟩) 2 2] 120))
    have hb := below_new w (.cells #[.int .i64 2, .int .u64 0, .int .u8 o, .string ⟨#[]⟩, .slice (some ⟨blk, 0, none⟩) 2 2] 120)
    have AP := Lib.hid (lw_apart hL)
    have LN := Lib.hid hL.len
    obtain ⟨W, hW⟩ : ∃ W, w.alloc (.cells #[.int .i64 2, .int .u64 0, .int .u8 o, .string ⟨#[]⟩, .slice (some ⟨blk, 0, none⟩) 2 2] 120) = W := ⟨_, rfl⟩
    rw [hW] at U hb
    have x0 := cells_of U.out.sb (j := 0) rfl
    have x4 := cells_of U.out.sb (j := 4) rfl
    have XA := Lib.hid h5
    have XB := Lib.hid h6
    obtain ⟨a0, a1, a2, a3, a4, rfl⟩ := Fr.len5 (Fr.exP_len h5)
    obtain ⟨b0, b1, b2, b3, b4, rfl⟩ := Fr.len5 (Fr.exP_len h6)
    have CA : Hid (∀ j, j < 5 → w.cell? ⟨blk, j, none⟩ = ([a0, a1, a2, a3, a4] : List Value)[j]?) := Lib.hid h3
    have CB : Hid (∀ j, j < 5 → w.cell? ⟨blk, 5 + j, none⟩ = ([b0, b1, b2, b3, b4] : List Value)[j]?) := Lib.hid h4
    have y0 : W.cell? ⟨blk, 0, none⟩ = some a0 := (hb.cell (p := ⟨blk, 0, none⟩) h2).trans (CA.out 0 (by omega))
    have y1 : W.cell? ⟨blk, 1, none⟩ = some a1 := (hb.cell (p := ⟨blk, 1, none⟩) h2).trans (CA.out 1 (by omega))
    have y2 : W.cell? ⟨blk, 2, none⟩ = some a2 := (hb.cell (p := ⟨blk, 2, none⟩) h2).trans (CA.out 2 (by omega))
    have y3 : W.cell? ⟨blk, 3, none⟩ = some a3 := (hb.cell (p := ⟨blk, 3, none⟩) h2).trans (CA.out 3 (by omega))
    have y4 : W.cell? ⟨blk, 4, none⟩ = some a4 := (hb.cell (p := ⟨blk, 4, none⟩) h2).trans (CA.out 4 (by omega))
    have LO : Hid (Fr.Lo q blk) := Lib.hid h1
    have la := lv_pos a
    have lb' := lv_pos b
    unfold lv at hv hn
    clear h3 h4 h5 h6 hb h1 hL
    go_enter Try.func86, Try.ntmps86
    go_upto_region 1 with fail
    try rw [hW]
    clear hW
    go_wp2_with fail
    refine (IA.out _ q f v SA n c sl lb (exP_only U.out.cw.only AP.out XA.out) U.out.lw (by omega) (by omega)).mono ?_
    rintro en w2 ⟨rfl, SA2, n2, c2, hl2, hc2⟩
    have U2 := Lib.hid (U.out.step hl2 hc2)
    have hn2 : n2 ≤ n + 2 * lv a := by have := hl2.len; have := codeE_len f.nl a v; have := LN.out; simp at *; omega
    have hv2 := kE_bd a v
    clear hl2 hc2 U x0 x4 y0 y1 y2 y3 y4
    have x4 := cells_of U2.out.sb (j := 4) rfl
    have hnb : blk ∉ q :: (SA.map (·.block)).toList := fun hx => AP.out _ hx LO.out
    have y0 : w2.cell? ⟨blk, 5, none⟩ = some b0 := (only_cell U2.out.cw.only h2 hnb 5).trans (CB.out 0 (by omega))
    have y1 : w2.cell? ⟨blk, 6, none⟩ = some b1 := (only_cell U2.out.cw.only h2 hnb 6).trans (CB.out 1 (by omega))
    have y2 : w2.cell? ⟨blk, 7, none⟩ = some b2 := (only_cell U2.out.cw.only h2 hnb 7).trans (CB.out 2 (by omega))
    have y3 : w2.cell? ⟨blk, 8, none⟩ = some b3 := (only_cell U2.out.cw.only h2 hnb 8).trans (CB.out 3 (by omega))
    have y4 : w2.cell? ⟨blk, 9, none⟩ = some b4 := (only_cell U2.out.cw.only h2 hnb 9).trans (CB.out 4 (by omega))
    clear hnb
    go_wp2_with fail
    refine (IB.out _ q f _ SA2 n2 c2 _ lb (exP_only U2.out.cw.only AP.out XB.out) U2.out.lw (by omega) (by omega)).mono ?_
    rintro en w3 ⟨rfl, SA3, n3, c3, hl3, hc3⟩
    have U3 := Lib.hid (U2.out.step hl3 hc3)
    have hn3 : n3 ≤ n + 2 * lv a + 2 * lv b := by have := hl3.len; have := U2.out.lw.len; have := codeE_len f.nl b (kE a v); simp at *; omega
    have hv3 := kE_bd b (kE a v)
    clear hl3 hc3 U2 x4 y0 y1 y2 y3 y4
    have x2 := cells_of U3.out.sb (j := 2) rfl
    go_wp2_with fail
    refine (binary_any o (varE f.nl a v) (varE f.nl b (kE a v)) U3.out.lw (by omega) (by omega)).mono ?_
    rintro en w4 ⟨rfl, SA4, n4, c4, hl4, hc4⟩
    have U4 := Lib.hid (U3.out.step hl4 hc4)
    clear hl4 hc4 U3 x2
    go_wp2_with fail
    go_ret
    exact ⟨rfl, SA4, n4, c4, by have := U4.out.lw; simp only [List.append_assoc] at this ⊢; simpa only [codeE, kE, List.append_assoc] using this, U4.out.cw⟩
end Go.Proofs.Ytapnnbbbgopobaa.Lr
