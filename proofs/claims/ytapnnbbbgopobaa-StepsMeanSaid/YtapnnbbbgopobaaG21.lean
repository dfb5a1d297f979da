/-
  WALKS: the reference's lowerer: any statement; body.
-/
import Derived.Test.YtapnnbbbgopobaaLrD
import Derived.Test.YtapnnbbbgopobaaG03
set_option linter.unusedVariables false
set_option linter.unusedSimpArgs false
namespace Go.Proofs.Ytapnnbbbgopobaa.Lr
open Go.RowKit Cm Mm Ow Me Ml Lg Stp StW Rr
set_option maxRecDepth 20000 in
set_option maxHeartbeats 3200000 in
theorem stmt_oth {w : World} {q : Nat} {f : Fl} {v : Nat} {SA : Option Addr} {n c : Nat} {sl : List St} {lb : Nat} {h : Hd} {b1 b2 : Bd} {vs : List Value} (hs : StP (Fr.Lo q) w h b1 b2 vs) (hL : Lw w q f v SA n c sl lb) (h0 : ¬ h.kind = 0) (h1 : ¬ h.kind = 1) (h2 : ¬ h.kind = 2) (h3 : ¬ h.kind = 3) (h4 : ¬ h.kind = 4) (h5 : ¬ h.kind = 5) (h6 : ¬ h.kind = 6) (h7 : ¬ h.kind = 7) :
    Calls Try.prog 74 #[.pointer (some ⟨q, 0, none⟩), .agg vs.toArray] w (LowA w q f v SA sl lb (.cons h b1 b2 .nil)) := by
  have U0 := Lib.hid (Lu.start hL (.cells vs.toArray 122))
  obtain ⟨v0, -⟩ := Fr.StP.ends hs
  have v0' : vs.toArray[0]? = some (.int .i64 h.kind) := by simpa using v0
  have EB : Hid (kB (.cons h b1 b2 .nil) v = v ∧ lB (.cons h b1 b2 .nil) lb = lb ∧ codeB f.cs f.nl (.cons h b1 b2 .nil) v lb = []) := Lib.hid ⟨by simp [kB, kH, h0, h1, h2, h3, h4, h5, h6, h7], by simp [lB, h6, h7], by simp [codeB, codeH, h0, h1, h2, h3, h4, h5, h6, h7]⟩
  have t0 : (h.kind == 0) = false := by simpa using h0
  have t1 : (h.kind == 1) = false := by simpa using h1
  have t2 : (h.kind == 2) = false := by simpa using h2
  have t3 : (h.kind == 3) = false := by simpa using h3
  have t4 : (h.kind == 4) = false := by simpa using h4
  have t5 : (h.kind == 5) = false := by simpa using h5
  have t6 : (h.kind == 6) = false := by simpa using h6
  have t7 : (h.kind == 7) = false := by simpa using h7
  obtain ⟨W, hW⟩ : ∃ W, w.alloc (.cells vs.toArray 122) = W := ⟨_, rfl⟩
  rw [hW] at U0
  have z0 := cells_of U0.out.sb v0'
  clear hs hL v0 v0' h0 h1 h2 h3 h4 h5 h6 h7
  go_enter Try.func74, Try.ntmps74
  go_upto_region 1 with fail
  try rw [hW]
  clear hW
  go_wp2_with fail
  go_end0
  refine ⟨rfl, SA, n, c, ?_, U0.out.cw⟩
  rw [EB.out.1, EB.out.2.1, EB.out.2.2, List.append_nil]
  exact U0.out.lw
theorem stmt_any {w : World} {q : Nat} {f : Fl} {v : Nat} {SA : Option Addr} {n c : Nat} {sl : List St} {lb : Nat} {h : Hd} {b1 b2 : Bd} {vs : List Value} (IH : ∀ j, j < wtS h b1 b2 → Bl j) (hs : StP (Fr.Lo q) w h b1 b2 vs) (hL : Lw w q f v SA n c sl lb) (hcel : CelB f.cs (.cons h b1 b2 .nil)) (hcs : CellsOk f.cs) (hv : v + 12 * wtS h b1 b2 ≤ 5000000) (hn : n + 12 * wtS h b1 b2 ≤ 5000000) (hlb : lb + 12 * wtS h b1 b2 ≤ 5000000) :
    Calls Try.prog 74 #[.pointer (some ⟨q, 0, none⟩), .agg vs.toArray] w (LowA w q f v SA sl lb (.cons h b1 b2 .nil)) := by
  by_cases h0 : h.kind = 0
  · exact stmt_0 h0 hs hL hcel hcs hv hn hlb
  by_cases h1 : h.kind = 1
  · exact stmt_1 h1 hs hL hcel hcs hv hn hlb
  by_cases h2 : h.kind = 2
  · exact stmt_2 h2 hs hL hcel hcs hv hn hlb
  by_cases h3 : h.kind = 3
  · exact stmt_3 h3 hs hL hcel hcs hv hn hlb
  by_cases h4 : h.kind = 4
  · exact stmt_4 h4 hs hL hcel hcs hv hn hlb
  by_cases h5 : h.kind = 5
  · exact stmt_5 h5 hs hL hcel hcs hv hn hlb
  by_cases h6 : h.kind = 6
  · exact stmt_6 h6 IH hs hL hcel hcs hv hn hlb
  by_cases h7 : h.kind = 7
  · exact stmt_7 h7 IH hs hL hcel hcs hv hn hlb
  exact stmt_oth hs hL h0 h1 h2 h3 h4 h5 h6 h7
set_option maxRecDepth 20000 in
set_option maxHeartbeats 3200000 in
theorem body_of (k : Nat) (IH : ∀ j, j < k → Bl j) : Bl k := by
  refine ⟨fun {b w q f v SA n c sl lb BA bn bc} hk hb hL hcel hcs hv hn hlb => ?_⟩
  have IHH := Lib.hid IH
  have L0 := Lib.hid hL
  have HBD := Lib.hid hb
  have AP := Lib.hid (lw_apart hL)
  have HCS := Lib.hid hcs
  have HCEL := Lib.hid hcel
  have hbl := hb.1
  have hbm := hb.2.2.1
  have hbc := hb.2.1
  have hbz := blen_bsz b
  clear IH hb hL hcel hcs
  have HU : Try.prog.underlying 122 = some _ := Try.underlying122
  go_enter Try.func54, Try.ntmps54
  go_wp2_with fail
  go_loopw [4] (fun i wr => ∃ (j v1 lb1 : Nat) (SA1 : Option Addr) (n1 c1 : Nat) (sl1 : List St), j ≤ bn ∧ i = .int .i64 j ∧ Lw wr q f v1 SA1 n1 c1 sl1 lb1 ∧ Fr.Cw q SA SA1 w wr ∧ kB (Fr.dropB b j) v1 = kB b v ∧ lB (Fr.dropB b j) lb1 = lB b lb ∧ sl1 ++ codeB f.cs f.nl (Fr.dropB b j) v1 lb1 = sl ++ codeB f.cs f.nl b v lb ∧ CelB f.cs (Fr.dropB b j) ∧ v1 + 12 * bsz (Fr.dropB b j) ≤ 5000000 ∧ n1 + 12 * bsz (Fr.dropB b j) ≤ 5000000 ∧ lb1 + 12 * bsz (Fr.dropB b j) ≤ 5000000) (fun i _ => bn - (intOf i).toNat)
  case atStart =>
    have e : Fr.dropB b 0 = b := by cases b <;> rfl
    exact ⟨0, v, lb, SA, n, c, sl, Nat.zero_le _, rfl, L0.out, Fr.Cw.refl _ _ _, by rw [e], by rw [e], by rw [e], by rw [e]; exact HCEL.out, by rw [e]; exact hv, by rw [e]; exact hn, by rw [e]; exact hlb⟩
  case round =>
    obtain ⟨j, v1, lb1, SA1, n1, c1, sl1, hj, rfl, hL1, hW1, hk1, hl1, hs1, hce1, hv1, hn1, hb1⟩ := hrel
    have L1 := Lib.hid hL1
    have W1 := Lib.hid hW1
    have E1 := Lib.hid (And.intro hk1 (And.intro hl1 hs1))
    have CE1 := Lib.hid hce1
    clear hL1 hW1 hk1 hl1 hs1 hce1 L0
    by_cases hjn : j < bn
    · have d1 : decide ((j : Int) < (bn : Int)) = true := decide_eq_true (by omega)
      have hji : (j : Int) < (bn : Int) := by omega
      have HB1 := Lib.hid (isP_only W1.out.only AP.out HBD.out)
      obtain ⟨blk, off, rfl, hlo, hlt, hat⟩ := HB1.out.2.2.2 (by omega)
      obtain ⟨h, b1, b2, vs, hd, hc, hst, hwt⟩ := Fr.bd_at b j hat (by omega)
      have HC := Lib.hid (fun jj (hjj : jj < vs.length) => hc jj (by have := Fr.StP.len hst; omega))
      have HII : Hid ((Try.prog.info? 122).map (·.size) = some vs.length) := Lib.hid (by rw [Fr.StP.len hst]; kernel_rfl)
      have ST1 := Lib.hid hst
      rw [hd] at E1 CE1
      rw [hd] at hv1 hn1 hb1
      have hwt' : wtS h b1 b2 ≤ bsz b := by unfold wtS; omega
      have hbs : bsz (.cons h b1 b2 (Fr.dropB b (j + 1))) = wtS h b1 b2 + bsz (Fr.dropB b (j + 1)) := by simp only [bsz, wtS]
      rw [hbs] at hv1 hn1 hb1
      clear hst hc hat hd HB1 hbs
      go_wp2_with (first | (refine Fr.wpList_load_at rfl 122 _ rfl blk (off + j * 21) rfl vs _ HC.out HU rfl HII.out ?_) | fail)
      refine (stmt_any (fun j hj => IHH.out j (by omega)) ST1.out L1.out ⟨CE1.out.1, CE1.out.2.1, CE1.out.2.2.1, trivial⟩ HCS.out (by omega) (by omega) (by omega)).mono ?_
      rintro en w2 ⟨rfl, SA2, n2, c2, hl2, hc2⟩
      have L2 := Lib.hid hl2
      have W2 := Lib.hid (W1.out.trans hc2)
      have hn2 : n2 ≤ n1 + 10 * wtS h b1 b2 := by
        have e1 := hl2.len
        have e2 := L1.out.len
        have e3 := codeB_len f.cs f.nl (.cons h b1 b2 .nil) v1 lb1
        have e4 : bsz (.cons h b1 b2 .nil) = wtS h b1 b2 := by simp only [bsz, wtS]; omega
        rw [e4] at e3
        simp at e1; omega
      have hv2 : kB (.cons h b1 b2 .nil) v1 ≤ v1 + 10 * wtS h b1 b2 := by
        have e3 := kB_bd (.cons h b1 b2 .nil) v1
        have e4 : bsz (.cons h b1 b2 .nil) = wtS h b1 b2 := by simp only [bsz, wtS]; omega
        rw [e4] at e3; exact e3
      have hb2 : lB (.cons h b1 b2 .nil) lb1 ≤ lb1 + 10 * wtS h b1 b2 := by
        have e3 := lB_bd (.cons h b1 b2 .nil) lb1
        have e4 : bsz (.cons h b1 b2 .nil) = wtS h b1 b2 := by simp only [bsz, wtS]; omega
        rw [e4] at e3; exact e3
      clear hl2 hc2 L1 W1 ST1 HC HII
      go_wp2_with fail
      go_roundw
      case rel =>
        have e1 := E1.out
        rw [kB_cons, lB_cons, codeB_cons] at e1
        exact ⟨j + 1, _, _, SA2, n2, c2, _, by omega, by go_num, L2.out, W2.out, e1.1, e1.2.1, by rw [List.append_assoc]; exact e1.2.2, CE1.out.2.2.2, by omega, by omega, by omega⟩
      case measure => simp [intOf]; omega
    · obtain rfl : j = bn := by omega
      have d1 : decide ((j : Int) < (j : Int)) = false := decide_eq_false (by omega)
      have HE : Hid (v1 = kB b v ∧ lb1 = lB b lb ∧ sl1 = sl ++ codeB f.cs f.nl b v lb) := Lib.hid (by
        have := E1.out
        rw [Fr.dropB_all b j (by omega)] at this
        exact ⟨this.1, this.2.1, by have h3 := this.2.2; simpa [codeB] using h3⟩)
      go_wp2_with fail
      go_end0
      exact ⟨rfl, SA1, n1, c1, by rw [← HE.out.1, ← HE.out.2.1, ← HE.out.2.2]; exact L1.out, W1.out⟩
theorem body_any (k : Nat) : Bl k := Nat.strongRecOn k (fun k IH => body_of k IH)
end Go.Proofs.Ytapnnbbbgopobaa.Lr
namespace Go.Proofs.Ytapnnbbbgopobaa.Lr
open Go.RowKit Cm Mm Ow Me Ml Lg Stp StW Rr
def nmsB (b : Bd) : List ByteArray := Fr.namesN [] b
def codeOf (cs : List Lay.Cl) (b : Bd) : List St := codeB cs (nmsB b) b (nmsB b).length 0 ++ [sEnd]
def varsOf (b : Bd) : Nat := kB b (nmsB b).length
theorem ret_code {fn : Func} {p : Tmp} (h : fn.results = #[.cell p 34]) (tmps : Array Value) (w : World) (g : Nat) (t : TypeId) (x y z : Value) (hp : tmps.getD p undef = .pointer (some ⟨g, 0, none⟩)) (hg : w.heap[g]? = some (.cells #[x, y, z] t (0, 0))) :
    (results fn tmps).run Try.prog w = .ok (.agg #[x, y, z]) w :=
  results_cell_row h tmps w g t #[x, y, z] (0, 0) _ hp hg Try.underlying34 rfl (by kernel_rfl)
set_option maxRecDepth 20000 in
set_option maxHeartbeats 3200000 in
theorem rbody_any {b : Bd} {w : World} {BA : Option Addr} {bn bc : Nat} {cA : Option Addr} {cn cc : Nat} {cs : List Lay.Cl} (hb : IsBd 0 w b BA bn bc) (hz : bsz b ≤ 50000) (hc : Lay.IsCl w cA cn cc cs) (hcn : cn ≤ 65536) (hcel : CelB cs b) (hcs : CellsOk cs) :
    Calls Try.prog 30 #[.slice BA bn bc, .slice cA cn cc] w (GaveC w (varsOf b : Nat) ((nmsB b).length : Nat) (codeOf cs b)) := by
  have hb0 := below_new w (.cells #[.int .i64 0, .int .i64 0, .slice none 0 0] 34)
  have HB0 := Lib.hid hb0
  have G0 := Lib.hid (heap_alloc_new w (.cells #[.int .i64 0, .int .i64 0, .slice none 0 0] 34))
  have BD := Lib.hid (hb.keep hb0)
  have HC := Lib.hid (hc.keep hb0)
  have HCEL := Lib.hid hcel
  have HCS := Lib.hid hcs
  clear hb hc hb0 hcel hcs
  go_enter Try.func30, Try.ntmps30
  go_upto_region 1 with fail
  obtain ⟨W, hW⟩ : ∃ W, w.alloc (.cells #[.int .i64 0, .int .i64 0, .slice none 0 0] 34) = W := ⟨_, rfl⟩
  have hwW : w.heap.size < W.heap.size := by rw [← hW]; simp
  rw [hW] at HB0 G0 BD HC
  try rw [hW]
  clear hW
  go_wp2_with fail
  refine (Fr.locals_any BD.out (by omega)).mono ?_
  rintro en w2 ⟨nA, nn, nc, rfl, hN, hb2⟩
  have hnl : nn = (nmsB b).length := hN.len.symm
  have hnb : nn ≤ 50000 := by
    have e : (Fr.namesN [] b).length ≤ 0 + bsz b := (Fr.namesN_len b []).2
    rw [hnl]; unfold nmsB; omega
  have HNL := Lib.hid hnl
  clear hnl
  have L2 : Hid (Lw (w2.alloc (lwO ⟨cA, cn, cc, cs, nA, nn, nc, nmsB b, nn⟩ nn none 0 0 0)) w2.heap.size ⟨cA, cn, cc, cs, nA, nn, nc, nmsB b, nn⟩ nn none 0 0 [] 0) := Lib.hid (by
    have hcl2 := (HC.out.keep hb2).keep (below_new w2 (lwO ⟨cA, cn, cc, cs, nA, nn, nc, nmsB b, nn⟩ nn none 0 0 0))
    refine ⟨heap_alloc_new _ _, hcl2, fun h0 b' o m hA => ?_, isN_of (hN.keep (below_new _ _)), fun h0 b' o m hA => ?_, Own.nil _ _ _ _, hcn, by show nn ≤ 65536; omega⟩
    · obtain ⟨b'', o', e, hbb, -⟩ := (HC.out.keep hb2).2.1.at_ h0
      have hA' : cA = some ⟨b', o, m⟩ := hA
      rw [e] at hA'
      injection hA' with hA'
      injection hA' with hA'
      omega
    · have hA' : nA = some ⟨b', o, m⟩ := hA
      have := (hN.lt b' (by rw [hA']; rfl)).2
      exact this)
  have hb3 := below_new w2 (lwO ⟨cA, cn, cc, cs, nA, nn, nc, nmsB b, nn⟩ nn none 0 0 0)
  have BP := Lib.hid (isP_only (Only.of_below (F := []) hb3) (fun g hg => by cases hg) (Fr.isP_lo (BD.out.keep hb2)))
  have HB3 := Lib.hid (HB0.out.trans ((hb2.trans (hb3.mono hb2.size)).mono HB0.out.size))
  have G3 := Lib.hid (((hb2.trans (hb3.mono hb2.size)).block _ hwW).trans G0.out)
  have hwq : w.heap.size < w2.heap.size := Nat.lt_of_lt_of_le hwW hb2.size
  clear hb2 hb3 hN HC BD G0 HB0
  go_upto_region 3 with fail
  obtain ⟨W3, hW⟩ : ∃ W, w2.alloc (lwO ⟨cA, cn, cc, cs, nA, nn, nc, nmsB b, nn⟩ nn none 0 0 0) = W := ⟨_, rfl⟩
  rw [hW] at L2 BP HB3 G3
  try rw [show w2.alloc (.cells #[.slice cA cn cc, .slice nA nn nc, .int .i64 nn, .int .i64 nn, .slice none 0 0, .int .i64 0] 111) = W3 from hW]
  clear hW
  generalize w2.heap.size = q at *
  obtain ⟨g, hg⟩ : ∃ g, w.heap.size = g := ⟨_, rfl⟩
  have HG := Lib.hid hg
  rw [hg] at G3 hwq
  try simp only [hg]
  clear hg hwW
  go_wp2_with fail
  refine ((body_any (bsz b)).go (Nat.le_refl _) BP.out L2.out HCEL.out HCS.out (by omega) (by omega) (by omega)).mono ?_
  rintro en w4 ⟨rfl, SA4, n4, c4, hl4, hc4⟩
  have L4 := Lib.hid hl4
  have hn4 : n4 ≤ 10 * bsz b := by have := hl4.len; have := codeB_len cs (nmsB b) b nn 0; simp at *; omega
  have hgq : g ∉ q :: ((none : Option Addr).map (·.block)).toList := by simp; omega
  have hglt : g < W3.heap.size := (Array.getElem?_eq_some_iff.1 G3.out).1
  have G4 := Lib.hid ((hc4.only.block g hglt hgq).trans G3.out)
  have C4 := Lib.hid hc4
  clear hl4 hc4 L2 G3 BP hgq
  go_wp2_with fail
  refine (step_any sEnd L4.out (by omega)).mono ?_
  rintro en w5 ⟨rfl, SA5, n5, c5, hl5, hc5⟩
  have L5 := Lib.hid hl5
  have C5 := Lib.hid (C4.out.trans hc5)
  have hgn : g ∉ q :: (SA4.map (·.block)).toList := fun hx => by
    rcases List.mem_cons.1 hx with e | e
    · omega
    · have := (L4.out.lt g (Fr.mem_blk.1 e)).1; omega
  have G5 := (hc5.only.block g (Array.getElem?_eq_some_iff.1 G4.out).1 hgn).trans G4.out
  have HG5 := Lib.hid G5
  have y2 := hl5.y2
  have y3 := hl5.y3
  have y4 := hl5.y4
  have g0 := cells_of G5 (j := 0) rfl
  have g1 := cells_of G5 (j := 1) rfl
  have g2 := cells_of G5 (j := 2) rfl
  have gf : ∀ k, w5.frozen? ⟨g, k, none⟩ = false := fun k => by simp only [World.frozen?, G5]; simp
  have hB5 : Below w.heap.size w (((w5.setCell ⟨g, 0, none⟩ (.int .i64 (kB b nn : Nat))).setCell ⟨g, 1, none⟩ (.int .i64 nn)).setCell ⟨g, 2, none⟩ (.slice SA5 n5 c5)) := by
    have e1 : Below w.heap.size W3 w5 := C5.out.only.below (fun x hx => by simp at hx; rw [HG.out]; omega) (HB3.out.size)
    exact (((HB3.out.trans e1).setCell (p := ⟨g, 0, none⟩) (Nat.le_of_eq HG.out) _).setCell (p := ⟨g, 1, none⟩) (Nat.le_of_eq HG.out) _).setCell (p := ⟨g, 2, none⟩) (Nat.le_of_eq HG.out) _
  have HB5 := Lib.hid hB5
  have O5 : Hid (Own (((w5.setCell ⟨g, 0, none⟩ (.int .i64 (kB b nn : Nat))).setCell ⟨g, 1, none⟩ (.int .i64 nn)).setCell ⟨g, 2, none⟩ (.slice SA5 n5 c5)) (q + 1) 55 9 SA5 n5 c5 ((codeOf cs b).map stL)) := Lib.hid (by
    have hr := L5.out.row
    have e : ([] ++ codeB cs (nmsB b) b nn 0 ++ [sEnd]) = codeOf cs b := by unfold codeOf; rw [List.nil_append, HNL.out]
    rw [e] at hr
    exact Ow2.own_set (Ow2.own_set (Ow2.own_set hr (by simp; omega) _) (by simp; omega) _) (by simp; omega) _)
  have R5 : Hid ((((w5.setCell ⟨g, 0, none⟩ (.int .i64 (kB b nn : Nat))).setCell ⟨g, 1, none⟩ (.int .i64 nn)).setCell ⟨g, 2, none⟩ (.slice SA5 n5 c5)).heap[g]? = some (.cells #[.int .i64 (kB b nn : Nat), .int .i64 nn, .slice SA5 n5 c5] 34 (0, 0))) := Lib.hid (Lx.blk_set (Lx.blk_set (Lx.blk_set HG5.out _) _) _)
  clear hl5 hc5 G5 L4 C4 C5 hgn hB5 G4
  go_wp2_with fail
  refine bodyPost_ret (v := .agg #[.int .i64 (kB b nn : Nat), .int .i64 nn, .slice SA5 n5 c5]) (ret_code Try.results30 _ _ g _ _ _ _ rfl R5.out) rfl ?_
  refine ⟨SA5, n5, c5, ?_, Own.low O5.out (by have := HG.out; omega), HB5.out⟩
  rw [HNL.out]
  rfl
end Go.Proofs.Ytapnnbbbgopobaa.Lr
