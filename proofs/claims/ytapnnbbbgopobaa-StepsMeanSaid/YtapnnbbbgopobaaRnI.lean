/-
  WALKS: the reference's run: go1: a strand goes on up to and behind its next action.
-/
import Derived.Test.YtapnnbbbgopobaaG24
set_option linter.unusedVariables false
set_option linter.unusedSimpArgs false
namespace Go.Proofs.Ytapnnbbbgopobaa.Rn
open Go.RowKit Cm Mm Ow Me Ml Lg Stp Rr Lr
theorem Sr.top {w : World} {B0 p : Nat} {F : List Nat} {names : List ByteArray} {v : List Int} {st : List Bd} {sk en : Bool} {h : Hd} {b1 b2 rest : Bd} {st1 : List Bd} (hS : Sr w B0 p F names v st sk en) (hst : st = .cons h b1 b2 rest :: st1) :
    ∃ nA nn nnc vA vc kb m kc rows blk off rn rc rb ra vs, SrV w B0 p F names v sk en nA nn nnc vA vc (some ⟨kb, 0, none⟩) (m + 1) kc rows ∧ rows.getD m zeroLv = ⟨some ⟨blk, off, none⟩, rn, rc, rb, ra⟩ ∧ st1 = stk (rows.take m) ∧ ra < rn ∧ rn ≤ rc ∧ rc ≤ maxLen ∧ rest = Fr.dropB rb (ra + 1) ∧ Fr.dropB rb ra = .cons h b1 b2 rest ∧ blk < B0 ∧ blk < w.heap.size ∧ (∀ j, j < 21 → w.cell? ⟨blk, off + ra * 21 + j, none⟩ = vs[j]?) ∧ StP (Fr.Lo B0) w h b1 b2 vs ∧ bsz b1 + bsz b2 + 1 ≤ bsz rb ∧ m + bsz rb ≤ 100000 ∧ kb < w.heap.size ∧ w.cell? ⟨kb, m * 2, none⟩ = some (.slice (some ⟨blk, off, none⟩) rn rc) ∧ w.cell? ⟨kb, m * 2 + 1, none⟩ = some (.int .i64 ra) := by
  obtain ⟨nA, nn, nnc, vA, vc, KA, kn, kc, rows, hR, hs⟩ := hS
  rw [hst] at hs
  have hl := hR.lenk
  have hkn : kn ≠ 0 := fun e => by
    have e : rows = [] := List.length_eq_zero_iff.1 (by omega)
    rw [e] at hs
    cases hs
  obtain ⟨m, rfl⟩ : ∃ m, kn = m + 1 := ⟨kn - 1, by omega⟩
  rw [stk_top hl] at hs
  injection hs with h1 h2
  obtain ⟨kb, rfl, hkl, k0, k1⟩ := hR.cellk (i := m) (by omega)
  have hbd := hR.ok.bd m (by omega)
  have hat := hR.ok.at_ m (by omega)
  have hwt := hR.ok.wt m (by omega)
  generalize hr : rows.getD m zeroLv = r at *
  obtain ⟨rA, rn, rc, rb, ra⟩ := r
  unfold remn at h1
  dsimp only at *
  have hra : ra < rn := by
    rcases Nat.lt_or_ge ra rn with e | e
    · exact e
    · rw [Fr.dropB_all rb ra (by have := hbd.1; omega)] at h1; cases h1
  obtain ⟨blk, off, rfl, hlo, hlt, hatt⟩ := hbd.2.2.2 (by omega)
  obtain ⟨h', b1', b2', vs, hd, hc, hst2, hz⟩ := Fr.bd_at rb ra hatt (by have := hbd.1; omega)
  have hd2 := hd
  rw [h1] at hd2
  injection hd2 with e1 e2 e3 e4
  subst e1 e2 e3
  exact ⟨nA, nn, nnc, vA, vc, kb, m, kc, rows, blk, off, rn, rc, rb, ra, vs, hR, hr, h2.symm, hra, hbd.2.1, hbd.2.2.1, e4, h1, hlo, hlt, hc, hst2, by omega, hwt, hkl, k0, k1⟩
theorem SrV.at_ {w : World} {B0 p : Nat} {F : List Nat} {names : List ByteArray} {v : List Int} {sk en : Bool} {nA : Option Addr} {nn nnc : Nat} {vA : Option Addr} {vc kb m kc : Nat} {rows : List Lv} {A : Option Addr} {rn rc ra : Nat} {rb : Bd} (h : SrV w B0 p F names v sk en nA nn nnc vA vc (some ⟨kb, 0, none⟩) (m + 1) kc rows) (hr : rows.getD m zeroLv = ⟨A, rn, rc, rb, ra⟩) {x : Nat} (hx : x ≤ rn) :
    ∃ rows2, SrV (w.setCell ⟨kb, m * 2 + 1, none⟩ (.int .i64 (x : Int))) B0 p F names v sk en nA nn nnc vA vc (some ⟨kb, 0, none⟩) (m + 1) kc rows2 ∧ rows2.getD m zeroLv = ⟨A, rn, rc, rb, x⟩ ∧ stk rows2 = Fr.dropB rb x :: stk (rows.take m) ∧ rows2.take m = rows.take m := by
  have hl := h.lenk
  have e := h.setAt (i := m) (by omega) (x := x) (by rw [hr]; exact hx)
  rw [hr] at e
  refine ⟨_, e, by simp [List.getD, hl], ?_, by rw [List.take_set_of_le (Nat.le_refl m)]⟩
  rw [stk_set hl]
  rfl
theorem Sr.y3 {w : World} {B0 p : Nat} {F : List Nat} {names : List ByteArray} {v : List Int} {st : List Bd} {sk en : Bool} (h : Sr w B0 p F names v st sk en) : w.cell? ⟨p, 3, none⟩ = some (.bool sk) := by
  obtain ⟨_, _, _, _, _, _, _, _, _, h, -⟩ := h
  exact h.y3
theorem Sr.y4 {w : World} {B0 p : Nat} {F : List Nat} {names : List ByteArray} {v : List Int} {st : List Bd} {sk en : Bool} (h : Sr w B0 p F names v st sk en) : w.cell? ⟨p, 4, none⟩ = some (.bool en) := by
  obtain ⟨_, _, _, _, _, _, _, _, _, h, -⟩ := h
  exact h.y4
theorem Sr.free {w : World} {B0 p : Nat} {F : List Nat} {names : List ByteArray} {v : List Int} {st : List Bd} {sk en : Bool} (h : Sr w B0 p F names v st sk en) (k : Nat) : w.frozen? ⟨p, k, none⟩ = false := by
  obtain ⟨_, _, _, _, _, _, _, _, _, h, -⟩ := h
  exact h.free k
theorem Sr.fp {w : World} {B0 p : Nat} {F : List Nat} {names : List ByteArray} {v : List Int} {st : List Bd} {sk en : Bool} (h : Sr w B0 p F names v st sk en) : p ∈ F ∧ p < w.heap.size ∧ B0 ≤ p := by
  obtain ⟨_, _, _, _, _, _, _, _, _, h, -⟩ := h
  exact ⟨h.fq, h.qlt, h.hq⟩
theorem Sr.flag4 {w : World} {B0 p : Nat} {F : List Nat} {names : List ByteArray} {v : List Int} {st : List Bd} {sk en : Bool} (h : Sr w B0 p F names v st sk en) (x : Bool) : Sr (w.setCell ⟨p, 4, none⟩ (.bool x)) B0 p F names v st sk x := by
  obtain ⟨_, _, _, _, _, _, _, _, _, h, e⟩ := h
  exact ⟨_, _, _, _, _, _, _, _, _, h.flag4 x, e⟩
theorem Sr.flag3 {w : World} {B0 p : Nat} {F : List Nat} {names : List ByteArray} {v : List Int} {st : List Bd} {sk en : Bool} (h : Sr w B0 p F names v st sk en) (x : Bool) : Sr (w.setCell ⟨p, 3, none⟩ (.bool x)) B0 p F names v st x en := by
  obtain ⟨_, _, _, _, _, _, _, _, _, h, e⟩ := h
  exact ⟨_, _, _, _, _, _, _, _, _, h.flag3 x, e⟩
theorem sr_rn {w : World} {B0 q p : Nat} {f : Rf} {G F : List Nat} {now out : List Int} {rec_ l : Value} {ill : Bool} {NA : Option Addr} {nc : Nat} {OA : Option Addr} {on oc : Nat} {names : List ByteArray} {v : List Int} {st : List Bd} {sk en : Bool} (hR : RnV w B0 q f G now out rec_ l ill NA nc OA on oc) (hS : Sr w B0 p F names v st sk en) (hd : ∀ g ∈ F, g ∉ G) {w' : World} {X : List Nat} (hX : ∀ g ∈ X, g ∈ G) (ho : Only X w w') : Sr w' B0 p F names v st sk en := by
  obtain ⟨_, _, _, _, _, _, _, _, _, h, e⟩ := hS
  exact ⟨_, _, _, _, _, _, _, _, _, h.only ho (fun g hg => ⟨(rn_ge hR g (hX g hg)).1, fun hx => hd g hx (hX g hg), rs_names hR h g (hX g hg)⟩), e⟩
def GoA (w : World) (B0 q p : Nat) (f : Rf) (G F : List Nat) (rec_ l : Value) (names : List ByteArray) (en : Bool) (r : Nat × Ss) (e : Ending) (w' : World) : Prop := e = .returned (.bool (r.1 == 0)) ∧ ∃ G' F', Rn w' B0 q f G' r.2.now r.2.out rec_ l (r.1 == 2) ∧ Sr w' B0 p F' names r.2.v r.2.st (r.1 == 2) (if r.1 = 0 then en else r.1 == 1) ∧ Only (G ++ F) w w' ∧ (∀ g ∈ G', g ∈ G ∨ w.heap.size ≤ g) ∧ (∀ g ∈ F', g ∈ F ∨ w.heap.size ≤ g) ∧ ∀ g ∈ F', g ∉ G'
def Lp (w : World) (B0 p : Nat) (f : Rf) (F : List Nat) (now out : List Int) (names : List ByteArray) (en : Bool) (r : Nat × Ss) (k : Nat) (wr : World) : Prop := ∃ F' v' st', Sr wr B0 p F' names v' st' false en ∧ (∀ g ∈ F', g ∈ F ∨ w.heap.size ≤ g) ∧ Only F w wr ∧ CelS f.cs st' ∧ goS f.cs names (1000 - k) ⟨st', v', now, out⟩ = r
theorem Sr.of {w : World} {B0 p : Nat} {F : List Nat} {names : List ByteArray} {v : List Int} {sk en : Bool} {nA : Option Addr} {nn nnc : Nat} {vA : Option Addr} {vc : Nat} {KA : Option Addr} {kn kc : Nat} {rows : List Lv} {st : List Bd} (h : SrV w B0 p F names v sk en nA nn nnc vA vc KA kn kc rows) (e : stk rows = st) : Sr w B0 p F names v st sk en := ⟨_, _, _, _, _, _, _, _, _, h, e⟩
theorem Lp.step {w w' : World} {B0 p : Nat} {f : Rf} {F F' : List Nat} {now out : List Int} {names : List ByteArray} {en : Bool} {r : Nat × Ss} {k : Nat} {st' : List Bd} {v' : List Int} {h : Hd} {b1 b2 rest : Bd} {s1 st2 : List Bd} {v2 : List Int} (hk : k < 1000) (hgs : goS f.cs names (1000 - k) ⟨st', v', now, out⟩ = r) (hdn : dropNil st' = .cons h b1 b2 rest :: s1) (hi : isActS h.kind = false) (hq : quietS names h b1 b2 rest s1 ⟨st', v', now, out⟩ = ⟨st2, v2, now, out⟩) (hS : Sr w' B0 p F' names v2 st2 false en) (hF : ∀ g ∈ F', g ∈ F ∨ w.heap.size ≤ g) (hO : Only F w w') (hC : CelS f.cs st2) : Lp w B0 p f F now out names en r (k + 1) w' :=
  ⟨F', v2, st2, hS, hF, hO, hC, by rw [← hgs, goS_quiet hk hdn hi, hq]⟩
theorem grown_out2 {W w' : World} {X : Obj} {r : Option Nat} (hg : (W.alloc X).grownBy w' r) : Only r.toList W w' := ((Only.refl _ W).alloc X).seq (Only.of_grown hg (fun g hg => by simp [hg]))
set_option maxRecDepth 20000 in
set_option maxHeartbeats 25600000 in
theorem go1_any {w : World} {B0 q p : Nat} {f : Rf} {G F : List Nat} {now out : List Int} {rec_ l : Value} {names : List ByteArray} {v : List Int} {st : List Bd} {en : Bool} (hR : Rn w B0 q f G now out rec_ l false) (hS : Sr w B0 p F names v st false en) (hd : ∀ g ∈ F, g ∉ G) (hcel : CelS f.cs st) (hout : out.length < 1000000) :
    Calls Try.prog 38 #[.pointer (some ⟨q, 0, none⟩), .pointer (some ⟨p, 0, none⟩)] w (GoA w B0 q p f G F rec_ l names en (goS f.cs names 1000 ⟨st, v, now, out⟩)) := by
  obtain ⟨NA, nc, OA, on, oc, hR⟩ := hR
  have R := Lib.hid hR
  have HD := Lib.hid hd
  have HSG := Lib.hid (sr_ge hS.choose_spec.choose_spec.choose_spec.choose_spec.choose_spec.choose_spec.choose_spec.choose_spec.choose_spec.1)
  have HRG := Lib.hid (rn_ge hR)
  have HQ := Lib.hid hR.gq
  have HOUT := Lib.hid hout
  obtain ⟨RR, hRR⟩ : ∃ x, goS f.cs names 1000 ⟨st, v, now, out⟩ = x := ⟨_, rfl⟩
  have L0 : Hid (Lp w B0 p f F now out names en RR 0 w) := Lib.hid ⟨F, v, st, hS, fun g hg => .inl hg, Only.refl _ _, hcel, hRR⟩
  rw [hRR]
  clear hRR hR hS hd hcel hout
  go_enter Try.func38, Try.ntmps38
  go_wp2_with fail
  go_loopw [5] (fun i wr => ∃ (k : Nat), k ≤ 1000 ∧ i = .int .i64 k ∧ Lp w B0 p f F now out names en RR k wr) (fun i _ => 1000 - (intOf i).toNat)
  case atStart => exact ⟨0, by omega, rfl, L0.out⟩
  case round =>
    obtain ⟨k, hk, rfl, F1, v1, st1', hS, hF1, hO, hcel, hgs⟩ := hrel
    have S := Lib.hid hS
    have HF1 := Lib.hid hF1
    have O := Lib.hid hO
    have CE := Lib.hid hcel
    have GS := Lib.hid hgs
    have y3 := hS.y3
    clear hS hF1 hO hcel hgs L0
    go_wp2_with fail
    refine (sover_any S.out).mono ?_
    rintro e w1 ⟨rfl, hS1, hO1⟩
    obtain ⟨bo, hbo⟩ : ∃ b, (dropNil st1').isEmpty = b := ⟨_, rfl⟩
    rw [hbo]
    have HBO := Lib.hid hbo
    have S1 := Lib.hid hS1
    have O1 := Lib.hid (O.out.trans hO1 HF1.out)
    have y13 := hS1.y3
    have y14 := hS1.y4
    have yf1 := hS1.free
    have RN1 := Lib.hid (R.out.only O1.out (fun g hg => ⟨(HSG.out g hg).1, HD.out g hg⟩))
    clear hbo hS1 hO1 y3
    cases bo with
    | true =>
      have HDN : Hid (dropNil st1' = []) := Lib.hid (List.isEmpty_iff.1 HBO.out)
      have HR1 : Hid (RR = (1, ⟨[], v1, now, out⟩)) := Lib.hid (by rw [← GS.out]; exact goS_end HDN.out)
      go_wp2_with fail
      go_ret
      have hS2 := S1.out.flag4 true
      rw [HDN.out] at hS2
      have hpG : p ∈ F ∨ w.heap.size ≤ p := HF1.out p S1.out.fp.1
      have hO2 : Only F w (w1.setCell ⟨p, 4, none⟩ (.bool true)) := O1.out.trans (only_q w1 p 4 (.bool true)) (fun g hg => by simp at hg; subst hg; exact hpG)
      rw [HR1.out]
      exact ⟨rfl, G, F1, ⟨_, _, _, _, _, R.out.only hO2 (fun g hg => ⟨(HSG.out g hg).1, HD.out g hg⟩)⟩, hS2, hO2.more (fun g hg => List.mem_append_right _ hg), fun g hg => .inl hg, HF1.out, fun g hg hx => by
        rcases HF1.out g hg with e | e
        · exact HD.out g e hx
        · have := (HRG.out g hx).2; omega⟩
    | false =>
      obtain ⟨b0, s1, hdn⟩ : ∃ b r, dropNil st1' = b :: r := by
        have := HBO.out
        cases h : dropNil st1' with
        | nil => rw [h] at this; cases this
        | cons b r => exact ⟨b, r, rfl⟩
      have hne := dropNil_ne hdn
      cases b0 with
      | nil => exact absurd rfl hne
      | cons h b1 b2 rest =>
      clear hne
      have HDN := Lib.hid hdn
      have HCEL : Hid (CelB f.cs (.cons h b1 b2 rest) ∧ CelS f.cs s1) := Lib.hid (by
        have := CE.out.drop
        rw [hdn] at this
        exact ⟨this _ (by simp), fun b hb => this b (by simp [hb])⟩)
      have hdis : ∀ g ∈ F1, g ∉ G := fun g hg hx => by
        rcases HF1.out g hg with e | e
        · exact HD.out g e hx
        · have := (HRG.out g hx).2; omega
      have HDIS := Lib.hid hdis
      by_cases hk1 : k < 1000
      · have d1 : decide ((1000 : Int) ≤ (k : Int)) = false := decide_eq_false (by omega)
        have HK1 := Lib.hid hk1
        obtain ⟨nA, nn, nnc, vA, vc, kb, m, kc, rows, blk, off, rn, rc, rb, ra, vs, hS1, hr, hst1, hra, hrc, hrm, hrest, hdb, hlo, hlt, hcl, hstp, hbz, hmw, hkl, k0, k1⟩ := Sr.top S1.out hdn
        have S2 := Lib.hid hS1
        have HRW := Lib.hid hr
        have HST1 := Lib.hid hst1
        have HREST := Lib.hid hrest
        have HDB := Lib.hid hdb
        have STP := Lib.hid hstp
        have y2 := hS1.y2
        have HBZ := Lib.hid hbz
        have VL := Lib.hid (Fr.StP.len hstp)
        have hI : (Try.prog.info? 122).map (·.size) = some vs.length := by rw [VL.out]; kernel_rfl
        have HI := Lib.hid hI
        have ONE := Lib.hid (Fr.StP.ones hstp)
        have HU : Try.prog.underlying 122 = some _ := Try.underlying122
        have HUU := Lib.hid HU
        have hcl2 : ∀ j, j < vs.length → w1.cell? ⟨blk, off + ra * 21 + j, none⟩ = vs[j]? := fun j hj => hcl j (by have := VL.out; omega)
        clear hk1 hS1 hr hst1 hrest hdb hstp hbz hI hdn hdis HU hcl S1
        have i1 : IntKind.i64.wrap ((m : Int) + 1 - 1) = (m : Int) := by rw [IntWalk.i64_in _ ⟨by omega, by omega⟩]; omega
        have hmi : (m : Int) < (m : Int) + 1 := by omega
        go_upto_region 7 with fail
        go_quiet (fail)
        have hsz : (w1.drewN nq).heap.size = w1.heap.size := rfl
        have hcl3 : ∀ j, j < vs.length → (w1.drewN nq).cell? ⟨blk, off + ra * 21 + j, none⟩ = vs[j]? := hcl2
        have k03 : (w1.drewN nq).cell? ⟨kb, m * 2, none⟩ = _ := k0
        have k13 : (w1.drewN nq).cell? ⟨kb, m * 2 + 1, none⟩ = _ := k1
        have S3 := Lib.hid (S2.out.keep (below_drawn w1 nq))
        have STP3 := Lib.hid (stP_only (Only.of_below (F := []) (below_drawn w1 nq)) (fun g hg => by cases hg) STP.out)
        have O3 := Lib.hid (O1.out.drewN nq)
        clear hcl2 k0 k1 y2 S2 STP y13 y14 yf1
        obtain ⟨W3, hW3⟩ : ∃ W, w1.drewN nq = W := ⟨_, rfl⟩
        rw [hW3] at hsz hcl3 k03 k13 S3 STP3 O3
        try rw [hW3]
        clear hW3
        have hrai : (ra : Int) < (rn : Int) := by omega
        go_upto_region 8 with fail
        obtain ⟨WD, hWD⟩ : ∃ W, W3.drew = W := ⟨_, rfl⟩
        have HBD : Hid (Below W3.heap.size W3 WD) := Lib.hid (by rw [← hWD]; exact (Below.refl _ _).drew)
        have SA : (∀ j, j < vs.length → WD.cell? ⟨blk, off + ra * 21 + j, none⟩ = vs[j]?) ∧ WD.cell? ⟨kb, m * 2, none⟩ = some (.slice (some ⟨blk, off, none⟩) rn rc) ∧ WD.cell? ⟨kb, m * 2 + 1, none⟩ = some (.int .i64 ra) := by
          rw [← hWD]
          exact ⟨hcl3, k03, k13⟩
        refine Hh.start (fun w' => (∀ j, j < vs.length → w'.cell? ⟨blk, off + ra * 21 + j, none⟩ = vs[j]?) ∧ w'.cell? ⟨kb, m * 2, none⟩ = some (.slice (some ⟨blk, off, none⟩) rn rc) ∧ w'.cell? ⟨kb, m * 2 + 1, none⟩ = some (.int .i64 ra)) (by kernel_rfl) ?_
        try rw [hWD]
        clear hWD hcl3 k03 k13
        refine Hh.take (i := 0) (v := ?va0) rfl (by decide +kernel) (by decide +kernel) (fun _ _ _ h => h) rfl ?hya0 SA ?resta0
        case hya0 =>
          intro wq hSw
          obtain ⟨s1, s2, s3⟩ := hSw
          go_simp
          try with_reducible rfl
        try simp only [Act.put, zA, zB, zC]
        refine Hh.take (i := 1) (v := ?va1) rfl (by decide +kernel) (by decide +kernel) (fun _ _ _ h => h) rfl ?hya1 SA ?resta1
        case hya1 =>
          intro wq hSw
          obtain ⟨s1, s2, s3⟩ := hSw
          go_simp
          try with_reducible rfl
        try simp only [Act.put, zA, zB, zC]
        refine Hh.take (i := 2) (v := ?va2) rfl (by decide +kernel) (by decide +kernel) (fun _ _ _ h => h) rfl ?hya2 SA ?resta2
        case hya2 =>
          intro wq hSw
          obtain ⟨s1, s2, s3⟩ := hSw
          go_simp
          try with_reducible rfl
        try simp only [Act.put, zA, zB, zC]
        refine Hh.take (i := 3) (v := ?va3) rfl (by decide +kernel) (by decide +kernel) (fun _ _ _ h => h) rfl ?hya3 SA ?resta3
        case hya3 =>
          intro wq hSw
          obtain ⟨s1, s2, s3⟩ := hSw
          go_simp
          try with_reducible rfl
        try simp only [Act.put, zA, zB, zC]
        refine Hh.take (i := 4) (v := ?va4) rfl (by decide +kernel) (by decide +kernel) (fun _ _ _ h => h) rfl ?hya4 SA ?resta4
        case hya4 =>
          intro wq hSw
          obtain ⟨s1, s2, s3⟩ := hSw
          go_simp
          try with_reducible rfl
        try simp only [Act.put, zA, zB, zC]
        refine Hh.take (i := 5) (v := ?va5) rfl (by decide +kernel) (by decide +kernel) (fun _ _ _ h => h) rfl ?hya5 SA ?resta5
        case hya5 =>
          intro wq hSw
          obtain ⟨s1, s2, s3⟩ := hSw
          go_simp
          try with_reducible rfl
        try simp only [Act.put, zA, zB, zC]
        refine Hh.take (i := 6) (v := ?va6) rfl (by decide +kernel) (by decide +kernel) (fun _ _ _ h => h) rfl ?hya6 SA ?resta6
        case hya6 =>
          intro wq hSw
          obtain ⟨s1, s2, s3⟩ := hSw
          go_simp
          try with_reducible rfl
        try simp only [Act.put, zA, zB, zC]
        refine Hh.take (i := 7) (v := ?va7) rfl (by decide +kernel) (by decide +kernel) (fun _ _ _ h => h) rfl ?hya7 SA ?resta7
        case hya7 =>
          intro wq hSw
          obtain ⟨s1, s2, s3⟩ := hSw
          go_simp
          try with_reducible rfl
        try simp only [Act.put, zA, zB, zC]
        refine Hh.take (i := 8) (v := ?va8) rfl (by decide +kernel) (by decide +kernel) (fun _ _ _ h => h) rfl ?hya8 SA ?resta8
        case hya8 =>
          intro wq hSw
          obtain ⟨s1, s2, s3⟩ := hSw
          go_simp
          try with_reducible rfl
        try simp only [Act.put, zA, zB, zC]
        refine Hh.take (i := 9) (v := ?va9) rfl (by decide +kernel) (by decide +kernel) (fun _ _ _ h => h) rfl ?hya9 SA ?resta9
        case hya9 =>
          intro wq hSw
          obtain ⟨s1, s2, s3⟩ := hSw
          refine run_load_at 122 (.tmp 48) ?_ blk (off + ra * 21) ?_ vs _ s1 HUU.out rfl HI.out <;> rfl
        try simp only [Act.put, zA, zB, zC]
        have SB : (∀ j, j < vs.length → (WD.alloc (.cells #[.int .i64 0, .int .i64 0, .string ⟨#[]⟩, .string ⟨#[]⟩, .int .i64 0, .int .u64 0, .int .u8 0, .string ⟨#[]⟩, .slice none 0 0, .int .i64 0, .int .u64 0, .int .u8 0, .string ⟨#[]⟩, .slice none 0 0, .int .i64 0, .int .u64 0, .int .u8 0, .string ⟨#[]⟩, .slice none 0 0, .slice none 0 0, .slice none 0 0] 122)).cell? ⟨blk, off + ra * 21 + j, none⟩ = vs[j]?) ∧ (WD.alloc (.cells #[.int .i64 0, .int .i64 0, .string ⟨#[]⟩, .string ⟨#[]⟩, .int .i64 0, .int .u64 0, .int .u8 0, .string ⟨#[]⟩, .slice none 0 0, .int .i64 0, .int .u64 0, .int .u8 0, .string ⟨#[]⟩, .slice none 0 0, .int .i64 0, .int .u64 0, .int .u8 0, .string ⟨#[]⟩, .slice none 0 0, .slice none 0 0, .slice none 0 0] 122)).cell? ⟨kb, m * 2, none⟩ = some (.slice (some ⟨blk, off, none⟩) rn rc) ∧ (WD.alloc (.cells #[.int .i64 0, .int .i64 0, .string ⟨#[]⟩, .string ⟨#[]⟩, .int .i64 0, .int .u64 0, .int .u8 0, .string ⟨#[]⟩, .slice none 0 0, .int .i64 0, .int .u64 0, .int .u8 0, .string ⟨#[]⟩, .slice none 0 0, .int .i64 0, .int .u64 0, .int .u8 0, .string ⟨#[]⟩, .slice none 0 0, .slice none 0 0, .slice none 0 0] 122)).cell? ⟨kb, m * 2 + 1, none⟩ = some (.int .i64 ra) := ⟨fun j hj => (World.cell?_alloc_lt _ _ _ (show blk < WD.heap.size by have := HBD.out.size; omega)).trans (SA.1 j hj), (World.cell?_alloc_lt _ _ _ (show kb < WD.heap.size by have := HBD.out.size; omega)).trans SA.2.1, (World.cell?_alloc_lt _ _ _ (show kb < WD.heap.size by have := HBD.out.size; omega)).trans SA.2.2⟩
        have SC : (∀ j, j < vs.length → (WD.alloc (.cells vs.toArray 122)).cell? ⟨blk, off + ra * 21 + j, none⟩ = vs[j]?) ∧ (WD.alloc (.cells vs.toArray 122)).cell? ⟨kb, m * 2, none⟩ = some (.slice (some ⟨blk, off, none⟩) rn rc) ∧ (WD.alloc (.cells vs.toArray 122)).cell? ⟨kb, m * 2 + 1, none⟩ = some (.int .i64 ra) := ⟨fun j hj => (World.cell?_alloc_lt _ _ _ (show blk < WD.heap.size by have := HBD.out.size; omega)).trans (SA.1 j hj), (World.cell?_alloc_lt _ _ _ (show kb < WD.heap.size by have := HBD.out.size; omega)).trans SA.2.1, (World.cell?_alloc_lt _ _ _ (show kb < WD.heap.size by have := HBD.out.size; omega)).trans SA.2.2⟩
        refine Hh.one (i := 10) rfl (by kernel_rfl) rfl (fun K hK => ?_)
        go_simp
        refine hK _ _ SB ?_
        clear hK K
        try simp only [Act.put, zA, zB, zC]
        refine Hh.one (i := 11) rfl (by kernel_rfl) rfl (fun K hK => ?_)
        refine wp_store_row 122 (.tmp 7) (.tmp 49) rfl WD.heap.size vs.toArray rfl rfl 122 #[.int .i64 0, .int .i64 0, .string ⟨#[]⟩, .string ⟨#[]⟩, .int .i64 0, .int .u64 0, .int .u8 0, .string ⟨#[]⟩, .slice none 0 0, .int .i64 0, .int .u64 0, .int .u8 0, .string ⟨#[]⟩, .slice none 0 0, .int .i64 0, .int .u64 0, .int .u8 0, .string ⟨#[]⟩, .slice none 0 0, .slice none 0 0, .slice none 0 0] (heap_alloc_new _ _) (by simpa using HI.out) (by simpa using VL.out.symm) ONE.out ?_
        rw [World.setRow_alloc_new]
        refine hK _ _ SC ?_
        clear hK K SB
        try simp only [Act.put, zA, zB, zC]
        refine Hh.done (by kernel_rfl) ?_ _
        have hb4 := below_new WD (.cells vs.toArray 122)
        have HB4 := Lib.hid (HBD.out.trans (hb4.mono HBD.out.size))
        have G4 := Lib.hid (heap_alloc_new WD (.cells vs.toArray 122))
        have S4 := Lib.hid (S3.out.keep HB4.out)
        have k04 := SC.2.1
        have k14 := SC.2.2
        obtain ⟨gb, hgb⟩ : ∃ g, WD.heap.size = g := ⟨_, rfl⟩
        rw [hgb] at G4 hb4
        try rw [hgb]
        have hg3 : W3.heap.size ≤ gb := by rw [← hgb]; exact HBD.out.size
        obtain ⟨W4, hW4⟩ : ∃ W, WD.alloc (.cells vs.toArray 122) = W := ⟨_, rfl⟩
        have hgl : gb < W4.heap.size := by rw [← hW4, ← hgb]; simp
        rw [hW4] at HB4 G4 S4 k04 k14
        try rw [hW4]
        clear hW4 hgb hb4 SA SC HBD
        have kf4 : ∀ k, W4.frozen? ⟨kb, k, none⟩ = false := fun k => by
          obtain ⟨cur, hty⟩ := S4.out.kr.type (g := kb) rfl
          simp only [World.frozen?, hty]; simp
        have i2 : IntKind.i64.wrap ((ra : Int) + 1) = (ra : Int) + 1 := IntWalk.i64_in _ ⟨by omega, by unfold maxLen at hrm; omega⟩
        go_upto_region 10 with fail
        obtain ⟨rows5, hS5, hr5, hst5, htk5⟩ := S4.out.at_ HRW.out (x := ra + 1) (by omega)
        rw [show (((ra + 1 : Nat) : Int)) = (ra : Int) + 1 by omega] at hS5
        have hkg : kb ≠ gb := by have := hsz; omega
        have OQ := only_q W4 kb (m * 2 + 1) (.int .i64 ((ra : Int) + 1))
        have hkB : B0 ≤ kb := (S4.out.kr.lt kb rfl).1
        have STP5 := stP_only (P := Fr.Lo B0) OQ (fun g hg hh => by simp at hg; unfold Fr.Lo at hh; omega) (stP_only (Only.of_below (F := []) HB4.out) (fun g hg => by cases hg) STP3.out)
        have G5 := (OQ.block gb hgl (by simp; exact fun e => hkg e.symm)).trans G4.out
        have O5 := Lib.hid ((O3.out.trans (Only.of_below (F := []) HB4.out) (fun g hg => by cases hg)).trans OQ (fun g hg => by simp at hg; subst hg; exact HF1.out g (S4.out.fk g rfl)))
        have hgl5 : gb < (W4.setCell ⟨kb, m * 2 + 1, none⟩ (.int .i64 ((ra : Int) + 1))).heap.size := Nat.lt_of_lt_of_le hgl OQ.size
        have hwg : w.heap.size ≤ gb := by have := O3.out.size; omega
        clear OQ k04 k14 kf4 S4 G4 HB4 O3 STP3 S3 hgl
        generalize W4.setCell ⟨kb, m * 2 + 1, none⟩ (.int .i64 ((ra : Int) + 1)) = W5 at *
        have S5 := Lib.hid hS5
        have HR5 := Lib.hid hr5
        have HST5 := Lib.hid hst5
        have HTK5 := Lib.hid htk5
        have G5H := Lib.hid G5
        have HSTP5 := Lib.hid STP5
        obtain ⟨vi, vx, vy, BA, bn, bc, EA, en2, ec, hvs, hi, hx, hy, -, -, hB1, hB2⟩ := STP5
        have XX := Lib.hid (exV_of (B := 0) (fun b _ => Nat.zero_le b) hx)
        have HB1 := Lib.hid hB1
        have HB2 := Lib.hid hB2
        obtain ⟨i0, i1', i2', i3, i4, rfl⟩ := Fr.len5 (Fr.exP_len hi)
        obtain ⟨x0, x1, x2, x3, x4, rfl⟩ := Fr.len5 (Fr.exP_len hx)
        obtain ⟨z0, z1, z2, z3, z4, rfl⟩ := Fr.len5 (Fr.exP_len hy)
        have v0 : vs.toArray[0]? = some (.int .i64 h.kind) := by rw [hvs]; rfl
        have v2 : vs.toArray[2]? = some (.string h.name) := by rw [hvs]; rfl
        have v9 : vs.toArray[9]? = some (x0) := by rw [hvs]; rfl
        have v10 : vs.toArray[10]? = some (x1) := by rw [hvs]; rfl
        have v11 : vs.toArray[11]? = some (x2) := by rw [hvs]; rfl
        have v12 : vs.toArray[12]? = some (x3) := by rw [hvs]; rfl
        have v13 : vs.toArray[13]? = some (x4) := by rw [hvs]; rfl
        have v19 : vs.toArray[19]? = some (.slice BA bn bc) := by rw [hvs]; rfl
        have v20 : vs.toArray[20]? = some (.slice EA en2 ec) := by rw [hvs]; rfl
        clear hS5 hr5 hst5 htk5 hvs hi hx hy hB1 hB2
        have p0 := S5.out.y0
        have p1 := S5.out.y1
        go_upto_region 10 with fail
        obtain ⟨WD, hWD⟩ : ∃ w', W5.drew = w' := ⟨_, rfl⟩
        have HWD : Hid (Below W5.heap.size W5 WD) := Lib.hid (by rw [← hWD]; exact (Below.refl _ _).drew)
        have SA : WD.heap[gb]? = some (.cells vs.toArray 122 (0, 0)) ∧ WD.cell? ⟨p, 0, none⟩ = some (.slice nA nn nnc) ∧ WD.cell? ⟨p, 1, none⟩ = some (.slice vA nn vc) := by
          rw [← hWD]
          exact ⟨G5, p0, p1⟩
        refine Hd.start 11 (fun w' => w'.heap[gb]? = some (.cells vs.toArray 122 (0, 0)) ∧ w'.cell? ⟨p, 0, none⟩ = some (.slice nA nn nnc) ∧ w'.cell? ⟨p, 1, none⟩ = some (.slice vA nn vc)) (by kernel_rfl) ?_
        try rw [hWD]
        clear hWD p0 p1 G5
        refine Hd.take (i := 0) (v := ?vb0) rfl (by decide +kernel) (by decide +kernel) (fun _ _ _ h => h) rfl ?hyb0 SA ?restb0
        case hyb0 =>
          intro wq hSw
          obtain ⟨s1, s2, s3⟩ := hSw
          go_simp
          try with_reducible rfl
        try simp only [Act.put, zA, zB, zC]
        refine Hd.take (i := 1) (v := ?vb1) rfl (by decide +kernel) (by decide +kernel) (fun _ _ _ h => h) rfl ?hyb1 SA ?restb1
        case hyb1 =>
          intro wq hSw
          obtain ⟨s1, s2, s3⟩ := hSw
          have e9 := cells_of s1 v9
          have e10 := cells_of s1 v10
          have e11 := cells_of s1 v11
          have e12 := cells_of s1 v12
          have e13 := cells_of s1 v13
          go_simp
          try with_reducible rfl
        try simp only [Act.put, zA, zB, zC]
        refine Hd.take (i := 2) (v := ?vb2) rfl (by decide +kernel) (by decide +kernel) (fun _ _ _ h => h) rfl ?hyb2 SA ?restb2
        case hyb2 =>
          intro wq hSw
          obtain ⟨s1, s2, s3⟩ := hSw
          go_simp
          try with_reducible rfl
        try simp only [Act.put, zA, zB, zC]
        refine Hd.take (i := 3) (v := ?vb3) rfl (by decide +kernel) (by decide +kernel) (fun _ _ _ h => h) rfl ?hyb3 SA ?restb3
        case hyb3 =>
          intro wq hSw
          obtain ⟨s1, s2, s3⟩ := hSw
          go_simp
          try with_reducible rfl
        try simp only [Act.put, zA, zB, zC]
        refine Hd.take (i := 4) (v := ?vb4) rfl (by decide +kernel) (by decide +kernel) (fun _ _ _ h => h) rfl ?hyb4 SA ?restb4
        case hyb4 =>
          intro wq hSw
          obtain ⟨s1, s2, s3⟩ := hSw
          go_simp
          try with_reducible rfl
        try simp only [Act.put, zA, zB, zC]
        refine Hd.take (i := 5) (v := ?vb5) rfl (by decide +kernel) (by decide +kernel) (fun _ _ _ h => h) rfl ?hyb5 SA ?restb5
        case hyb5 =>
          intro wq hSw
          obtain ⟨s1, s2, s3⟩ := hSw
          go_simp
          try with_reducible rfl
        try simp only [Act.put, zA, zB, zC]
        refine Hd.take (i := 6) (v := ?vb6) rfl (by decide +kernel) (by decide +kernel) (fun _ _ _ h => h) rfl ?hyb6 SA ?restb6
        case hyb6 =>
          intro wq hSw
          obtain ⟨s1, s2, s3⟩ := hSw
          go_simp
          try with_reducible rfl
        try simp only [Act.put, zA, zB, zC]
        refine Hd.take (i := 7) (v := ?vb7) rfl (by decide +kernel) (by decide +kernel) (fun _ _ _ h => h) rfl ?hyb7 SA ?restb7
        case hyb7 =>
          intro wq hSw
          obtain ⟨s1, s2, s3⟩ := hSw
          go_simp
          try with_reducible rfl
        try simp only [Act.put, zA, zB, zC]
        refine Hd.take (i := 8) (v := ?vb8) rfl (by decide +kernel) (by decide +kernel) (fun _ _ _ h => h) rfl ?hyb8 SA ?restb8
        case hyb8 =>
          intro wq hSw
          obtain ⟨s1, s2, s3⟩ := hSw
          go_simp
          try with_reducible rfl
        try simp only [Act.put, zA, zB, zC]
        refine Hd.take (i := 9) (v := ?vb9) rfl (by decide +kernel) (by decide +kernel) (fun _ _ _ h => h) rfl ?hyb9 SA ?restb9
        case hyb9 =>
          intro wq hSw
          obtain ⟨s1, s2, s3⟩ := hSw
          go_simp
          try with_reducible rfl
        try simp only [Act.put, zA, zB, zC]
        refine Hd.one (i := 10) rfl (by kernel_rfl) rfl (fun K hK => ?_)
        go_simp
        have T2 := Lib.hid (S5.out.keep HWD.out)
        refine (eval_any h.x (exV_keep HWD.out XX.out) T2.out.isn T2.out.isv T2.out.n2).mono ?_
        rintro e W6 ⟨rfl, hb2⟩
        have BW6 := Lib.hid (HWD.out.trans (hb2.mono HWD.out.size))
        have SB : W6.heap[gb]? = some (.cells vs.toArray 122 (0, 0)) ∧ W6.cell? ⟨p, 0, none⟩ = some (.slice nA nn nnc) ∧ W6.cell? ⟨p, 1, none⟩ = some (.slice vA nn vc) := ⟨(hb2.block _ (Nat.lt_of_lt_of_le hgl5 HWD.out.size)).trans SA.1, (hb2.cell (p := ⟨p, 0, none⟩) T2.out.qlt).trans SA.2.1, (hb2.cell (p := ⟨p, 1, none⟩) T2.out.qlt).trans SA.2.2⟩
        refine hK _ _ (fun _ => SB) ?_
        clear hK K hb2 SA T2
        try simp only [Act.put, zA, zB, zC]
        obtain ⟨vx', hvx⟩ : ∃ x, evalE names v1 h.x = x := ⟨_, rfl⟩
        rw [hvx]
        have HVX := Lib.hid hvx
        clear hvx
        refine Hd.one (i := 11) rfl (by kernel_rfl) rfl (fun K hK => ?_)
        go_simp
        refine hK _ _ (fun h => absurd h (by omega)) ?_
        clear hK K
        try simp only [Act.put, zA, zB, zC]
        refine Hd.one (i := 12) rfl (by kernel_rfl) rfl (fun K hK => ?_)
        go_simp
        refine hK _ _ (fun h => absurd h (by omega)) ?_
        clear hK K
        try simp only [Act.put, zA, zB, zC]
        refine Hd.done (by kernel_rfl) ?_ _
        have S6 := Lib.hid (S5.out.keep BW6.out)
        have G6 := SB.1
        have GG6 := Lib.hid SB.1
        have O6 := Lib.hid (O5.out.trans (Only.of_below (F := []) BW6.out) (fun g hg => by cases hg))
        have XX6 := Lib.hid (exV_keep BW6.out XX.out)
        have STP6 := Lib.hid (stP_only (Only.of_below (F := []) BW6.out) (fun g hg => by cases hg) HSTP5.out)
        have HB16 := Lib.hid (isP_only (Only.of_below (F := []) BW6.out) (fun g hg => by cases hg) HB1.out)
        have HB26 := Lib.hid (isP_only (Only.of_below (F := []) BW6.out) (fun g hg => by cases hg) HB2.out)
        have hgl6 := Nat.lt_of_lt_of_le hgl5 BW6.out.size
        obtain ⟨bx, hbx⟩ : ∃ b, (vx' != 0) = b := ⟨_, rfl⟩
        try rw [hbx]
        have HBX := Lib.hid hbx
        have k0 := cells_of G6 v0
        clear SB hbx HWD S5 O5 XX HSTP5 HB1 HB2 hgl5 BW6 G6
        have HST6 : Hid (stk rows5 = rest :: s1) := Lib.hid (by rw [HST5.out, HREST.out, HST1.out])
        have HR6 := Lib.hid (show rest = Fr.dropB rb (ra + 1) from HREST.out)
        by_cases e0 : h.kind = 0
        · rw [e0] at k0
          have HE := Lib.hid e0
          clear e0
          have g6 := GG6.out
          have p0 := S6.out.y0
          have p1 := S6.out.y1
          go_upto_region 13 with fail
          obtain ⟨WD, hWD⟩ : ∃ w', W6.drew = w' := ⟨_, rfl⟩
          have HWD : Hid (Below W6.heap.size W6 WD) := Lib.hid (by rw [← hWD]; exact (Below.refl _ _).drew)
          have SA : WD.heap[gb]? = some (.cells vs.toArray 122 (0, 0)) ∧ WD.cell? ⟨p, 0, none⟩ = some (.slice nA nn nnc) ∧ WD.cell? ⟨p, 1, none⟩ = some (.slice vA nn vc) := by
            rw [← hWD]
            exact ⟨g6, p0, p1⟩
          refine Hd.start 14 (fun w' => w'.heap[gb]? = some (.cells vs.toArray 122 (0, 0)) ∧ w'.cell? ⟨p, 0, none⟩ = some (.slice nA nn nnc) ∧ w'.cell? ⟨p, 1, none⟩ = some (.slice vA nn vc)) (by kernel_rfl) ?_
          try rw [hWD]
          clear hWD p0 p1 g6
          refine Hd.take (i := 0) (v := ?vc0) rfl (by decide +kernel) (by decide +kernel) (fun _ _ _ h => h) rfl ?hyc0 SA ?restc0
          case hyc0 =>
            intro wq hSw
            obtain ⟨s1, s2, s3⟩ := hSw
            go_simp
            try with_reducible rfl
          try simp only [Act.put, zA, zB, zC]
          refine Hd.take (i := 1) (v := ?vc1) rfl (by decide +kernel) (by decide +kernel) (fun _ _ _ h => h) rfl ?hyc1 SA ?restc1
          case hyc1 =>
            intro wq hSw
            obtain ⟨s1, s2, s3⟩ := hSw
            go_simp
            try with_reducible rfl
          try simp only [Act.put, zA, zB, zC]
          refine Hd.take (i := 2) (v := ?vc2) rfl (by decide +kernel) (by decide +kernel) (fun _ _ _ h => h) rfl ?hyc2 SA ?restc2
          case hyc2 =>
            intro wq hSw
            obtain ⟨s1, s2, s3⟩ := hSw
            have e2 := cells_of s1 v2
            go_simp
            try with_reducible rfl
          try simp only [Act.put, zA, zB, zC]
          refine Hd.take (i := 3) (v := ?vc3) rfl (by decide +kernel) (by decide +kernel) (fun _ _ _ h => h) rfl ?hyc3 SA ?restc3
          case hyc3 =>
            intro wq hSw
            obtain ⟨s1, s2, s3⟩ := hSw
            go_simp
            try with_reducible rfl
          try simp only [Act.put, zA, zB, zC]
          refine Hd.take (i := 4) (v := ?vc4) rfl (by decide +kernel) (by decide +kernel) (fun _ _ _ h => h) rfl ?hyc4 SA ?restc4
          case hyc4 =>
            intro wq hSw
            obtain ⟨s1, s2, s3⟩ := hSw
            have e9 := cells_of s1 v9
            have e10 := cells_of s1 v10
            have e11 := cells_of s1 v11
            have e12 := cells_of s1 v12
            have e13 := cells_of s1 v13
            go_simp
            try with_reducible rfl
          try simp only [Act.put, zA, zB, zC]
          refine Hd.take (i := 5) (v := ?vc5) rfl (by decide +kernel) (by decide +kernel) (fun _ _ _ h => h) rfl ?hyc5 SA ?restc5
          case hyc5 =>
            intro wq hSw
            obtain ⟨s1, s2, s3⟩ := hSw
            go_simp
            try with_reducible rfl
          try simp only [Act.put, zA, zB, zC]
          refine Hd.take (i := 6) (v := ?vc6) rfl (by decide +kernel) (by decide +kernel) (fun _ _ _ h => h) rfl ?hyc6 SA ?restc6
          case hyc6 =>
            intro wq hSw
            obtain ⟨s1, s2, s3⟩ := hSw
            go_simp
            try with_reducible rfl
          try simp only [Act.put, zA, zB, zC]
          refine Hd.take (i := 7) (v := ?vc7) rfl (by decide +kernel) (by decide +kernel) (fun _ _ _ h => h) rfl ?hyc7 SA ?restc7
          case hyc7 =>
            intro wq hSw
            obtain ⟨s1, s2, s3⟩ := hSw
            go_simp
            try with_reducible rfl
          try simp only [Act.put, zA, zB, zC]
          refine Hd.take (i := 8) (v := ?vc8) rfl (by decide +kernel) (by decide +kernel) (fun _ _ _ h => h) rfl ?hyc8 SA ?restc8
          case hyc8 =>
            intro wq hSw
            obtain ⟨s1, s2, s3⟩ := hSw
            go_simp
            try with_reducible rfl
          try simp only [Act.put, zA, zB, zC]
          refine Hd.take (i := 9) (v := ?vc9) rfl (by decide +kernel) (by decide +kernel) (fun _ _ _ h => h) rfl ?hyc9 SA ?restc9
          case hyc9 =>
            intro wq hSw
            obtain ⟨s1, s2, s3⟩ := hSw
            go_simp
            try with_reducible rfl
          try simp only [Act.put, zA, zB, zC]
          refine Hd.take (i := 10) (v := ?vc10) rfl (by decide +kernel) (by decide +kernel) (fun _ _ _ h => h) rfl ?hyc10 SA ?restc10
          case hyc10 =>
            intro wq hSw
            obtain ⟨s1, s2, s3⟩ := hSw
            go_simp
            try with_reducible rfl
          try simp only [Act.put, zA, zB, zC]
          refine Hd.take (i := 11) (v := ?vc11) rfl (by decide +kernel) (by decide +kernel) (fun _ _ _ h => h) rfl ?hyc11 SA ?restc11
          case hyc11 =>
            intro wq hSw
            obtain ⟨s1, s2, s3⟩ := hSw
            go_simp
            try with_reducible rfl
          try simp only [Act.put, zA, zB, zC]
          refine Hd.take (i := 12) (v := ?vc12) rfl (by decide +kernel) (by decide +kernel) (fun _ _ _ h => h) rfl ?hyc12 SA ?restc12
          case hyc12 =>
            intro wq hSw
            obtain ⟨s1, s2, s3⟩ := hSw
            go_simp
            try with_reducible rfl
          try simp only [Act.put, zA, zB, zC]
          refine Hd.one (i := 13) rfl (by kernel_rfl) rfl (fun K hK => ?_)
          go_simp
          have T2 := Lib.hid (S6.out.keep HWD.out)
          refine (eval_any h.x (exV_keep HWD.out XX6.out) T2.out.isn T2.out.isv T2.out.n2).mono ?_
          rintro e W7 ⟨rfl, hb2⟩
          have BW7 := Lib.hid (HWD.out.trans (hb2.mono HWD.out.size))
          have SB : W7.heap[gb]? = some (.cells vs.toArray 122 (0, 0)) ∧ W7.cell? ⟨p, 0, none⟩ = some (.slice nA nn nnc) ∧ W7.cell? ⟨p, 1, none⟩ = some (.slice vA nn vc) := ⟨(hb2.block _ (Nat.lt_of_lt_of_le hgl6 HWD.out.size)).trans SA.1, (hb2.cell (p := ⟨p, 0, none⟩) T2.out.qlt).trans SA.2.1, (hb2.cell (p := ⟨p, 1, none⟩) T2.out.qlt).trans SA.2.2⟩
          refine hK _ _ (fun _ => SB) ?_
          clear hK K hb2 SA T2
          try simp only [Act.put, zA, zB, zC]
          have S7 := Lib.hid (S6.out.keep BW7.out)
          rw [HVX.out]
          refine Hd.one (i := 14) rfl (by kernel_rfl) rfl (fun K hK => ?_)
          go_simp
          refine (sput_any h.name _ ⟨_, _, _, _, _, _, _, _, _, S7.out, HST6.out⟩).mono ?_
          rintro e w8 ⟨rfl, hS8, hO8⟩
          refine hK _ _ (fun h => absurd h (by omega)) ?_
          have S8 := Lib.hid hS8
          have O8 := Lib.hid ((O6.out.trans (Only.of_below (F := []) BW7.out) (fun g hg => by cases hg)).trans hO8 HF1.out)
          clear hK K SB hS8 hO8
          try simp only [Act.put, zA, zB, zC]
          refine Hd.done (by kernel_rfl) ?_ _
          go_wp2_with fail
          go_roundw
          case rel => exact ⟨k + 1, HK1.out, by go_num, Lp.step HK1.out GS.out HDN.out (by rw [HE.out]; rfl) (by unfold quietS; rw [if_pos HE.out, HVX.out]) S8.out HF1.out O8.out (fun b hb => by
            rcases List.mem_cons.1 hb with rfl | hb
            · exact HCEL.out.1.2.2.2
            · exact HCEL.out.2 b hb)⟩
          case measure => have := HK1.out; simp [intOf]; omega
        by_cases e6 : h.kind = 6
        · rw [e6] at k0
          have HE := Lib.hid e6
          clear e0 e6
          obtain ⟨kn6, hkn6⟩ : ∃ x, m + 1 = x := ⟨_, rfl⟩
          rw [hkn6] at S6
          have hl6 := S6.out.lenk
          cases bx with
          | true =>
            have HZ : Hid (¬ evalE names v1 h.x = 0) := Lib.hid (by rw [HVX.out]; have := HBX.out; simpa using this)
            have g6 := GG6.out
            have p2 := S6.out.y2
            go_upto_region 16 with fail
            obtain ⟨WD, hWD⟩ : ∃ w', W6.drew = w' := ⟨_, rfl⟩
            have HWD : Hid (Below W6.heap.size W6 WD) := Lib.hid (by rw [← hWD]; exact (Below.refl _ _).drew)
            have SA : WD.heap[gb]? = some (.cells vs.toArray 122 (0, 0)) ∧ WD.cell? ⟨p, 2, none⟩ = some (.slice (some ⟨kb, 0, none⟩) kn6 kc) := by
              rw [← hWD]
              exact ⟨g6, p2⟩
            refine Hd.start 10 (fun w' => w'.heap[gb]? = some (.cells vs.toArray 122 (0, 0)) ∧ w'.cell? ⟨p, 2, none⟩ = some (.slice (some ⟨kb, 0, none⟩) kn6 kc)) (by kernel_rfl) ?_
            try rw [hWD]
            clear hWD p2 g6
            refine Hd.take (i := 0) (v := ?vd0) rfl (by decide +kernel) (by decide +kernel) (fun _ _ _ h => h) rfl ?hyd0 SA ?restd0
            case hyd0 =>
              intro wq hSw
              obtain ⟨s1, s2⟩ := hSw
              go_simp
              try with_reducible rfl
            try simp only [Act.put, zA, zB, zC]
            refine Hd.take (i := 1) (v := ?vd1) rfl (by decide +kernel) (by decide +kernel) (fun _ _ _ h => h) rfl ?hyd1 SA ?restd1
            case hyd1 =>
              intro wq hSw
              obtain ⟨s1, s2⟩ := hSw
              go_simp
              try with_reducible rfl
            try simp only [Act.put, zA, zB, zC]
            refine Hd.take (i := 2) (v := ?vd2) rfl (by decide +kernel) (by decide +kernel) (fun _ _ _ h => h) rfl ?hyd2 SA ?restd2
            case hyd2 =>
              intro wq hSw
              obtain ⟨s1, s2⟩ := hSw
              go_simp
              try with_reducible rfl
            try simp only [Act.put, zA, zB, zC]
            refine Hd.take (i := 3) (v := ?vd3) rfl (by decide +kernel) (by decide +kernel) (fun _ _ _ h => h) rfl ?hyd3 SA ?restd3
            case hyd3 =>
              intro wq hSw
              obtain ⟨s1, s2⟩ := hSw
              go_simp
              try with_reducible rfl
            try simp only [Act.put, zA, zB, zC]
            refine Hd.take (i := 4) (v := ?vd4) rfl (by decide +kernel) (by decide +kernel) (fun _ _ _ h => h) rfl ?hyd4 SA ?restd4
            case hyd4 =>
              intro wq hSw
              obtain ⟨s1, s2⟩ := hSw
              go_simp
              try with_reducible rfl
            try simp only [Act.put, zA, zB, zC]
            refine Hd.take (i := 5) (v := ?vd5) rfl (by decide +kernel) (by decide +kernel) (fun _ _ _ h => h) rfl ?hyd5 SA ?restd5
            case hyd5 =>
              intro wq hSw
              obtain ⟨s1, s2⟩ := hSw
              go_simp
              try with_reducible rfl
            try simp only [Act.put, zA, zB, zC]
            refine Hd.take (i := 6) (v := ?vd6) rfl (by decide +kernel) (by decide +kernel) (fun _ _ _ h => h) rfl ?hyd6 SA ?restd6
            case hyd6 =>
              intro wq hSw
              obtain ⟨s1, s2⟩ := hSw
              have e19 := cells_of s1 v19
              go_simp
              try with_reducible rfl
            try simp only [Act.put, zA, zB, zC]
            refine Hd.take (i := 7) (v := ?vd7) rfl (by decide +kernel) (by decide +kernel) (fun _ _ _ h => h) rfl ?hyd7 SA ?restd7
            case hyd7 =>
              intro wq hSw
              obtain ⟨s1, s2⟩ := hSw
              go_simp
              try with_reducible rfl
            try simp only [Act.put, zA, zB, zC]
            have hkb6 := S6.out.knb
            have SD := Lib.hid (S6.out.keep HWD.out)
            have SB : (WD.alloc (.cells #[.slice BA bn bc, .int .i64 0] 116)).heap[gb]? = some (.cells vs.toArray 122 (0, 0)) ∧ (WD.alloc (.cells #[.slice BA bn bc, .int .i64 0] 116)).cell? ⟨p, 2, none⟩ = some (.slice (some ⟨kb, 0, none⟩) kn6 kc) := ⟨(Below.heap_alloc _ _ _ (Nat.lt_of_lt_of_le hgl6 HWD.out.size)).trans SA.1, (World.cell?_alloc_lt _ _ _ (show p < WD.heap.size from SD.out.qlt)).trans SA.2⟩
            refine Hd.one (i := 8) rfl (by kernel_rfl) rfl (fun K hK => ?_)
            go_simp
            refine hK _ _ (fun _ => SB) ?_
            clear hK K
            try simp only [Act.put, zA, zB, zC]
            refine Hd.one (i := 9) rfl (by kernel_rfl) rfl (fun K hK => ?_)
            refine wp_app _ _ _ rfl elLv B0 (some ⟨kb, 0, none⟩) kn6 kc (rows5.map lvL) rfl (SD.out.kr.keep (below_new _ _)) (some ⟨WD.heap.size, 0, none⟩) 1 1 (fun _ => [.slice BA bn bc, .int .i64 0]) rfl (sl_one WD [.slice BA bn bc, .int .i64 0] 116) (fun _ _ => rfl) (fun _ _ u hu => by simp at hu; rcases hu with rfl | rfl <;> rfl) (by unfold maxLen; omega) (by omega) (Nat.le_trans (show B0 ≤ WD.heap.size by have := SD.out.qlt; have := SD.out.hq; omega) (show WD.heap.size ≤ (WD.alloc (.cells #[.slice BA bn bc, .int .i64 0] 116)).heap.size by simp)) ?_
            intro A2 c2 w8 hown8 hg8 hat8
            have hO8 := grown_out2 hg8
            have hat9 : A2.map (·.block) = (some (⟨kb, 0, none⟩ : Addr)).map (·.block) ∨ ∀ b, A2.map (·.block) = some b → WD.heap.size ≤ b := hat8.imp id (fun e b hb => by rw [e] at hb; injection hb with hb; subst hb; simp)
            have hown9 : Own w8 B0 116 2 A2 (kn6 + 1) c2 ((rows5 ++ [(⟨BA, bn, bc, b1, 0⟩ : Lv)]).map lvL) := by simpa [lvL] using hown8
            have hpn : p ∉ ((some (⟨kb, 0, none⟩ : Addr)).map (·.block)).toList := fun hx => SD.out.qk (Fr.mem_blk.1 hx)
            have hgn : gb ∉ ((some (⟨kb, 0, none⟩ : Addr)).map (·.block)).toList := fun hx => by have e := Fr.mem_blk.1 hx; simp at e; exact hkg e
            have SC : w8.heap[gb]? = some (.cells vs.toArray 122 (0, 0)) ∧ w8.cell? ⟨p, 2, none⟩ = some (.slice (some ⟨kb, 0, none⟩) kn6 kc) := ⟨(hO8.block gb (Nat.lt_of_lt_of_le hgl6 HWD.out.size) hgn).trans SA.1, (only_cell hO8 SD.out.qlt hpn 2).trans SA.2⟩
            refine hK _ _ (fun _ => SC) ?_
            have P8 := Lib.hid (SD.out.push (r := ⟨BA, bn, bc, b1, 0⟩) hown9 hO8 hat9 (isP_only (Only.of_below (F := []) HWD.out) (fun g hg => by cases hg) HB16.out) (Nat.zero_le _) (by have := HBZ.out; dsimp only; omega))
            have y82 := SC.2
            have f8 : ∀ i, w8.frozen? ⟨p, i, none⟩ = false := fun i => by
              have hbq := (hO8.block p SD.out.qlt hpn).trans SD.out.blk
              simp only [World.frozen?, hbq]; simp
            have hwd : w.heap.size ≤ WD.heap.size := Nat.le_trans O6.out.size HWD.out.size
            have O8 : Hid (Only F w (w8.setCell ⟨p, 2, none⟩ (.slice A2 (kn6 + 1) c2))) := Lib.hid (((O6.out.trans (Only.of_below (F := []) HWD.out) (fun g hg => by cases hg)).trans hO8 (fun g hg => HF1.out g (SD.out.fk g (Fr.mem_blk.1 hg)))).trans (only_q w8 p 2 (.slice A2 (kn6 + 1) c2)) (fun g hg => by simp at hg; subst hg; exact HF1.out g SD.out.fq))
            have F8 : Hid (∀ g ∈ p :: ((vA.map (·.block)).toList ++ ((A2.map (·.block)).toList ++ (nA.map (·.block)).toList)), g ∈ F ∨ w.heap.size ≤ g) := Lib.hid (fun g hg => by
              rcases List.mem_cons.1 hg with rfl | hg
              · exact HF1.out g SD.out.fq
              · rcases List.mem_append.1 hg with hg | hg
                · exact HF1.out g (SD.out.fv g (Fr.mem_blk.1 hg))
                · rcases List.mem_append.1 hg with hg | hg
                  · rcases hat9 with e | e
                    · rw [e] at hg; exact HF1.out g (SD.out.fk g (Fr.mem_blk.1 hg))
                    · exact .inr (Nat.le_trans hwd (e g (Fr.mem_blk.1 hg)))
                  · exact HF1.out g (SD.out.fn g (Fr.mem_blk.1 hg)))
            clear hK K SA SB SC hown8 hown9 hg8 hat8 hO8 hat9 hpn hgn
            try simp only [Act.put, zA, zB, zC]
            refine Hd.one (i := 10) rfl (by kernel_rfl) rfl (fun K hK => ?_)
            go_simp
            refine hK _ _ (fun h => absurd h (by omega)) ?_
            clear hK K
            try simp only [Act.put, zA, zB, zC]
            refine Hd.one (i := 11) rfl (by kernel_rfl) rfl (fun K hK => ?_)
            go_simp
            refine hK _ _ (fun h => absurd h (by omega)) ?_
            clear hK K
            try simp only [Act.put, zA, zB, zC]
            refine Hd.one (i := 12) rfl (by kernel_rfl) rfl (fun K hK => ?_)
            go_simp
            refine hK _ _ (fun h => absurd h (by omega)) ?_
            clear hK K
            try simp only [Act.put, zA, zB, zC]
            refine Hd.done (by kernel_rfl) ?_ _
            go_wp2_with fail
            go_roundw
            case rel => exact ⟨k + 1, HK1.out, by go_num, Lp.step HK1.out GS.out HDN.out (by rw [HE.out]; rfl) (by
              unfold quietS
              rw [if_neg (by rw [HE.out]; decide), if_pos HE.out, if_neg HZ.out]) (Sr.of P8.out (by rw [stk_snoc]; unfold remn; rw [HST6.out]; cases b1 <;> rfl)) F8.out O8.out (fun b hb => by
              rcases List.mem_cons.1 hb with rfl | hb
              · exact HCEL.out.1.2.1 (.inl HE.out)
              · rcases List.mem_cons.1 hb with rfl | hb
                · exact HCEL.out.1.2.2.2
                · exact HCEL.out.2 b hb
            )⟩
            case measure => have := HK1.out; simp [intOf]; omega
          | false =>
            have HZ : Hid (evalE names v1 h.x = 0) := Lib.hid (by rw [HVX.out]; have := HBX.out; simpa using this)
            have g6 := GG6.out
            have p2 := S6.out.y2
            go_upto_region 17 with fail
            obtain ⟨WD, hWD⟩ : ∃ w', W6.drew = w' := ⟨_, rfl⟩
            have HWD : Hid (Below W6.heap.size W6 WD) := Lib.hid (by rw [← hWD]; exact (Below.refl _ _).drew)
            have SA : WD.heap[gb]? = some (.cells vs.toArray 122 (0, 0)) ∧ WD.cell? ⟨p, 2, none⟩ = some (.slice (some ⟨kb, 0, none⟩) kn6 kc) := by
              rw [← hWD]
              exact ⟨g6, p2⟩
            refine Hd.start 10 (fun w' => w'.heap[gb]? = some (.cells vs.toArray 122 (0, 0)) ∧ w'.cell? ⟨p, 2, none⟩ = some (.slice (some ⟨kb, 0, none⟩) kn6 kc)) (by kernel_rfl) ?_
            try rw [hWD]
            clear hWD p2 g6
            refine Hd.take (i := 0) (v := ?ve0) rfl (by decide +kernel) (by decide +kernel) (fun _ _ _ h => h) rfl ?hye0 SA ?reste0
            case hye0 =>
              intro wq hSw
              obtain ⟨s1, s2⟩ := hSw
              go_simp
              try with_reducible rfl
            try simp only [Act.put, zA, zB, zC]
            refine Hd.take (i := 1) (v := ?ve1) rfl (by decide +kernel) (by decide +kernel) (fun _ _ _ h => h) rfl ?hye1 SA ?reste1
            case hye1 =>
              intro wq hSw
              obtain ⟨s1, s2⟩ := hSw
              go_simp
              try with_reducible rfl
            try simp only [Act.put, zA, zB, zC]
            refine Hd.take (i := 2) (v := ?ve2) rfl (by decide +kernel) (by decide +kernel) (fun _ _ _ h => h) rfl ?hye2 SA ?reste2
            case hye2 =>
              intro wq hSw
              obtain ⟨s1, s2⟩ := hSw
              go_simp
              try with_reducible rfl
            try simp only [Act.put, zA, zB, zC]
            refine Hd.take (i := 3) (v := ?ve3) rfl (by decide +kernel) (by decide +kernel) (fun _ _ _ h => h) rfl ?hye3 SA ?reste3
            case hye3 =>
              intro wq hSw
              obtain ⟨s1, s2⟩ := hSw
              go_simp
              try with_reducible rfl
            try simp only [Act.put, zA, zB, zC]
            refine Hd.take (i := 4) (v := ?ve4) rfl (by decide +kernel) (by decide +kernel) (fun _ _ _ h => h) rfl ?hye4 SA ?reste4
            case hye4 =>
              intro wq hSw
              obtain ⟨s1, s2⟩ := hSw
              go_simp
              try with_reducible rfl
            try simp only [Act.put, zA, zB, zC]
            refine Hd.take (i := 5) (v := ?ve5) rfl (by decide +kernel) (by decide +kernel) (fun _ _ _ h => h) rfl ?hye5 SA ?reste5
            case hye5 =>
              intro wq hSw
              obtain ⟨s1, s2⟩ := hSw
              go_simp
              try with_reducible rfl
            try simp only [Act.put, zA, zB, zC]
            refine Hd.take (i := 6) (v := ?ve6) rfl (by decide +kernel) (by decide +kernel) (fun _ _ _ h => h) rfl ?hye6 SA ?reste6
            case hye6 =>
              intro wq hSw
              obtain ⟨s1, s2⟩ := hSw
              have e19 := cells_of s1 v20
              go_simp
              try with_reducible rfl
            try simp only [Act.put, zA, zB, zC]
            refine Hd.take (i := 7) (v := ?ve7) rfl (by decide +kernel) (by decide +kernel) (fun _ _ _ h => h) rfl ?hye7 SA ?reste7
            case hye7 =>
              intro wq hSw
              obtain ⟨s1, s2⟩ := hSw
              go_simp
              try with_reducible rfl
            try simp only [Act.put, zA, zB, zC]
            have hkb6 := S6.out.knb
            have SD := Lib.hid (S6.out.keep HWD.out)
            have SB : (WD.alloc (.cells #[.slice EA en2 ec, .int .i64 0] 116)).heap[gb]? = some (.cells vs.toArray 122 (0, 0)) ∧ (WD.alloc (.cells #[.slice EA en2 ec, .int .i64 0] 116)).cell? ⟨p, 2, none⟩ = some (.slice (some ⟨kb, 0, none⟩) kn6 kc) := ⟨(Below.heap_alloc _ _ _ (Nat.lt_of_lt_of_le hgl6 HWD.out.size)).trans SA.1, (World.cell?_alloc_lt _ _ _ (show p < WD.heap.size from SD.out.qlt)).trans SA.2⟩
            refine Hd.one (i := 8) rfl (by kernel_rfl) rfl (fun K hK => ?_)
            go_simp
            refine hK _ _ (fun _ => SB) ?_
            clear hK K
            try simp only [Act.put, zA, zB, zC]
            refine Hd.one (i := 9) rfl (by kernel_rfl) rfl (fun K hK => ?_)
            refine wp_app _ _ _ rfl elLv B0 (some ⟨kb, 0, none⟩) kn6 kc (rows5.map lvL) rfl (SD.out.kr.keep (below_new _ _)) (some ⟨WD.heap.size, 0, none⟩) 1 1 (fun _ => [.slice EA en2 ec, .int .i64 0]) rfl (sl_one WD [.slice EA en2 ec, .int .i64 0] 116) (fun _ _ => rfl) (fun _ _ u hu => by simp at hu; rcases hu with rfl | rfl <;> rfl) (by unfold maxLen; omega) (by omega) (Nat.le_trans (show B0 ≤ WD.heap.size by have := SD.out.qlt; have := SD.out.hq; omega) (show WD.heap.size ≤ (WD.alloc (.cells #[.slice EA en2 ec, .int .i64 0] 116)).heap.size by simp)) ?_
            intro A2 c2 w8 hown8 hg8 hat8
            have hO8 := grown_out2 hg8
            have hat9 : A2.map (·.block) = (some (⟨kb, 0, none⟩ : Addr)).map (·.block) ∨ ∀ b, A2.map (·.block) = some b → WD.heap.size ≤ b := hat8.imp id (fun e b hb => by rw [e] at hb; injection hb with hb; subst hb; simp)
            have hown9 : Own w8 B0 116 2 A2 (kn6 + 1) c2 ((rows5 ++ [(⟨EA, en2, ec, b2, 0⟩ : Lv)]).map lvL) := by simpa [lvL] using hown8
            have hpn : p ∉ ((some (⟨kb, 0, none⟩ : Addr)).map (·.block)).toList := fun hx => SD.out.qk (Fr.mem_blk.1 hx)
            have hgn : gb ∉ ((some (⟨kb, 0, none⟩ : Addr)).map (·.block)).toList := fun hx => by have e := Fr.mem_blk.1 hx; simp at e; exact hkg e
            have SC : w8.heap[gb]? = some (.cells vs.toArray 122 (0, 0)) ∧ w8.cell? ⟨p, 2, none⟩ = some (.slice (some ⟨kb, 0, none⟩) kn6 kc) := ⟨(hO8.block gb (Nat.lt_of_lt_of_le hgl6 HWD.out.size) hgn).trans SA.1, (only_cell hO8 SD.out.qlt hpn 2).trans SA.2⟩
            refine hK _ _ (fun _ => SC) ?_
            have P8 := Lib.hid (SD.out.push (r := ⟨EA, en2, ec, b2, 0⟩) hown9 hO8 hat9 (isP_only (Only.of_below (F := []) HWD.out) (fun g hg => by cases hg) HB26.out) (Nat.zero_le _) (by have := HBZ.out; dsimp only; omega))
            have y82 := SC.2
            have f8 : ∀ i, w8.frozen? ⟨p, i, none⟩ = false := fun i => by
              have hbq := (hO8.block p SD.out.qlt hpn).trans SD.out.blk
              simp only [World.frozen?, hbq]; simp
            have hwd : w.heap.size ≤ WD.heap.size := Nat.le_trans O6.out.size HWD.out.size
            have O8 : Hid (Only F w (w8.setCell ⟨p, 2, none⟩ (.slice A2 (kn6 + 1) c2))) := Lib.hid (((O6.out.trans (Only.of_below (F := []) HWD.out) (fun g hg => by cases hg)).trans hO8 (fun g hg => HF1.out g (SD.out.fk g (Fr.mem_blk.1 hg)))).trans (only_q w8 p 2 (.slice A2 (kn6 + 1) c2)) (fun g hg => by simp at hg; subst hg; exact HF1.out g SD.out.fq))
            have F8 : Hid (∀ g ∈ p :: ((vA.map (·.block)).toList ++ ((A2.map (·.block)).toList ++ (nA.map (·.block)).toList)), g ∈ F ∨ w.heap.size ≤ g) := Lib.hid (fun g hg => by
              rcases List.mem_cons.1 hg with rfl | hg
              · exact HF1.out g SD.out.fq
              · rcases List.mem_append.1 hg with hg | hg
                · exact HF1.out g (SD.out.fv g (Fr.mem_blk.1 hg))
                · rcases List.mem_append.1 hg with hg | hg
                  · rcases hat9 with e | e
                    · rw [e] at hg; exact HF1.out g (SD.out.fk g (Fr.mem_blk.1 hg))
                    · exact .inr (Nat.le_trans hwd (e g (Fr.mem_blk.1 hg)))
                  · exact HF1.out g (SD.out.fn g (Fr.mem_blk.1 hg)))
            clear hK K SA SB SC hown8 hown9 hg8 hat8 hO8 hat9 hpn hgn
            try simp only [Act.put, zA, zB, zC]
            refine Hd.one (i := 10) rfl (by kernel_rfl) rfl (fun K hK => ?_)
            go_simp
            refine hK _ _ (fun h => absurd h (by omega)) ?_
            clear hK K
            try simp only [Act.put, zA, zB, zC]
            refine Hd.one (i := 11) rfl (by kernel_rfl) rfl (fun K hK => ?_)
            go_simp
            refine hK _ _ (fun h => absurd h (by omega)) ?_
            clear hK K
            try simp only [Act.put, zA, zB, zC]
            refine Hd.one (i := 12) rfl (by kernel_rfl) rfl (fun K hK => ?_)
            go_simp
            refine hK _ _ (fun h => absurd h (by omega)) ?_
            clear hK K
            try simp only [Act.put, zA, zB, zC]
            refine Hd.done (by kernel_rfl) ?_ _
            go_wp2_with fail
            go_roundw
            case rel => exact ⟨k + 1, HK1.out, by go_num, Lp.step HK1.out GS.out HDN.out (by rw [HE.out]; rfl) (by
              unfold quietS
              rw [if_neg (by rw [HE.out]; decide), if_pos HE.out, if_pos HZ.out]) (Sr.of P8.out (by rw [stk_snoc]; unfold remn; rw [HST6.out]; cases b2 <;> rfl)) F8.out O8.out (fun b hb => by
              rcases List.mem_cons.1 hb with rfl | hb
              · exact HCEL.out.1.2.2.1 HE.out
              · rcases List.mem_cons.1 hb with rfl | hb
                · exact HCEL.out.1.2.2.2
                · exact HCEL.out.2 b hb
            )⟩
            case measure => have := HK1.out; simp [intOf]; omega
        by_cases e7 : h.kind = 7
        · rw [e7] at k0
          have HE := Lib.hid e7
          clear e0 e6 e7
          cases bx with
          | true =>
            have HZ : Hid (¬ evalE names v1 h.x = 0) := Lib.hid (by rw [HVX.out]; have := HBX.out; simpa using this)
            obtain ⟨rows7, hS7, hr7, hst7, htk7⟩ := S6.out.at_ HR5.out (x := ra) (by omega)
            have i3 : IntKind.i64.wrap ((ra : Int) + 1 - 1) = (ra : Int) := by rw [IntWalk.i64_in _ ⟨by omega, by unfold maxLen at hrm; omega⟩]; omega
            have i4 : IntKind.i64.wrap (ra : Int) = (ra : Int) := IntWalk.i64_in _ ⟨by omega, by unfold maxLen at hrm; omega⟩
            have kf6 : ∀ k, W6.frozen? ⟨kb, k, none⟩ = false := fun k => by
              obtain ⟨cur, hty⟩ := S6.out.kr.type (g := kb) rfl
              simp only [World.frozen?, hty]; simp
            have k16 : W6.cell? ⟨kb, m * 2 + 1, none⟩ = some (.int .i64 ((ra : Int) + 1)) := by
              obtain ⟨kb', e, _, _, c1⟩ := S6.out.cellk (i := m) (by omega)
              injection e with e
              injection e with e
              subst e
              rw [HR5.out] at c1
              simpa using c1
            have OQ7 := only_q W6 kb (m * 2 + 1) (.int .i64 (ra : Int))
            have hkB7 : B0 ≤ kb := (S6.out.kr.lt kb rfl).1
            have hkg7 : kb ≠ gb := hkg
            have GG7 := Lib.hid ((OQ7.block gb hgl6 (by simp; exact fun e => hkg7 e.symm)).trans GG6.out)
            have O7 := Lib.hid (O6.out.trans OQ7 (fun g hg => by simp at hg; subst hg; exact HF1.out g (S6.out.fk g rfl)))
            have HB17 := Lib.hid (isP_only OQ7 (fun g hg hh => by simp at hg; unfold Fr.Lo at hh; omega) HB16.out)
            have HST7 : Hid (stk rows7 = .cons h b1 b2 rest :: s1) := Lib.hid (by rw [hst7, HTK5.out, HDB.out, HST1.out])
            have hgl7 := Nat.lt_of_lt_of_le hgl6 OQ7.size
            go_upto_region 21 with fail
            clear k16 kf6 OQ7 hst7 hr7 htk7 hgl6
            generalize W6.setCell ⟨kb, m * 2 + 1, none⟩ (.int .i64 (ra : Int)) = W7 at *
            have S7 := Lib.hid hS7
            have hgl6 := hgl7
            clear hS7 hgl7
            obtain ⟨kn6, hkn6⟩ : ∃ x, m + 1 = x := ⟨_, rfl⟩
            rw [hkn6] at S7
            have hl6 := S7.out.lenk
            have g6 := GG7.out
            have p2 := S7.out.y2
            go_upto_region 21 with fail
            obtain ⟨WD, hWD⟩ : ∃ w', W7.drew = w' := ⟨_, rfl⟩
            have HWD : Hid (Below W7.heap.size W7 WD) := Lib.hid (by rw [← hWD]; exact (Below.refl _ _).drew)
            have SA : WD.heap[gb]? = some (.cells vs.toArray 122 (0, 0)) ∧ WD.cell? ⟨p, 2, none⟩ = some (.slice (some ⟨kb, 0, none⟩) kn6 kc) := by
              rw [← hWD]
              exact ⟨g6, p2⟩
            refine Hd.start 10 (fun w' => w'.heap[gb]? = some (.cells vs.toArray 122 (0, 0)) ∧ w'.cell? ⟨p, 2, none⟩ = some (.slice (some ⟨kb, 0, none⟩) kn6 kc)) (by kernel_rfl) ?_
            try rw [hWD]
            clear hWD p2 g6
            refine Hd.take (i := 0) (v := ?vf0) rfl (by decide +kernel) (by decide +kernel) (fun _ _ _ h => h) rfl ?hyf0 SA ?restf0
            case hyf0 =>
              intro wq hSw
              obtain ⟨s1, s2⟩ := hSw
              go_simp
              try with_reducible rfl
            try simp only [Act.put, zA, zB, zC]
            refine Hd.take (i := 1) (v := ?vf1) rfl (by decide +kernel) (by decide +kernel) (fun _ _ _ h => h) rfl ?hyf1 SA ?restf1
            case hyf1 =>
              intro wq hSw
              obtain ⟨s1, s2⟩ := hSw
              go_simp
              try with_reducible rfl
            try simp only [Act.put, zA, zB, zC]
            refine Hd.take (i := 2) (v := ?vf2) rfl (by decide +kernel) (by decide +kernel) (fun _ _ _ h => h) rfl ?hyf2 SA ?restf2
            case hyf2 =>
              intro wq hSw
              obtain ⟨s1, s2⟩ := hSw
              go_simp
              try with_reducible rfl
            try simp only [Act.put, zA, zB, zC]
            refine Hd.take (i := 3) (v := ?vf3) rfl (by decide +kernel) (by decide +kernel) (fun _ _ _ h => h) rfl ?hyf3 SA ?restf3
            case hyf3 =>
              intro wq hSw
              obtain ⟨s1, s2⟩ := hSw
              go_simp
              try with_reducible rfl
            try simp only [Act.put, zA, zB, zC]
            refine Hd.take (i := 4) (v := ?vf4) rfl (by decide +kernel) (by decide +kernel) (fun _ _ _ h => h) rfl ?hyf4 SA ?restf4
            case hyf4 =>
              intro wq hSw
              obtain ⟨s1, s2⟩ := hSw
              go_simp
              try with_reducible rfl
            try simp only [Act.put, zA, zB, zC]
            refine Hd.take (i := 5) (v := ?vf5) rfl (by decide +kernel) (by decide +kernel) (fun _ _ _ h => h) rfl ?hyf5 SA ?restf5
            case hyf5 =>
              intro wq hSw
              obtain ⟨s1, s2⟩ := hSw
              go_simp
              try with_reducible rfl
            try simp only [Act.put, zA, zB, zC]
            refine Hd.take (i := 6) (v := ?vf6) rfl (by decide +kernel) (by decide +kernel) (fun _ _ _ h => h) rfl ?hyf6 SA ?restf6
            case hyf6 =>
              intro wq hSw
              obtain ⟨s1, s2⟩ := hSw
              have e19 := cells_of s1 v19
              go_simp
              try with_reducible rfl
            try simp only [Act.put, zA, zB, zC]
            refine Hd.take (i := 7) (v := ?vf7) rfl (by decide +kernel) (by decide +kernel) (fun _ _ _ h => h) rfl ?hyf7 SA ?restf7
            case hyf7 =>
              intro wq hSw
              obtain ⟨s1, s2⟩ := hSw
              go_simp
              try with_reducible rfl
            try simp only [Act.put, zA, zB, zC]
            have hkb6 := S7.out.knb
            have SD := Lib.hid (S7.out.keep HWD.out)
            have SB : (WD.alloc (.cells #[.slice BA bn bc, .int .i64 0] 116)).heap[gb]? = some (.cells vs.toArray 122 (0, 0)) ∧ (WD.alloc (.cells #[.slice BA bn bc, .int .i64 0] 116)).cell? ⟨p, 2, none⟩ = some (.slice (some ⟨kb, 0, none⟩) kn6 kc) := ⟨(Below.heap_alloc _ _ _ (Nat.lt_of_lt_of_le hgl6 HWD.out.size)).trans SA.1, (World.cell?_alloc_lt _ _ _ (show p < WD.heap.size from SD.out.qlt)).trans SA.2⟩
            refine Hd.one (i := 8) rfl (by kernel_rfl) rfl (fun K hK => ?_)
            go_simp
            refine hK _ _ (fun _ => SB) ?_
            clear hK K
            try simp only [Act.put, zA, zB, zC]
            refine Hd.one (i := 9) rfl (by kernel_rfl) rfl (fun K hK => ?_)
            refine wp_app _ _ _ rfl elLv B0 (some ⟨kb, 0, none⟩) kn6 kc (rows7.map lvL) rfl (SD.out.kr.keep (below_new _ _)) (some ⟨WD.heap.size, 0, none⟩) 1 1 (fun _ => [.slice BA bn bc, .int .i64 0]) rfl (sl_one WD [.slice BA bn bc, .int .i64 0] 116) (fun _ _ => rfl) (fun _ _ u hu => by simp at hu; rcases hu with rfl | rfl <;> rfl) (by unfold maxLen; omega) (by omega) (Nat.le_trans (show B0 ≤ WD.heap.size by have := SD.out.qlt; have := SD.out.hq; omega) (show WD.heap.size ≤ (WD.alloc (.cells #[.slice BA bn bc, .int .i64 0] 116)).heap.size by simp)) ?_
            intro A2 c2 w8 hown8 hg8 hat8
            have hO8 := grown_out2 hg8
            have hat9 : A2.map (·.block) = (some (⟨kb, 0, none⟩ : Addr)).map (·.block) ∨ ∀ b, A2.map (·.block) = some b → WD.heap.size ≤ b := hat8.imp id (fun e b hb => by rw [e] at hb; injection hb with hb; subst hb; simp)
            have hown9 : Own w8 B0 116 2 A2 (kn6 + 1) c2 ((rows7 ++ [(⟨BA, bn, bc, b1, 0⟩ : Lv)]).map lvL) := by simpa [lvL] using hown8
            have hpn : p ∉ ((some (⟨kb, 0, none⟩ : Addr)).map (·.block)).toList := fun hx => SD.out.qk (Fr.mem_blk.1 hx)
            have hgn : gb ∉ ((some (⟨kb, 0, none⟩ : Addr)).map (·.block)).toList := fun hx => by have e := Fr.mem_blk.1 hx; simp at e; exact hkg e
            have SC : w8.heap[gb]? = some (.cells vs.toArray 122 (0, 0)) ∧ w8.cell? ⟨p, 2, none⟩ = some (.slice (some ⟨kb, 0, none⟩) kn6 kc) := ⟨(hO8.block gb (Nat.lt_of_lt_of_le hgl6 HWD.out.size) hgn).trans SA.1, (only_cell hO8 SD.out.qlt hpn 2).trans SA.2⟩
            refine hK _ _ (fun _ => SC) ?_
            have P8 := Lib.hid (SD.out.push (r := ⟨BA, bn, bc, b1, 0⟩) hown9 hO8 hat9 (isP_only (Only.of_below (F := []) HWD.out) (fun g hg => by cases hg) HB17.out) (Nat.zero_le _) (by have := HBZ.out; dsimp only; omega))
            have y82 := SC.2
            have f8 : ∀ i, w8.frozen? ⟨p, i, none⟩ = false := fun i => by
              have hbq := (hO8.block p SD.out.qlt hpn).trans SD.out.blk
              simp only [World.frozen?, hbq]; simp
            have hwd : w.heap.size ≤ WD.heap.size := Nat.le_trans O7.out.size HWD.out.size
            have O8 : Hid (Only F w (w8.setCell ⟨p, 2, none⟩ (.slice A2 (kn6 + 1) c2))) := Lib.hid (((O7.out.trans (Only.of_below (F := []) HWD.out) (fun g hg => by cases hg)).trans hO8 (fun g hg => HF1.out g (SD.out.fk g (Fr.mem_blk.1 hg)))).trans (only_q w8 p 2 (.slice A2 (kn6 + 1) c2)) (fun g hg => by simp at hg; subst hg; exact HF1.out g SD.out.fq))
            have F8 : Hid (∀ g ∈ p :: ((vA.map (·.block)).toList ++ ((A2.map (·.block)).toList ++ (nA.map (·.block)).toList)), g ∈ F ∨ w.heap.size ≤ g) := Lib.hid (fun g hg => by
              rcases List.mem_cons.1 hg with rfl | hg
              · exact HF1.out g SD.out.fq
              · rcases List.mem_append.1 hg with hg | hg
                · exact HF1.out g (SD.out.fv g (Fr.mem_blk.1 hg))
                · rcases List.mem_append.1 hg with hg | hg
                  · rcases hat9 with e | e
                    · rw [e] at hg; exact HF1.out g (SD.out.fk g (Fr.mem_blk.1 hg))
                    · exact .inr (Nat.le_trans hwd (e g (Fr.mem_blk.1 hg)))
                  · exact HF1.out g (SD.out.fn g (Fr.mem_blk.1 hg)))
            clear hK K SA SB SC hown8 hown9 hg8 hat8 hO8 hat9 hpn hgn
            try simp only [Act.put, zA, zB, zC]
            refine Hd.one (i := 10) rfl (by kernel_rfl) rfl (fun K hK => ?_)
            go_simp
            refine hK _ _ (fun h => absurd h (by omega)) ?_
            clear hK K
            try simp only [Act.put, zA, zB, zC]
            refine Hd.one (i := 11) rfl (by kernel_rfl) rfl (fun K hK => ?_)
            go_simp
            refine hK _ _ (fun h => absurd h (by omega)) ?_
            clear hK K
            try simp only [Act.put, zA, zB, zC]
            refine Hd.one (i := 12) rfl (by kernel_rfl) rfl (fun K hK => ?_)
            go_simp
            refine hK _ _ (fun h => absurd h (by omega)) ?_
            clear hK K
            try simp only [Act.put, zA, zB, zC]
            refine Hd.done (by kernel_rfl) ?_ _
            go_wp2_with fail
            go_roundw
            case rel => exact ⟨k + 1, HK1.out, by go_num, Lp.step HK1.out GS.out HDN.out (by rw [HE.out]; rfl) (by
              unfold quietS
              rw [if_neg (by rw [HE.out]; decide), if_neg (by rw [HE.out]; decide), if_pos HE.out, if_neg HZ.out]) (Sr.of P8.out (by rw [stk_snoc]; unfold remn; rw [HST7.out]; cases b1 <;> rfl)) F8.out O8.out (fun b hb => by
              rcases List.mem_cons.1 hb with rfl | hb
              · exact HCEL.out.1.2.1 (.inr HE.out)
              · rcases List.mem_cons.1 hb with rfl | hb
                · exact HCEL.out.1
                · exact HCEL.out.2 b hb
            )⟩
            case measure => have := HK1.out; simp [intOf]; omega
          | false =>
            have HZ : Hid (evalE names v1 h.x = 0) := Lib.hid (by rw [HVX.out]; have := HBX.out; simpa using this)
            go_wp2_with fail
            go_roundw
            case rel => exact ⟨k + 1, HK1.out, by go_num, Lp.step HK1.out GS.out HDN.out (by rw [HE.out]; rfl) (by
              unfold quietS
              rw [if_neg (by rw [HE.out]; decide), if_neg (by rw [HE.out]; decide), if_pos HE.out, if_pos HZ.out]) (Sr.of S6.out HST6.out) HF1.out O6.out (fun b hb => by
                rcases List.mem_cons.1 hb with rfl | hb
                · exact HCEL.out.1.2.2.2
                · exact HCEL.out.2 b hb
              )⟩
            case measure => have := HK1.out; simp [intOf]; omega
        by_cases ea : isActS h.kind = true
        · have HEA := Lib.hid ea
          have h4 : h.kind = 1 ∨ h.kind = 2 ∨ h.kind = 3 ∨ h.kind = 5 := by
            unfold isActS at ea
            simp at ea
            omega
          have HR1 : Hid (RR = (0, actS f.cs names h ⟨rest :: s1, v1, now, out⟩)) := Lib.hid (by rw [← GS.out]; exact goS_act HK1.out HDN.out ea)
          have AC := Lib.hid (act_any ea ⟨_, _, _, _, _, R.out.only O6.out (fun g hg => ⟨(HSG.out g hg).1, HD.out g hg⟩)⟩ ⟨_, _, _, _, _, _, _, _, _, S6.out, HST6.out⟩ HDIS.out STP6.out HCEL.out.1.1 HOUT.out)
          have FIN : Hid (∀ w8, ActA W6 B0 q p f G F1 rec_ l false names (actS f.cs names h ⟨rest :: s1, v1, now, out⟩) false en (.returned (.tuple #[])) w8 → GoA w B0 q p f G F rec_ l names en RR (.returned (.bool true)) w8) := Lib.hid (fun w8 hA => by
            obtain ⟨-, G8, hR8, hS8, hO8, hG8⟩ := hA
            have hw6 := O6.out.size
            rw [HR1.out]
            refine ⟨rfl, G8, F1, hR8, hS8, (O6.out.more (fun g hg => List.mem_append_right _ hg)).trans hO8 (fun g hg => ?_), fun g hg => ?_, HF1.out, fun g hg hx => ?_⟩
            · rcases List.mem_append.1 hg with hg | hg
              · exact .inl (List.mem_append_left _ hg)
              · exact (HF1.out g hg).imp (fun e => List.mem_append_right _ e) id
            · exact (hG8 g hg).imp id (fun e => by omega)
            · rcases hG8 g hx with e | e
              · exact HDIS.out g hg e
              · have := (sr_ge S6.out g hg).2; omega)
          have HI2 : Hid ((Try.prog.info? 122).map (·.size) = some vs.toArray.size) := Lib.hid (by rw [List.size_toArray, VL.out]; kernel_rfl)
          have HU2 : Try.prog.underlying 122 = some _ := Try.underlying122
          clear ea e0 e6 e7 STP6 HB16 HB26 XX6
          rcases h4 with e | e | e | e
          · rw [e] at k0
            clear e
            go_wp2_with (first | (refine wpList_load_row rfl 122 (.tmp 7) rfl gb rfl 122 vs.toArray (0, 0) _ GG6.out HU2 rfl HI2.out ?_) | fail)
            refine AC.out.mono ?_
            rintro e w8 hA
            obtain rfl := hA.1
            have HA := Lib.hid hA
            clear hA
            go_wp2_with fail
            go_ret
            exact FIN.out _ HA.out
          · rw [e] at k0
            clear e
            go_wp2_with (first | (refine wpList_load_row rfl 122 (.tmp 7) rfl gb rfl 122 vs.toArray (0, 0) _ GG6.out HU2 rfl HI2.out ?_) | fail)
            refine AC.out.mono ?_
            rintro e w8 hA
            obtain rfl := hA.1
            have HA := Lib.hid hA
            clear hA
            go_wp2_with fail
            go_ret
            exact FIN.out _ HA.out
          · rw [e] at k0
            clear e
            go_wp2_with (first | (refine wpList_load_row rfl 122 (.tmp 7) rfl gb rfl 122 vs.toArray (0, 0) _ GG6.out HU2 rfl HI2.out ?_) | fail)
            refine AC.out.mono ?_
            rintro e w8 hA
            obtain rfl := hA.1
            have HA := Lib.hid hA
            clear hA
            go_wp2_with fail
            go_ret
            exact FIN.out _ HA.out
          · rw [e] at k0
            clear e
            go_wp2_with (first | (refine wpList_load_row rfl 122 (.tmp 7) rfl gb rfl 122 vs.toArray (0, 0) _ GG6.out HU2 rfl HI2.out ?_) | fail)
            refine AC.out.mono ?_
            rintro e w8 hA
            obtain rfl := hA.1
            have HA := Lib.hid hA
            clear hA
            go_wp2_with fail
            go_ret
            exact FIN.out _ HA.out
        · have HEA : Hid (isActS h.kind = false) := Lib.hid (by simpa using ea)
          have n4 : ¬ h.kind = 1 ∧ ¬ h.kind = 2 ∧ ¬ h.kind = 3 ∧ ¬ h.kind = 5 := by
            unfold isActS at ea
            simp at ea
            omega
          obtain ⟨n1, n2, n3, n5⟩ := n4
          have HN : Hid (¬ h.kind = 0 ∧ ¬ h.kind = 6 ∧ ¬ h.kind = 7) := Lib.hid ⟨e0, e6, e7⟩
          clear ea
          go_wp2_with fail
          go_roundw
          case rel => exact ⟨k + 1, HK1.out, by go_num, Lp.step HK1.out GS.out HDN.out HEA.out (by
            unfold quietS
            rw [if_neg HN.out.1, if_neg HN.out.2.1, if_neg HN.out.2.2]) (Sr.of S6.out HST6.out) HF1.out O6.out (fun b hb => by
              rcases List.mem_cons.1 hb with rfl | hb
              · exact HCEL.out.1.2.2.2
              · exact HCEL.out.2 b hb
            )⟩
          case measure => have := HK1.out; simp [intOf]; omega
      · obtain rfl : k = 1000 := by omega
        have HR1 : Hid (RR = (2, ⟨.cons h b1 b2 rest :: s1, v1, now, out⟩)) := Lib.hid (by rw [← GS.out]; exact goS_stuck HDN.out)
        have hpq : p ≠ q := fun e => HDIS.out p S1.out.fp.1 (by rw [e]; exact HQ.out)
        have hqp : q ≠ p := fun e => hpq e.symm
        have q7 := RN1.out.y7
        have qf := RN1.out.free
        go_wp2_with fail
        go_ret
        have hpF := S1.out.fp
        have hpG : ∀ g ∈ [p], B0 ≤ g ∧ g ∉ G := fun g hg => by simp at hg; subst hg; exact ⟨hpF.2.2, HDIS.out _ hpF.1⟩
        have ra := RN1.out.only (only_q w1 p 3 (.bool true)) hpG
        have sa := sr_rn ra (S1.out.flag3 true) HDIS.out (X := [q]) (fun g hg => by simp at hg; subst hg; exact HQ.out) (only_q _ q 7 (.bool true))
        have rb := (ra.flag7 true).only (only_q _ p 4 (.bool false)) hpG
        have sb := sa.flag4 false
        have hn : ∀ (y : World) (j : Nat) (u : Value), Only (G ++ F) w y → Only (G ++ F) w (y.setCell ⟨p, j, none⟩ u) := fun y j u hy => hy.trans (only_q y p j u) (fun g hg => by simp at hg; subst hg; exact (HF1.out _ hpF.1).imp (fun e => List.mem_append_right _ e) id)
        have oc := hn _ 4 (.bool false) ((hn _ 3 (.bool true) (O1.out.more (fun g hg => List.mem_append_right _ hg))).setCell (p := ⟨q, 7, none⟩) (List.mem_append_left _ HQ.out) (.bool true))
        rw [HDN.out] at sb
        rw [HR1.out]
        exact ⟨rfl, G, F1, ⟨_, _, _, _, _, rb⟩, sb, oc, fun g hg => .inl hg, HF1.out, HDIS.out⟩
end Go.Proofs.Ytapnnbbbgopobaa.Rn
