/-
  WALK: the law FlushMeans.
-/
import Derived.Test.YtdhihmeknoofoaaStmDuo
import Derived.Test.YtdhihmeknoofoaaStOpen
namespace Go.Proofs.Ytdhihmeknoofoaa.FlM
set_option linter.unusedVariables false
set_option linter.unusedSimpArgs false
open Go.RowKit Go.WideShapes Go.ChangeShapes Cm Mm Ow Ow2 Me Stp StW StC StM StF StO Rm Sp Sn Sa Sc Sg Sd Sx Sr
open ElM (Cd zeroCd cdL okCd IsCd open_codes)

/-- what is so of the codes made so far; X: the block of the row that has them -/
structure Made (w : World) (ls L : List Cd) (k : Nat) (X : Option Nat) : Prop where
  len : L.length = k
  n : ∀ j, j < k → (ls.getD j zeroCd).n ≤ 60
  x : ∀ j, j < k → (L.getD j zeroCd).x = (ls.getD j zeroCd).x
  l : ∀ j, j < k → (L.getD j zeroCd).l = flush (ls.getD j zeroCd).l
  ok : ∀ j, j < k → okCd w (L.getD j zeroCd)
  n2 : ∀ j, j < k → (L.getD j zeroCd).n ≤ 65536
  far : ∀ j, j < k → 0 < (L.getD j zeroCd).n → ∀ g, (L.getD j zeroCd).A.map (·.block) = some g → X ≠ some g
theorem Made.nil (w : World) (ls : List Cd) : Made w ls [] 0 none := ⟨rfl, fun j hj => absurd hj (by omega), fun j hj => absurd hj (by omega), fun j hj => absurd hj (by omega), fun j hj => absurd hj (by omega), fun j hj => absurd hj (by omega), fun j hj => absurd hj (by omega)⟩
theorem Made.keep {w w' : World} {ls L : List Cd} {k : Nat} {X : Option Nat} (h : Made w ls L k X) (hb : Below w.heap.size w w') : Made w' ls L k X :=
  ⟨h.len, h.n, h.x, h.l, fun j hj => ⟨(h.ok j hj).1, (h.ok j hj).2.1, (h.ok j hj).2.2.keep hb⟩, h.n2, h.far⟩
theorem Made.snoc {w : World} {ls L : List Cd} {k : Nat} {X : Option Nat} (h : Made w ls L k X) {c : Cd} (h1 : (ls.getD k zeroCd).n ≤ 60) (h2 : c.x = (ls.getD k zeroCd).x) (h3 : c.l = flush (ls.getD k zeroCd).l) (h4 : okCd w c) (h5 : c.n ≤ 65536) (h6 : 0 < c.n → ∀ g, c.A.map (·.block) = some g → X ≠ some g) : Made w ls (L ++ [c]) (k + 1) X := by
  have e1 : ∀ j, j < k → (L ++ [c]).getD j zeroCd = L.getD j zeroCd := fun j hj => by
    have : j < L.length := by rw [h.len]; exact hj
    simp [List.getD, List.getElem?_append_left this]
  have e2 : (L ++ [c]).getD k zeroCd = c := by rw [← h.len]; simp [List.getD]
  have key : ∀ (P : Nat → Cd → Prop), (∀ j, j < k → P j (L.getD j zeroCd)) → P k c → ∀ j, j < k + 1 → P j ((L ++ [c]).getD j zeroCd) := fun P p1 p2 j hj => by
    by_cases e : j = k
    · subst e; rw [e2]; exact p2
    · rw [e1 j (by omega)]; exact p1 j (by omega)
  refine ⟨by simp [h.len], fun j hj => ?_, key (fun j d => d.x = (ls.getD j zeroCd).x) h.x h2, key (fun j d => d.l = flush (ls.getD j zeroCd).l) h.l h3, key (fun j d => okCd w d) h.ok h4, key (fun j d => d.n ≤ 65536) h.n2 h5, key (fun j d => 0 < d.n → ∀ g, d.A.map (·.block) = some g → X ≠ some g) h.far h6⟩
  by_cases e : j = k
  · subst e; exact h1
  · exact h.n j (by omega)
theorem Made.app {w w' : World} {ls L : List Cd} {k B : Nat} {X X' : Option Nat} (h : Made w ls L k X) (hb : Below B w w') (hk : ∀ b, b < w.heap.size → X ≠ some b → w'.heap[b]? = w.heap[b]?) (hat : X' = X ∨ ∀ b, X' = some b → w.heap.size ≤ b) : Made w' ls L k X' := by
  refine ⟨h.len, h.n, h.x, h.l, fun j hj => ⟨(h.ok j hj).1, (h.ok j hj).2.1, ?_⟩, h.n2, fun j hj h0 g hg => ?_⟩
  · refine isSt_only0 (h.ok j hj).2.2 (G := X.toList) ⟨hb.os, hb.tape, hb.output, hb.size, fun q hq hn => hk q hq (fun e => hn (by rw [e]; simp))⟩ (fun h0 g hg hm => h.far j hj h0 g hg (by simpa using hm))
  · rcases hat with e | e
    · rw [e]; exact h.far j hj h0 g hg
    · intro e2
      have := e g e2
      have := isSt_lt (h.ok j hj).2.2 h0 g hg
      omega

set_option maxRecDepth 200000 in
set_option maxHeartbeats 12800000 in
theorem walkMeans {H : Type} {enc : TypeId × Value → H} {d0 d1 d3 : DataW H} {P0 P1 P3 : List MemPlace} {r : Reach} {b0 : Nat} (v0 v1 : Value) (words : Int) (v3 : Value) (w : World)
    (k0 : DataW.Trod enc Try.prog w 0 (fun _ => true) true 24 v0 d0 P0) (ok0 : Value.okWide Try.prog w r b0 24 v0)
    (k1 : DataW.Trod enc Try.prog w 0 (fun _ => true) true 32 v1 d1 P1) (ok1 : Value.okWide Try.prog w r b0 32 v1)
    (_ : (Lit.int .i64 words).wf = true)
    (k3 : DataW.Trod enc Try.prog w 0 (fun _ => true) true 33 v3 d3 P3) (ok3 : Value.okWide Try.prog w r b0 33 v3) :
    Calls Try.prog 5 #[v0, v1, .int .i64 words, v3] w fun e w' => e = .returned (.bool true) ∧ Below w.heap.size w w' := by
  obtain ⟨x, y, A, n, cap, l, rfl, hx, hy, hI⟩ := open_code k0 ok0
  obtain ⟨A1, n1, c1, ls, rfl, hC⟩ := open_codes k1 ok1
  obtain ⟨A3, n3, c3, os, rfl, hO⟩ := open_ints k3 ok3
  clear k0 ok0 k1 ok1 k3 ok3
  have HL := Lib.hid hI.1
  have HL1 := Lib.hid hC.1
  obtain ⟨W, hW⟩ : ∃ W, W = w.alloc (.cells #[.int .i64 x, .int .i64 y, .slice A n cap] 24) := ⟨_, rfl⟩
  have hB : Below w.heap.size w W := by rw [hW]; exact below_al _ _
  have hV : Vr W w.heap.size x y A n cap := by rw [hW]; exact vr_new _ _ _ _ _ _ _ _ rfl
  have HI := Lib.hid (hI.keep hB)
  have HC := Lib.hid (hC.keep hB)
  have HOw := Lib.hid hO
  have HV := Lib.hid hV
  have HW := Lib.hid hW
  have hwl : w.heap.size < W.heap.size := hV.lt
  have hB' := Lib.hid hB
  clear hV hW hI hC hO hB hx hy
  go_enter Try.func5, Try.ntmps5
  go_wp2_with fail
  rw [← HW.out]
  refine (alive_any _).mono ?_
  rintro e w2 ⟨rfl, hb2⟩
  obtain ⟨v0, v1, v2, v3⟩ := HV.out.keep hb2
  have BB := Lib.hid (hB'.out.trans (hb2.mono hB'.out.size))
  by_cases hc1 : (4 : Int) < n1
  · go_wp2_with fail
    go_ret
    exact ⟨rfl, BB.out⟩
  by_cases hc2 : (60 : Int) < n
  · go_wp2_with fail
    go_ret
    exact ⟨rfl, BB.out⟩
  by_cases hc3 : (100 : Int) < n3
  · go_wp2_with fail
    go_ret
    exact ⟨rfl, BB.out⟩
  by_cases hc4 : (64 : Int) < words
  · go_wp2_with fail
    go_ret
    exact ⟨rfl, BB.out⟩
  have HV2 := Lib.hid (HV.out.keep hb2)
  have HI2 := Lib.hid (HI.out.keep hb2)
  have HC2 := Lib.hid (HC.out.keep hb2)
  clear v0 v1 v2 v3 hb2
  have z0 := (HV2.out).c2
  go_wp2_with fail
  go_loopw [10, 11] (fun v i wr => ∃ (k cm : Nat) (Am : Option Addr) (L : List Cd), k ≤ n1 ∧ i = .int .i64 k ∧ v = .slice Am k cm ∧ Own wr w2.heap.size 24 3 Am k cm (L.map cdL) ∧ Made wr ls L k (Am.map (·.block)) ∧ Below w2.heap.size w2 wr) (fun _ i _ => n1 - (intOf i).toNat)
  case atStart => exact ⟨0, 0, none, [], by omega, rfl, rfl, Own.nil _ _ _ _, Made.nil _ _, Below.refl _ _⟩
  case round =>
    obtain ⟨k, cm, Am, L, hk, rfl, rfl, hown, hmade, hbel⟩ := hrel
    have HOW := Lib.hid hown
    have HMA := Lib.hid hmade
    clear hown hmade
    have hsz := hbel.size
    have HC3 := Lib.hid (HC2.out.keep hbel)
    by_cases hkn : k < n1
    · obtain ⟨b, o, hA1, hb, s0, s1, s2, hx, hy, hI⟩ := HC3.out.cell (k := k) hkn
      have hcap := HC3.out.2.1.le
      obtain ⟨cd, hcd⟩ : ∃ cd, ls.getD k zeroCd = cd := ⟨_, rfl⟩
      have HSN : Hid (∀ c, cd.n ≤ 60 → c.x = cd.x → c.l = flush cd.l → c.n ≤ 65536 → ∀ wx X, Made wx ls L k X → okCd wx c → (0 < c.n → ∀ g, c.A.map (·.block) = some g → X ≠ some g) → Made wx ls (L ++ [c]) (k + 1) X) := Lib.hid (fun c q1 q2 q3 q4 wx X q5 q6 q7 => q5.snoc (by rw [hcd]; exact q1) (by rw [hcd]; exact q2) (by rw [hcd]; exact q3) q6 q4 q7)
      rw [hcd] at s0 s1 s2 hx hy hI
      clear hcd
      obtain ⟨x1, y1, A4, n4, c4, l4⟩ := cd
      have i1 : (k : Int) < n1 := by omega
      subst hA1
      have HI4 := Lib.hid hI
      have XY := Lib.hid (And.intro hx hy)
      have HL4 := Lib.hid hI.1
      clear hI hx hy
      dsimp only at s0 s1 s2
      by_cases h60 : (60 : Int) < n4
      · go_wp2_with fail
        go_ret
        exact ⟨rfl, BB.out.trans (hbel.mono BB.out.size)⟩
      · go_wp2_with fail
        refine (fcode_any x1 y1 A4 n4 c4 l4 wr HI4.out (by omega)).mono ?_
        rintro e w3 ⟨A5, m5, c5, rfl, hown5, hb5⟩
        have hI5 := isSt_own hown5
        have hm5 : m5 ≤ 65536 := by have := hI5.1; have := flush_len l4; have := HL4.out; omega
        have hs5 := hb5.size
        have HM5 := Lib.hid (HSN.out ⟨x1, y1, A5, m5, c5, flush l4⟩ (by show n4 ≤ 60; omega) rfl rfl hm5 w3 _ (HMA.out.keep hb5) ⟨XY.out.1, XY.out.2, hI5⟩ (fun h0 g hg e => by have h7 := (hown5.lt g hg).1; have h8 := (HOW.out.lt g e).2; omega))
        have HO5 := Lib.hid (HOW.out.keep hb5)
        clear hown5 hI5
        go_wp2_with (at_builtin; refine Ow2.wpList_appN _ rfl _ _ rfl elCd w2.heap.size Am k cm 1 w3.heap.size _ [cdL ⟨x1, y1, A5, m5, c5, flush l4⟩] rfl rfl HO5.out rfl rfl (cd_each _) (cd_ones _) (by unfold maxLen; omega) (by omega) (by omega) _ rfl ?_; intro A6 c6 w6 hown6 hbel6 hkp6 hat6; have HB6 := Lib.hid (hbel.trans ((hb5.mono hsz).trans hbel6)); have HO6 := Lib.hid hown6; have HM6 := Lib.hid (HM5.out.app hbel6 hkp6 hat6); clear hown6 hbel6 hkp6 hat6)
        go_roundw
        case rel => exact ⟨k + 1, c6, A6, L ++ [⟨x1, y1, A5, m5, c5, flush l4⟩], by omega, by go_num, rfl, by rw [List.map_append]; exact HO6.out, HM6.out, HB6.out⟩
        case measure => simp [intOf]; omega
    · obtain rfl : k = n1 := by omega
      clear hkn
      obtain ⟨t0, t1, t2, t3⟩ := HV2.out.keep hbel
      have HI3 := Lib.hid (HI2.out.keep hbel)
      have CL := Lib.hid (isCd_own HOW.out HMA.out.ok)
      have BW1 := Lib.hid (BB.out.trans (hbel.mono BB.out.size))
      have hn' : n ≤ 65536 := by omega
      have LA := Lib.hid HMA.out.len
      have cod1 : ∀ i, i < ls.length → Cod wr (fun q => q < wr.heap.size) (ls.getD i zeroCd) := fun i hi => by
        have hi' : i < k := by have := HL1.out; omega
        exact ⟨Nat.le_trans (HMA.out.n i hi') (by decide), (HC3.out.2.2 i hi').2.2, fun h0 => isSt_lt (HC3.out.2.2 i hi').2.2 h0⟩
      have NA := Lib.hid (new_len HL1.out x y A n cap l A1 c1 words wr (fun q => q < wr.heap.size) (fun _ h => h) (cod_mk HI3.out hn') HC3.out cod1 (fun h0 => isCd_lt HC3.out (by have := HL1.out; omega)))
      clear cod1
      go_wp2_with fail
      refine NA.out.mono ?_
      rintro e w3 ⟨qa, Ga, ta, rfl, hRa, hGa, hb3⟩
      have HRa := Lib.hid hRa
      have HGa := Lib.hid hGa
      clear hRa hGa NA
      have hz3 := hb3.size
      obtain ⟨u0, u1, u2, u3⟩ := (HV2.out.keep hbel).keep hb3
      clear t0 t1 t2 t3
      go_wp2_with fail
      refine (fcode_any x y A n cap l w3 (HI3.out.keep hb3) hn').mono ?_
      rintro e w4 ⟨A5, m5, c5, rfl, hown5, hb4⟩
      have HI5 := Lib.hid (isSt_own hown5)
      have hm5 : m5 ≤ 65536 := by have := HI5.out.1; have := flush_len l; have := HL.out; omega
      have hz4 := hb4.size
      have LO5 := Lib.hid (show 0 < m5 → ∀ g, A5.map (·.block) = some g → g < w4.heap.size ∧ g ∉ Ga from fun h0 g hg => ⟨(hown5.lt g hg).2, fun hm => by have h7 := (hown5.lt g hg).1; have h8 := HRa.out.gLt g hm; omega⟩)
      have b34 := hb3.trans (hb4.mono hz3)
      have CL4 := Lib.hid (CL.out.keep b34)
      have cod2 : ∀ i, i < L.length → Cod w4 (fun q => q < w4.heap.size ∧ q ∉ Ga) (L.getD i zeroCd) := fun i hi => by
        have hi' : i < k := by have := LA.out; omega
        refine ⟨HMA.out.n2 i hi', (HMA.out.ok i hi').2.2.keep b34, fun h0 g hg => ?_⟩
        have h9 := isSt_lt (HMA.out.ok i hi').2.2 h0 g hg
        exact ⟨by omega, fun hm => by have := HGa.out g hm; omega⟩
      have cf2 : 0 < L.length → ∀ g, Am.map (·.block) = some g → g < w4.heap.size ∧ g ∉ Ga := fun h0 g hg => by
        have h9 := (HOW.out.lt g hg).2
        exact ⟨by omega, fun hm => by have := HGa.out g hm; omega⟩
      have NB := Lib.hid (new_len LA.out x y A5 m5 c5 (flush l) Am cm words w4 (fun q => q < w4.heap.size ∧ q ∉ Ga) (fun _ h => h.1) ⟨hm5, HI5.out, LO5.out⟩ CL4.out cod2 cf2)
      clear hown5 cod2 cf2
      go_wp2_with fail
      refine NB.out.mono ?_
      rintro e w5 ⟨qb, Gb, tb, rfl, hRb, hGb, hb5⟩
      have hz5 := hb5.size
      have b45 := hb4.trans (hb5.mono hz4)
      have DD0 : Hid (Duo w5 w.heap.size qa qb (fun q => q < wr.heap.size) (fun q => q < w4.heap.size ∧ q ∉ Ga) ⟨x, y, A, n, cap, l⟩ ⟨x, y, A5, m5, c5, flush l⟩ ls L _ _) := Lib.hid
        ⟨Ga, Gb, ta, tb, HRa.out.keep b45, hRb, fun q hq hm => by have h7 := HRa.out.gLt q hq; have h8 := hGb q hm; omega, fun q hq hc => hc.2 hq, fun q hq hc => by have h8 := hGb q hq; omega,
          fun q hq => by have h8 := HGa.out q hq; have h9 := BW1.out.size; omega, fun q hq => by have h8 := hGb q hq; have h9 := BW1.out.size; omega, by have h9 := BW1.out.size; omega⟩
      have HRL : Hid (InsR (lnOf ⟨x, y, A, n, cap, l⟩) (lnOf ⟨x, y, A5, m5, c5, flush l⟩)) := Lib.hid (ins_ln rfl (ins_flush l))
      have HTW : Hid (Two InsR (begunL ls) (begunL L)) := Lib.hid (two_take (by have h7 := HL1.out; have h8 := LA.out; omega) (fun i hi => by
        have hi' : i < k := by have := HL1.out; omega
        exact ins_ln (HMA.out.x i hi') (by rw [HMA.out.l i hi']; exact ins_flush _)))
      have SS0 : Hid (Same InsR (zeros (Rm.words words)).length 0 ⟨some (lnOf ⟨x, y, A, n, cap, l⟩), [], zeros (Rm.words words), []⟩ ⟨some (lnOf ⟨x, y, A5, m5, c5, flush l⟩), [], zeros (Rm.words words), []⟩) := Lib.hid
        ⟨⟨HRL.out, .nil, rfl, rfl, rfl⟩, fun _ _ => rfl, fun _ _ => rfl, Nat.le_refl 0⟩
      generalize (zeros (Rm.words words)).length = N at *
      have BW5 := Lib.hid (BW1.out.trans ((b34.trans (hb5.mono (Nat.le_trans hz3 hz4))).mono BW1.out.size))
      have hlA : ls.length ≤ 65536 := by have := HL1.out; omega
      have hlB : L.length ≤ 65536 := by have := LA.out; omega
      have HLA := Lib.hid hlA
      have HLB := Lib.hid hlB
      clear hlA hlB u0 u1 u2 u3 hRb hGb NB
      generalize (⟨x, y, A, n, cap, l⟩ : Cd) = sa at *
      generalize (⟨x, y, A5, m5, c5, flush l⟩ : Cd) = sb at *
      generalize (fun q => q < w4.heap.size ∧ q ∉ Ga) = Cb at *
      generalize (fun q => q < wr.heap.size) = Ca at *
      clear HMA HOW HC3 HI3 CL CL4 HI5 LO5 HRa HGa
      go_wp2_with fail
      go_loopw [14] (fun i wr => ∃ (k : Nat) (ma mb : Mch Ln), k ≤ n3 ∧ i = .int .i64 k ∧ Duo wr w.heap.size qa qb Ca Cb sa sb ls L ma mb ∧ Same InsR N k ma mb ∧ Below w.heap.size w wr) (fun i _ => n3 - (intOf i).toNat)
      case atStart => exact ⟨0, _, _, by omega, rfl, DD0.out, SS0.out, BW5.out⟩
      case round =>
        obtain ⟨k, ma, mb, hk, rfl, hDD, hSS, hbel⟩ := hrel
        have DD := Lib.hid hDD
        have SS := Lib.hid hSS
        clear hDD hSS DD0 SS0
        by_cases hkn : k < n3
        · obtain ⟨b, o, hA3, hb, sw⟩ := HOw.out.cell (k := k) hkn
          have s0 := (hbel.cell (p := ⟨b, o + k, none⟩) hb).trans sw
          obtain ⟨z, hz⟩ : ∃ z, os.getD k 0 = z := ⟨_, rfl⟩
          rw [hz] at s0 sw
          have SW := Lib.hid sw
          clear hz sw
          have i1 : (k : Int) < n3 := by omega
          have hcap := (HOw.out).2.le
          subst hA3
          by_cases hz1 : z = -1
          · have hd : (z == (-1 : Int)) = true := by rw [beq_iff_eq]; exact hz1
            go_wp2_with fail
            refine (crashA_any DD.out).mono ?_
            rintro e w3 ⟨rfl, hb3, hd3⟩
            have D3 := Lib.hid hd3
            go_wp2_with fail
            refine (crashB_any D3.out).mono ?_
            rintro e w4 ⟨rfl, hb4, hd4⟩
            have D4 := Lib.hid hd4
            have BT := Lib.hid ((hbel.trans hb3).trans hb4)
            have SZ := Lib.hid (SS.out.crash HRL.out)
            clear hd3 hd4 hb3 hb4 hbel DD SS
            have hlA := SZ.out.len
            have hlB := (by have := SZ.out.len; rw [SZ.out.both.out] at this; exact this)
            have HOL := Lib.hid (show _ ≤ 1000000 from Nat.le_trans hlA (by omega))
            have HOM := Lib.hid (show _ ≤ 1000000 from Nat.le_trans hlB (by omega))
            have HOE := Lib.hid (decide_eq_true (SZ.out.both.out))
            have HNE := Lib.hid (decide_eq_true (SZ.out.both.now))
            clear hlA hlB
            go_wp2_with fail
            refine (stuck_any qa false _ D4.out.cells.1).mono ?_
            rintro e w4 ⟨rfl, rfl⟩
            go_wp2_with fail
            refine (stuck_any qb false _ D4.out.cells.2).mono ?_
            rintro e w4 ⟨rfl, rfl⟩
            go_wp2_with fail
            refine (outA_any D4.out HOL.out).mono ?_
            rintro e w5 ⟨A5, n5, c5, rfl, row5, hb5⟩
            have D5 := Lib.hid (D4.out.keep hb5)
            have U5 := Lib.hid (isU_of_row row5)
            clear row5
            go_wp2_with fail
            refine (outA_any D5.out.swap HOM.out).mono ?_
            rintro e w6 ⟨A6, n6, c6, rfl, row6, hb6⟩
            have D6 := Lib.hid (D5.out.keep hb6)
            have U6 := Lib.hid (isU_of_row row6)
            clear row6
            go_wp2_with fail
            refine (samew_any A5 A6 n5 c5 n6 c6 _ _ w6 (U5.out.keep hb6) U6.out).mono ?_
            rintro e w7 ⟨rfl, m7, rfl⟩
            rw [HOE.out]
            have b7 := below_drawn w6 m7
            have D7 := Lib.hid (D6.out.keep b7)
            obtain ⟨w7, hw7⟩ : ∃ w7, w6.drewN m7 = w7 := ⟨_, rfl⟩
            rw [hw7] at D7 b7
            rw [hw7]
            go_wp2_with fail
            refine (cellsA_any D7.out).mono ?_
            rintro e w8 ⟨A8, n8, c8, rfl, row8, hb8⟩
            have D8 := Lib.hid (D7.out.keep hb8)
            have U8 := Lib.hid (isU_of_row row8)
            clear row8
            go_wp2_with fail
            refine (cellsA_any D8.out.swap).mono ?_
            rintro e w9 ⟨A9, n9, c9, rfl, row9, hb9⟩
            have D9 := Lib.hid (D8.out.keep hb9)
            have U9 := Lib.hid (isU_of_row row9)
            clear row9
            go_wp2_with fail
            refine (samew_any A8 A9 n8 c8 n9 c9 _ _ w9 (U8.out.keep hb9) U9.out).mono ?_
            rintro e wa ⟨rfl, ma9, rfl⟩
            rw [HNE.out]
            have D10 := Lib.hid (D9.out.keep (below_drawn w9 ma9))
            have BZ := Lib.hid (below_seq (below_seq (below_seq (below_seq (below_seq hb5 hb6) b7) hb8) hb9) (below_drawn w9 ma9))
            clear hb5 hb6 b7 hb8 hb9
            go_wp2_with fail
            go_roundw
            case rel => exact ⟨k + 1, _, _, by omega, by go_num, D10.out, SZ.out, BT.out.trans (BZ.out.mono BT.out.size)⟩
            case measure => simp [intOf]; omega
          · have hd : (z == (-1 : Int)) = false := by rw [beq_eq_false_iff_ne]; exact hz1
            go_wp2_with fail
            refine (stepA_any DD.out SS.out.na z HLA.out (Nat.le_trans SS.out.len (by omega))).mono ?_
            rintro e w3 ⟨rfl, c3, hb3, hd3, hs3⟩
            by_cases hra : (stepM goL (begunL ls) ma z).1 = 2
            · rw [hra] at c3
              have S3 := Lib.hid hs3
              have s3 := ((hbel.trans hb3).cell (p := ⟨b, o + k, none⟩) hb).trans SW.out
              clear hd3 hs3
              go_wp2_with fail
              refine (stepS_any S3.out SS.out.nb z HLB.out (by rw [← SS.out.both.out]; exact Nat.le_trans SS.out.len (by omega)) _ c3).mono ?_
              rintro e w4 ⟨rfl, c4, -, hb4⟩
              go_wp2_with fail
              refine (stuck_any qa true _ c4).mono ?_
              rintro e w5 ⟨rfl, rfl⟩
              go_wp2_with fail
              go_ret
              exact ⟨rfl, (hbel.trans hb3).trans hb4⟩
            · have D3 := Lib.hid (hd3 hra)
              clear hd3 hs3
              rw [show ((stepM goL (begunL ls) ma z).1 == 2) = false from beq_eq_false_iff_ne.2 hra] at c3
              have HRA := Lib.hid hra
              have s3 := ((hbel.trans hb3).cell (p := ⟨b, o + k, none⟩) hb).trans SW.out
              go_wp2_with fail
              refine (stepA_any D3.out.swap SS.out.nb z HLB.out (by rw [← SS.out.both.out]; exact Nat.le_trans SS.out.len (by omega))).mono ?_
              rintro e w4 ⟨rfl, c4, hb4, hd4, ⟨Ga4, ta4, r4, _⟩⟩
              have c5 := r4.foc.c8
              rw [r4.ill] at c5
              by_cases hrb : (stepM goL (begunL L) mb z).1 = 2
              · rw [hrb] at c4
                clear hd4 r4
                go_wp2_with fail
                refine (stuck_any qa false _ c5).mono ?_
                rintro e w5 ⟨rfl, rfl⟩
                go_wp2_with fail
                refine (stuck_any qb true _ c4).mono ?_
                rintro e w5 ⟨rfl, rfl⟩
                go_wp2_with fail
                go_ret
                exact ⟨rfl, (hbel.trans hb3).trans hb4⟩
              · have D4 := Lib.hid (hd4 hrb).swap
                obtain ⟨es, SZ0⟩ := SS.out.step (ins_alike _) HTW.out z (by first | exact hra | omega) (by first | exact hrb | omega)
                have SZ := Lib.hid SZ0
                have BT := Lib.hid ((hbel.trans hb3).trans hb4)
                clear hd4 r4 c3 c4 c5 SZ0 hb3 hb4 hbel DD SS D3
                have hlA := SZ.out.len
                have hlB := (by have := SZ.out.len; rw [SZ.out.both.out] at this; exact this)
                have HOL := Lib.hid (show _ ≤ 1000000 from Nat.le_trans hlA (by omega))
                have HOM := Lib.hid (show _ ≤ 1000000 from Nat.le_trans hlB (by omega))
                have HOE := Lib.hid (decide_eq_true (SZ.out.both.out))
                have HNE := Lib.hid (decide_eq_true (SZ.out.both.now))
                clear hlA hlB
                rw [← es]
                have hbb : (((stepM goL (begunL ls) ma z).1 == 0) != ((stepM goL (begunL ls) ma z).1 == 0)) = false := by simp
                clear es hra hrb HRA
                generalize ((stepM goL (begunL ls) ma z).1 == 0) = okb at *
                go_wp2_with fail
                refine (stuck_any qa false _ D4.out.cells.1).mono ?_
                rintro e w4 ⟨rfl, rfl⟩
                go_wp2_with fail
                refine (stuck_any qb false _ D4.out.cells.2).mono ?_
                rintro e w4 ⟨rfl, rfl⟩
                go_wp2_with fail
                refine (outA_any D4.out HOL.out).mono ?_
                rintro e w5 ⟨A5, n5, c5, rfl, row5, hb5⟩
                have D5 := Lib.hid (D4.out.keep hb5)
                have U5 := Lib.hid (isU_of_row row5)
                clear row5
                go_wp2_with fail
                refine (outA_any D5.out.swap HOM.out).mono ?_
                rintro e w6 ⟨A6, n6, c6, rfl, row6, hb6⟩
                have D6 := Lib.hid (D5.out.keep hb6)
                have U6 := Lib.hid (isU_of_row row6)
                clear row6
                go_wp2_with fail
                refine (samew_any A5 A6 n5 c5 n6 c6 _ _ w6 (U5.out.keep hb6) U6.out).mono ?_
                rintro e w7 ⟨rfl, m7, rfl⟩
                rw [HOE.out]
                have b7 := below_drawn w6 m7
                have D7 := Lib.hid (D6.out.keep b7)
                obtain ⟨w7, hw7⟩ : ∃ w7, w6.drewN m7 = w7 := ⟨_, rfl⟩
                rw [hw7] at D7 b7
                rw [hw7]
                go_wp2_with fail
                refine (cellsA_any D7.out).mono ?_
                rintro e w8 ⟨A8, n8, c8, rfl, row8, hb8⟩
                have D8 := Lib.hid (D7.out.keep hb8)
                have U8 := Lib.hid (isU_of_row row8)
                clear row8
                go_wp2_with fail
                refine (cellsA_any D8.out.swap).mono ?_
                rintro e w9 ⟨A9, n9, c9, rfl, row9, hb9⟩
                have D9 := Lib.hid (D8.out.keep hb9)
                have U9 := Lib.hid (isU_of_row row9)
                clear row9
                go_wp2_with fail
                refine (samew_any A8 A9 n8 c8 n9 c9 _ _ w9 (U8.out.keep hb9) U9.out).mono ?_
                rintro e wa ⟨rfl, ma9, rfl⟩
                rw [HNE.out]
                have D10 := Lib.hid (D9.out.keep (below_drawn w9 ma9))
                have BZ := Lib.hid (below_seq (below_seq (below_seq (below_seq (below_seq hb5 hb6) b7) hb8) hb9) (below_drawn w9 ma9))
                clear hb5 hb6 b7 hb8 hb9
                go_wp2_with fail
                go_roundw
                case rel => exact ⟨k + 1, _, _, by omega, by go_num, D10.out, SZ.out, BT.out.trans (BZ.out.mono BT.out.size)⟩
                case measure => simp [intOf]; omega
        · obtain rfl : k = n3 := by omega
          go_wp2_with fail
          go_ret
          exact ⟨rfl, hbel⟩
end Go.Proofs.Ytdhihmeknoofoaa.FlM
