/-
  WALK: the law StepsMean.
-/
import Derived.Test.YtapnnbbbgopobaaG33
set_option linter.unusedVariables false
set_option linter.unusedSimpArgs false
namespace Go.Proofs.Ytapnnbbbgopobaa.Rq
open Go.RowKit Go.WideShapes Go.ChangeShapes Cm Mm Ow Ow2 Me Ml Lg Stp StW Rr Lr Rm Sp Sx Sd Sr Pn Pa Pq Pr Pm Ph Pz Rn
open ElM (Cd zeroCd cdL okCd IsCd)
set_option maxRecDepth 200000 in
set_option maxHeartbeats 25600000 in
theorem walkSMean {H : Type} {enc : TypeId × Value → H} {d0 d2 : DataW H} {P0 P2 : List MemPlace} {r : Reach} {b0 : Nat} (v0 : Value) (sp : Bool) (v2 : Value) (w : World)
    (k0 : DataW.Trod enc Try.prog w 0 (fun _ => true) true 22 v0 d0 P0) (ok0 : Value.okWide Try.prog w r b0 22 v0)
    (k2 : DataW.Trod enc Try.prog w 0 (fun _ => true) true 23 v2 d2 P2) (ok2 : Value.okWide Try.prog w r b0 23 v2) :
    Calls Try.prog 3 #[v0, .bool sp, v2] w fun e w' => e = .returned (.bool true) ∧ Below w.heap.size w w' := by
  obtain ⟨A, n, cap, x, rfl, hI⟩ := open_bytes k0 ok0
  obtain ⟨A3, n3, c3, os, rfl, hO⟩ := Sr.open_ints k2 ok2
  clear k0 ok0 k2 ok2
  have HI := Lib.hid hI
  have HO := Lib.hid hO
  clear hI hO
  go_enter Try.func3, Try.ntmps3
  go_wp2_with fail
  refine (alive17_any w).mono ?_
  rintro e w1 ⟨rfl, hb1⟩
  have HI1 := Lib.hid (HI.out.keep hb1)
  have B1 := Lib.hid hb1
  clear hb1
  go_wp2_with fail
  refine (Rr.program_any A n cap x w1 HI1.out).mono ?_
  rintro e w2 ⟨cA, cn, cc, tA, tn, tc, rA, rn, rc, at_, er, rfl, hb2, hpg⟩
  have PG := Lib.hid hpg
  have B2 := Lib.hid (B1.out.trans (hb2.mono B1.out.size))
  clear hpg hb2 HI HI1
  by_cases hE : er = 0
  · subst hE
    by_cases hn : (1500 : Int) < (n : Int)
    · go_wp2_with fail
      go_ret
      exact ⟨rfl, (B2.out.alloc B2.out.size _)⟩
    · by_cases h3 : (120 : Int) < (n3 : Int)
      · go_wp2_with fail
        go_ret
        exact ⟨rfl, (B2.out.alloc B2.out.size _)⟩
      · have HN := Lib.hid hn
        have HN3 := Lib.hid h3
        obtain ⟨cs, ts, rb, hP, hz, hrz⟩ := PG.out rfl
        have hz1 : ∀ i, i < tn → bsz (ts.getD i zeroTh).2 ≤ 6004 := fun i hi => by have := hz i hi; omega
        have hrz1 : bsz rb ≤ 6004 := by omega
        have hb0 := below_new w2 (.cells #[.slice cA cn cc, .slice tA tn tc, .slice rA rn rc] 29)
        have P3 : Hid (Pv (w2.alloc (.cells #[.slice cA cn cc, .slice tA tn tc, .slice rA rn rc] 29)) w2.heap.size (.slice cA cn cc) (.slice tA tn tc) (.slice rA rn rc)) := Lib.hid ⟨heap_alloc_new _ _⟩
        have HP3 := Lib.hid (hP.keep hb0)
        have B3 := Lib.hid (B2.out.trans (hb0.mono B2.out.size))
        have HZ := Lib.hid hz1
        have HRZ := Lib.hid hrz1
        have PR13 := Lib.hid (Lr.prog13_any HP3.out (fun i hi => by have := HZ.out i hi; omega) (by have := HRZ.out; omega))
        clear hP hz hrz hz1 hrz1 hb0 PG
        have dn : decide ((1500 : Int) < (n : Int)) = false := decide_eq_false hn
        have dn3 : decide ((120 : Int) < (n3 : Int)) = false := decide_eq_false h3
        obtain ⟨g0, hg0⟩ : ∃ g, w2.heap.size = g := ⟨_, rfl⟩
        obtain ⟨W3, hW3⟩ : ∃ W, w2.alloc (.cells #[.slice cA cn cc, .slice tA tn tc, .slice rA rn rc] 29) = W := ⟨_, rfl⟩
        rw [hW3] at P3 HP3 B3 PR13
        rw [hg0] at P3
        go_upto_region 5 with fail
        try rw [hW3]
        try simp only [hg0]
        clear hW3 hg0 h3 hn dn dn3
        have q0 := P3.out.c0
        have q1 := P3.out.c1
        have q2 := P3.out.c2
        go_wp2_with fail
        refine PR13.out.mono ?_
        rintro e w4 ⟨s, LA, ln, lc, er, ds, rfl, hb4, hgd⟩
        have P4 := Lib.hid (P3.out.keep hb4)
        have HP4 := Lib.hid (HP3.out.keep hb4)
        have B4 := Lib.hid (B3.out.trans (hb4.mono B3.out.size))
        have GD := Lib.hid hgd
        have BW4 := Lib.hid hb4
        have hwW3 := B3.out.size
        obtain ⟨sx, sy, sA, sn, sc, sl⟩ := s
        dsimp only at GD ⊢
        clear q0 q1 q2 hgd hb4 PR13 B3
        by_cases hF : er = 0
        · subst hF
          obtain ⟨good, hs, hln, hrow, hds, hv, hvs⟩ := GD.out rfl
          have hsn : sn ≤ 65536 := by
            have e1 : sl.length = sn := by simpa using hs.row.len
            have e2 := len_flush (codeOf cs rb)
            have e3 := fl_code cs rb
            have e4 := HRZ.out
            have e5 : sl = codeOf cs rb := hs.l
            rw [e5] at e1
            omega
          have hb5 := below_new w4 (.cells #[.int .i64 sx, .int .i64 sy, .slice sA sn sc] 34)
          have hIS := isSt_own (hs.row.keep hb5)
          have G5 : (w4.alloc (.cells #[.int .i64 sx, .int .i64 sy, .slice sA sn sc] 34)).heap[w4.heap.size]? = some (.cells #[.int .i64 sx, .int .i64 sy, .slice sA sn sc] 34 (0, 0)) := heap_alloc_new _ _
          have GOOD := Lib.hid good
          have LN := Lib.hid hln
          have HS := Lib.hid (And.intro hs.x (And.intro hs.y (show sl = codeOf cs rb from hs.l)))
          have ROW5 := Lib.hid (hrow.keep hb5)
          have DS5 := Lib.hid (fun i hi => (CdR.keep ⟨(hds i hi).x, (hds i hi).y, (hds i hi).l, (hds i hi).row⟩ hb5 : CdR _ W3.heap.size (ts.getD i zeroTh).2 (codeOf cs (ts.getD i zeroTh).2) (ds.getD i zeroCd)))
          have HV := Lib.hid (And.intro hv hvs)
          have P5 := Lib.hid (P4.out.keep hb5)
          have HP5 := Lib.hid (HP4.out.keep hb5)
          have B5 := Lib.hid (B4.out.trans (hb5.mono B4.out.size))
          have IS := Lib.hid hIS
          have BW5 := Lib.hid (BW4.out.trans (hb5.mono BW4.out.size))
          have NE : Hid (LA.map (·.block) ≠ some w4.heap.size) := Lib.hid (fun e => by have := (hrow.lt _ e).2; omega)
          obtain ⟨g1, hg1⟩ : ∃ g, w4.heap.size = g := ⟨_, rfl⟩
          obtain ⟨W5, hW5⟩ : ∃ W, w4.alloc (.cells #[.int .i64 sx, .int .i64 sy, .slice sA sn sc] 34) = W := ⟨_, rfl⟩
          rw [hW5] at G5 ROW5 DS5 P5 HP5 B5 IS BW5
          have hg1W : W3.heap.size ≤ g1 := by rw [← hg1]; exact BW4.out.size
          rw [hg1] at G5 NE
          have HG5 := Lib.hid G5
          clear good hs hln hrow hds hv hvs hb5 hIS GD
          go_upto_region 6 with fail
          try rw [hW5]
          try simp only [hg1]
          clear hW5 hg1
          have s0 := cells_of HG5.out (j := 0) rfl
          have s1 := cells_of HG5.out (j := 1) rfl
          have s2 := cells_of HG5.out (j := 2) rfl
          have sf : ∀ k, W5.frozen? ⟨g1, k, none⟩ = false := fun k => by simp only [World.frozen?, HG5.out]; simp
          clear G5
          go_wp2_with fail
          refine (StF.rflush_any sx sy sA sn sc sl W5 IS.out hsn).mono ?_
          rintro e w6 ⟨A6, m6, c6, rfl, hown6, hb6⟩
          have HG6 := Lib.hid ((hb6.block g1 (Array.getElem?_eq_some_iff.1 HG5.out).1).trans HG5.out)
          have B6 := Lib.hid (B5.out.trans (hb6.mono B5.out.size))
          have o7 : Only [g1] w6 (((w6.setCell ⟨g1, 0, none⟩ (.int .i64 sx)).setCell ⟨g1, 1, none⟩ (.int .i64 sy)).setCell ⟨g1, 2, none⟩ (.slice A6 m6 c6)) := ((only_q w6 g1 _ _).seq (only_q _ g1 _ _)).seq (only_q _ g1 _ _)
          have hz5 := BW5.out.size
          have hSO : ∀ {A : Option Addr} {n c : Nat} {L : List (List Value)}, Own w6 W3.heap.size 55 9 A n c L → ∀ g, A.map (·.block) = some g → g ∉ [g1] := fun hr g hg hx => by
            simp at hx
            subst hx
            obtain ⟨cur, e⟩ := hr.type hg
            rw [HG6.out] at e
            injection e with e
            injection e with _ e
            exact absurd e (by decide)
          have L7 : Hid (Lz W3 (((w6.setCell ⟨g1, 0, none⟩ (.int .i64 sx)).setCell ⟨g1, 1, none⟩ (.int .i64 sy)).setCell ⟨g1, 2, none⟩ (.slice A6 m6 c6)) g1 rb (flush (codeOf cs rb)) ⟨sx, sy, A6, m6, c6, flush sl⟩ ts LA ln lc (fun i => codeOf cs (ts.getD i zeroTh).2) ds) := Lib.hid (by
            refine ⟨(BW5.out.trans (hb6.mono hz5)).trans (o7.below (fun x hx => by simp at hx; omega) (Nat.le_trans hz5 hb6.size)), ?_, hg1W, ⟨HS.out.1, HS.out.2.1, by show flush sl = _; rw [HS.out.2.2], own_only (Own.low hown6 hz5) o7 (hSO (Own.low hown6 hz5))⟩, own_only (own_only ROW5.out (Only.of_below (F := []) hb6) (fun g _ hx => by cases hx)) o7 (fun g hg hx => by simp at hx; subst hx; exact NE.out hg), fun i hi => ((DS5.out i hi).keep hb6).only o7 (hSO ((DS5.out i hi).keep hb6).row), NE.out⟩
            have e := Lx.blk_set (Lx.blk_set (Lx.blk_set HG6.out (.int .i64 sx) (i := 0)) (.int .i64 sy) (i := 1)) (.slice A6 m6 c6) (i := 2)
            exact e)
          have B7 : Hid (Below w.heap.size w (((w6.setCell ⟨g1, 0, none⟩ (.int .i64 sx)).setCell ⟨g1, 1, none⟩ (.int .i64 sy)).setCell ⟨g1, 2, none⟩ (.slice A6 m6 c6))) := Lib.hid (B6.out.trans (o7.below (fun x hx => by simp at hx; omega) B6.out.size))
          clear s0 s1 s2 sf hb6 hown6 hSO o7
          have s0 := cells_of HG6.out (j := 0) rfl
          have s1 := cells_of HG6.out (j := 1) rfl
          have s2 := cells_of HG6.out (j := 2) rfl
          have sf : ∀ k, w6.frozen? ⟨g1, k, none⟩ = false := fun k => by simp only [World.frozen?, HG6.out]; simp
          go_wp2_with fail
          have HLN : Hid (∀ i, i < ln → bsz (ts.getD i zeroTh).2 ≤ 6004) := Lib.hid (fun i hi => HZ.out i (by have := HP5.out.th.len; have := LN.out; omega))
          have hln4 : ln ≤ 4 := by have := GOOD.out.t4; have := LN.out; omega
          go_loopw [14] (fun i wr => ∃ (k : Nat) (ds' : List Cd), k ≤ ln ∧ i = .int .i64 k ∧ Lz W3 wr g1 rb (flush (codeOf cs rb)) ⟨sx, sy, A6, m6, c6, flush sl⟩ ts LA ln lc (fun j => if j < k then flush (codeOf cs (ts.getD j zeroTh).2) else codeOf cs (ts.getD j zeroTh).2) ds' ∧ Below w.heap.size w wr) (fun i _ => ln - (intOf i).toNat)
          case atStart => exact ⟨0, ds, by omega, rfl, by simpa using L7.out, B7.out⟩
          case round =>
            obtain ⟨k, ds', hk, rfl, hL, hB⟩ := hrel
            have LZ := Lib.hid hL
            have BR := Lib.hid hB
            clear hL hB L7 B7
            by_cases hkn : k < ln
            · have hki : (k : Int) < (ln : Int) := by omega
              have d1 : decide ((k : Int) < (ln : Int)) = true := decide_eq_true hki
              obtain ⟨lb, lo, hLA, hlb, hcel⟩ := LZ.out.row.sl.at_ (by omega)
              have hlo : lo = 0 := by
                rcases LZ.out.row.row.2 with ⟨h1, _⟩ | ⟨g, cp, cur, h1, _⟩
                · rw [hLA] at h1; cases h1
                · rw [hLA] at h1
                  injection h1 with h1
                  injection h1 with h1
                  injection h1
              subst hlo hLA
              have hdl : ds'.length = ln := by simpa using LZ.out.row.len
              have hcd := LZ.out.ds k hkn
              rw [if_neg (Nat.lt_irrefl k)] at hcd
              have x0 := hcel k hkn 0 (by omega)
              have x1 := hcel k hkn 1 (by omega)
              have x2 := hcel k hkn 2 (by omega)
              have ed : (ds'.map cdL).getD k [] = cdL (ds'.getD k zeroCd) := by simp [List.getD, show k < ds'.length by omega]
              rw [ed] at x0 x1 x2
              generalize hdd : ds'.getD k zeroCd = dd at *
              have HDD := Lib.hid hdd
              obtain ⟨dx, dy, dA, dn, dc, dl⟩ := dd
              have x0' : wr.cell? ⟨lb, k * 3, none⟩ = some (.int .i64 dx) := by simpa [cdL] using x0
              have x1' : wr.cell? ⟨lb, k * 3 + 1, none⟩ = some (.int .i64 dy) := by simpa [cdL] using x1
              have x2' : wr.cell? ⟨lb, k * 3 + 2, none⟩ = some (.slice dA dn dc) := by simpa [cdL] using x2
              have hdn : dn ≤ 65536 := by
                have e1 : dl.length = dn := by simpa using hcd.row.len
                have e2 := len_flush (codeOf cs (ts.getD k zeroTh).2)
                have e3 := fl_code cs (ts.getD k zeroTh).2
                have e4 := HLN.out k hkn
                have e5 : dl = codeOf cs (ts.getD k zeroTh).2 := hcd.l
                rw [e5] at e1
                omega
              have CD := Lib.hid hcd
              obtain ⟨cur, hty⟩ := LZ.out.row.type (g := lb) rfl
              have HTY := Lib.hid hty
              clear x0 x1 x2 hcel ed hdd hcd hty
              go_wp2_with fail
              refine (StF.rflush_any dx dy dA dn dc dl wr (isSt_own CD.out.row) hdn).mono ?_
              rintro e w8 ⟨A8, m8, c8, rfl, hown8, hb8⟩
              have L8 := Lib.hid ((LZ.out.keep hb8).put hkn (c := flush (codeOf cs (ts.getD k zeroTh).2)) (d := ⟨dx, dy, A8, m8, c8, flush dl⟩) ⟨CD.out.x, CD.out.y, by show flush dl = _; rw [show dl = _ from CD.out.l], Own.low hown8 LZ.out.bl.size⟩)
              have B8 := Lib.hid (BR.out.trans (hb8.mono BR.out.size))
              have y0 := (hb8.cell (p := ⟨lb, k * 3, none⟩) hlb).trans x0'
              have y1 := (hb8.cell (p := ⟨lb, k * 3 + 1, none⟩) hlb).trans x1'
              have y2 := (hb8.cell (p := ⟨lb, k * 3 + 2, none⟩) hlb).trans x2'
              have yf : ∀ i, w8.frozen? ⟨lb, i, none⟩ = false := fun i => by
                have e := (hb8.block lb hlb).trans HTY.out
                simp only [World.frozen?, e]; simp
              have hlbW : w.heap.size ≤ lb := Nat.le_trans hwW3 (LZ.out.row.lt lb rfl).1
              have B9 := Lib.hid (((B8.out.setCell (p := ⟨lb, k * 3, none⟩) hlbW (.int .i64 dx)).setCell (p := ⟨lb, k * 3 + 1, none⟩) hlbW (.int .i64 dy)).setCell (p := ⟨lb, k * 3 + 2, none⟩) hlbW (.slice A8 m8 c8))
              clear x0' x1' x2' hown8 hb8
              go_wp2_with fail
              go_roundw
              case rel => exact ⟨k + 1, ds'.set k ⟨dx, dy, A8, m8, c8, flush dl⟩, hkn, by go_num, by
                have e : (fun i => if i = k then flush (codeOf cs (ts.getD k zeroTh).2) else if i < k then flush (codeOf cs (ts.getD i zeroTh).2) else codeOf cs (ts.getD i zeroTh).2) = (fun j => if j < k + 1 then flush (codeOf cs (ts.getD j zeroTh).2) else codeOf cs (ts.getD j zeroTh).2) := by
                  funext j
                  by_cases e : j = k
                  · subst e; rw [if_pos rfl, if_pos (by omega)]
                  · rw [if_neg e]
                    by_cases e2 : j < k
                    · rw [if_pos e2, if_pos (by omega)]
                    · rw [if_neg e2, if_neg (by omega)]
                rw [← e]
                exact L8.out, B9.out⟩
              case measure => simp [intOf]; omega
            · obtain rfl : k = ln := by omega
              have d1 : decide ((k : Int) < (k : Int)) = false := decide_eq_false (by omega)
              have LZ2 : Hid (Lz W3 wr g1 rb (flush (codeOf cs rb)) ⟨sx, sy, A6, m6, c6, flush sl⟩ ts LA k lc (fun j => flush (codeOf cs (ts.getD j zeroTh).2)) ds') := Lib.hid ⟨LZ.out.bl, LZ.out.c1, LZ.out.gW, LZ.out.r1, LZ.out.row, fun i hi => by
                have := LZ.out.ds i hi
                rw [if_pos hi] at this
                exact this, LZ.out.ne⟩
              clear LZ
              go_upto_if 71 with fail
              go_cut [] from 72 to 91 (fun wx => ∃ codes ds2, Lz W3 wx g1 rb (flush (codeOf cs rb)) ⟨sx, sy, A6, m6, c6, flush sl⟩ ts LA k lc codes ds2 ∧ CodesOk cs ts k codes ∧ Below w.heap.size w wx)
              case first =>
                cases sp with
                | true =>
                  have PS := Lib.hid (P3.out.keep LZ2.out.bl)
                  have q0 := PS.out.c0
                  have SO := Lib.hid (ElS.rsole_any LA k lc (cn : Int) ds' wr (LZ2.out.isCd HV.out.2) (by omega) (LZ2.out.n (fun i hi => (ok_flush HLN.out i hi).2.1)))
                  go_wp2_with fail
                  refine SO.out.mono ?_
                  rintro e w12 ⟨SA, sm, sc2, rfl, hown12, hb12⟩
                  have L12 := Lib.hid (LZ2.out.keep hb12)
                  have B12 := Lib.hid (BR.out.trans (hb12.mono BR.out.size))
                  obtain ⟨sole, hsole⟩ : ∃ x, soles (ElS.stepsOf ds') (cn : Int) = x := ⟨_, rfl⟩
                  rw [hsole] at hown12
                  have HLW : Hid (∀ g, LA.map (·.block) = some g → g < wr.heap.size) := Lib.hid (fun g hg => (LZ2.out.row.lt g hg).2)
                  obtain ⟨Ws, hWs⟩ : ∃ n, wr.heap.size = n := ⟨_, rfl⟩
                  rw [hWs] at hown12 HLW
                  have OB := Lib.hid hown12
                  clear hown12 hb12 SO q0 hsole hWs PS LZ2 BR
                  go_wp2_with fail
                  go_loopw [16] (fun i wr => ∃ (j : Nat) (dz : List Cd), j ≤ k ∧ i = .int .i64 j ∧ Lz W3 wr g1 rb (flush (codeOf cs rb)) ⟨sx, sy, A6, m6, c6, flush sl⟩ ts LA k lc (fun i => if i < j then elide sole (flush (codeOf cs (ts.getD i zeroTh).2)) else flush (codeOf cs (ts.getD i zeroTh).2)) dz ∧ Own wr Ws 4 1 SA sm sc2 (sole.map ElS.boL) ∧ Below w.heap.size w wr) (fun i _ => k - (intOf i).toNat)
                  case atStart => exact ⟨0, ds', by omega, rfl, by simpa using L12.out, OB.out, B12.out⟩
                  case round =>
                    obtain ⟨j, dz, hj, rfl, hL, hO2, hB⟩ := hrel
                    have LZ := Lib.hid hL
                    have OBR := Lib.hid hO2
                    have BR := Lib.hid hB
                    clear hL hO2 hB L12 B12 OB
                    by_cases hjn : j < k
                    · have hki : (j : Int) < (k : Int) := by omega
                      have d2 : decide ((j : Int) < (k : Int)) = true := decide_eq_true hki
                      obtain ⟨lb, lo, hLA, hlb, hcel⟩ := LZ.out.row.sl.at_ (by omega)
                      have hlo : lo = 0 := by
                        rcases LZ.out.row.row.2 with ⟨h1, _⟩ | ⟨g, cp, cur, h1, _⟩
                        · rw [hLA] at h1; cases h1
                        · rw [hLA] at h1
                          injection h1 with h1
                          injection h1 with h1
                          injection h1
                      subst hlo hLA
                      have hdl : dz.length = k := by simpa using LZ.out.row.len
                      have hcd := LZ.out.ds j hjn
                      rw [if_neg (Nat.lt_irrefl j)] at hcd
                      have x0 := hcel j hjn 0 (by omega)
                      have x1 := hcel j hjn 1 (by omega)
                      have x2 := hcel j hjn 2 (by omega)
                      have ed : (dz.map cdL).getD j [] = cdL (dz.getD j zeroCd) := by simp [List.getD, show j < dz.length by omega]
                      rw [ed] at x0 x1 x2
                      generalize hdd : dz.getD j zeroCd = dd at *
                      have HDD := Lib.hid hdd
                      obtain ⟨dx, dy, dA, dn, dc, dl⟩ := dd
                      have x0' : wr.cell? ⟨lb, j * 3, none⟩ = some (.int .i64 dx) := by simpa [cdL] using x0
                      have x1' : wr.cell? ⟨lb, j * 3 + 1, none⟩ = some (.int .i64 dy) := by simpa [cdL] using x1
                      have x2' : wr.cell? ⟨lb, j * 3 + 2, none⟩ = some (.slice dA dn dc) := by simpa [cdL] using x2
                      have hdn : dn ≤ 65536 := by
                        have e1 : dl.length = dn := by simpa using hcd.row.len
                        have e2 := (ok_flush (cs := cs) HLN.out j hjn).2.1
                        have e5 : dl = flush (codeOf cs (ts.getD j zeroTh).2) := hcd.l
                        dsimp only at e2
                        rw [← e5] at e2
                        omega
                      have CD := Lib.hid hcd
                      have BO := Lib.hid (ElS.isBo_own OBR.out)
                      obtain ⟨cur, hty⟩ := LZ.out.row.type (g := lb) rfl
                      have HTY := Lib.hid hty
                      clear x0 x1 x2 hcel ed hdd hcd hty
                      go_wp2_with fail
                      refine (ElR.relide_any dx dy dA SA dn dc sm sc2 dl sole wr (isSt_own CD.out.row) BO.out hdn).mono ?_
                      rintro e w8 ⟨A8, m8, c8, rfl, hown8, hb8⟩
                      have L8 := Lib.hid ((LZ.out.keep hb8).put hjn (c := elide sole (flush (codeOf cs (ts.getD j zeroTh).2))) (d := ⟨dx, dy, A8, m8, c8, elide sole dl⟩) ⟨CD.out.x, CD.out.y, by show elide sole dl = _; rw [show dl = _ from CD.out.l], Own.low hown8 LZ.out.bl.size⟩)
                      have o8 : Only [lb] w8 (((w8.setCell ⟨lb, j * 3, none⟩ (.int .i64 dx)).setCell ⟨lb, j * 3 + 1, none⟩ (.int .i64 dy)).setCell ⟨lb, j * 3 + 2, none⟩ (.slice A8 m8 c8)) := ((only_q w8 lb _ _).seq (only_q _ lb _ _)).seq (only_q _ lb _ _)
                      have O8 := Lib.hid (own_only (own_only OBR.out (Only.of_below (F := []) hb8) (fun g _ hx => by cases hx)) o8 (fun g hg hx => by
                        simp at hx
                        subst hx
                        have h1 := (OBR.out.lt _ hg).1
                        have h2 : g < Ws := HLW.out g rfl
                        omega))
                      have B8 := Lib.hid (BR.out.trans (hb8.mono BR.out.size))
                      have y0 := (hb8.cell (p := ⟨lb, j * 3, none⟩) hlb).trans x0'
                      have y1 := (hb8.cell (p := ⟨lb, j * 3 + 1, none⟩) hlb).trans x1'
                      have y2 := (hb8.cell (p := ⟨lb, j * 3 + 2, none⟩) hlb).trans x2'
                      have yf : ∀ i, w8.frozen? ⟨lb, i, none⟩ = false := fun i => by
                        have e := (hb8.block lb hlb).trans HTY.out
                        simp only [World.frozen?, e]; simp
                      have hlbW : w.heap.size ≤ lb := Nat.le_trans hwW3 (LZ.out.row.lt lb rfl).1
                      have B9 := Lib.hid (((B8.out.setCell (p := ⟨lb, j * 3, none⟩) hlbW (.int .i64 dx)).setCell (p := ⟨lb, j * 3 + 1, none⟩) hlbW (.int .i64 dy)).setCell (p := ⟨lb, j * 3 + 2, none⟩) hlbW (.slice A8 m8 c8))
                      clear x0' x1' x2' hown8 hb8 o8
                      go_wp2_with fail
                      go_roundw
                      case rel => exact ⟨j + 1, dz.set j ⟨dx, dy, A8, m8, c8, elide sole dl⟩, hjn, by go_num, by
                        have e : (fun i => if i = j then elide sole (flush (codeOf cs (ts.getD j zeroTh).2)) else if i < j then elide sole (flush (codeOf cs (ts.getD i zeroTh).2)) else flush (codeOf cs (ts.getD i zeroTh).2)) = (fun i => if i < j + 1 then elide sole (flush (codeOf cs (ts.getD i zeroTh).2)) else flush (codeOf cs (ts.getD i zeroTh).2)) := by
                          funext i
                          by_cases e : i = j
                          · subst e; rw [if_pos rfl, if_pos (by omega)]
                          · rw [if_neg e]
                            by_cases e2 : i < j
                            · rw [if_pos e2, if_pos (by omega)]
                            · rw [if_neg e2, if_neg (by omega)]
                        rw [← e]
                        exact L8.out, O8.out, B9.out⟩
                      case measure => simp [intOf]; omega
                    · obtain rfl : j = k := by omega
                      have d2 : decide ((j : Int) < (j : Int)) = false := decide_eq_false (by omega)
                      have LZ4 : Hid (Lz W3 wr g1 rb (flush (codeOf cs rb)) ⟨sx, sy, A6, m6, c6, flush sl⟩ ts LA j lc (fun i => elide sole (flush (codeOf cs (ts.getD i zeroTh).2))) dz) := Lib.hid ⟨LZ.out.bl, LZ.out.c1, LZ.out.gW, LZ.out.r1, LZ.out.row, fun i hi => by
                        have := LZ.out.ds i hi
                        rw [if_pos hi] at this
                        exact this, LZ.out.ne⟩
                      clear LZ
                      go_wp2_with fail
                      go_meet
                      case rel => exact ⟨_, _, LZ4.out, ok_elide HLN.out sole, BR.out⟩
                | false =>
                  go_wp2_with fail
                  go_meet
                  case rel => exact ⟨_, _, LZ2.out, ok_flush HLN.out, BR.out⟩
              case rest =>
                obtain ⟨codes, ds2, hLc, hCc, hBc⟩ := hcut
                have LZ3 := Lib.hid hLc
                have CC := Lib.hid hCc
                have B10 := Lib.hid hBc
                clear hLc hCc hBc LZ2 BR
                have PW := Lib.hid (P3.out.keep LZ3.out.bl)
                have HPW := Lib.hid (HP3.out.keep LZ3.out.bl)
                have q0 := PW.out.c0
                have q1 := PW.out.c1
                have q2 := PW.out.c2
                have NW := Lib.hid (rnew13_any HPW.out GOOD.out (fun i hi => by have := HZ.out i hi; omega) (by have := HRZ.out; omega))
                go_wp2_with fail
                refine NW.out.mono ?_
                rintro e w11 ⟨rq, X11, rfl, hRun, hX11, hb11⟩
                have RUN := Lib.hid hRun
                have L11 := Lib.hid (LZ3.out.keep hb11)
                have P11 := Lib.hid (PW.out.keep hb11)
                have HP11 := Lib.hid (HPW.out.keep hb11)
                have B11 := Lib.hid (B10.out.trans (hb11.mono B10.out.size))
                have HBW := Lib.hid (And.intro B10.out.size hb11.size)
                clear q0 q1 q2 hRun hX11 hb11
                have q0 := P11.out.c0
                have s0 := cells_of L11.out.c1 (j := 0) rfl
                have s1 := cells_of L11.out.c1 (j := 1) rfl
                have s2 := cells_of L11.out.c1 (j := 2) rfl
                go_upto_region 20 with fail
                obtain ⟨WD, hWD⟩ : ∃ w', w11.drew = w' := ⟨_, rfl⟩
                have HWD : Hid (Below w11.heap.size w11 WD) := Lib.hid (by rw [← hWD]; exact (Below.refl _ _).drew)
                have SA : WD.cell? ⟨g0, 0, none⟩ = some (.slice cA cn cc) ∧ WD.cell? ⟨g1, 0, none⟩ = some (.int .i64 sx) ∧ WD.cell? ⟨g1, 1, none⟩ = some (.int .i64 sy) ∧ WD.cell? ⟨g1, 2, none⟩ = some (.slice A6 m6 c6) := by
                  rw [← hWD]
                  exact ⟨q0, s0, s1, s2⟩
                refine Hd.start 6 (fun w' => w'.cell? ⟨g0, 0, none⟩ = some (.slice cA cn cc) ∧ w'.cell? ⟨g1, 0, none⟩ = some (.int .i64 sx) ∧ w'.cell? ⟨g1, 1, none⟩ = some (.int .i64 sy) ∧ w'.cell? ⟨g1, 2, none⟩ = some (.slice A6 m6 c6)) (by kernel_rfl) ?_
                try rw [hWD]
                clear hWD q0 s0 s1 s2
                have LD := Lib.hid (L11.out.keep HWD.out)
                have PD := Lib.hid (P11.out.keep HWD.out)
                have HPD := Lib.hid (HP11.out.keep HWD.out)
                have BD := Lib.hid (B11.out.trans (HWD.out.mono B11.out.size))
                have RUND := Lib.hid (Rn.Run.keep RUN.out HWD.out)
                have hcn : cn ≤ 65536 := by have := HPD.out.cn2; omega
                refine Hd.take (i := 0) (v := ?vk0) rfl (by decide +kernel) (by decide +kernel) (fun _ _ _ h => h) rfl ?hyk0 SA ?restk0
                case hyk0 =>
                  intro wq hSw
                  obtain ⟨s0, s1, s2, s3⟩ := hSw
                  go_simp
                  try with_reducible rfl
                try simp only [Act.put, zA, zB, zC]
                refine Hd.take (i := 1) (v := ?vk1) rfl (by decide +kernel) (by decide +kernel) (fun _ _ _ h => h) rfl ?hyk1 SA ?restk1
                case hyk1 =>
                  intro wq hSw
                  obtain ⟨s0, s1, s2, s3⟩ := hSw
                  go_simp
                  try with_reducible rfl
                try simp only [Act.put, zA, zB, zC]
                refine Hd.take (i := 2) (v := ?vk2) rfl (by decide +kernel) (by decide +kernel) (fun _ _ _ h => h) rfl ?hyk2 SA ?restk2
                case hyk2 =>
                  intro wq hSw
                  obtain ⟨s0, s1, s2, s3⟩ := hSw
                  go_simp
                  try with_reducible rfl
                try simp only [Act.put, zA, zB, zC]
                refine Hd.take (i := 3) (v := ?vk3) rfl (by decide +kernel) (by decide +kernel) (fun _ _ _ h => h) rfl ?hyk3 SA ?restk3
                case hyk3 =>
                  intro wq hSw
                  obtain ⟨s0, s1, s2, s3⟩ := hSw
                  go_simp
                  try with_reducible rfl
                try simp only [Act.put, zA, zB, zC]
                refine Hd.one (i := 4) rfl (by kernel_rfl) rfl (fun K hK => ?_)
                go_simp
                refine (Lay.rwords_any _ _ _ _ _ HPD.out.cl hcn).mono ?_
                rintro e w13 ⟨rfl, hb13⟩
                have L13 := Lib.hid (LD.out.keep hb13)
                have P13 := Lib.hid (PD.out.keep hb13)
                have HP13 := Lib.hid (HPD.out.keep hb13)
                have B13 := Lib.hid (BD.out.trans (hb13.mono BD.out.size))
                have RUN13 := Lib.hid (Rn.Run.keep RUND.out hb13)
                have SB : w13.cell? ⟨g0, 0, none⟩ = some (.slice cA cn cc) ∧ w13.cell? ⟨g1, 0, none⟩ = some (.int .i64 sx) ∧ w13.cell? ⟨g1, 1, none⟩ = some (.int .i64 sy) ∧ w13.cell? ⟨g1, 2, none⟩ = some (.slice A6 m6 c6) := ⟨P13.out.c0, cells_of L13.out.c1 (j := 0) rfl, cells_of L13.out.c1 (j := 1) rfl, cells_of L13.out.c1 (j := 2) rfl⟩
                refine hK _ _ (fun _ => SB) ?_
                have HB0 := Lib.hid (Nat.le_trans HBW.out.2 (Nat.le_trans HWD.out.size hb13.size))
                clear hK K SA hb13
                try simp only [Act.put, zA, zB, zC]
                have NT := Lib.hid (lz_new L13.out HP13.out RUN13.out HB0.out GOOD.out LN.out HV.out.1 HV.out.2 HRZ.out CC.out)
                refine Hd.one (i := 5) rfl (by kernel_rfl) rfl (fun K hK => ?_)
                go_simp
                refine NT.out.mono ?_
                rintro e w14 ⟨qt, C, sc, cds, m0, N, rfl, hP14, hA14, hG14, hb14⟩
                have SC : w14.cell? ⟨g0, 0, none⟩ = some (.slice cA cn cc) ∧ w14.cell? ⟨g1, 0, none⟩ = some (.int .i64 sx) ∧ w14.cell? ⟨g1, 1, none⟩ = some (.int .i64 sy) ∧ w14.cell? ⟨g1, 2, none⟩ = some (.slice A6 m6 c6) := ⟨(P13.out.keep hb14).c0, cells_of (L13.out.keep hb14).c1 (j := 0) rfl, cells_of (L13.out.keep hb14).c1 (j := 1) rfl, cells_of (L13.out.keep hb14).c1 (j := 2) rfl⟩
                refine hK _ _ (fun _ => SC) ?_
                have PR := Lib.hid hP14
                have AK := Lib.hid hA14
                have BG := Lib.hid hG14
                have B14 := Lib.hid (B13.out.trans (hb14.mono B13.out.size))
                clear hK K SB hb14 hP14 hA14 hG14 NT
                try simp only [Act.put, zA, zB, zC]
                refine Hd.one (i := 6) rfl (by kernel_rfl) rfl (fun K hK => ?_)
                go_simp
                refine hK _ _ (fun h => absurd h (by omega)) ?_
                clear hK K SC
                try simp only [Act.put, zA, zB, zC]
                refine Hd.done (by kernel_rfl) ?_ _
                have hB0 : w.heap.size ≤ wc.heap.size := HBW.out.1
                clear L11 P11 HP11 B11 LD PD HPD BD RUND L13 P13 HP13 B13 RUN13 HWD HB0 RUN LZ3 CC B10 PW HPW NW
                go_wp2_with fail
                go_loopw [20, 21, 22] (fun i _a _b wr => ∃ (kk : Nat) (s : Ar) (m : Mch Ln), kk ≤ n3 ∧ i = .int .i64 kk ∧ Prs wr wc.heap.size rq ⟨cA, cn, cc, cs, tA, tn, tc, rA, rn, rc⟩ ts rb qt C sc cds s m ∧ Alk cs N kk s m ∧ Below w.heap.size w wr) (fun i _ _ _ => n3 - (intOf i).toNat)
                case atStart => exact ⟨0, _, _, by omega, rfl, PR.out, AK.out, B14.out⟩
                case round =>
                  obtain ⟨kk, s, m, hkk, rfl, hP, hA, hB⟩ := hrel
                  have PP := Lib.hid hP
                  have AA := Lib.hid hA
                  have BB := Lib.hid hB
                  clear hP hA hB PR AK B14
                  by_cases hkn : kk < n3
                  · obtain ⟨b, o, hA3, hb, sw⟩ := HO.out.cell (k := kk) hkn
                    have s0 := (BB.out.cell (p := ⟨b, o + kk, none⟩) hb).trans sw
                    obtain ⟨z, hz⟩ : ∃ z, os.getD kk 0 = z := ⟨_, rfl⟩
                    rw [hz] at s0 sw
                    have SW := Lib.hid sw
                    clear hz sw
                    have i1 : (kk : Int) < n3 := by omega
                    have hcap := (HO.out).2.le
                    subst hA3
                    have HKK : Hid (kk ≤ 120) := Lib.hid (by have := HN3.out; omega)
                    by_cases hz1 : z = -1
                    · have hd : (z == (-1 : Int)) = true := by rw [beq_iff_eq]; exact hz1
                      go_wp2_with fail
                      refine (prs_crashR PP.out).mono ?_
                      rintro e w3 ⟨rfl, hb3, hP3⟩
                      have P3' := Lib.hid hP3
                      clear hP3
                      go_wp2_with fail
                      refine (prs_crashT P3'.out (by have := BG.out.c4; omega)).mono ?_
                      rintro e w4 ⟨rfl, hb4, hP4⟩
                      have PX := Lib.hid hP4
                      have AX := Lib.hid (AA.out.crash BG.out.rc)
                      have BX := Lib.hid ((BB.out.trans (hb3.mono hB0)).trans (hb4.mono hB0))
                      clear hP4 hb3 hb4 P3' PP AA
                      have HOL := Lib.hid (show _ ≤ 1000000 from Nat.le_trans AX.out.len (by have := HKK.out; omega))
                      have HOM := Lib.hid (show _ ≤ 1000000 from Nat.le_trans AX.out.lenT (by have := HKK.out; omega))
                      have HNL := Lib.hid (show _ ≤ 1000000 from Nat.le_trans (Nat.le_of_eq AX.out.words) (by have := BG.out.n; omega))
                      have HOE := Lib.hid (decide_eq_true AX.out.outE)
                      have HNE := Lib.hid (decide_eq_true AX.out.nowE)
                      have HDE := Lib.hid (done_al AX.out.both)
                      go_wp2_with fail
                      refine (rstuck13_any PX.out.y7).mono ?_
                      rintro e w5 ⟨rfl, rfl⟩
                      go_wp2_with fail
                      refine (pstuck_any PX.out.c9).mono ?_
                      rintro e w5 ⟨rfl, rfl⟩
                      go_wp2_with fail
                      refine (prs_doneR PX.out (by have := AX.out.t4; omega)).mono ?_
                      rintro e w5 ⟨rfl, rfl⟩
                      rw [HDE.out]
                      have DT := Lib.hid (prs_doneT PX.out (by have := AX.out.t4T; omega))
                      generalize doneM _ = dn at *
                      have hdd : (dn != dn) = false := by simp
                      go_wp2_with fail
                      refine DT.out.mono ?_
                      rintro e w5 ⟨rfl, rfl⟩
                      go_wp2_with fail
                      refine (prs_outR PX.out HOL.out).mono ?_
                      rintro e w5 ⟨A5, n5, c5, rfl, row5, hb5⟩
                      have D5 := Lib.hid (PX.out.keep hb5)
                      have U5 := Lib.hid (isU_of_row row5)
                      clear row5
                      go_wp2_with fail
                      refine (prs_outT D5.out HOM.out).mono ?_
                      rintro e w6 ⟨A6', n6, c6', rfl, row6, hb6⟩
                      have D6 := Lib.hid (D5.out.keep hb6)
                      have U6 := Lib.hid (isU_of_row row6)
                      clear row6
                      go_wp2_with fail
                      refine (samew_any A5 A6' n5 c5 n6 c6' _ _ w6 (U5.out.keep hb6) U6.out).mono ?_
                      rintro e w7 ⟨rfl, m7, rfl⟩
                      rw [HOE.out]
                      have b7 := below_drawn w6 m7
                      have D7 := Lib.hid (D6.out.keep b7)
                      obtain ⟨w7, hw7⟩ : ∃ w7, w6.drewN m7 = w7 := ⟨_, rfl⟩
                      rw [hw7] at D7 b7
                      rw [hw7]
                      go_wp2_with fail
                      refine (prs_cellsR D7.out HNL.out).mono ?_
                      rintro e w8 ⟨A8, n8, c8, rfl, row8, hb8⟩
                      have D8 := Lib.hid (D7.out.keep hb8)
                      have U8 := Lib.hid (isU_of_row row8)
                      clear row8
                      go_wp2_with fail
                      refine (prs_cellsT D8.out).mono ?_
                      rintro e w9 ⟨A9, n9, c9, rfl, row9, hb9⟩
                      have D9 := Lib.hid (D8.out.keep hb9)
                      have U9 := Lib.hid (isU_of_row row9)
                      clear row9
                      go_wp2_with fail
                      refine (samew_any A8 A9 n8 c8 n9 c9 _ _ w9 (U8.out.keep hb9) U9.out).mono ?_
                      rintro e wa ⟨rfl, ma9, rfl⟩
                      rw [HNE.out]
                      have D10 := Lib.hid (D9.out.keep (below_drawn w9 ma9))
                      have BZ := Lib.hid (below_seq (below_seq (below_seq (below_seq (below_seq hb5 hb6) b7) hb8) hb9) (below_drawn w9 ma9))
                      clear hb5 hb6 b7 hb8 hb9
                      have hkb : kk ≤ 120 := HKK.out
                      go_wp2_with fail
                      go_roundw
                      case rel => exact ⟨kk + 1, _, _, hkn, by go_num, D10.out, AX.out, BX.out.trans (BZ.out.mono BX.out.size)⟩
                      case measure => simp [intOf]; omega
                    · have hd : (z == (-1 : Int)) = false := by rw [beq_eq_false_iff_ne]; exact hz1
                      go_wp2_with fail
                      refine (prs_stepR PP.out (by have := AA.out.len; have := HKK.out; omega) z).mono ?_
                      rintro e w3 ⟨hb3, hC3⟩
                      have B3' := Lib.hid (BB.out.trans (hb3.mono hB0))
                      have s3 := (B3'.out.cell (p := ⟨b, o + kk, none⟩) hb).trans SW.out
                      rcases hC3 with ⟨hn, ⟨bb, rfl⟩, hH⟩ | ⟨bb, s', hs, rfl, hP3⟩
                      · have H3 := Lib.hid hH
                        clear hn hH hb3
                        go_wp2_with fail
                        refine (hlf_stepT H3.out (by have := AA.out.lenT; have := HKK.out; omega) z).mono ?_
                        rintro e w4 ⟨hb4, ⟨b2, rfl⟩, c4⟩
                        have B4' := Lib.hid (B3'.out.trans (hb4.mono hB0))
                        clear hb4
                        go_wp2_with fail
                        refine (rstuck13_any c4).mono ?_
                        rintro e w5 ⟨rfl, rfl⟩
                        go_wp2_with fail
                        go_ret
                        exact ⟨rfl, B4'.out⟩
                      · have P3' := Lib.hid hP3
                        have HS3 := Lib.hid hs
                        clear hP3 hs hb3
                        go_wp2_with fail
                        refine (prs_stepT P3'.out (by have := AA.out.lenT; have := HKK.out; omega) z).mono ?_
                        rintro e w4 ⟨hb4, rfl, c7, c9, hP4⟩
                        have BX := Lib.hid (B3'.out.trans (hb4.mono hB0))
                        by_cases hr : (stepM goL (cds.map lnOf) m z).1 = 2
                        · have c9' : w4.cell? ⟨qt, 9, none⟩ = some (.bool true) := by rw [c9, hr]; rfl
                          clear c9 hP4 hr hb4
                          generalize ((stepM goL (cds.map lnOf) m z).1 == 0) = okb at *
                          go_wp2_with fail
                          refine (rstuck13_any c7).mono ?_
                          rintro e w5 ⟨rfl, rfl⟩
                          go_wp2_with fail
                          refine (pstuck_any c9').mono ?_
                          rintro e w5 ⟨rfl, rfl⟩
                          go_wp2_with fail
                          go_ret
                          exact ⟨rfl, BX.out⟩
                        · have PX := Lib.hid (hP4 hr)
                          obtain ⟨eb, hA'⟩ := AA.out.step BG.out.al BG.out.t4 BG.out.two HS3.out hr
                          have AX := Lib.hid hA'
                          rw [← eb]
                          have hbb : (bb != bb) = false := by simp
                          clear c7 c9 hP4 hr hb4 eb hA' PP AA P3' HS3
                          generalize (stepM goL (cds.map lnOf) m z).2 = mx at *
                          have HOL := Lib.hid (show _ ≤ 1000000 from Nat.le_trans AX.out.len (by have := HKK.out; omega))
                          have HOM := Lib.hid (show _ ≤ 1000000 from Nat.le_trans AX.out.lenT (by have := HKK.out; omega))
                          have HNL := Lib.hid (show _ ≤ 1000000 from Nat.le_trans (Nat.le_of_eq AX.out.words) (by have := BG.out.n; omega))
                          have HOE := Lib.hid (decide_eq_true AX.out.outE)
                          have HNE := Lib.hid (decide_eq_true AX.out.nowE)
                          have HDE := Lib.hid (done_al AX.out.both)
                          go_wp2_with fail
                          refine (rstuck13_any PX.out.y7).mono ?_
                          rintro e w5 ⟨rfl, rfl⟩
                          go_wp2_with fail
                          refine (pstuck_any PX.out.c9).mono ?_
                          rintro e w5 ⟨rfl, rfl⟩
                          go_wp2_with fail
                          refine (prs_doneR PX.out (by have := AX.out.t4; omega)).mono ?_
                          rintro e w5 ⟨rfl, rfl⟩
                          rw [HDE.out]
                          have DT := Lib.hid (prs_doneT PX.out (by have := AX.out.t4T; omega))
                          generalize doneM _ = dn at *
                          have hdd : (dn != dn) = false := by simp
                          go_wp2_with fail
                          refine DT.out.mono ?_
                          rintro e w5 ⟨rfl, rfl⟩
                          go_wp2_with fail
                          refine (prs_outR PX.out HOL.out).mono ?_
                          rintro e w5 ⟨A5, n5, c5, rfl, row5, hb5⟩
                          have D5 := Lib.hid (PX.out.keep hb5)
                          have U5 := Lib.hid (isU_of_row row5)
                          clear row5
                          go_wp2_with fail
                          refine (prs_outT D5.out HOM.out).mono ?_
                          rintro e w6 ⟨A6', n6, c6', rfl, row6, hb6⟩
                          have D6 := Lib.hid (D5.out.keep hb6)
                          have U6 := Lib.hid (isU_of_row row6)
                          clear row6
                          go_wp2_with fail
                          refine (samew_any A5 A6' n5 c5 n6 c6' _ _ w6 (U5.out.keep hb6) U6.out).mono ?_
                          rintro e w7 ⟨rfl, m7, rfl⟩
                          rw [HOE.out]
                          have b7 := below_drawn w6 m7
                          have D7 := Lib.hid (D6.out.keep b7)
                          obtain ⟨w7, hw7⟩ : ∃ w7, w6.drewN m7 = w7 := ⟨_, rfl⟩
                          rw [hw7] at D7 b7
                          rw [hw7]
                          go_wp2_with fail
                          refine (prs_cellsR D7.out HNL.out).mono ?_
                          rintro e w8 ⟨A8, n8, c8, rfl, row8, hb8⟩
                          have D8 := Lib.hid (D7.out.keep hb8)
                          have U8 := Lib.hid (isU_of_row row8)
                          clear row8
                          go_wp2_with fail
                          refine (prs_cellsT D8.out).mono ?_
                          rintro e w9 ⟨A9, n9, c9, rfl, row9, hb9⟩
                          have D9 := Lib.hid (D8.out.keep hb9)
                          have U9 := Lib.hid (isU_of_row row9)
                          clear row9
                          go_wp2_with fail
                          refine (samew_any A8 A9 n8 c8 n9 c9 _ _ w9 (U8.out.keep hb9) U9.out).mono ?_
                          rintro e wa ⟨rfl, ma9, rfl⟩
                          rw [HNE.out]
                          have D10 := Lib.hid (D9.out.keep (below_drawn w9 ma9))
                          have BZ := Lib.hid (below_seq (below_seq (below_seq (below_seq (below_seq hb5 hb6) b7) hb8) hb9) (below_drawn w9 ma9))
                          clear hb5 hb6 b7 hb8 hb9
                          have hkb : kk ≤ 120 := HKK.out
                          go_wp2_with fail
                          go_roundw
                          case rel => exact ⟨kk + 1, _, _, hkn, by go_num, D10.out, AX.out, BX.out.trans (BZ.out.mono BX.out.size)⟩
                          case measure => simp [intOf]; omega
                  · obtain rfl : kk = n3 := by omega
                    have d9 : decide ((kk : Int) < (kk : Int)) = false := decide_eq_false (by omega)
                    go_wp2_with fail
                    go_ret
                    exact ⟨rfl, BB.out⟩
        · go_wp2_with fail
          go_ret
          exact ⟨rfl, (B4.out.alloc B4.out.size _)⟩
  · go_wp2_with fail
    go_ret
    exact ⟨rfl, (B2.out.alloc B2.out.size _)⟩
end Go.Proofs.Ytapnnbbbgopobaa.Rq
