/-
  WALKS: the reference's Program: the codes of a program.
-/
import Derived.Test.YtapnnbbbgopobaaG21
import Derived.Test.YtapnnbbbgopobaaG05
import Derived.Test.YtapnnbbbgopobaaG14
set_option linter.unusedVariables false
set_option linter.unusedSimpArgs false
namespace Go.Proofs.Ytapnnbbbgopobaa.Lr
open Go.RowKit Cm Mm Ow Me Ml Lg Stp StW Rr StM ElM
structure CdB (w : World) (B : Nat) (cs : List Lay.Cl) (b : Bd) (d : Cd) : Prop where
  x : d.x = (varsOf b : Nat)
  y : d.y = ((nmsB b).length : Nat)
  l : d.l = codeOf cs b
  row : Own w B 55 9 d.A d.n d.cap (d.l.map stL)
def P13A (w : World) (cs : List Lay.Cl) (ts : List (ByteArray × Bd)) (rb : Bd) (en : Ending) (w' : World) : Prop := ∃ (s : Cd) (LA : Option Addr) (ln lc : Nat) (er : Int) (ds : List Cd), en = .returned (.tuple #[.agg #[.int .i64 s.x, .int .i64 s.y, .slice s.A s.n s.cap], .slice LA ln lc, .int .i64 er]) ∧ Below w.heap.size w w' ∧
  (er = 0 → Fr.Good cs ts rb ∧ CdB w' w.heap.size cs rb s ∧ ln = ts.length ∧ Own w' w.heap.size 34 3 LA ln lc (ds.map cdL) ∧ (∀ i, i < ln → CdB w' w.heap.size cs (ts.getD i zeroTh).2 (ds.getD i zeroCd)) ∧ varsOf rb ≤ 400 ∧ ∀ i, i < ln → varsOf (ts.getD i zeroTh).2 ≤ 400)
theorem elCd : El Try.prog 35 34 3 40 := by
  obtain ⟨i, h1, h2, h3, h4⟩ := info_parts (P := Try.prog) (e := 34) (z := .agg #[.int .i64 0, .int .i64 0, .slice none 0 0]) (size := 3) (bytes := 40) (by kernel_rfl)
  exact ⟨Try.underlying35, ⟨i, _, h1, h2, h3, h4, rfl⟩, by decide⟩
theorem own_ne {w : World} {B1 B2 : Nat} {e1 e2 : TypeId} {z1 z2 : Nat} {A1 A2 : Option Addr} {n1 n2 c1 c2 : Nat} {L1 L2 : List (List Value)} (h1 : Own w B1 e1 z1 A1 n1 c1 L1) (h2 : Own w B2 e2 z2 A2 n2 c2 L2) (he : e1 ≠ e2) : ∀ g, A1.map (·.block) = some g → A2.map (·.block) ≠ some g := fun g h3 h4 => by
  obtain ⟨k1, j1⟩ := h1.type h3
  obtain ⟨k2, j2⟩ := h2.type h4
  rw [j1] at j2
  injection j2 with j2
  injection j2 with _ j2
  exact he j2
section
variable {w w' : World} {B B' : Nat} {cs : List Lay.Cl} {b : Bd} {d : Cd}
theorem CdB.keep (h : CdB w B cs b d) (hb : Below w.heap.size w w') : CdB w' B cs b d := ⟨h.x, h.y, h.l, h.row.keep hb⟩
theorem CdB.low (h : CdB w B cs b d) (hB : B' ≤ B) : CdB w B' cs b d := ⟨h.x, h.y, h.l, Own.low h.row hB⟩
theorem CdB.only (h : CdB w B cs b d) {F : List Nat} (ho : Only F w w') (hF : ∀ g, B ≤ g → g ∉ F) : CdB w' B cs b d := ⟨h.x, h.y, h.l, own_only h.row ho (fun g hg => hF g (h.row.lt g hg).1)⟩
theorem CdB.far (h : CdB w B cs b d) {B2 n c : Nat} {A : Option Addr} {L : List (List Value)} (hr : Own w B2 34 3 A n c L) (ho : Only (A.map (·.block)).toList w w') : CdB w' B cs b d :=
  ⟨h.x, h.y, h.l, own_only h.row ho (fun g hg hx => own_ne h.row hr (by decide) g hg (Fr.mem_blk.1 hx))⟩
end
theorem p13_ret {w w' : World} {cs : List Lay.Cl} {ts : List (ByteArray × Bd)} {rb : Bd} {tmps : Array Value} {g : Nat} {s : Cd} {LA : Option Addr} {ln lc : Nat} {er : Int} {ds : List Cd} (h2 : tmps[2]?.getD undef = .pointer (some ⟨g, 0, none⟩)) (h3 : tmps[3]?.getD undef = .slice LA ln lc) (h4 : tmps[4]?.getD undef = .int .i64 er) (hT : w'.heap[g]? = some (.cells #[.int .i64 s.x, .int .i64 s.y, .slice s.A s.n s.cap] 34 (0, 0))) (hb : Below w.heap.size w w')
    (hc : er = 0 → Fr.Good cs ts rb ∧ CdB w' w.heap.size cs rb s ∧ ln = ts.length ∧ Own w' w.heap.size 34 3 LA ln lc (ds.map cdL) ∧ (∀ i, i < ln → CdB w' w.heap.size cs (ts.getD i zeroTh).2 (ds.getD i zeroCd)) ∧ varsOf rb ≤ 400 ∧ ∀ i, i < ln → varsOf (ts.getD i zeroTh).2 ≤ 400) : bodyPost Try.prog Try.f6 (P13A w cs ts rb) Exit.ret { tmps := tmps, defers := [] } w' := by
  have y0 := cells_of hT (j := 0) rfl
  have y1 := cells_of hT (j := 1) rfl
  have y2 := cells_of hT (j := 2) rfl
  refine bodyPost_ret (v := .tuple #[.agg #[.int .i64 s.x, .int .i64 s.y, .slice s.A s.n s.cap], .slice LA ln lc, .int .i64 er]) ?_ rfl ⟨s, LA, ln, lc, er, ds, rfl, hb, hc⟩
  simp [results, Try.results6, go_sem, h2, h3, h4, y0, y1, y2]
set_option maxRecDepth 20000 in
set_option maxHeartbeats 6400000 in
theorem prog13_any {w : World} {cA : Option Addr} {cn cc : Nat} {tA : Option Addr} {tn tc : Nat} {rA : Option Addr} {rn rc : Nat} {cs : List Lay.Cl} {ts : List (ByteArray × Bd)} {rb : Bd} (h : IsPg w cA cn cc tA tn tc rA rn rc cs ts rb) (hz : ∀ i, i < tn → bsz (ts.getD i zeroTh).2 ≤ 50000) (hrz : bsz rb ≤ 50000) :
    Calls Try.prog 6 #[.agg #[.slice cA cn cc, .slice tA tn tc, .slice rA rn rc]] w (P13A w cs ts rb) := by
  have hb1 := below_new w (.cells #[.slice cA cn cc, .slice tA tn tc, .slice rA rn rc] 29)
  have hb2 := below_new (w.alloc (.cells #[.slice cA cn cc, .slice tA tn tc, .slice rA rn rc] 29)) (.cells #[.int .i64 0, .int .i64 0, .slice none 0 0] 34)
  have hb12 := hb1.trans (hb2.mono hb1.size)
  have P0 : Hid (Pv ((w.alloc (.cells #[.slice cA cn cc, .slice tA tn tc, .slice rA rn rc] 29)).alloc (.cells #[.int .i64 0, .int .i64 0, .slice none 0 0] 34)) w.heap.size (.slice cA cn cc) (.slice tA tn tc) (.slice rA rn rc)) := Lib.hid (Pv.keep ⟨heap_alloc_new _ _⟩ hb2)
  have G0 := Lib.hid (heap_alloc_new (w.alloc (.cells #[.slice cA cn cc, .slice tA tn tc, .slice rA rn rc] 29)) (.cells #[.int .i64 0, .int .i64 0, .slice none 0 0] 34))
  have H0 := Lib.hid (h.keep hb12)
  have B0 := Lib.hid hb12
  have hsz : (w.alloc (.cells #[.slice cA cn cc, .slice tA tn tc, .slice rA rn rc] 29)).heap.size = w.heap.size + 1 := by simp
  clear h hb1 hb2 hb12
  rw [hsz] at G0
  clear hsz
  go_enter Try.func6, Try.ntmps6
  go_upto_region 1 with fail
  obtain ⟨W, hW⟩ : ∃ W, (w.alloc (.cells #[.slice cA cn cc, .slice tA tn tc, .slice rA rn rc] 29)).alloc (.cells #[.int .i64 0, .int .i64 0, .slice none 0 0] 34) = W := ⟨_, rfl⟩
  rw [hW] at P0 G0 H0 B0
  try rw [hW]
  clear hW
  have p0 := P0.out.c0
  have p1 := P0.out.c1
  have p2 := P0.out.c2
  go_wp2_with fail
  refine (Fr.check_any H0.out).mono ?_
  rintro en w2 ⟨at_, e, rfl, hb2, hgood⟩
  have B2 := Lib.hid (B0.out.trans (hb2.mono B0.out.size))
  have P2 := Lib.hid (P0.out.keep hb2)
  have hgl : w.heap.size + 1 < W.heap.size := (Array.getElem?_eq_some_iff.1 G0.out).1
  have G2 := Lib.hid ((hb2.block _ hgl).trans G0.out)
  have H2 := Lib.hid (H0.out.keep hb2)
  have GD := Lib.hid hgood
  have hgl2 : w.heap.size + 1 < w2.heap.size := Nat.lt_of_lt_of_le hgl hb2.size
  clear hb2 hgood p0 p1 p2 P0 G0 H0 B0 hgl
  by_cases he : e = 0
  · subst he
    have GOOD : Hid (Fr.Good cs ts rb) := Lib.hid (GD.out.1 rfl)
    clear GD
    have p0 := P2.out.c0
    have p2 := P2.out.c2
    have hcel : Hid (CelB cs rb) := Lib.hid (celB_of rb [] GOOD.out.wrec)
    have hcs : Hid (CellsOk cs) := Lib.hid (fun i hi => by
      have := Fr.power_bd (GOOD.out.cells i hi).2.1
      have e : (cs.getD i (⟨#[]⟩, 0)).2 = (cs.getD i Lay.zero).2 := by simp only [List.getD, List.getElem?_eq_getElem hi, Option.getD_some]
      rw [e]; exact this)
    have hcn : cn ≤ 65536 := by have := H2.out.cn2; omega
    have TL : Hid (ts.length = tn) := Lib.hid H2.out.th.len
    have TN4 : tn ≤ 4 := by have := GOOD.out.t4; have := TL.out; omega
    go_wp2_with fail
    refine (rbody_any H2.out.rec_ hrz H2.out.cl hcn hcel.out hcs.out).mono ?_
    rintro en w3 ⟨A3, m3, c3, rfl, hown3, hb3⟩
    have hb4 := below_new w3 (.cells #[.int .i64 (varsOf rb : Nat), .int .i64 ((nmsB rb).length : Nat), .slice A3 m3 c3] 34)
    have hb34 := hb3.trans (hb4.mono hb3.size)
    have B4 := Lib.hid (B2.out.trans (hb34.mono B2.out.size))
    have P4 := Lib.hid (P2.out.keep hb34)
    have G4 := Lib.hid ((hb34.block _ hgl2).trans G2.out)
    have H4 := Lib.hid (H2.out.keep hb34)
    have S4 : Hid (CdB (w3.alloc (.cells #[.int .i64 (varsOf rb : Nat), .int .i64 ((nmsB rb).length : Nat), .slice A3 m3 c3] 34)) (w.heap.size + 2) cs rb ⟨(varsOf rb : Nat), ((nmsB rb).length : Nat), A3, m3, c3, codeOf cs rb⟩) := Lib.hid ⟨rfl, rfl, rfl, Own.low (hown3.keep hb4) hgl2⟩
    have V4 := Lib.hid (heap_alloc_new w3 (.cells #[.int .i64 (varsOf rb : Nat), .int .i64 ((nmsB rb).length : Nat), .slice A3 m3 c3] 34))
    have hg4 : w.heap.size + 1 < w3.heap.size := Nat.lt_of_lt_of_le hgl2 hb3.size
    clear hown3 hb3 hb4 hb34 B2 P2 G2 H2 p0 p2 hcel hgl2
    go_upto_region 5 with fail
    obtain ⟨W4, hW⟩ : ∃ W, w3.alloc (.cells #[.int .i64 (varsOf rb : Nat), .int .i64 ((nmsB rb).length : Nat), .slice A3 m3 c3] 34) = W := ⟨_, rfl⟩
    rw [hW] at B4 P4 G4 H4 S4 V4
    try rw [hW]
    clear hW
    obtain ⟨g7, hg7⟩ : ∃ g, w3.heap.size = g := ⟨_, rfl⟩
    rw [hg7] at V4 hg4
    try simp only [hg7]
    clear hg7
    have v0 := cells_of V4.out (j := 0) rfl
    obtain ⟨lg, hlg⟩ : ∃ b, decide (400 < (varsOf rb : Int)) = b := ⟨_, rfl⟩
    have LG : Hid (lg = false → varsOf rb ≤ 400) := Lib.hid (fun h => by rw [h] at hlg; have := of_decide_eq_false hlg; omega)
    go_upto_region 6 with fail
    try rw [hlg]
    clear hlg v0
    go_wp2_with fail
    go_loopw [8, 9, 10] (fun b l i wr => ∃ (k : Nat) (b1 : Bool) (LA : Option Addr) (lc : Nat) (ds : List Cd), k ≤ tn ∧ b = .bool b1 ∧ i = .int .i64 k ∧ l = .slice LA k lc ∧ Below W4.heap.size W4 wr ∧ Own wr W4.heap.size 34 3 LA k lc (ds.map cdL) ∧ (∀ i, i < k → CdB wr W4.heap.size cs (ts.getD i zeroTh).2 (ds.getD i zeroCd)) ∧ (b1 = false → varsOf rb ≤ 400 ∧ ∀ i, i < k → varsOf (ts.getD i zeroTh).2 ≤ 400)) (fun _ _ i _ => tn - (intOf i).toNat)
    case atStart => exact ⟨0, lg, none, 0, [], Nat.zero_le _, rfl, rfl, rfl, Below.refl _ _, Own.nil _ _ _ _, fun i hi => absurd hi (by omega), fun h => ⟨LG.out h, fun i hi => absurd hi (by omega)⟩⟩
    case round =>
      obtain ⟨k, b1, LA, lc, ds, hk, rfl, rfl, rfl, hB, hO, hD, hV⟩ := hrel
      have B := Lib.hid hB
      have O := Lib.hid hO
      have D := Lib.hid hD
      have V := Lib.hid hV
      have P := Lib.hid (P4.out.keep hB)
      have H := Lib.hid (H4.out.keep hB)
      have p0 := P.out.c0
      have p1 := P.out.c1
      clear hB hO hD hV LG
      by_cases hkn : k < tn
      · have d1 : decide ((k : Int) < (tn : Int)) = true := decide_eq_true (by omega)
        have hki : (k : Int) < (tn : Int) := by omega
        obtain ⟨tb, to_, BA, bn, bc, rfl, htb, -, g1, hBk, -, -⟩ := H.out.th.cell k hkn
        have HBW : Hid (Fr.walkOk cs [] (ts.getD k zeroTh).2) := Lib.hid (GOOD.out.walks k (by have := TL.out; omega))
        have hzk := hz k hkn
        generalize hbk : (ts.getD k zeroTh).2 = bk at *
        have HBK := Lib.hid hbk
        clear hbk
        have hBk := Lib.hid hBk
        go_upto_region 10 with fail
        go_cut [11] (fun s wx => ∃ (g : Nat) (d : Cd), s = .pointer (some ⟨g, 0, none⟩) ∧ wx.heap[g]? = some (.cells (cdL d).toArray 34 (0, 0)) ∧ wr.heap.size ≤ g ∧ CdB wx wr.heap.size cs bk d ∧ Below wr.heap.size wr wx)
        case first =>
          refine Hd.start 10 (fun w' => w'.cell? ⟨w.heap.size, 0, none⟩ = some (.slice cA cn cc) ∧ w'.cell? ⟨w.heap.size, 1, none⟩ = some (.slice (some ⟨tb, to_, none⟩) tn tc) ∧ w'.cell? ⟨tb, to_ + k * 2 + 1, none⟩ = some (.slice BA bn bc)) (by kernel_rfl) ?_
          have SA : wr.drew.cell? ⟨w.heap.size, 0, none⟩ = some (.slice cA cn cc) ∧ wr.drew.cell? ⟨w.heap.size, 1, none⟩ = some (.slice (some ⟨tb, to_, none⟩) tn tc) ∧ wr.drew.cell? ⟨tb, to_ + k * 2 + 1, none⟩ = some (.slice BA bn bc) := ⟨p0, p1, g1⟩
          refine Hd.take (i := 0) (v := ?vc0) rfl (by decide +kernel) (by decide +kernel) (fun _ _ _ h => h) rfl ?hyc0 SA ?restc0
          case hyc0 =>
            intro wq hSw
            obtain ⟨s1, s2, s3⟩ := hSw
            go_simp
            try with_reducible rfl
          try simp only [Act.put, zA, zB, zC]
          refine Hd.take (i := 1) (v := ?vc1) rfl (by decide +kernel) (by decide +kernel) (fun _ _ _ h => h) rfl ?hyc1 SA ?restc1
          case hyc1 =>
            intro wq hSw
            obtain ⟨s1, s2, s3⟩ := hSw
            go_simp
            try with_reducible rfl
          try simp only [Act.put, zA, zB, zC]
          refine Hd.take (i := 2) (v := ?vc2) rfl (by decide +kernel) (by decide +kernel) (fun _ _ _ h => h) rfl ?hyc2 SA ?restc2
          case hyc2 =>
            intro wq hSw
            obtain ⟨s1, s2, s3⟩ := hSw
            go_simp
            try with_reducible rfl
          try simp only [Act.put, zA, zB, zC]
          refine Hd.take (i := 3) (v := ?vc3) rfl (by decide +kernel) (by decide +kernel) (fun _ _ _ h => h) rfl ?hyc3 SA ?restc3
          case hyc3 =>
            intro wq hSw
            obtain ⟨s1, s2, s3⟩ := hSw
            go_simp
            try with_reducible rfl
          try simp only [Act.put, zA, zB, zC]
          refine Hd.take (i := 4) (v := ?vc4) rfl (by decide +kernel) (by decide +kernel) (fun _ _ _ h => h) rfl ?hyc4 SA ?restc4
          case hyc4 =>
            intro wq hSw
            obtain ⟨s1, s2, s3⟩ := hSw
            go_simp
            try with_reducible rfl
          try simp only [Act.put, zA, zB, zC]
          refine Hd.take (i := 5) (v := ?vc5) rfl (by decide +kernel) (by decide +kernel) (fun _ _ _ h => h) rfl ?hyc5 SA ?restc5
          case hyc5 =>
            intro wq hSw
            obtain ⟨s1, s2, s3⟩ := hSw
            go_simp
            try with_reducible rfl
          try simp only [Act.put, zA, zB, zC]
          refine Hd.take (i := 6) (v := ?vc6) rfl (by decide +kernel) (by decide +kernel) (fun _ _ _ h => h) rfl ?hyc6 SA ?restc6
          case hyc6 =>
            intro wq hSw
            obtain ⟨s1, s2, s3⟩ := hSw
            go_simp
            try with_reducible rfl
          try simp only [Act.put, zA, zB, zC]
          refine Hd.take (i := 7) (v := ?vc7) rfl (by decide +kernel) (by decide +kernel) (fun _ _ _ h => h) rfl ?hyc7 SA ?restc7
          case hyc7 =>
            intro wq hSw
            obtain ⟨s1, s2, s3⟩ := hSw
            go_simp
            try with_reducible rfl
          try simp only [Act.put, zA, zB, zC]
          have HW := Lib.hid (H.out.keep (Below.refl _ _).drew)
          have htz := hzk
          have hcel2 : Hid (CelB cs bk) := Lib.hid (celB_of _ [] HBW.out)
          obtain ⟨WD, hWD⟩ : ∃ W, wr.drew = W := ⟨_, rfl⟩
          have HWS : Hid (WD.heap.size = wr.heap.size) := Lib.hid (by rw [← hWD]; rfl)
          have HBD : Hid (Below wr.heap.size wr WD) := Lib.hid (by rw [← hWD]; exact (Below.refl _ _).drew)
          have HBB : Hid (IsBd 0 WD bk BA bn bc) := Lib.hid (by rw [← hWD]; exact hBk.out.keep (Below.refl _ _).drew)
          rw [hWD] at SA HW
          try rw [hWD]
          clear hWD
          have hpl := Nat.lt_of_lt_of_le P.out.lt HBD.out.size
          have htb2 := Nat.lt_of_lt_of_le htb HBD.out.size
          refine Hd.two (i := 8) (j := 9) rfl rfl (by kernel_rfl) rfl rfl (fun K hK => ?_) (fun K hK => ?_)
          · go_simp
            refine (rbody_any HBB.out htz HW.out.cl hcn hcel2.out hcs.out).mono ?_
            rintro en w5 ⟨A5, m5, c5, rfl, hown5, hb5⟩
            have SB : w5.cell? ⟨w.heap.size, 0, none⟩ = some (.slice cA cn cc) ∧ w5.cell? ⟨w.heap.size, 1, none⟩ = some (.slice (some ⟨tb, to_, none⟩) tn tc) ∧ w5.cell? ⟨tb, to_ + k * 2 + 1, none⟩ = some (.slice BA bn bc) := ⟨(hb5.cell (p := ⟨w.heap.size, 0, none⟩) hpl).trans SA.1, (hb5.cell (p := ⟨w.heap.size, 1, none⟩) hpl).trans SA.2.1, (hb5.cell (p := ⟨tb, to_ + k * 2 + 1, none⟩) htb2).trans SA.2.2⟩
            refine hK _ _ (fun _ => SB) ?_
            have O5 := Lib.hid hown5
            have B5 := Lib.hid (HBD.out.trans (hb5.mono HBD.out.size))
            have hb6 := below_new w5 (.cells #[.int .i64 0, .int .i64 0, .slice none 0 0] 34)
            have SC : (w5.alloc (.cells #[.int .i64 0, .int .i64 0, .slice none 0 0] 34)).cell? ⟨w.heap.size, 0, none⟩ = some (.slice cA cn cc) ∧ (w5.alloc (.cells #[.int .i64 0, .int .i64 0, .slice none 0 0] 34)).cell? ⟨w.heap.size, 1, none⟩ = some (.slice (some ⟨tb, to_, none⟩) tn tc) ∧ (w5.alloc (.cells #[.int .i64 0, .int .i64 0, .slice none 0 0] 34)).cell? ⟨tb, to_ + k * 2 + 1, none⟩ = some (.slice BA bn bc) := ⟨(hb6.cell (p := ⟨w.heap.size, 0, none⟩) (Nat.lt_of_lt_of_le hpl hb5.size)).trans SB.1, (hb6.cell (p := ⟨w.heap.size, 1, none⟩) (Nat.lt_of_lt_of_le hpl hb5.size)).trans SB.2.1, (hb6.cell (p := ⟨tb, to_ + k * 2 + 1, none⟩) (Nat.lt_of_lt_of_le htb2 hb5.size)).trans SB.2.2⟩
            have hbx := heap_alloc_new w5 (.cells #[.int .i64 0, .int .i64 0, .slice none 0 0] 34)
            have HB6 := Lib.hid hb6
            have GE : Hid (wr.heap.size ≤ w5.heap.size) := Lib.hid B5.out.size
            have hb7 := below_new w5 (.cells (cdL ⟨(varsOf bk : Nat), ((nmsB bk).length : Nat), A5, m5, c5, codeOf cs bk⟩).toArray 34)
            have RR := Lib.hid (heap_alloc_new w5 (.cells (cdL ⟨(varsOf bk : Nat), ((nmsB bk).length : Nat), A5, m5, c5, codeOf cs bk⟩).toArray 34))
            have CB : Hid (CdB (w5.alloc (.cells (cdL ⟨(varsOf bk : Nat), ((nmsB bk).length : Nat), A5, m5, c5, codeOf cs bk⟩).toArray 34)) wr.heap.size cs bk ⟨(varsOf bk : Nat), ((nmsB bk).length : Nat), A5, m5, c5, codeOf cs bk⟩) := Lib.hid ⟨rfl, rfl, rfl, (Own.low O5.out (Nat.le_of_eq HWS.out.symm)).keep hb7⟩
            have BB := Lib.hid (B5.out.trans (hb7.mono B5.out.size))
            clear hb7
            clear hK K hown5 hb5 hb6 SA SB
            try simp only [Act.put, zA, zB, zC]
            refine Hd.one (i := 9) rfl (by kernel_rfl) rfl (fun K hK => ?_)
            go_simp
            refine hK _ _ (fun _ => SC) ?_
            clear hK K
            try simp only [Act.put, zA, zB, zC]
            refine Hd.one (i := 10) rfl (by kernel_rfl) rfl (fun K hK => ?_)
            go_simp
            refine hK _ _ (fun h => absurd h (by omega)) ?_
            clear hK K
            try simp only [Act.put, zA, zB, zC]
            refine Hd.done (by kernel_rfl) ?_ _
            go_wp2_with fail
            go_meet
            case rel => exact ⟨_, _, rfl, RR.out, GE.out, CB.out, BB.out⟩
          · go_simp
            have hb4 := below_new WD (.cells #[.int .i64 0, .int .i64 0, .slice none 0 0] 34)
            have SB : (WD.alloc (.cells #[.int .i64 0, .int .i64 0, .slice none 0 0] 34)).cell? ⟨w.heap.size, 0, none⟩ = some (.slice cA cn cc) ∧ (WD.alloc (.cells #[.int .i64 0, .int .i64 0, .slice none 0 0] 34)).cell? ⟨w.heap.size, 1, none⟩ = some (.slice (some ⟨tb, to_, none⟩) tn tc) ∧ (WD.alloc (.cells #[.int .i64 0, .int .i64 0, .slice none 0 0] 34)).cell? ⟨tb, to_ + k * 2 + 1, none⟩ = some (.slice BA bn bc) := ⟨(hb4.cell (p := ⟨w.heap.size, 0, none⟩) hpl).trans SA.1, (hb4.cell (p := ⟨w.heap.size, 1, none⟩) hpl).trans SA.2.1, (hb4.cell (p := ⟨tb, to_ + k * 2 + 1, none⟩) htb2).trans SA.2.2⟩
            refine hK _ _ (fun _ => SB) ?_
            have HW4 := Lib.hid (HW.out.keep hb4)
            have HB4 := Lib.hid (HBB.out.keep hb4)
            have hbx := heap_alloc_new WD (.cells #[.int .i64 0, .int .i64 0, .slice none 0 0] 34)
            have hW4s : (WD.alloc (.cells #[.int .i64 0, .int .i64 0, .slice none 0 0] 34)).heap.size = WD.heap.size + 1 := by simp
            obtain ⟨W4, hW4⟩ : ∃ W, WD.alloc (.cells #[.int .i64 0, .int .i64 0, .slice none 0 0] 34) = W := ⟨_, rfl⟩
            rw [hW4] at HW4 HB4 hbx hW4s SB hb4
            try rw [hW4]
            have BD4 := Lib.hid (HBD.out.trans (hb4.mono HBD.out.size))
            clear hK K SA hW4
            try simp only [Act.put, zA, zB, zC]
            refine Hd.one (i := 8) rfl (by kernel_rfl) rfl (fun K hK => ?_)
            go_simp
            refine (rbody_any HB4.out htz HW4.out.cl hcn hcel2.out hcs.out).mono ?_
            rintro en w5 ⟨A5, m5, c5, rfl, hown5, hb5⟩
            have SC : w5.cell? ⟨w.heap.size, 0, none⟩ = some (.slice cA cn cc) ∧ w5.cell? ⟨w.heap.size, 1, none⟩ = some (.slice (some ⟨tb, to_, none⟩) tn tc) ∧ w5.cell? ⟨tb, to_ + k * 2 + 1, none⟩ = some (.slice BA bn bc) := ⟨(hb5.cell (p := ⟨w.heap.size, 0, none⟩) (Nat.lt_of_lt_of_le hpl hb4.size)).trans SB.1, (hb5.cell (p := ⟨w.heap.size, 1, none⟩) (Nat.lt_of_lt_of_le hpl hb4.size)).trans SB.2.1, (hb5.cell (p := ⟨tb, to_ + k * 2 + 1, none⟩) (Nat.lt_of_lt_of_le htb2 hb4.size)).trans SB.2.2⟩
            refine hK _ _ (fun _ => SC) ?_
            have O5 := Lib.hid hown5
            have hby := (hb5.block WD.heap.size (by omega)).trans hbx
            have B5 := Lib.hid (BD4.out.trans (hb5.mono BD4.out.size))
            have GE : Hid (wr.heap.size ≤ WD.heap.size) := Lib.hid (Nat.le_of_eq HWS.out.symm)
            have RR : Hid ((((w5.setCell ⟨WD.heap.size, 0, none⟩ (.int .i64 (varsOf bk : Nat))).setCell ⟨WD.heap.size, 1, none⟩ (.int .i64 ((nmsB bk).length : Nat))).setCell ⟨WD.heap.size, 2, none⟩ (.slice A5 m5 c5)).heap[WD.heap.size]? = some (.cells (cdL ⟨(varsOf bk : Nat), ((nmsB bk).length : Nat), A5, m5, c5, codeOf cs bk⟩).toArray 34 (0, 0))) := Lib.hid (Lx.blk_set (Lx.blk_set (Lx.blk_set hby _) _) _)
            have CB : Hid (CdB (((w5.setCell ⟨WD.heap.size, 0, none⟩ (.int .i64 (varsOf bk : Nat))).setCell ⟨WD.heap.size, 1, none⟩ (.int .i64 ((nmsB bk).length : Nat))).setCell ⟨WD.heap.size, 2, none⟩ (.slice A5 m5 c5)) wr.heap.size cs bk ⟨(varsOf bk : Nat), ((nmsB bk).length : Nat), A5, m5, c5, codeOf cs bk⟩) := Lib.hid ⟨rfl, rfl, rfl, own_only (own_only (own_only (Own.low O5.out (by have := HWS.out; omega)) (only_q _ WD.heap.size 0 _) (fun g hg hx => by have := (O5.out.lt g hg).1; simp at hx; omega)) (only_q _ WD.heap.size 1 _) (fun g hg hx => by have := (O5.out.lt g hg).1; simp at hx; omega)) (only_q _ WD.heap.size 2 _) (fun g hg hx => by have := (O5.out.lt g hg).1; simp at hx; omega)⟩
            have BB : Hid (Below wr.heap.size wr (((w5.setCell ⟨WD.heap.size, 0, none⟩ (.int .i64 (varsOf bk : Nat))).setCell ⟨WD.heap.size, 1, none⟩ (.int .i64 ((nmsB bk).length : Nat))).setCell ⟨WD.heap.size, 2, none⟩ (.slice A5 m5 c5))) := Lib.hid (((B5.out.setCell (p := ⟨WD.heap.size, 0, none⟩) GE.out _).setCell (p := ⟨WD.heap.size, 1, none⟩) GE.out _).setCell (p := ⟨WD.heap.size, 2, none⟩) GE.out _)
            have q0 := cells_of hby (j := 0) rfl
            have q1 := cells_of hby (j := 1) rfl
            have q2 := cells_of hby (j := 2) rfl
            have qf : ∀ j, w5.frozen? ⟨WD.heap.size, j, none⟩ = false := fun j => by simp only [World.frozen?, hby]; simp
            clear hK K hown5 hb5
            try simp only [Act.put, zA, zB, zC]
            refine Hd.one (i := 10) rfl (by kernel_rfl) rfl (fun K hK => ?_)
            go_simp
            refine hK _ _ (fun h => absurd h (by omega)) ?_
            clear hK K
            try simp only [Act.put, zA, zB, zC]
            refine Hd.done (by kernel_rfl) ?_ _
            go_wp2_with fail
            go_meet
            case rel => exact ⟨_, _, rfl, RR.out, GE.out, CB.out, BB.out⟩
        case rest =>
          obtain ⟨g, ⟨dx, dy, dA, dn, dcp, dl⟩, rfl, hgd, hgg, hcd, hbx⟩ := hcut
          have GD := Lib.hid hgd
          have x0 : wc.cell? ⟨g, 0, none⟩ = some (.int .i64 dx) := cells_of hgd (j := 0) rfl
          have x1 : wc.cell? ⟨g, 1, none⟩ = some (.int .i64 dy) := cells_of hgd (j := 1) rfl
          have x2 : wc.cell? ⟨g, 2, none⟩ = some (.slice dA dn dcp) := cells_of hgd (j := 2) rfl
          have CD := Lib.hid hcd
          have BX := Lib.hid hbx
          have O2 := Lib.hid (O.out.keep hbx)
          have D2 := Lib.hid (fun i (hi : i < k) => (D.out i hi).keep hbx)
          clear hgd hcd hbx p0 p1 O D P H hBk
          have hW4 := B.out.size
          have VD : Hid (dx = (varsOf bk : Nat)) := Lib.hid CD.out.x
          obtain ⟨b2, hb2⟩ : ∃ b2, b2 = (b1 || decide (400 < dx)) := ⟨_, rfl⟩
          have HB2 := Lib.hid hb2
          clear hb2
          go_upto_region 11 with fail
          go_cut [8] (fun s wx => s = .bool b2 ∧ wc = wx)
          case first =>
            cases b1
            · by_cases hd : 400 < dx
              · have d4 : decide (400 < dx) = true := decide_eq_true hd
                go_wp2_with fail
                go_meet
                case rel => exact ⟨by rw [HB2.out, d4]; rfl, rfl⟩
              · have d4 : decide (400 < dx) = false := decide_eq_false hd
                go_wp2_with fail
                go_meet
                case rel => exact ⟨by rw [HB2.out, d4]; rfl, rfl⟩
            · go_wp2_with fail
              go_meet
              case rel => exact ⟨by rw [HB2.out]; rfl, rfl⟩
          case rest =>
          obtain ⟨rfl, rfl⟩ := hcut
          go_wp2_with (at_builtin; refine Ow2.wpList_appN wc rfl _ _ rfl elCd W4.heap.size LA k lc 1 _ (ds.map cdL) [cdL ⟨dx, dy, dA, dn, dcp, dl⟩] rfl rfl O2.out rfl rfl (fun y hy => by simp at hy; subst hy; rfl) (fun y hy u hu => by simp at hy; subst hy; simp [cdL] at hu; rcases hu with rfl | rfl | rfl <;> rfl) (by unfold maxLen; omega) (by omega) (Nat.le_trans hW4 BX.out.size) _ rfl ?_; intro A5 c5 w5 hown5 hbel5 hkp5 hat5; have HO5 := Lib.hid hown5; have HB5 := Lib.hid hbel5; have HK5 := Lib.hid hkp5; clear hown5 hbel5 hkp5 hat5)
          go_roundw
          case rel =>
            have hO5 : Only (LA.map (·.block)).toList wc w5 := ⟨HB5.out.os, HB5.out.tape, HB5.out.output, HB5.out.size, fun b hb hn => HK5.out b hb (fun hx => hn (Fr.mem_blk.2 hx))⟩
            have hds : ds.length = k := by simpa using O2.out.len
            refine ⟨k + 1, b2, A5, c5, ds ++ [(⟨dx, dy, dA, dn, dcp, dl⟩ : Cd)], by omega, rfl, by go_num, rfl, B.out.trans ((BX.out.mono hW4).trans HB5.out), by simpa using HO5.out, fun i hi => ?_, fun hb => ?_⟩
            · by_cases e : i = k
              · subst e
                rw [HBK.out]
                have e2 : (ds ++ [(⟨dx, dy, dA, dn, dcp, dl⟩ : Cd)]).getD i zeroCd = ⟨dx, dy, dA, dn, dcp, dl⟩ := by simp [List.getD, ← hds]
                rw [e2]
                exact (CD.out.low hW4).far O2.out hO5
              · have e2 : (ds ++ [(⟨dx, dy, dA, dn, dcp, dl⟩ : Cd)]).getD i zeroCd = ds.getD i zeroCd := by
                  have : i < ds.length := by omega
                  simp [List.getD, List.getElem?_append_left this]
                rw [e2]
                exact (D2.out i (by omega)).far O2.out hO5
            · rw [HB2.out] at hb
              simp only [Bool.or_eq_false_iff, decide_eq_false_iff_not] at hb
              obtain ⟨v1, v2⟩ := V.out hb.1
              refine ⟨v1, fun i hi => ?_⟩
              by_cases e : i = k
              · subst e
                rw [HBK.out]
                have := VD.out
                omega
              · exact v2 i (by omega)
          case measure => simp [intOf]; omega
      · obtain rfl : k = tn := by omega
        have d1 : decide ((k : Int) < (k : Int)) = false := decide_eq_false (by omega)
        have G9 := (B.out.block _ (Array.getElem?_eq_some_iff.1 G4.out).1).trans G4.out
        have HG9 := Lib.hid G9
        have V9 := (B.out.block _ (Array.getElem?_eq_some_iff.1 V4.out).1).trans V4.out
        have u0 := cells_of G9 (j := 0) rfl
        have u1 := cells_of G9 (j := 1) rfl
        have u2 := cells_of G9 (j := 2) rfl
        have uf : ∀ j, wr.frozen? ⟨w.heap.size + 1, j, none⟩ = false := fun j => by simp only [World.frozen?, G9]; simp
        have s0 := cells_of V9 (j := 0) rfl
        have s1 := cells_of V9 (j := 1) rfl
        have s2 := cells_of V9 (j := 2) rfl
        have S9 := Lib.hid (S4.out.keep B.out)
        have B9 := Lib.hid (B4.out.trans (B.out.mono B4.out.size))
        clear G9 V9 p0
        cases b1
        · have VV := Lib.hid (V.out rfl)
          clear V
          have hx : Only [w.heap.size + 1] wr (((wr.setCell ⟨w.heap.size + 1, 0, none⟩ (.int .i64 (varsOf rb : Nat))).setCell ⟨w.heap.size + 1, 1, none⟩ (.int .i64 ((nmsB rb).length : Nat))).setCell ⟨w.heap.size + 1, 2, none⟩ (.slice A3 m3 c3)) := ((only_q wr _ 0 _).setCell (p := ⟨w.heap.size + 1, 1, none⟩) (by simp) _).setCell (p := ⟨w.heap.size + 1, 2, none⟩) (by simp) _
          have X9 := Lib.hid hx
          have R9 : Hid ((((wr.setCell ⟨w.heap.size + 1, 0, none⟩ (.int .i64 (varsOf rb : Nat))).setCell ⟨w.heap.size + 1, 1, none⟩ (.int .i64 ((nmsB rb).length : Nat))).setCell ⟨w.heap.size + 1, 2, none⟩ (.slice A3 m3 c3)).heap[w.heap.size + 1]? = some (.cells #[.int .i64 (varsOf rb : Nat), .int .i64 ((nmsB rb).length : Nat), .slice A3 m3 c3] 34 (0, 0))) := Lib.hid (Lx.blk_set (Lx.blk_set (Lx.blk_set HG9.out _) _) _)
          have BF := Lib.hid (((B9.out.setCell (p := ⟨w.heap.size + 1, 0, none⟩) (Nat.le_succ _) (.int .i64 (varsOf rb : Nat))).setCell (p := ⟨w.heap.size + 1, 1, none⟩) (Nat.le_succ _) (.int .i64 ((nmsB rb).length : Nat))).setCell (p := ⟨w.heap.size + 1, 2, none⟩) (Nat.le_succ _) (.slice A3 m3 c3))
          have hW4g : w.heap.size + 2 ≤ W4.heap.size := by have := (Array.getElem?_eq_some_iff.1 G4.out).1; omega
          clear hx
          go_wp2_with fail
          exact p13_ret (s := ⟨(varsOf rb : Nat), ((nmsB rb).length : Nat), A3, m3, c3, codeOf cs rb⟩) (ds := ds) rfl rfl rfl R9.out BF.out (fun _ => ⟨GOOD.out, (S9.out.only X9.out (fun g hg hx => by simp at hx; omega)).low (by omega), TL.out.symm, Own.low (own_only O.out X9.out (fun g hg hx => by have := (O.out.lt g hg).1; simp at hx; omega)) (by omega), fun i hi => ((D.out i hi).only X9.out (fun g hg hx => by simp at hx; omega)).low (by omega), VV.out.1, VV.out.2⟩)
        · clear V
          have R9 : Hid ((((wr.setCell ⟨w.heap.size + 1, 0, none⟩ (.int .i64 0)).setCell ⟨w.heap.size + 1, 1, none⟩ (.int .i64 0)).setCell ⟨w.heap.size + 1, 2, none⟩ (.slice none 0 0)).heap[w.heap.size + 1]? = some (.cells #[.int .i64 0, .int .i64 0, .slice none 0 0] 34 (0, 0))) := Lib.hid (Lx.blk_set (Lx.blk_set (Lx.blk_set HG9.out _) _) _)
          have BF := Lib.hid (((B9.out.setCell (p := ⟨w.heap.size + 1, 0, none⟩) (Nat.le_succ _) (.int .i64 0)).setCell (p := ⟨w.heap.size + 1, 1, none⟩) (Nat.le_succ _) (.int .i64 0)).setCell (p := ⟨w.heap.size + 1, 2, none⟩) (Nat.le_succ _) (.slice none 0 0))
          go_wp2_with fail
          exact p13_ret (s := zeroCd) (ds := []) (er := 3) rfl rfl rfl R9.out BF.out (fun h => absurd h (by decide))
  · have t0 : (e != 0) = true := by simpa using he
    have u0 := cells_of G2.out (j := 0) rfl
    have u1 := cells_of G2.out (j := 1) rfl
    have u2 := cells_of G2.out (j := 2) rfl
    have uf : ∀ j, w2.frozen? ⟨w.heap.size + 1, j, none⟩ = false := fun j => by simp only [World.frozen?, G2.out]; simp
    have R9 : Hid ((((w2.setCell ⟨w.heap.size + 1, 0, none⟩ (.int .i64 0)).setCell ⟨w.heap.size + 1, 1, none⟩ (.int .i64 0)).setCell ⟨w.heap.size + 1, 2, none⟩ (.slice none 0 0)).heap[w.heap.size + 1]? = some (.cells #[.int .i64 0, .int .i64 0, .slice none 0 0] 34 (0, 0))) := Lib.hid (Lx.blk_set (Lx.blk_set (Lx.blk_set G2.out _) _) _)
    have BF := Lib.hid (((B2.out.setCell (p := ⟨w.heap.size + 1, 0, none⟩) (Nat.le_succ _) (.int .i64 0)).setCell (p := ⟨w.heap.size + 1, 1, none⟩) (Nat.le_succ _) (.int .i64 0)).setCell (p := ⟨w.heap.size + 1, 2, none⟩) (Nat.le_succ _) (.slice none 0 0))
    go_wp2_with fail
    exact p13_ret (s := zeroCd) (ds := []) rfl rfl rfl R9.out BF.out (fun h => absurd h he)
end Go.Proofs.Ytapnnbbbgopobaa.Lr
namespace Go.Proofs.Ytapnnbbbgopobaa.Rn
open Go.RowKit Cm Mm Ow Me Ml Lg Stp Rr Lr
theorem flat_take {sz : Nat} : ∀ (L : List (List Value)) (k : Nat), (∀ x ∈ L, x.length = sz) → (L.take k).flatten = L.flatten.take (k * sz)
  | [], k, _ => by simp
  | x :: l, 0, _ => by simp
  | x :: l, k + 1, h => by
    have hx := h x (by simp)
    rw [List.take_succ_cons, List.flatten_cons, flat_take l k (fun y hy => h y (by simp [hy])), List.flatten_cons, List.take_append]
    rw [hx, show (k + 1) * sz - sz = k * sz by rw [Nat.add_mul]; omega]
    congr 1
    rw [List.take_of_length_le]
    rw [hx, Nat.add_mul]; omega
theorem own_take {w : World} {B : Nat} {e : TypeId} {sz : Nat} {A : Option Addr} {n c : Nat} {L : List (List Value)} (h : Own w B e sz A n c L) {k : Nat} (hk : k ≤ n) : Own w B e sz A k c (L.take k) := by
  have hl := h.len
  refine ⟨by simp; omega, fun x hx => h.each x (List.mem_of_mem_take hx), ?_⟩
  rw [flat_take L k h.each]
  have h1 := h.row.1
  refine ⟨by rw [List.length_take, h1]; exact Nat.min_eq_left (Nat.mul_le_mul_right sz hk), ?_⟩
  rcases h.row.2 with ⟨e1, e2⟩ | ⟨g, cp, cur, e1, e2, e3, e4, e5, e6, e7⟩
  · injection e1 with e1 e3 e4
    subst e1 e4
    exact .inl ⟨by rw [show k = 0 by omega], by omega⟩
  · injection e1 with e8 e9 e10
    subst e8 e10
    refine .inr ⟨g, c, cur, rfl, e2, e3, by omega, e5, e6, ?_⟩
    rw [← e7, List.take_take, Nat.min_eq_left (Nat.mul_le_mul_right sz hk)]
theorem flat_set {sz : Nat} {u : Value} {j : Nat} (hj : j < sz) : ∀ (L : List (List Value)) (i : Nat), (∀ x ∈ L, x.length = sz) → i < L.length → (L.set i ((L.getD i []).set j u)).flatten = L.flatten.set (i * sz + j) u
  | [], i, _, h => absurd h (by simp)
  | x :: l, 0, h, _ => by
    have hx := h x (by simp)
    simp only [List.set_cons_zero, List.getD_cons_zero, List.flatten_cons, Nat.zero_mul, Nat.zero_add]
    rw [List.set_append_left _ _ (by omega)]
  | x :: l, i + 1, h, hi => by
    have hx := h x (by simp)
    simp only [List.set_cons_succ, List.getD_cons_succ, List.flatten_cons]
    rw [flat_set hj l i (fun y hy => h y (by simp [hy])) (by simpa using hi), List.set_append_right _ _ (by rw [hx, Nat.add_mul]; omega)]
    congr 2
    rw [hx, Nat.add_mul]; omega
theorem own_cell {w : World} {B : Nat} {e : TypeId} {sz : Nat} {g n c : Nat} {L : List (List Value)} (h : Own w B e sz (some ⟨g, 0, none⟩) n c L) {i j : Nat} (hi : i < n) (hj : j < sz) (u : Value) : Own (w.setCell ⟨g, i * sz + j, none⟩ u) B e sz (some ⟨g, 0, none⟩) n c (L.set i ((L.getD i []).set j u)) := by
  have hl := h.len
  refine ⟨by simp [hl], fun x hx => ?_, ?_⟩
  · rcases List.mem_or_eq_of_mem_set hx with hx | rfl
    · exact h.each x hx
    · rw [List.length_set, List.getD, List.getElem?_eq_getElem (by omega)]
      exact h.each _ (List.getElem_mem _)
  · rw [flat_set hj L i h.each (by omega)]
    refine ⟨by rw [List.length_set]; exact h.row.1, ?_⟩
    rcases h.row.2 with ⟨e1, e2⟩ | ⟨g', cp, cur, e1, e2, e3, e4, e5, e6, e7⟩
    · injection e1 with e1; cases e1
    · injection e1 with e8 e9 e10
      injection e8 with e8
      injection e8 with e8
      subst e8 e10
      refine .inr ⟨g, c, _, rfl, e2, Lx.blk_set e3 u, e4, e5, by simp [e6], ?_⟩
      rw [← e7, Array.toList_setIfInBounds, List.take_set]
structure Lv where
  A : Option Addr
  n : Nat
  c : Nat
  b : Bd
  at_ : Nat
def lvL (r : Lv) : List Value := [.slice r.A r.n r.c, .int .i64 r.at_]
def uL (z : Int) : List Value := [.int .u64 z]
def zeroLv : Lv := ⟨none, 0, 0, .nil, 0⟩
def remn (r : Lv) : Bd := Fr.dropB r.b r.at_
def stk (rows : List Lv) : List Bd := rows.reverse.map remn
theorem elLv : El Try.prog 86 116 2 32 := by
  obtain ⟨i, h1, h2, h3, h4⟩ := info_parts (P := Try.prog) (e := 116) (z := .agg #[.slice none 0 0, .int .i64 0]) (size := 2) (bytes := 32) (by kernel_rfl)
  exact ⟨Try.underlying86, ⟨i, _, h1, h2, h3, h4, rfl⟩, by decide⟩
structure LvOk (w : World) (B0 M : Nat) (rows : List Lv) : Prop where
  bd : ∀ i, i < rows.length → IsBdP (Fr.Lo B0) w (rows.getD i zeroLv).b (rows.getD i zeroLv).A (rows.getD i zeroLv).n (rows.getD i zeroLv).c
  at_ : ∀ i, i < rows.length → (rows.getD i zeroLv).at_ ≤ (rows.getD i zeroLv).n
  wt : ∀ i, i < rows.length → i + bsz (rows.getD i zeroLv).b ≤ M
structure SrV (w : World) (B0 q : Nat) (F : List Nat) (names : List ByteArray) (v : List Int) (sk en : Bool) (nA : Option Addr) (nn nc : Nat) (vA : Option Addr) (vc : Nat) (KA : Option Addr) (kn kc : Nat) (rows : List Lv) : Prop where
  blk : w.heap[q]? = some (.cells #[.slice nA nn nc, .slice vA nn vc, .slice KA kn kc, .bool sk, .bool en] 88 (0, 0))
  nm : Fr.Nm w B0 nA nn nc names
  vr : Own w B0 53 1 vA nn vc (v.map uL)
  kr : Own w B0 116 2 KA kn kc (rows.map lvL)
  ok : LvOk w B0 100000 rows
  hq : B0 ≤ q
  fq : q ∈ F
  fv : ∀ g, vA.map (·.block) = some g → g ∈ F
  fk : ∀ g, KA.map (·.block) = some g → g ∈ F
  fn : ∀ g, nA.map (·.block) = some g → g ∈ F
  ff : ∀ g ∈ F, g = q ∨ vA.map (·.block) = some g ∨ KA.map (·.block) = some g ∨ nA.map (·.block) = some g
  n2 : nn ≤ 65536
end Go.Proofs.Ytapnnbbbgopobaa.Rn
