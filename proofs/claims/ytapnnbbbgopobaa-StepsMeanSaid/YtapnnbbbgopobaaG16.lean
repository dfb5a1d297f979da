/-
  WALKS: the reference's reader: a body. (under way)
-/
import Derived.Test.YtapnnbbbgopobaaG12
import Derived.Deep.CutBlock
import Derived.Deep.DeepCutAuto
set_option linter.unusedVariables false
set_option linter.unusedSimpArgs false
namespace Go.Proofs.Ytapnnbbbgopobaa.Rr
open Go.RowKit Cm Mm Ow Me Ml Lg Lx
theorem fd_0 (kd : Int) (tx : ByteArray) (nn a2 : Int) (W : World) : (Instr.field 63 (.agg #[.int .i64 kd, .string tx, .int .u64 nn, .int .i64 a2]) 0).run Try.prog W = .ok (.int .i64 kd) W := by
  have hu := Try.underlying63
  simp [Instr.field, asAgg, go_sem, hu]
theorem fd_1 (kd : Int) (tx : ByteArray) (nn a2 : Int) (W : World) : (Instr.field 63 (.agg #[.int .i64 kd, .string tx, .int .u64 nn, .int .i64 a2]) 1).run Try.prog W = .ok (.string tx) W := by
  have hu := Try.underlying63
  simp [Instr.field, asAgg, go_sem, hu]
theorem own_only {w w' : World} {base : Nat} {e : TypeId} {sz : Nat} {A : Option Addr} {n cap : Nat} {L : List (List Value)} {F : List Nat} (h : Own w base e sz A n cap L) (ho : Only F w w') (hn : ∀ g, A.map (·.block) = some g → g ∉ F) : Own w' base e sz A n cap L := ⟨h.len, h.each, ho.row h.row hn⟩
set_option maxRecDepth 20000 in
set_option maxHeartbeats 6400000 in
theorem body_of (k : Nat) (IH : ∀ j, j < k → So j) : Bo k := by
  refine ⟨fun {w q f at_ e bad} h hn hk d hd0 hd => ?_⟩
  have hq := h.qlt
  have IHH := Lib.hid IH
  have H0 := Lib.hid h
  have HK := Lib.hid hk
  have HD := Lib.hid hd
  have c2 := h.c2
  clear h IH hk hd
  go_enter Try.func49, Try.ntmps49
  have f0 : ∀ (kd : Int) (tx : ByteArray) (nn a2 : Int) (W : World), (Instr.field 63 (.agg #[.int .i64 kd, .string tx, .int .u64 nn, .int .i64 a2]) 0).run Try.prog W = .ok (.int .i64 kd) W := fun kd tx nn a2 W => fd_0 kd tx nn a2 W
  have f1 : ∀ (kd : Int) (tx : ByteArray) (nn a2 : Int) (W : World), (Instr.field 63 (.agg #[.int .i64 kd, .string tx, .int .u64 nn, .int .i64 a2]) 1).run Try.prog W = .ok (.string tx) W := fun kd tx nn a2 W => fd_1 kd tx nn a2 W
  go_upto_region 2 with fail
  go_cut [26] (fun t wx => ∃ b : Bool, t = .bool b ∧ Below w.heap.size w wx)
  case first =>
    by_cases he : e = 0
    · subst he
      by_cases h29 : 29 < d
      · have z1 : decide (29 < d) = true := by simpa using h29
        go_wp2_with fail
        refine (now_any H0.out).mono ?_
        rintro en w1 ⟨kd, tx, nn, a2, rfl, hb1, -, -⟩
        have H1 := Lib.hid (H0.out.keep hb1)
        have B1 := Lib.hid hb1
        clear hb1
        by_cases hk3 : kd = 3
        · subst hk3
          go_wp2_with fail
          refine (now_any H1.out).mono ?_
          rintro en w2 ⟨kd2, tx2, nn2, a22, rfl, hb2, -, -⟩
          have B2 := Lib.hid (B1.out.trans (hb2.mono B1.out.size))
          clear hb2
          go_wp2_with fail
          go_meet
          case rel => exact ⟨_, rfl, B2.out⟩
        · have k3 : (kd == 3) = false := by simpa using hk3
          go_wp2_with fail
          go_meet
          case rel => exact ⟨false, rfl, B1.out⟩
      · have z1 : decide (29 < d) = false := by simpa using h29
        go_wp2_with fail
        go_meet
        case rel => exact ⟨false, rfl, Below.refl _ _⟩
    · have t2 : (e == 0) = false := by simpa using he
      go_wp2_with fail
      go_meet
      case rel => exact ⟨false, rfl, Below.refl _ _⟩
  case rest =>
    obtain ⟨b, rfl, hb⟩ := hcut
    have R := Lib.hid (H0.out.keep hb)
    have O := Lib.hid (Only.of_below (F := [q]) hb)
    clear hb H0 c2 f0 f1
    cases b
    · go_wp2_with fail
      refine (want_any R.out hn ⟨#[123]⟩ 123 ix_123).mono ?_
      rintro en w4 ⟨rfl, at4, e4, bad4, h4, ho4, hat4, hok4⟩
      have R4 := Lib.hid h4
      have O4 := Lib.hid (O.out.seq ho4)
      have HO4 := Lib.hid hok4
      clear h4 ho4 hok4 R O
      go_wp2_with fail
      go_loopw [5] (fun l wr => ∃ (A : Option Addr) (n c at2 : Nat) (e2 bad2 : Int) (L : List (List Value)), l = .slice A n c ∧ Rd wr q f at2 e2 bad2 ∧ Only [q] w wr ∧ Own wr w.heap.size 122 21 A n c L ∧ at_ ≤ at2 ∧ n ≤ 20001 ∧ (e2 = 0 → e = 0 ∧ at_ < at2 ∧ n ≤ at2 ∧ ∃ ts, RowsP (fun b => w.heap.size ≤ b ∧ A.map (·.block) ≠ some b) wr L ts ∧ bsz (mkBd ts) + 4 * at_ ≤ 4 * at2)) (fun _ wr => rdM f.n wr q)
      case atStart => exact ⟨none, 0, 0, at4, e4, bad4, [], rfl, R4.out, O4.out, Own.nil _ _ _ _, by omega, by omega, fun h0 => ⟨(HO4.out h0).1, by have := (HO4.out h0).2; omega, by omega, [], RowsP.nil _ _, by have := (HO4.out h0).2; simp only [mkBd, bsz]; omega⟩⟩
      case round =>
        obtain ⟨A, n, c, at2, e2, bad2, L, rfl, hR, hO, hOw, hat2, hn2, hok2⟩ := hrel
        have R2 := Lib.hid hR
        have O2 := Lib.hid hO
        have OW2 := Lib.hid hOw
        have HM := Lib.hid hR.meas
        have c2 := hR.c2
        have hlt2 := hR.lt
        by_cases he : e2 = 0
        · obtain ⟨k1, k2, k3, ts, hts, hws⟩ := hok2 he
          have TS := Lib.hid hts
          clear hok2 hts hR hO hOw R4 O4 HO4
          subst he
          go_wp2_with fail
          refine (take_any R2.out hn ⟨#[125]⟩ 125 ix_125).mono ?_
          rintro en w5 ⟨bb, at5, rfl, hr, ho, ht, hf⟩
          have R5 := Lib.hid hr
          have O5 := Lib.hid (O2.out.seq ho)
          have OW5 := Lib.hid (own_only OW2.out ho (fun g hg hx => by have := OW2.out.lt g hg; simp at hx; omega))
          have TS5 := Lib.hid (TS.out.only ho (fun g hg hh => by simp at hg; omega))
          have HT := Lib.hid ht
          have HF := Lib.hid hf
          clear hr ho ht hf R2 O2 OW2 TS
          cases bb
          · rw [HF.out rfl] at R5
            clear HT HF
            go_wp2_with fail
            refine ((IHH.out (f.n - at2) (by have := HK.out; omega)).go R5.out hn (Nat.le_refl _) d hd0 (by have := HD.out; have := HK.out; omega)).mono ?_
            rintro en w6 ⟨k9, a3, nm, cl, vi, vx, vy, BA, bn, bc, EA, en2, ec, at6, e6, bad6, rfl, ⟨i1, i2, i3, i4, iA, im, ic, rfl⟩, ⟨x1, x2, x3, x4, xA, xm, xc, rfl⟩, ⟨y1, y2, y3, y4, yA, ym, yc, rfl⟩, hr6, ho6, hat6, hok6⟩
            rename_i Kz hKz
            refine hKz _ _ ?_
            refine wpList_bsSt rfl (.tmp 44) rfl (.int .i64 k9) (.int .i64 a3) (.string nm) (.string cl) (.int .i64 i1) (.int .u64 i2) (.int .u8 i3) (.string i4) (.slice iA im ic) (.int .i64 x1) (.int .u64 x2) (.int .u8 x3) (.string x4) (.slice xA xm xc) (.int .i64 y1) (.int .u64 y2) (.int .u8 y3) (.string y4) (.slice yA ym yc) (.slice BA bn bc) (.slice EA en2 ec) rfl ?_
            refine Ow2.wpList_appN w6 rfl (.tmp 41) (.tmp 45) rfl elSt w.heap.size A n c 1 w6.heap.size L [[.int .i64 k9, .int .i64 a3, .string nm, .string cl, .int .i64 i1, .int .u64 i2, .int .u8 i3, .string i4, .slice iA im ic, .int .i64 x1, .int .u64 x2, .int .u8 x3, .string x4, .slice xA xm xc, .int .i64 y1, .int .u64 y2, .int .u8 y3, .string y4, .slice yA ym yc, .slice BA bn bc, .slice EA en2 ec]] rfl rfl (own_only OW5.out ho6 (fun g hg hx => by have := OW5.out.lt g hg; simp at hx; omega)) rfl rfl (fun y hy => by simp at hy; subst hy; rfl) (fun y hy u hu => by simp at hy; subst hy; simp at hu; rcases hu with rfl | rfl | rfl | rfl | rfl | rfl | rfl | rfl | rfl | rfl | rfl | rfl | rfl | rfl | rfl | rfl | rfl | rfl | rfl | rfl | rfl <;> rfl) (by unfold maxLen; omega) (by omega) (by have := (O5.out.seq ho6).size; exact this) _ rfl ?_
            intro A7 c7 w7 hown7 hbel7 hkp7 hat7
            have hs5 := O5.out.size
            have hs6 := ho6.size
            have OA : Only ((A.map (·.block)).toList) w6 w7 := ⟨hbel7.os, hbel7.tape, hbel7.output, hbel7.size, fun b hb hn => hkp7 b hb (fun hx => hn (by simp [hx]))⟩
            have HA : ∀ g, g ∈ (A.map (·.block)).toList → A.map (·.block) = some g := fun g hg => by simpa using hg
            have R7 := Lib.hid (hr6.only OA (fun g hg => by have := OW5.out.lt g (HA g hg); omega))
            have O7 := Lib.hid ((O5.out.seq ho6).trans (F' := (A.map (·.block)).toList) OA (fun g hg => .inr (OW5.out.lt g (HA g hg)).1))
            have T7 : Hid (e6 = 0 → ∃ ts, bsz (mkBd ts) + 4 * at_ ≤ 4 * at6 ∧ RowsP (fun b => w.heap.size ≤ b ∧ A7.map (·.block) ≠ some b) w7 (L ++ [[.int .i64 k9, .int .i64 a3, .string nm, .string cl, .int .i64 i1, .int .u64 i2, .int .u8 i3, .string i4, .slice iA im ic, .int .i64 x1, .int .u64 x2, .int .u8 x3, .string x4, .slice xA xm xc, .int .i64 y1, .int .u64 y2, .int .u8 y3, .string y4, .slice yA ym yc, .slice BA bn bc, .slice EA en2 ec]]) ts) := Lib.hid (fun h0 => by
              obtain ⟨-, -, hh, b1, b2, hwt, hst⟩ := hok6 h0
              have hne : ∀ b, b < w6.heap.size → A.map (·.block) ≠ some b → A7.map (·.block) ≠ some b := fun b hb hA h7 => by
                rcases hat7 with h | h
                · exact hA (h ▸ h7)
                · have := h b h7; omega
              have q1 : RowsP (fun b => w.heap.size ≤ b ∧ A.map (·.block) ≠ some b ∧ A7.map (·.block) ≠ some b) w6 L ts := (TS5.out.only ho6 (fun g hg hh => by simp at hg; omega)).mono (fun b hb hl => ⟨hb.1, hb.2, hne b hl hb.2⟩)
              have q2 : StP (fun b => w.heap.size ≤ b ∧ A.map (·.block) ≠ some b ∧ A7.map (·.block) ≠ some b) w6 hh b1 b2 _ := stP_of (fun b hb hl => by
                have hA : A.map (·.block) ≠ some b := fun hx => by have := OW5.out.lt b hx; omega
                exact ⟨by omega, hA, hne b hl hA⟩) hst
              have q3 := (q1.snoc (t := (hh, b1, b2)) q2).only OA (fun g hg hh => hh.2.1 (HA g hg))
              exact ⟨_, by rw [bsz_snoc]; dsimp only; omega, q3.mono (fun b hb hl => ⟨hb.1, hb.2.2⟩)⟩)
            have HO6 := Lib.hid (fun h0 => (hok6 h0).2.1)
            have HOW := Lib.hid hown7
            have RM := Lib.hid (hr6.only OA (fun g hg => by have := OW5.out.lt g (HA g hg); omega)).meas
            clear OA HA hr6 ho6 hok6 hown7 hbel7 hkp7 hat7 R5 O5 OW5 TS5 hKz
            go_wp2_with fail
            go_roundw
            case rel => exact ⟨A7, n + 1, c7, at6, e6, bad6, _, rfl, R7.out, O7.out, HOW.out, by omega, by omega, fun h0 => ⟨k1, by have := HO6.out h0; omega, by have := HO6.out h0; omega, by obtain ⟨ts', h1, h2⟩ := T7.out h0; exact ⟨ts', h2, h1⟩⟩⟩
            case measure =>
              rw [RM.out, HM.out]
              by_cases h6 : e6 = 0
              · have := HO6.out h6
                simp [h6]; omega
              · simp [h6]
          · have h5 := (HT.out rfl).2
            clear HT HF
            go_wp2_with fail
            go_returns
            exact ⟨A, n, c, at5, 0, bad2, rfl, R5.out, O5.out, by omega, fun _ => ⟨k1, _, own_bd OW5.out (TS5.out.ok (fun b hb => hb.1)), by omega⟩⟩
        · have t2 : (e2 == 0) = false := by simpa using he
          clear hR hO hOw hok2
          go_wp2_with fail
          go_returns
          exact ⟨A, n, c, at2, e2, bad2, rfl, R2.out, O2.out, hat2, fun h0 => absurd h0 he⟩
    · go_wp2_with fail
      refine (fail_any R.out 11 (by decide)).mono ?_
      rintro en w3 ⟨rfl, e3, bad3, h3, hne3, ho3⟩
      have R3 := Lib.hid h3
      have O3 := Lib.hid (O.out.seq ho3)
      clear h3 ho3 R O
      go_wp2_with fail
      refine (want_any R3.out hn ⟨#[123]⟩ 123 ix_123).mono ?_
      rintro en w4 ⟨rfl, at4, e4, bad4, h4, ho4, hat4, hok4⟩
      have R4 := Lib.hid h4
      have O4 := Lib.hid (O3.out.seq ho4)
      have hne4 : e4 ≠ 0 := fun h0 => hne3 (hok4 h0).1
      have t4 : (e4 == 0) = false := by simpa using hne4
      have c2 := h4.c2
      clear h4 ho4 hok4 R3 O3
      go_wp2_with fail
      go_loopw [5] (fun l wr => l = .slice none 0 0 ∧ w4 = wr) (fun _ _ => 0)
      case atStart => exact ⟨rfl, rfl⟩
      case round =>
        obtain ⟨rfl, rfl⟩ := hrel
        go_wp2_with fail
        go_returns
        exact ⟨none, 0, 0, at4, e4, bad4, rfl, R4.out, O4.out, hat4, fun h0 => absurd h0 hne4⟩
theorem bs_any (k : Nat) : Bo k ∧ So k := Nat.strongRecOn k (fun k IH => ⟨body_of k (fun j hj => (IH j hj).2), stmt_of k (fun j hj => (IH j hj).1)⟩)
theorem bo_any (k : Nat) : Bo k := (bs_any k).1
end Go.Proofs.Ytapnnbbbgopobaa.Rr
namespace Go.Proofs.Ytapnnbbbgopobaa.Rr
open Go.RowKit Cm Mm Ow Me Ml Lg Lx
theorem elCl : El Try.prog 25 82 2 24 := by
  obtain ⟨i, h1, h2, h3, h4⟩ := info_parts (P := Try.prog) (e := 82) (z := .agg #[.string ⟨#[]⟩, .int .i64 0]) (size := 2) (bytes := 24) (by kernel_rfl)
  exact ⟨Try.underlying25, ⟨i, _, h1, h2, h3, h4, rfl⟩, by decide⟩
theorem elTh : El Try.prog 26 69 2 40 := by
  obtain ⟨i, h1, h2, h3, h4⟩ := info_parts (P := Try.prog) (e := 69) (z := .agg #[.string ⟨#[]⟩, .slice none 0 0]) (size := 2) (bytes := 40) (by kernel_rfl)
  exact ⟨Try.underlying26, ⟨i, _, h1, h2, h3, h4, rfl⟩, by decide⟩
def PB (q : Nat) (cA tA : Option Addr) (b : Nat) : Prop := q < b ∧ cA.map (·.block) ≠ some b ∧ tA.map (·.block) ≠ some b
def ThOk (M : Nat) (P : Nat → Prop) (w : World) (LT : List (List Value)) (ts : List Bd) : Prop := ts.length = LT.length ∧ ∀ i, i < LT.length → ∃ s A n c, LT.getD i [] = [.string s, .slice A n c] ∧ s.size ≤ maxLen ∧ IsBdP P w (ts.getD i .nil) A n c ∧ bsz (ts.getD i .nil) ≤ M
theorem ThOk.only {M : Nat} {G : List Nat} {P : Nat → Prop} {w w' : World} {L : List (List Value)} {ts : List Bd} (h : ThOk M P w L ts) (ho : Only G w w') (hG : ∀ g ∈ G, ¬ P g) : ThOk M P w' L ts := ⟨h.1, fun i hi => by
  obtain ⟨s, A, n, c, h1, h2, h3, h4⟩ := h.2 i hi
  exact ⟨s, A, n, c, h1, h2, isP_only ho hG h3, h4⟩⟩
theorem ThOk.mono {M : Nat} {P P' : Nat → Prop} {w : World} {L : List (List Value)} {ts : List Bd} (h : ThOk M P w L ts) (hP : ∀ b, P b → b < w.heap.size → P' b) : ThOk M P' w L ts := ⟨h.1, fun i hi => by
  obtain ⟨s, A, n, c, h1, h2, h3, h4⟩ := h.2 i hi
  exact ⟨s, A, n, c, h1, h2, isP_mono hP h3, h4⟩⟩
theorem ThOk.nil (M : Nat) (P : Nat → Prop) (w : World) : ThOk M P w [] [] := ⟨rfl, fun i hi => absurd hi (by simp)⟩
theorem ThOk.snoc {M : Nat} {P : Nat → Prop} {w : World} {L : List (List Value)} {ts : List Bd} (h : ThOk M P w L ts) {s : ByteArray} {A : Option Addr} {n c : Nat} {b : Bd} (hs : s.size ≤ maxLen) (hb : IsBdP P w b A n c) (hz : bsz b ≤ M) : ThOk M P w (L ++ [[.string s, .slice A n c]]) (ts ++ [b]) := by
  refine ⟨by simp [h.1], fun i hi => ?_⟩
  by_cases h1 : i < L.length
  · have h2 : i < ts.length := by rw [h.1]; exact h1
    have := h.2 i h1
    simpa [List.getD, List.getElem?_append_left h1, List.getElem?_append_left h2] using this
  · have h3 : i = L.length := by simp at hi; omega
    subst h3
    have h4 : ts.length ≤ L.length := by rw [h.1]; exact Nat.le_refl _
    refine ⟨s, A, n, c, ?_, hs, ?_, ?_⟩
    · simp [List.getD]
    · simpa [List.getD, List.getElem?_append_right h4, h.1] using hb
    · simpa [List.getD, List.getElem?_append_right h4, h.1] using hz
structure TpV (w : World) (q : Nat) (f : Fx) (at_ : Nat) (cA : Option Addr) (cn cc : Nat) (LC : List (List Value)) (tA : Option Addr) (tn tc : Nat) (LT : List (List Value)) (rA : Option Addr) (rn rc : Nat) (ts : List Bd) (rb : Bd) : Prop where
  s5 : f.s5 = .slice cA cn cc
  s6 : f.s6 = .slice tA tn tc
  s7 : f.s7 = .slice rA rn rc
  oc : Own w (q + 1) 82 2 cA cn cc LC
  ot : Own w (q + 1) 69 2 tA tn tc LT
  ne : ∀ g, cA.map (·.block) = some g → tA.map (·.block) ≠ some g
  cs : ∀ r ∈ LC, ∃ (s : ByteArray) (z : Int), r = [.string s, .int .i64 z] ∧ s.size ≤ maxLen ∧ 0 ≤ z ∧ z ≤ 1048576
  th : ThOk (4 * f.n) (PB q cA tA) w LT ts
  rz : bsz rb ≤ 4 * f.n
  rb : IsBdP (PB q cA tA) w rb rA rn rc
  cl : cn ≤ at_
  tl : tn ≤ at_
def Tp (w : World) (q : Nat) (f : Fx) (at_ : Nat) : Prop := ∃ cA cn cc LC tA tn tc LT rA rn rc ts rb, TpV w q f at_ cA cn cc LC tA tn tc LT rA rn rc ts rb
section
variable {w w' : World} {q : Nat} {f : Fx} {at_ : Nat} {cA : Option Addr} {cn cc : Nat} {LC : List (List Value)} {tA : Option Addr} {tn tc : Nat} {LT : List (List Value)} {rA : Option Addr} {rn rc : Nat} {ts : List Bd} {rb : Bd}
theorem TpV.only (h : TpV w q f at_ cA cn cc LC tA tn tc LT rA rn rc ts rb) (ho : Only [q] w w') {at2 : Nat} (ha : at_ ≤ at2) : TpV w' q f at2 cA cn cc LC tA tn tc LT rA rn rc ts rb :=
  have hG : ∀ g ∈ [q], ¬ PB q cA tA g := fun g hg hh => by have := hh.1; simp at hg; omega
  ⟨h.s5, h.s6, h.s7, own_only h.oc ho (fun g hg hx => by have := h.oc.lt g hg; simp at hx; omega), own_only h.ot ho (fun g hg hx => by have := h.ot.lt g hg; simp at hx; omega), h.ne, h.cs, h.th.only ho hG, h.rz, isP_only ho hG h.rb, Nat.le_trans h.cl ha, Nat.le_trans h.tl ha⟩
end
end Go.Proofs.Ytapnnbbbgopobaa.Rr
namespace Go.Proofs.Ytapnnbbbgopobaa.Rr
open Go.RowKit Cm Mm Ow Me Ml Lg Lx
section
variable {w w1 : World} {q : Nat} {f : Fx} {at_ : Nat} {cA : Option Addr} {cn cc : Nat} {LC : List (List Value)} {tA : Option Addr} {tn tc : Nat} {LT : List (List Value)} {rA : Option Addr} {rn rc : Nat} {ts : List Bd} {rb : Bd}
theorem mem_blk {A : Option Addr} {g : Nat} (h : g ∈ (A.map (·.block)).toList) : A.map (·.block) = some g := by simpa using h
theorem grown_out {W w' : World} {X : Obj} {r : Option Nat} (hg : (W.drew.alloc X).grownBy w' r) : Only r.toList W w' := ((Only.refl _ W).drew.alloc X).seq (Only.of_grown hg (fun g hg => by simp [hg]))
theorem tp_cell (h : TpV w q f at_ cA cn cc LC tA tn tc LT rA rn rc ts rb) {A2 : Option Addr} {c2 : Nat} {s : ByteArray} {z : Int} (hs : s.size ≤ maxLen) (h0 : 0 ≤ z) (h1 : z ≤ 1048576)
    (hown : Own w1 (q + 1) 82 2 A2 (cn + 1) c2 (LC ++ [[.string s, .int .i64 z]])) (hO : Only ((cA.map (·.block)).toList) w w1) (hat : A2.map (·.block) = cA.map (·.block) ∨ ∀ b, A2.map (·.block) = some b → w.heap.size ≤ b) :
    TpV (w1.setCell ⟨q, 5, none⟩ (.slice A2 (cn + 1) c2)) q { f with s5 := .slice A2 (cn + 1) c2 } (at_ + 1) A2 (cn + 1) c2 (LC ++ [[.string s, .int .i64 z]]) tA tn tc LT rA rn rc ts rb := by
  have hne : ∀ b, b < w.heap.size → cA.map (·.block) ≠ some b → A2.map (·.block) ≠ some b := fun b hb hA h7 => by
    rcases hat with h | h
    · exact hA (h ▸ h7)
    · have := h b h7; omega
  have S := only_q w1 q 5 (.slice A2 (cn + 1) c2)
  have hG : ∀ g ∈ [q], ¬ PB q A2 tA g := fun g hg hh => by have := hh.1; simp at hg; omega
  have hM : ∀ b, PB q cA tA b → b < w.heap.size → PB q cA tA b ∧ A2.map (·.block) ≠ some b := fun b hb hl => ⟨hb, hne b hl hb.2.1⟩
  have hM2 : ∀ b, (PB q cA tA b ∧ A2.map (·.block) ≠ some b) → b < w1.heap.size → PB q A2 tA b := fun b hb _ => ⟨hb.1.1, hb.2, hb.1.2.2⟩
  have hX : ∀ g ∈ (cA.map (·.block)).toList, ¬ (PB q cA tA g ∧ A2.map (·.block) ≠ some g) := fun g hg hh => hh.1.2.1 (mem_blk hg)
  refine ⟨rfl, h.s6, h.s7, Ow2.own_set hown (by simp) _, Ow2.own_set (own_only h.ot hO (fun g hg hx => h.ne g (mem_blk hx) hg)) (by simp) _, fun g hg hx => ?_, fun r hr => ?_, (((h.th.mono hM).only hO hX).mono hM2).only S hG, h.rz, isP_only S hG (isP_mono hM2 (isP_only hO hX (isP_mono hM h.rb))), by have := h.cl; omega, by have := h.tl; omega⟩
  · have hl := (h.ot.lt g hx).2
    by_cases hc : cA.map (·.block) = some g
    · exact h.ne g hc hx
    · exact hne g hl hc hg
  · rcases List.mem_append.1 hr with hr | hr
    · exact h.cs r hr
    · simp at hr; subst hr; exact ⟨s, z, rfl, hs, h0, h1⟩
theorem tp_thread (h : TpV w q f at_ cA cn cc LC tA tn tc LT rA rn rc ts rb) {A2 : Option Addr} {c2 : Nat} {s : ByteArray} {A : Option Addr} {n c : Nat} {b : Bd} (hs : s.size ≤ maxLen) (hb : IsBdP (PB q cA tA) w b A n c) (hz : bsz b ≤ 4 * f.n)
    (hown : Own w1 (q + 1) 69 2 A2 (tn + 1) c2 (LT ++ [[.string s, .slice A n c]])) (hO : Only ((tA.map (·.block)).toList) w w1) (hat : A2.map (·.block) = tA.map (·.block) ∨ ∀ b, A2.map (·.block) = some b → w.heap.size ≤ b) :
    TpV (w1.setCell ⟨q, 6, none⟩ (.slice A2 (tn + 1) c2)) q { f with s6 := .slice A2 (tn + 1) c2 } (at_ + 1) cA cn cc LC A2 (tn + 1) c2 (LT ++ [[.string s, .slice A n c]]) rA rn rc (ts ++ [b]) rb := by
  have hne : ∀ b, b < w.heap.size → tA.map (·.block) ≠ some b → A2.map (·.block) ≠ some b := fun b hb hA h7 => by
    rcases hat with h | h
    · exact hA (h ▸ h7)
    · have := h b h7; omega
  have S := only_q w1 q 6 (.slice A2 (tn + 1) c2)
  have hG : ∀ g ∈ [q], ¬ PB q cA A2 g := fun g hg hh => by have := hh.1; simp at hg; omega
  have hM : ∀ b, PB q cA tA b → b < w.heap.size → PB q cA tA b ∧ A2.map (·.block) ≠ some b := fun b hb hl => ⟨hb, hne b hl hb.2.2⟩
  have hM2 : ∀ b, (PB q cA tA b ∧ A2.map (·.block) ≠ some b) → b < w1.heap.size → PB q cA A2 b := fun b hb _ => ⟨hb.1.1, hb.1.2.1, hb.2⟩
  have hX : ∀ g ∈ (tA.map (·.block)).toList, ¬ (PB q cA tA g ∧ A2.map (·.block) ≠ some g) := fun g hg hh => hh.1.2.2 (mem_blk hg)
  refine ⟨h.s5, rfl, h.s7, Ow2.own_set (own_only h.oc hO (fun g hg hx => h.ne g hg (mem_blk hx))) (by simp) _, Ow2.own_set hown (by simp) _, fun g hg hx => ?_, h.cs, ((((h.th.snoc hs hb hz).mono hM).only hO hX).mono hM2).only S hG, h.rz, isP_only S hG (isP_mono hM2 (isP_only hO hX (isP_mono hM h.rb))), by have := h.cl; omega, by have := h.tl; omega⟩
  · have hl := (h.oc.lt g hg).2
    by_cases hc : tA.map (·.block) = some g
    · exact h.ne g hg hc
    · exact hne g hl hc hx
theorem tp_rec (h : TpV w q f at_ cA cn cc LC tA tn tc LT rA rn rc ts rb) {A : Option Addr} {n c : Nat} {b : Bd} (r : Bool) (hb : IsBdP (PB q cA tA) w b A n c) (hz : bsz b ≤ 4 * f.n) :
    TpV (w.setCell ⟨q, 7, none⟩ (.slice A n c)) q { f with s7 := .slice A n c, rec_ := r } at_ cA cn cc LC tA tn tc LT A n c ts b := by
  have S := only_q w q 7 (.slice A n c)
  have hG : ∀ g ∈ [q], ¬ PB q cA tA g := fun g hg hh => by have := hh.1; simp at hg; omega
  exact ⟨h.s5, h.s6, rfl, Ow2.own_set h.oc (by simp) _, Ow2.own_set h.ot (by simp) _, h.ne, h.cs, h.th.only S hG, hz, isP_only S hG hb, h.cl, h.tl⟩
variable {e bad : Int}
theorem Rd.set5 (h : Rd w q f at_ e bad) (v : Value) : Rd (w.setCell ⟨q, 5, none⟩ v) q { f with s5 := v } at_ e bad :=
  ⟨blk_set h.blk _, tok_only h.tok (only_q w q 5 _) (fun b o m hA hx => by have := h.tq b o m hA; simp at hx; omega), h.tq, h.lt, h.bd⟩
theorem Rd.set6 (h : Rd w q f at_ e bad) (v : Value) : Rd (w.setCell ⟨q, 6, none⟩ v) q { f with s6 := v } at_ e bad :=
  ⟨blk_set h.blk _, tok_only h.tok (only_q w q 6 _) (fun b o m hA hx => by have := h.tq b o m hA; simp at hx; omega), h.tq, h.lt, h.bd⟩
theorem Rd.set7 (h : Rd w q f at_ e bad) (v : Value) : Rd (w.setCell ⟨q, 7, none⟩ v) q { f with s7 := v } at_ e bad :=
  ⟨blk_set h.blk _, tok_only h.tok (only_q w q 7 _) (fun b o m hA hx => by have := h.tq b o m hA; simp at hx; omega), h.tq, h.lt, h.bd⟩
theorem Rd.set4 (h : Rd w q f at_ e bad) (v : Bool) : Rd (w.setCell ⟨q, 4, none⟩ (.bool v)) q { f with rec_ := v } at_ e bad :=
  ⟨blk_set h.blk _, tok_only h.tok (only_q w q 4 _) (fun b o m hA hx => by have := h.tq b o m hA; simp at hx; omega), h.tq, h.lt, h.bd⟩
theorem blk_only {G : List Nat} {g : Nat} {o : Obj} (h : w.heap[g]? = some o) (ho : Only G w w1) (hg : g ∉ G) : w1.heap[g]? = some o := (ho.block g (Array.getElem?_eq_some_iff.1 h).1 hg).trans h
def TopA (w : World) (q : Nat) (f : Fx) (at_ : Nat) (en : Ending) (w' : World) : Prop :=
  en = .returned (.tuple #[]) ∧ ∃ (f' : Fx) (at2 : Nat) (e2 bad2 : Int), f'.A = f.A ∧ f'.n = f.n ∧ f'.cap = f.cap ∧ Rd w' q f' at2 e2 bad2 ∧ Below q w w' ∧ at_ ≤ at2 ∧ (e2 = 0 → at_ < at2 ∧ Tp w' q f' at2)
end
end Go.Proofs.Ytapnnbbbgopobaa.Rr
