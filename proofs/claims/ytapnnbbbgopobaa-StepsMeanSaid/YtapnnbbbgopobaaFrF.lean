/-
  WALKS: the reference's checker: walk.
-/
import Derived.Test.YtapnnbbbgopobaaG13
import Derived.Test.YtapnnbbbgopobaaG05
import Derived.BigQuiet
import Derived.Deep.QuietTactic
set_option linter.unusedVariables false
set_option linter.unusedSimpArgs false
namespace Go.Proofs.Ytapnnbbbgopobaa.Fr
open Go.RowKit Cm Mm Ow Me Ml Lg Rr
def WalkA (w : World) (q : Nat) (cA : Option Addr) (cn cc : Nat) (cs : List Lay.Cl) (A : Option Addr) (l : List ByteArray) (b : Bd) (en : Ending) (w' : World) : Prop :=
  en = .returned (.tuple #[]) ∧ ∃ (A' : Option Addr) (n' c' : Nat) (l' : List ByteArray) (e' at' : Int), Ck w' q cA cn cc cs A' n' c' l' e' at' ∧ Cw q A A' w w' ∧ (e' = 0 ↔ walkOk cs l b) ∧ (e' = 0 → l' = walkL l b ∧ l'.length ≤ 12)
structure Wk (k : Nat) : Prop where
  go : ∀ {b : Bd} {w : World} {q : Nat} {cA : Option Addr} {cn cc : Nat} {cs : List Lay.Cl} {A : Option Addr} {n c : Nat} {l : List ByteArray} {at_ : Int} {BA : Option Addr} {bn bc : Nat}, bsz b ≤ k → IsBdP (Lo q) w b BA bn bc → Ck w q cA cn cc cs A n c l 0 at_ → cn ≤ 65536 → l.length ≤ 12 → bsz b ≤ 80000 →
    Calls Try.prog 52 #[.pointer (some ⟨q, 0, none⟩), .slice BA bn bc] w (WalkA w q cA cn cc cs A l b)
theorem walk_stop {w : World} {q : Nat} {cA : Option Addr} {cn cc : Nat} {cs : List Lay.Cl} {A : Option Addr} {n c : Nat} {l : List ByteArray} {e at_ : Int} {BA : Option Addr} {bn bc : Nat} (h : Ck w q cA cn cc cs A n c l e at_) (he : e ≠ 0) :
    Calls Try.prog 52 #[.pointer (some ⟨q, 0, none⟩), .slice BA bn bc] w fun en w' => en = .returned (.tuple #[]) ∧ w = w' := by
  have c2 := h.c2
  have t0 : (e == 0) = false := by simpa using he
  clear h
  go_enter Try.func52, Try.ntmps52
  go_wp2_with fail
  go_loopw [4] (fun i wr => i = .int .i64 0 ∧ w = wr) (fun _ _ => 0)
  case atStart => exact ⟨rfl, rfl⟩
  case round =>
    obtain ⟨rfl, rfl⟩ := hrel
    by_cases hb : 0 < bn
    · have d1 : decide (0 < (bn : Int)) = true := decide_eq_true (by omega)
      go_wp2_with fail
      go_end0
      exact ⟨rfl, rfl⟩
    · have d1 : decide (0 < (bn : Int)) = false := decide_eq_false (by omega)
      go_wp2_with fail
      go_end0
      exact ⟨rfl, rfl⟩
theorem Cu.call {w0 w w' : World} {q g : Nat} {hd : Hd} {b1 b2 : Bd} {vs : List Value} {cA : Option Addr} {cn cc : Nat} {cs : List Lay.Cl} {A0 A A' : Option Addr} {n c n' c' : Nat} {l l' : List ByteArray} {e at_ e' at' : Int} {M : Option Addr} {mn mc : Nat} {ml : List ByteArray}
    (h : Cu w0 w q g hd b1 b2 vs cA cn cc cs A0 A n c l e at_ M mn mc ml) (hc : Ck w' q cA cn cc cs A' n' c' l' e' at') (hw : Cw q A A' w w') : Cu w0 w' q g hd b1 b2 vs cA cn cc cs A0 A' n' c' l' e' at' none 0 0 [] := by
  have hgq := h.gq
  have hglt : g < w.heap.size := (Array.getElem?_eq_some_iff.1 h.sb).1
  refine ⟨hc, h.cw.trans hw, (hw.only.block g hglt (fun hx => ?_)).trans h.sb, stP_only hw.only (fun y hy hh => ?_) h.st, hgq, fun b hb => ?_, Nm.nil _ _, fun b hb => by cases hb⟩
  · rcases List.mem_cons.1 hx with e | e
    · omega
    · exact h.ne g (Fr.mem_blk.1 e) rfl
  · unfold Lo at hh
    rcases List.mem_cons.1 hy with e | e
    · omega
    · have := (h.ck.nm.lt y (Fr.mem_blk.1 e)).1; omega
  · rcases hw.blk with e | e
    · exact h.ne b (e ▸ hb)
    · have := e b hb; omega
section
variable {cs : List Lay.Cl} {l : List ByteArray} {h : Hd} {b1 b2 r : Bd}
theorem wk6 (h6 : h.kind = 6) : (walkOk cs l (.cons h b1 b2 r) ↔ OkS cs l h ∧ walkOk cs (addAll l (ownN [] h)) b1 ∧ walkOk cs (walkL (addAll l (ownN [] h)) b1) b2 ∧ walkOk cs (walkL (walkL (addAll l (ownN [] h)) b1) b2) r) ∧ walkL l (.cons h b1 b2 r) = walkL (walkL (walkL (addAll l (ownN [] h)) b1) b2) r := by
  constructor
  · rw [walkOk]; simp [h6]
  · rw [walkL]; simp [h6]
theorem wk7 (h7 : h.kind = 7) : (walkOk cs l (.cons h b1 b2 r) ↔ OkS cs l h ∧ walkOk cs (addAll l (ownN [] h)) b1 ∧ walkOk cs (walkL (addAll l (ownN [] h)) b1) r) ∧ walkL l (.cons h b1 b2 r) = walkL (walkL (addAll l (ownN [] h)) b1) r := by
  constructor
  · rw [walkOk]; simp [h7]
  · rw [walkL]; simp [h7]
theorem wko (h6 : ¬ h.kind = 6) (h7 : ¬ h.kind = 7) : (walkOk cs l (.cons h b1 b2 r) ↔ OkS cs l h ∧ walkOk cs (addAll l (ownN [] h)) r) ∧ walkL l (.cons h b1 b2 r) = walkL (addAll l (ownN [] h)) r := by
  constructor
  · rw [walkOk]; simp [h6, h7]
  · rw [walkL]; simp [h6, h7]
theorem StP.b19 {P : Nat → Prop} {w : World} {h : Hd} {b1 b2 : Bd} {vs : List Value} {A : Option Addr} {n c : Nat} (hs : StP P w h b1 b2 vs) (h19 : vs[19]? = some (.slice A n c)) : IsBdP P w b1 A n c := by
  obtain ⟨-, -, -, -, B1, n1, c1, B2, n2, c2, e1, e2, k1, k2⟩ := Fr.StP.ends hs
  rw [h19] at e1
  injection e1 with e1
  injection e1 with e3 e4 e5
  subst e3 e4 e5
  exact k1
theorem StP.b20 {P : Nat → Prop} {w : World} {h : Hd} {b1 b2 : Bd} {vs : List Value} {A : Option Addr} {n c : Nat} (hs : StP P w h b1 b2 vs) (h20 : vs[20]? = some (.slice A n c)) : IsBdP P w b2 A n c := by
  obtain ⟨-, -, -, -, B1, n1, c1, B2, n2, c2, e1, e2, k1, k2⟩ := Fr.StP.ends hs
  rw [h20] at e2
  injection e2 with e2
  injection e2 with e3 e4 e5
  subst e3 e4 e5
  exact k2
theorem walkOk_head (h0 : walkOk cs l (.cons h b1 b2 r)) : OkS cs l h := by rw [walkOk] at h0; exact h0.1
end
def bad1 (cs : List Lay.Cl) (h : Hd) : Prop := isCelled h.kind = true ∧ Lay.find cs h.cell.toList < 0
def free1 (cs : List Lay.Cl) (h : Hd) (k : Nat) : Prop := ∀ i, i < k → ¬ 0 ≤ Lay.find cs ((ownN [] h).getD i ⟨#[]⟩).toList
set_option maxRecDepth 20000 in
set_option maxHeartbeats 12800000 in
theorem walk_of (k : Nat) (IH : ∀ j, j < k → Wk j) : Wk k := by
  refine ⟨fun {b w q cA cn cc cs A n c l at_ BA bn bc} hk hb hC hcn hl12 hz => ?_⟩
  have IHH := Lib.hid IH
  have C0 := Lib.hid hC
  have HBD := Lib.hid hb
  have hbl := hb.1
  have hbm := hb.2.2.1
  have hbc := hb.2.1
  have hbz := blen_bsz b
  have AP : Hid (∀ g ∈ q :: (A.map (·.block)).toList, ¬ Lo q g) := Lib.hid (fun g hg hh => by
    unfold Lo at hh
    rcases List.mem_cons.1 hg with e | e
    · omega
    · have := (hC.nm.lt g (Fr.mem_blk.1 e)).1; omega)
  clear IH hb hC
  have HU : Try.prog.underlying 122 = some _ := Try.underlying122
  go_enter Try.func52, Try.ntmps52
  go_wp2_with fail
  go_loopw [4] (fun i wr => ∃ (j : Nat) (A1 : Option Addr) (n1 c1 : Nat) (l1 : List ByteArray) (e1 at1 : Int), j ≤ bn ∧ i = .int .i64 j ∧ Ck wr q cA cn cc cs A1 n1 c1 l1 e1 at1 ∧ Cw q A A1 w wr ∧ (e1 = 0 → (walkOk cs l b ↔ walkOk cs l1 (dropB b j)) ∧ walkL l b = walkL l1 (dropB b j) ∧ l1.length ≤ 12) ∧ (e1 ≠ 0 → ¬ walkOk cs l b)) (fun i _ => bn - (intOf i).toNat)
  case atStart => exact ⟨0, A, n, c, l, 0, at_, Nat.zero_le _, rfl, C0.out, Cw.refl _ _ _, fun _ => by rw [show dropB b 0 = b by cases b <;> rfl]; exact ⟨Iff.rfl, rfl, hl12⟩, fun h => absurd rfl h⟩
  case round =>
    obtain ⟨j, A1, n1, c1, l1, e1, at1, hj, rfl, hC1, hW1, hok1, hno1⟩ := hrel
    have C1 := Lib.hid hC1
    have W1 := Lib.hid hW1
    have OK1 := Lib.hid hok1
    have NO1 := Lib.hid hno1
    clear hC1 hW1 hok1 hno1 C0
    have y2 := C1.out.c2
    by_cases he1 : e1 = 0
    · subst he1
      obtain ⟨eok, ewl, el12⟩ := OK1.out rfl
      have EOK := Lib.hid (And.intro eok ewl)
      clear eok ewl OK1 NO1
      by_cases hjn : j < bn
      · have d1 : decide ((j : Int) < (bn : Int)) = true := decide_eq_true (by omega)
        have hji : (j : Int) < (bn : Int) := by omega
        have HB1 := Lib.hid (isP_only W1.out.only AP.out HBD.out)
        obtain ⟨blk, off, rfl, hlo, hlt, hat⟩ := HB1.out.2.2.2 (by omega)
        obtain ⟨h, b1, b2, vs, hd, hc, hst, hwt⟩ := bd_at b j hat (by omega)
        obtain ⟨v0, v1, v2, v3, B1, bn1, bc1, B2, bn2, bc2, v19, v20, hB1, hB2⟩ := Fr.StP.ends hst
        have HC := Lib.hid (fun jj (hjj : jj < vs.length) => hc jj (by have := StP.len hst; omega))
        have HII : Hid ((Try.prog.info? 122).map (·.size) = some vs.length) := Lib.hid (by rw [StP.len hst]; kernel_rfl)
        have LEN := Lib.hid (StP.len hst)
        have ONE := Lib.hid (StP.ones hst)
        have HB1' := Lib.hid hB1
        have HB2' := Lib.hid hB2
        have EQ : Hid ((walkOk cs l b ↔ walkOk cs l1 (.cons h b1 b2 (dropB b (j + 1)))) ∧ walkL l b = walkL l1 (.cons h b1 b2 (dropB b (j + 1)))) := Lib.hid (by rw [← hd]; exact EOK.out)
        have V := Lib.hid (And.intro v0 (And.intro v1 (And.intro v3 (And.intro v19 v20))))
        have hbn := below_new wr (.cells vs.toArray 122)
        have hqw := C1.out.qlt
        have U1 : Hid (Cu w (wr.alloc (.cells vs.toArray 122)) q wr.heap.size h b1 b2 vs cA cn cc cs A A1 n1 c1 l1 0 at1 none 0 0 []) := Lib.hid ⟨C1.out.keep hbn, W1.out.trans (Cw.of_below hbn), heap_alloc_new _ _, stP_only (Only.of_below (F := []) hbn) (fun g hg => by cases hg) hst, hqw, fun b hb h => by have := (C1.out.nm.lt b hb).2; omega, Nm.nil _ _, fun b hb => by cases hb⟩
        clear hst hB1 hB2 hd hc hat v0 v1 v2 v3 v19 v20 HB1 EOK hbn
        go_upto_region 3 with fail
        go_cut [5] (fun s5 wx => s5 = .pointer (some ⟨wr.heap.size, 0, none⟩) ∧ wr.alloc (.cells vs.toArray 122) = wx)
        case first =>
          go_wp2_with (first | (refine wpList_load_at rfl 122 _ rfl blk (off + j * 21) rfl vs _ HC.out HU rfl HII.out ?_) | (refine wpList_store_row rfl 122 (.tmp 5) (.tmp 25) rfl wr.heap.size vs.toArray rfl rfl 122 #[.int .i64 0, .int .i64 0, .string ⟨#[]⟩, .string ⟨#[]⟩, .int .i64 0, .int .u64 0, .int .u8 0, .string ⟨#[]⟩, .slice none 0 0, .int .i64 0, .int .u64 0, .int .u8 0, .string ⟨#[]⟩, .slice none 0 0, .int .i64 0, .int .u64 0, .int .u8 0, .string ⟨#[]⟩, .slice none 0 0, .slice none 0 0, .slice none 0 0] (heap_alloc_new _ _) (by simpa using HII.out) (by simpa using LEN.out.symm) ONE.out ?_; rw [World.setRow_alloc_new]) | fail)
          go_meet
          case rel => exact ⟨rfl, rfl⟩
        case rest =>
        obtain ⟨rfl, rfl⟩ := hcut
        obtain ⟨W2, hW⟩ : ∃ W, wr.alloc (.cells vs.toArray 122) = W := ⟨_, rfl⟩
        rw [hW] at U1
        try rw [hW]
        have hW2 := Lib.hid hW
        clear hW y2 C1 W1 HC
        generalize wr.heap.size = g at *
        have FF : Hid (∀ n : Nat, Calls Try.prog 50 #[.slice cA cn cc, .string h.cell] (W2.drewN n) fun e w' => e = .returned (.int .i64 (Lay.find cs h.cell.toList)) ∧ W2.drewN n = w') := Lib.hid (fun n => Lay.rfind_any cA cn cc h.cell cs _ (U1.out.ck.cl.keep (below_drawn W2 n)) hcn)
        have z0 := U1.out.cell V.out.1
        have z3 := U1.out.cell V.out.2.2.1
        have q0 := U1.out.ck.c0
        go_upto_region 4 with fail
        go_cut [38] (fun s wx => s = .bool (isCelled h.kind && decide (Lay.find cs h.cell.toList < 0)) ∧ Below W2.heap.size W2 wx)
        case first =>
          cases hcB : isCelled h.kind
          · have CB := Lib.hid (fun n => celled_b hcB (W2.drewN n))
            have HCB := Lib.hid hcB
            clear hcB
            go_quiet ((go_at_call 70; exact quiet_left (CB.out _)))
            go_wp2_with fail
            go_meet
            case rel => exact ⟨by rw [HCB.out]; rfl, below_drawn _ _⟩
          · have CB := Lib.hid (fun n => celled_b hcB (W2.drewN n))
            have HCB := Lib.hid hcB
            clear hcB
            by_cases hf : Lay.find cs h.cell.toList < 0
            · have d2 : decide (Lay.find cs h.cell.toList < 0) = true := decide_eq_true hf
              go_quiet ((first | (go_at_call 70; exact quiet_left (CB.out _)) | (go_at_call 50; exact quiet_left (FF.out _))))
              go_wp2_with fail
              go_meet
              case rel => exact ⟨by rw [HCB.out, d2]; rfl, below_drawn _ _⟩
            · have d2 : decide (Lay.find cs h.cell.toList < 0) = false := decide_eq_false hf
              go_quiet ((first | (go_at_call 70; exact quiet_left (CB.out _)) | (go_at_call 50; exact quiet_left (FF.out _))))
              go_wp2_with fail
              go_meet
              case rel => exact ⟨by rw [HCB.out, d2]; rfl, below_drawn _ _⟩
        case rest =>
        obtain ⟨rfl, hbel⟩ := hcut
        have U2 := Lib.hid (U1.out.keep hbel)
        clear hbel U1 FF z0 z3 q0 W2 hW2
        obtain ⟨bb, hbb⟩ : ∃ bb, (isCelled h.kind && decide (Lay.find cs h.cell.toList < 0)) = bb := ⟨_, rfl⟩
        rw [hbb]
        have HBB : Hid (bb = false ↔ (isCelled h.kind = true → ¬ Lay.find cs h.cell.toList < 0)) := Lib.hid (by rw [← hbb]; cases isCelled h.kind <;> simp)
        clear hbb
        go_upto_if 38 with fail
        go_cut [] (fun wx => ∃ e2 : Int, (e2 = 0 ↔ bb = false) ∧ Cu w wx q g h b1 b2 vs cA cn cc cs A A1 n1 c1 l1 e2 at1 none 0 0 [])
        case first =>
          cases bb
          · go_wp2_with fail
            go_meet
            case rel => exact ⟨0, by simp, U2.out⟩
          · have y2 := U2.out.ck.c2
            have yf := U2.out.ck.free
            go_wp2_with fail
            go_meet
            case rel => exact ⟨4, by simp, U2.out.setE 4⟩
        case rest =>
        obtain ⟨e2, he2, hU⟩ := hcut
        have U3 := Lib.hid hU
        have E2 : Hid (e2 = 0 ↔ (isCelled h.kind = true → ¬ Lay.find cs h.cell.toList < 0)) := Lib.hid (he2.trans HBB.out)
        clear hU he2 HBB U2
        go_wp2_with (first | (refine wpList_load_row rfl 122 (.tmp 5) rfl g rfl 122 vs.toArray (0, 0) _ U3.out.sb HU rfl (by simpa using HII.out) ?_) | fail)
        refine (own_any (stP_mono (P' := Lo wc.heap.size) (fun b hb hl => hl) U3.out.st) (Nm.nil wc wc.heap.size) (by omega) (Nat.le_refl _)).mono ?_
        rintro en w6 ⟨M, mn, mc, rfl, hn6, hg6⟩
        have hml := hn6.len
        have hmn : mn ≤ 90000 := by have := (ownN_len h []).2; simp only [List.length_nil] at this; omega
        have U4 := Lib.hid (U3.out.mine rfl hn6 hg6)
        clear hn6 hg6 U3
        go_upto_block 2 with fail
        go_cut [] (fun wx => ∃ e3 : Int, (e3 = 0 ↔ e2 = 0 ∧ free1 cs h mn) ∧ Cu w wx q g h b1 b2 vs cA cn cc cs A A1 n1 c1 l1 e3 at1 M mn mc (ownN [] h))
        case first =>
          go_wp2_with fail
          go_loopw [7] (fun i wx => ∃ (k3 : Nat) (e3 : Int), k3 ≤ mn ∧ i = .int .i64 k3 ∧ (e3 = 0 ↔ e2 = 0 ∧ free1 cs h k3) ∧ Cu w wx q g h b1 b2 vs cA cn cc cs A A1 n1 c1 l1 e3 at1 M mn mc (ownN [] h)) (fun i _ => mn - (intOf i).toNat)
          case atStart => exact ⟨0, e2, Nat.zero_le _, rfl, ⟨fun h => ⟨h, fun i hi => absurd hi (by omega)⟩, fun h => h.1⟩, U4.out⟩
          case round =>
            obtain ⟨k3, e3, hk3, rfl, hE, hU⟩ := hrel
            have U5 := Lib.hid hU
            have HE := Lib.hid hE
            have y2 := hU.ck.c2
            have q0 := hU.ck.c0
            clear hU hE U4
            by_cases hkm : k3 < mn
            · have d3 : decide ((k3 : Int) < (mn : Int)) = true := decide_eq_true (by omega)
              have hki : (k3 : Int) < (mn : Int) := by omega
              by_cases he3 : e3 = 0
              · subst he3
                obtain ⟨mb, mo, rfl, hmb, m0⟩ := U5.out.mi.cell hkm
                have HM : Hid (free1 cs h (k3 + 1) ↔ free1 cs h k3 ∧ ¬ 0 ≤ Lay.find cs ((ownN [] h).getD k3 ⟨#[]⟩).toList) := Lib.hid ⟨fun hf => ⟨fun i hi => hf i (by omega), hf k3 (by omega)⟩, fun hf i hi => by
                  by_cases e : i = k3
                  · subst e; exact hf.2
                  · exact hf.1 i (by omega)⟩
                have HF0 : Hid (e2 = 0 ∧ free1 cs h k3) := Lib.hid (HE.out.1 rfl)
                clear HE
                generalize (ownN [] h).getD k3 ⟨#[]⟩ = m at *
                have FF : Hid (∀ n : Nat, Calls Try.prog 50 #[.slice cA cn cc, .string m] (wr.drewN n) fun e w' => e = .returned (.int .i64 (Lay.find cs m.toList)) ∧ wr.drewN n = w') := Lib.hid (fun n => Lay.rfind_any cA cn cc m cs _ (U5.out.ck.cl.keep (below_drawn wr n)) hcn)
                by_cases hf : 0 ≤ Lay.find cs m.toList
                · have d4 : decide (0 ≤ Lay.find cs m.toList) = true := decide_eq_true hf
                  go_upto_region 10 with fail
                  go_quiet ((go_at_call 50; exact quiet_left (FF.out _)))
                  have U6 := Lib.hid (U5.out.keep (below_drawn wr nq))
                  have yf := U6.out.ck.free
                  have y2' := U6.out.ck.c2
                  clear U5 FF m0 q0 y2
                  generalize wr.drewN nq = w7 at *
                  go_wp2_with fail
                  go_roundw
                  case rel => exact ⟨k3 + 1, 6, by omega, by go_num, ⟨fun h6 => absurd h6 (by decide), fun hh => absurd hf (HM.out.1 hh.2).2⟩, U6.out.setE 6⟩
                  case measure => simp [intOf]; omega
                · have d4 : decide (0 ≤ Lay.find cs m.toList) = false := decide_eq_false hf
                  go_upto_region 10 with fail
                  go_quiet ((go_at_call 50; exact quiet_left (FF.out _)))
                  have U6 := Lib.hid (U5.out.keep (below_drawn wr nq))
                  clear U5 FF m0 q0 y2
                  generalize wr.drewN nq = w7 at *
                  go_wp2_with fail
                  go_roundw
                  case rel => exact ⟨k3 + 1, 0, by omega, by go_num, ⟨fun _ => ⟨HF0.out.1, HM.out.2 ⟨HF0.out.2, hf⟩⟩, fun _ => rfl⟩, U6.out⟩
                  case measure => simp [intOf]; omega
              · have t3 : (e3 == 0) = false := by simpa using he3
                go_wp2_with fail
                go_meet
                case rel => exact ⟨e3, ⟨fun h0 => absurd h0 he3, fun hh => HE.out.2 ⟨hh.1, fun i hi => hh.2 i (by omega)⟩⟩, U5.out⟩
            · obtain rfl : k3 = mn := by omega
              have d3 : decide ((k3 : Int) < (k3 : Int)) = false := decide_eq_false (by omega)
              go_wp2_with fail
              go_meet
              case rel => exact ⟨e3, HE.out, U5.out⟩
        case rest =>
        obtain ⟨e3, he3, hU⟩ := hcut
        have U5 := Lib.hid hU
        have E3 : Hid (e3 = 0 ↔ (isCelled h.kind = true → ¬ Lay.find cs h.cell.toList < 0) ∧ free1 cs h mn) := Lib.hid (he3.trans (and_congr (by simpa only [Int.not_lt] using E2.out) Iff.rfl))
        clear hU he3 E2 U4
        go_upto_block 4 with fail
        go_cut [] (fun wx => ∃ (A4 : Option Addr) (n4 c4 : Nat), Cu w wx q g h b1 b2 vs cA cn cc cs A A4 n4 c4 (addAll l1 (ownN [] h)) e3 at1 M mn mc (ownN [] h))
        case first =>
          go_wp2_with fail
          go_loopw [8] (fun i wx => ∃ (k4 : Nat) (A4 : Option Addr) (n4 c4 : Nat), k4 ≤ mn ∧ i = .int .i64 k4 ∧ Cu w wx q g h b1 b2 vs cA cn cc cs A A4 n4 c4 (addAll l1 ((ownN [] h).take k4)) e3 at1 M mn mc (ownN [] h)) (fun i _ => mn - (intOf i).toNat)
          case atStart => exact ⟨0, A1, n1, c1, Nat.zero_le _, rfl, U5.out⟩
          case round =>
            obtain ⟨k4, A4, n4, c4, hk4, rfl, hU⟩ := hrel
            have U6 := Lib.hid hU
            clear hU U5
            by_cases hkm : k4 < mn
            · have d3 : decide ((k4 : Int) < (mn : Int)) = true := decide_eq_true (by omega)
              have hki : (k4 : Int) < (mn : Int) := by omega
              obtain ⟨mb, mo, rfl, hmb, m0⟩ := U6.out.mi.cell hkm
              have HX : Hid (addAll l1 ((ownN [] h).take (k4 + 1)) = addN (addAll l1 ((ownN [] h).take k4)) ((ownN [] h).getD k4 ⟨#[]⟩)) := Lib.hid (by
                rw [← addAll_snoc, List.take_add_one]
                congr 2
                simp [List.getD, show k4 < (ownN [] h).length by omega])
              have hn4 : n4 ≤ 4000000 := by
                have e1 := U6.out.ck.nm.len
                have e2 := addAll_len ((ownN [] h).take k4) l1
                have e3 : ((ownN [] h).take k4).length ≤ k4 := by simp; omega
                have e4 := (ownN_len h []).2
                simp only [List.length_nil] at e4
                omega
              generalize (ownN [] h).getD k4 ⟨#[]⟩ = m at *
              have q1 := U6.out.ck.c1
              go_upto_region 15 with fail
              have U7 := Lib.hid (U6.out.keep (Below.refl _ _).drew)
              have SA : wr.drew.cell? ⟨q, 1, none⟩ = some (.slice A4 n4 c4) ∧ wr.drew.cell? ⟨mb, mo + k4, none⟩ = some (.string m) := ⟨q1, m0⟩
              refine Hd.start 10 (fun w' => w'.cell? ⟨q, 1, none⟩ = some (.slice A4 n4 c4) ∧ w'.cell? ⟨mb, mo + k4, none⟩ = some (.string m)) (by kernel_rfl) ?_
              refine Hd.take (i := 0) (v := ?vr0) rfl (by decide +kernel) (by decide +kernel) (fun _ _ _ h => h) rfl ?hyr0 SA ?restr0
              case hyr0 =>
                intro wq hSw
                obtain ⟨s1, s2⟩ := hSw
                go_simp
                try with_reducible rfl
              try simp only [Act.put, zA, zB, zC]
              refine Hd.take (i := 1) (v := ?vr1) rfl (by decide +kernel) (by decide +kernel) (fun _ _ _ h => h) rfl ?hyr1 SA ?restr1
              case hyr1 =>
                intro wq hSw
                obtain ⟨s1, s2⟩ := hSw
                go_simp
                try with_reducible rfl
              try simp only [Act.put, zA, zB, zC]
              refine Hd.take (i := 2) (v := ?vr2) rfl (by decide +kernel) (by decide +kernel) (fun _ _ _ h => h) rfl ?hyr2 SA ?restr2
              case hyr2 =>
                intro wq hSw
                obtain ⟨s1, s2⟩ := hSw
                go_simp
                try with_reducible rfl
              try simp only [Act.put, zA, zB, zC]
              refine Hd.take (i := 3) (v := ?vr3) rfl (by decide +kernel) (by decide +kernel) (fun _ _ _ h => h) rfl ?hyr3 SA ?restr3
              case hyr3 =>
                intro wq hSw
                obtain ⟨s1, s2⟩ := hSw
                go_simp
                try with_reducible rfl
              try simp only [Act.put, zA, zB, zC]
              refine Hd.take (i := 4) (v := ?vr4) rfl (by decide +kernel) (by decide +kernel) (fun _ _ _ h => h) rfl ?hyr4 SA ?restr4
              case hyr4 =>
                intro wq hSw
                obtain ⟨s1, s2⟩ := hSw
                go_simp
                try with_reducible rfl
              try simp only [Act.put, zA, zB, zC]
              refine Hd.take (i := 5) (v := ?vr5) rfl (by decide +kernel) (by decide +kernel) (fun _ _ _ h => h) rfl ?hyr5 SA ?restr5
              case hyr5 =>
                intro wq hSw
                obtain ⟨s1, s2⟩ := hSw
                go_simp
                try with_reducible rfl
              try simp only [Act.put, zA, zB, zC]
              refine Hd.take (i := 6) (v := ?vr6) rfl (by decide +kernel) (by decide +kernel) (fun _ _ _ h => h) rfl ?hyr6 SA ?restr6
              case hyr6 =>
                intro wq hSw
                obtain ⟨s1, s2⟩ := hSw
                go_simp
                try with_reducible rfl
              try simp only [Act.put, zA, zB, zC]
              refine Hd.take (i := 7) (v := ?vr7) rfl (by decide +kernel) (by decide +kernel) (fun _ _ _ h => h) rfl ?hyr7 SA ?restr7
              case hyr7 =>
                intro wq hSw
                obtain ⟨s1, s2⟩ := hSw
                go_simp
                try with_reducible rfl
              try simp only [Act.put, zA, zB, zC]
              refine Hd.take (i := 8) (v := ?vr8) rfl (by decide +kernel) (by decide +kernel) (fun _ _ _ h => h) rfl ?hyr8 SA ?restr8
              case hyr8 =>
                intro wq hSw
                obtain ⟨s1, s2⟩ := hSw
                go_simp
                try with_reducible rfl
              try simp only [Act.put, zA, zB, zC]
              refine Hd.one (i := 9) rfl (by kernel_rfl) rfl (fun K hK => ?_)
              go_simp
              refine (add_any _ U7.out.ck.nm hn4 (by have := U7.out.ck.qlt; omega)).mono ?_
              rintro en w8 ⟨A8, n8, c8, rfl, hn8, hg8⟩
              have hnq : q ∉ (A4.map (·.block)).toList := fun hx => by have := (U7.out.ck.nm.lt q (Fr.mem_blk.1 hx)).1; omega
              have SB : w8.cell? ⟨q, 1, none⟩ = some (.slice A4 n4 c4) ∧ w8.cell? ⟨mb, mo + k4, none⟩ = some (.string m) := ⟨(only_cell hg8.only U7.out.ck.qlt hnq 1).trans SA.1, (only_cell hg8.only (show mb < wr.drew.heap.size from hmb) (fun hx => U7.out.mne mb rfl (Fr.mem_blk.1 hx)) _).trans SA.2⟩
              have U8 := Lib.hid (U7.out.put hn8 hg8)
              have yf : ∀ i, w8.frozen? ⟨q, i, none⟩ = false := fun i => by
                have hbq := (hg8.only.block q U7.out.ck.qlt hnq).trans U7.out.ck.blk
                simp only [World.frozen?, hbq]; simp
              have y1 := SB.1
              refine hK _ _ (fun _ => SB) ?_
              clear hK K hn8 hg8
              
              try simp only [Act.put, zA, zB, zC]
              refine Hd.one (i := 10) rfl (by kernel_rfl) rfl (fun K hK => ?_)
              go_simp
              refine hK _ _ (fun h => absurd h (by omega)) ?_
              clear hK K
              try simp only [Act.put, zA, zB, zC]
              refine Hd.one (i := 11) rfl (by kernel_rfl) rfl (fun K hK => ?_)
              go_simp
              refine hK _ _ (fun h => absurd h (by omega)) ?_
              clear hK K
              try simp only [Act.put, zA, zB, zC]
              refine Hd.one (i := 12) rfl (by kernel_rfl) rfl (fun K hK => ?_)
              go_simp
              refine hK _ _ (fun h => absurd h (by omega)) ?_
              clear hK K
              try simp only [Act.put, zA, zB, zC]
              refine Hd.done (by kernel_rfl) ?_ _
              clear SA SB q1 m0
              go_wp2_with fail
              go_roundw
              case rel => exact ⟨k4 + 1, A8, n8, c8, by omega, by go_num, by rw [HX.out]; exact U8.out⟩
              case measure => simp [intOf]; omega
            · obtain rfl : k4 = mn := by omega
              have d3 : decide ((k4 : Int) < (k4 : Int)) = false := decide_eq_false (by omega)
              have HX : Hid ((ownN [] h).take k4 = ownN [] h) := Lib.hid (List.take_of_length_le (by omega))
              go_wp2_with fail
              go_meet
              case rel => exact ⟨A4, n4, c4, by have := U6.out; rw [HX.out] at this; exact this⟩
        case rest =>
        obtain ⟨A4, n4, c4, hU⟩ := hcut
        have U6 := Lib.hid hU
        clear hU U5
        have E4 : Hid (e3 = 0 ↔ (isCelled h.kind = true → ¬ Lay.find cs h.cell.toList < 0) ∧ free1 cs h mn) := Lib.hid (by simpa only [Int.not_lt] using E3.out)
        have LN4 := U6.out.ck.nm.len
        have y2 := U6.out.ck.c2
        have y1 := U6.out.ck.c1
        clear E3
        by_cases he3 : e3 = 0
        · subst he3
          have E5 : Hid ((isCelled h.kind = true → ¬ Lay.find cs h.cell.toList < 0) ∧ free1 cs h mn) := Lib.hid (E4.out.1 rfl)
          clear E4
          by_cases hn4 : 12 < n4
          · have d5 : decide (12 < (n4 : Int)) = true := decide_eq_true (by omega)
            have NOK : Hid (¬ walkOk cs l b) := Lib.hid (fun hh => by have := (walkOk_head (EQ.out.1.1 hh)).few; omega)
            have UU := U6.out.setE 3
            have y2' := UU.ck.c2
            have yf0 := U6.out.ck.free
            have yf := UU.ck.free
            have z1 := UU.cell V.out.2.1
            have y3 := UU.ck.c3
            have CE := Lib.hid (UU.ck.setAt h.at_)
            have WE := Lib.hid (UU.cw.set 3 (.int .i64 h.at_))
            clear UU
            go_wp2_with fail
            go_end0
            exact ⟨rfl, A4, n4, c4, _, 3, h.at_, CE.out, WE.out, ⟨fun h0 => absurd h0 (by decide), fun hh => absurd hh NOK.out⟩, fun h0 => absurd h0 (by decide)⟩
          · have d5 : decide (12 < (n4 : Int)) = false := decide_eq_false (by omega)
            have OKS : Hid (OkS cs l1 h) := Lib.hid ⟨E5.out.1, fun i hi => E5.out.2 i (by omega), by omega⟩
            have l412 : (addAll l1 (ownN [] h)).length ≤ 12 := by omega
            clear E5
            obtain ⟨l4, hl4⟩ : ∃ x, addAll l1 (ownN [] h) = x := ⟨_, rfl⟩
            have HL4 := Lib.hid hl4
            rw [hl4] at U6 l412
            clear hl4 LN4
            by_cases h6 : h.kind = 6
            · have z0 := U6.out.cell V.out.1
              rw [h6] at z0
              have z19 := U6.out.cell V.out.2.2.2.1
              have EE : Hid ((walkOk cs l b ↔ OkS cs l1 h ∧ walkOk cs l4 b1 ∧ walkOk cs (walkL l4 b1) b2 ∧ walkOk cs (walkL (walkL l4 b1) b2) (dropB b (j + 1))) ∧ walkL l b = walkL (walkL (walkL l4 b1) b2) (dropB b (j + 1))) := Lib.hid (by
                have e := wk6 (cs := cs) (l := l1) (b1 := b1) (b2 := b2) (r := dropB b (j + 1)) h6
                rw [HL4.out] at e
                exact ⟨EQ.out.1.trans e.1, EQ.out.2.trans e.2⟩)
              have H6 := Lib.hid h6
              clear h6
              go_wp2_with fail
              refine ((IHH.out (bsz b1) (by omega)).go (Nat.le_refl _) (StP.b19 U6.out.st V.out.2.2.2.1) U6.out.ck hcn l412 (by omega)).mono ?_
              rintro en w7 ⟨rfl, A7, n7, c7, l7, e7, at7, hc7, hw7, hi7, hl7⟩
              have U7 := Lib.hid (U6.out.call hc7 hw7)
              have I7 := Lib.hid hi7
              have L7 := Lib.hid hl7
              clear hc7 hw7 hi7 hl7 z0 z19 y1 y2 U6
              have z0 := U7.out.cell V.out.1
              rw [H6.out] at z0
              have z20 := U7.out.cell V.out.2.2.2.2
              by_cases he7 : e7 = 0
              · subst he7
                have L7' := Lib.hid (L7.out rfl)
                have I7' : Hid (walkOk cs l4 b1) := Lib.hid (I7.out.1 rfl)
                clear L7 I7
                go_wp2_with fail
                refine ((IHH.out (bsz b2) (by omega)).go (Nat.le_refl _) (StP.b20 U7.out.st V.out.2.2.2.2) U7.out.ck hcn L7'.out.2 (by omega)).mono ?_
                rintro en w8 ⟨rfl, A8, n8, c8, l8, e8, at8, hc8, hw8, hi8, hl8⟩
                have U8 := Lib.hid (U7.out.call hc8 hw8)
                have I8 := Lib.hid hi8
                have L8 := Lib.hid hl8
                clear hc8 hw8 hi8 hl8 z0 z20 U7
                go_wp2_with fail
                go_roundw
                case rel =>
                  have el7 := L7'.out.1
                  have i8 := I8.out
                  have l8' := L8.out
                  rw [el7] at i8 l8'
                  refine ⟨j + 1, A8, n8, c8, l8, e8, at8, by omega, by go_num, U8.out.ck, U8.out.cw, fun h0 => ?_, fun h0 hh => h0 (i8.2 (EE.out.1.1 hh).2.2.1)⟩
                  obtain ⟨m1, m2⟩ := l8' h0
                  rw [m1]
                  exact ⟨⟨fun hh => (EE.out.1.1 hh).2.2.2, fun hh => EE.out.1.2 ⟨OKS.out, I7'.out, i8.1 h0, hh⟩⟩, EE.out.2, by rw [← m1]; exact m2⟩
                case measure => simp [intOf]; omega
              · have NOK : Hid (¬ walkOk cs l b) := Lib.hid (fun hh => he7 (I7.out.2 (EE.out.1.1 hh).2.1))
                go_wp2_with fail
                refine (walk_stop U7.out.ck he7).mono ?_
                rintro en w8 ⟨rfl, rfl⟩
                go_wp2_with fail
                go_roundw
                case rel => exact ⟨j + 1, A7, n7, c7, l7, e7, at7, by omega, by go_num, U7.out.ck, U7.out.cw, fun h0 => absurd h0 he7, fun _ => NOK.out⟩
                case measure => simp [intOf]; omega
            by_cases h7 : h.kind = 7
            · have z0 := U6.out.cell V.out.1
              rw [h7] at z0
              have z19 := U6.out.cell V.out.2.2.2.1
              have EE : Hid ((walkOk cs l b ↔ OkS cs l1 h ∧ walkOk cs l4 b1 ∧ walkOk cs (walkL l4 b1) (dropB b (j + 1))) ∧ walkL l b = walkL (walkL l4 b1) (dropB b (j + 1))) := Lib.hid (by
                have e := wk7 (cs := cs) (l := l1) (b1 := b1) (b2 := b2) (r := dropB b (j + 1)) h7
                rw [HL4.out] at e
                exact ⟨EQ.out.1.trans e.1, EQ.out.2.trans e.2⟩)
              have H7 := Lib.hid h7
              clear h6 h7
              go_wp2_with fail
              refine ((IHH.out (bsz b1) (by omega)).go (Nat.le_refl _) (StP.b19 U6.out.st V.out.2.2.2.1) U6.out.ck hcn l412 (by omega)).mono ?_
              rintro en w7 ⟨rfl, A7, n7, c7, l7, e7, at7, hc7, hw7, hi7, hl7⟩
              have U7 := Lib.hid (U6.out.call hc7 hw7)
              have I7 := Lib.hid hi7
              have L7 := Lib.hid hl7
              clear hc7 hw7 hi7 hl7 z0 z19 y1 y2 U6
              have z0 := U7.out.cell V.out.1
              rw [H7.out] at z0
              go_wp2_with fail
              go_roundw
              case rel =>
                refine ⟨j + 1, A7, n7, c7, l7, e7, at7, by omega, by go_num, U7.out.ck, U7.out.cw, fun h0 => ?_, fun h0 hh => h0 (I7.out.2 (EE.out.1.1 hh).2.1)⟩
                obtain ⟨m1, m2⟩ := L7.out h0
                rw [m1]
                exact ⟨⟨fun hh => (EE.out.1.1 hh).2.2, fun hh => EE.out.1.2 ⟨OKS.out, I7.out.1 h0, hh⟩⟩, EE.out.2, by rw [← m1]; exact m2⟩
              case measure => simp [intOf]; omega
            · have t6 : (h.kind == 6) = false := by simpa using h6
              have t7 : (h.kind == 7) = false := by simpa using h7
              have EE : Hid ((walkOk cs l b ↔ OkS cs l1 h ∧ walkOk cs l4 (dropB b (j + 1))) ∧ walkL l b = walkL l4 (dropB b (j + 1))) := Lib.hid (by
                have e := wko (cs := cs) (l := l1) (b1 := b1) (b2 := b2) (r := dropB b (j + 1)) h6 h7
                rw [HL4.out] at e
                exact ⟨EQ.out.1.trans e.1, EQ.out.2.trans e.2⟩)
              clear h6 h7
              have z0 := U6.out.cell V.out.1
              go_wp2_with fail
              go_roundw
              case rel => exact ⟨j + 1, A4, n4, c4, l4, 0, at1, by omega, by go_num, U6.out.ck, U6.out.cw, fun _ => ⟨⟨fun hh => (EE.out.1.1 hh).2, fun hh => EE.out.1.2 ⟨OKS.out, hh⟩⟩, EE.out.2, l412⟩, fun h0 => absurd rfl h0⟩
              case measure => simp [intOf]; omega
        · have t3 : (e3 == 0) = false := by simpa using he3
          have t3' : (e3 != 0) = true := by simpa using he3
          have NOK : Hid (¬ walkOk cs l b) := Lib.hid (fun hh => he3 (E4.out.2 (by
            have ho := walkOk_head (EQ.out.1.1 hh)
            exact ⟨ho.cell, fun i hi => ho.free i (by omega)⟩)))
          have UU := U6.out
          have yf := UU.ck.free
          have z1 := UU.cell V.out.2.1
          have y3 := UU.ck.c3
          have CE := Lib.hid (UU.ck.setAt h.at_)
          have WE := Lib.hid (UU.cw.set 3 (.int .i64 h.at_))
          clear UU
          go_wp2_with fail
          go_end0
          exact ⟨rfl, A4, n4, c4, _, e3, h.at_, CE.out, WE.out, ⟨fun h0 => absurd h0 (by exact he3), fun hh => absurd hh NOK.out⟩, fun h0 => absurd h0 (by exact he3)⟩
      · obtain rfl : j = bn := by omega
        have d1 : decide ((j : Int) < (j : Int)) = false := decide_eq_false (by omega)
        go_wp2_with fail
        go_end0
        obtain ⟨eok, ewl⟩ := EOK.out
        rw [dropB_all b j (by omega)] at eok ewl
        exact ⟨rfl, A1, n1, c1, l1, 0, at1, C1.out, W1.out, ⟨fun _ => eok.2 trivial, fun _ => rfl⟩, fun _ => ⟨ewl.symm, el12⟩⟩
    · have t0 : (e1 == 0) = false := by simpa using he1
      by_cases hjn : j < bn
      · have d1 : decide ((j : Int) < (bn : Int)) = true := decide_eq_true (by omega)
        go_wp2_with fail
        go_end0
        exact ⟨rfl, A1, n1, c1, l1, e1, at1, C1.out, W1.out, ⟨fun h => absurd h he1, fun h => absurd h (NO1.out he1)⟩, fun h => absurd h he1⟩
      · have d1 : decide ((j : Int) < (bn : Int)) = false := decide_eq_false (by omega)
        go_wp2_with fail
        go_end0
        exact ⟨rfl, A1, n1, c1, l1, e1, at1, C1.out, W1.out, ⟨fun h => absurd h he1, fun h => absurd h (NO1.out he1)⟩, fun h => absurd h he1⟩
theorem walk_any (k : Nat) : Wk k := Nat.strongRecOn k (fun k IH => walk_of k IH)
end Go.Proofs.Ytapnnbbbgopobaa.Fr
