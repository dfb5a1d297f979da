/-
  WALKS: package emit: reckon.
-/
import Derived.Test.YtkohichiojmakaaEmitSwap
import Derived.Maps.OwnSet
import Derived.Maps.OwnOps
import Derived.Deep.Cut
namespace Go.Proofs.Ytkohichiojmakaa.EmK
set_option linter.unusedVariables false
set_option linter.unusedSimpArgs false
open Go.RowKit Go.Maps Cm Mm Ow A64 A64W Stp Em InW EmW EmP EmR EmS

theorem lawM : Keyed Try.prog 5 := int_keyed Try.underlying5
theorem zeroM (w : World) : (zeroValue 3).run Try.prog w = .ok (.int .i64 0) w := by kernel_rfl
theorem keyM (a : Int) (h : (Lit.int .u8 a).wf = true) : keyOf Try.prog 5 (.int .u8 a) = some (.int .u8 a) := keyOf_int_mk Try.underlying5 h
abbrev Own8 (w : World) (b n : Nat) (D : DataW Unit) : Prop := w.ownsMap Try.prog 5 (plainElem (H := Unit) Try.prog 3) b n D
theorem grown_below {w w' : World} {g B : Nat} (h : w.grownBy w' (some g)) (hB : B ≤ g) (hs : B ≤ w.heap.size) : Below B w w' := (Below.refl _ _).grown h hs (fun j hj => by cases hj; exact hB)
def mk1 (D : DataW Unit) (k v : Int) : DataW Unit := D.put (.int .u8 k) (.lit (.int .i64 v))
def D4 : DataW Unit := mk1 (mk1 (mk1 (mk1 (.map []) 43 2) 45 3) 42 4) 38 5
def D2 : DataW Unit := mk1 (mk1 (.map []) 61 0) 60 11
theorem wf8 {o : Int} (ho : o = 43 ∨ o = 45 ∨ o = 42 ∨ o = 38 ∨ o = 61 ∨ o = 60) : (Lit.int .u8 o).wf = true := by
  rcases ho with rfl | rfl | rfl | rfl | rfl | rfl <;> rfl
theorem at_inj {x y : Int} (h : (DataW.lit (.int .i64 x) : DataW Unit) = .lit (.int .i64 y)) : x = y := by
  injection h with h; injection h
theorem has4 {o : Int} (ho : o = 43 ∨ o = 45 ∨ o = 42 ∨ o = 38) : Maps.has D4 (.int .u8 o) = true := by
  rcases ho with rfl | rfl | rfl | rfl <;> kernel_rfl
theorem at4 {o : Int} (ho : o = 43 ∨ o = 45 ∨ o = 42 ∨ o = 38) {x : Int} (h : D4.atKey (.int .u8 o) (.lit (.int .i64 0)) = .lit (.int .i64 x)) (d a b : Int) : opI o d a b = [⟨x, d, a, b, 0, 0, 0⟩] := by
  rcases ho with rfl | rfl | rfl | rfl
  · have e : D4.atKey (.int .u8 43) (.lit (.int .i64 0)) = .lit (.int .i64 2) := by kernel_rfl
    obtain rfl := at_inj (e.symm.trans h)
    rfl
  · have e : D4.atKey (.int .u8 45) (.lit (.int .i64 0)) = .lit (.int .i64 3) := by kernel_rfl
    obtain rfl := at_inj (e.symm.trans h)
    rfl
  · have e : D4.atKey (.int .u8 42) (.lit (.int .i64 0)) = .lit (.int .i64 4) := by kernel_rfl
    obtain rfl := at_inj (e.symm.trans h)
    rfl
  · have e : D4.atKey (.int .u8 38) (.lit (.int .i64 0)) = .lit (.int .i64 5) := by kernel_rfl
    obtain rfl := at_inj (e.symm.trans h)
    rfl
theorem hasnt4 {o : Int} (ho : o = 61 ∨ o = 60) : Maps.has D4 (.int .u8 o) = false := by
  rcases ho with rfl | rfl <;> kernel_rfl
theorem has2 {o : Int} (ho : o = 61 ∨ o = 60) : Maps.has D2 (.int .u8 o) = true := by
  rcases ho with rfl | rfl <;> kernel_rfl
theorem at2 {o : Int} (ho : o = 61 ∨ o = 60) {x : Int} (h : D2.atKey (.int .u8 o) (.lit (.int .i64 0)) = .lit (.int .i64 x)) (d a b : Int) : opI o d a b = [⟨6, 0, a, b, 0, 0, 0⟩, ⟨7, d, 0, 0, 0, x, 0⟩] := by
  rcases ho with rfl | rfl
  · have e : D2.atKey (.int .u8 61) (.lit (.int .i64 0)) = .lit (.int .i64 0) := by kernel_rfl
    obtain rfl := at_inj (e.symm.trans h)
    rfl
  · have e : D2.atKey (.int .u8 60) (.lit (.int .i64 0)) = .lit (.int .i64 11) := by kernel_rfl
    obtain rfl := at_inj (e.symm.trans h)
    rfl
theorem wpList_insert_own {H : Type} {P : Program} (w : World) {ops : Array Oper} {rest : List Oper} {o : Oper} {a : Act} {Q : Exit → Act → World → Prop}
    (hg : o.guard = none) (m x v : Operand) (t : TypeId) (hop : o.op = Op.insert t m x v)
    (k e : TypeId) (K : Keyed P k) (ht : P.underlying t = some (.map k e)) (R : Value → Option (DataW H × List MemPlace)) (b n : Nat) (D : DataW H)
    (hm : a.eval m = .map (some b)) (hown : w.ownsMap P k R b n D) (hn : n < maxLen) (key val : Value) (kl : Lit) (hx : a.eval x = key) (hv : a.eval v = val) (hkey : keyOf P k key = some kl)
    (d : DataW H) (ps : List MemPlace) (hval : R val = some (d, ps))
    (hK : ∀ w', w'.ownsMap P k R b (n + 1) (D.put kl d) → w.grownBy w' (some b) → wpList P ops Q rest (a.put o.dst undef) w') :
    wpList P ops Q (o :: rest) a w := by
  refine wpList_plain hg fun K' hK' => ?_
  obtain ⟨w', hrun, r1, r2⟩ := hown.update K ht hn hkey hval
  unfold Oper.wp
  simp [execOp, hop, hm, hx, hv, hrun, Result.andThen]
  exact hK' _ _ (hK w' r1 r2)
section
variable {w0 w : World} {q X : Nat} {PA : Option Addr} {pn pc : Nat} {p : List Pl} {L : List In} {lb : List Int}

set_option maxRecDepth 20000 in
set_option maxHeartbeats 3200000 in
theorem reckon_three (h : Ms w0 w q X PA pn pc p L lb) (d a b c to ce n o : Int) (ho : o = 43 ∨ o = 45 ∨ o = 42 ∨ o = 38) (hp : Few p) (hL : L.length ≤ 3000) :
    Calls Try.prog 78 #[.pointer (some ⟨q, 0, none⟩), .agg #[.int .i64 2, .int .i64 d, .int .i64 a, .int .i64 b, .int .i64 c, .int .i64 to, .int .i64 ce, .int .u64 n, .int .u8 o]] w fun e w' => e = .returned (.tuple #[]) ∧
      PutL w0 w q X PA pn pc p (L ++ (rdI p a 0 ++ (rdI p b 1 ++ (opI o (tgR p d) (rdR p a 0) (rdR p b 1) ++ kpI p d)))) lb w' := by
  have H := Lib.hid h
  have la := rdI_len p a 0
  have lb1 := rdI_len p b 1
  have B0 := Lib.hid (Box.new w q X #[.int .i64 2, .int .i64 d, .int .i64 a, .int .i64 b, .int .i64 c, .int .i64 to, .int .i64 ce, .int .u64 n, .int .u8 o] 62 h.lt h.xlt)
  have HP := Lib.hid hp
  have y2 := (B0.out.cell 2).trans rfl
  have hmm := @run_makeMap Try.prog
  have HO := Lib.hid ho
  clear h hp ho
  go_enter Try.func78, Try.ntmps78
  go_wp2_with fail
  refine (read_any (H.out.keep (below_al w _)) a 0 (by omega) (HP.out a) (by omega)).mono ?_
  rintro e w1 ⟨rfl, X1, hM1, hF1⟩
  have M1 := Lib.hid hM1
  have F1 := Lib.hid (Far.after (below_al w (.cells #[.int .i64 2, .int .i64 d, .int .i64 a, .int .i64 b, .int .i64 c, .int .i64 to, .int .i64 ce, .int .u64 n, .int .u8 o] 62)) hF1)
  have B1 := Lib.hid (B0.out.far hF1)
  clear hM1 hF1
  have y3 := (B1.out.cell 3).trans rfl
  have ll1 : (L ++ rdI p a 0).length ≤ 3100 := by rw [List.length_append]; omega
  go_wp2_with fail
  refine (read_any M1.out b 1 (by omega) (HP.out b) (by omega)).mono ?_
  rintro e w2 ⟨rfl, X2, hM2, hF2⟩
  have M2 := Lib.hid hM2
  have F2 := Lib.hid (F1.out.trans hF2)
  have B2 := Lib.hid (B1.out.far hF2)
  clear hM2 hF2
  have y1 := (B2.out.cell 1).trans rfl
  have ll2 : (L ++ rdI p a 0 ++ rdI p b 1).length ≤ 3200 := by rw [List.length_append]; omega
  go_wp2_with fail
  refine (target_any M2.out d (HP.out d)).mono ?_
  rintro e w4 ⟨rfl, hb4⟩
  have M4 := Lib.hid (M2.out.keep hb4)
  have F4 := Lib.hid (F2.out.trans (Far.below hb4))
  have B4 := Lib.hid (B2.out.keep hb4)
  clear hb4
  obtain ⟨L3, hL3⟩ : ∃ L3, L ++ rdI p a 0 ++ rdI p b 1 = L3 := ⟨_, rfl⟩
  rw [hL3] at M4 ll2
  have HL3 := Lib.hid hL3
  clear hL3 M2 M1 F1 F2 B0 B1 B2 y1 y2 y3 ll1
  obtain ⟨rd, hrd⟩ : ∃ rd, tgR p d = rd := ⟨_, rfl⟩
  obtain ⟨ra, hra⟩ : ∃ ra, rdR p a 0 = ra := ⟨_, rfl⟩
  obtain ⟨rb, hrb⟩ : ∃ rb, rdR p b 1 = rb := ⟨_, rfl⟩
  rw [hrd, hra, hrb]
  have HRD := Lib.hid hrd
  have HRA := Lib.hid hra
  have HRB := Lib.hid hrb
  clear hrd hra hrb
  have hown0 : Own8 (w4.alloc (.map #[] 0)) w4.heap.size 0 (.map []) := World.ownsMap_made _ _ _ _
  have hbel := below_al w4 (.map #[] 0)
  go_upto_region 5 with (first
    | (refine wpList_insert_own _ rfl _ _ _ 171 rfl 5 3 lawM Try.underlying171 _ _ _ _ rfl hown0 (by unfold maxLen; omega) _ _ _ rfl rfl (keyM 43 rfl) _ [] (plainElem_int Try.underlying3 rfl) ?_; intro wm1 hown1 hgrow1)
    | (refine wpList_insert_own _ rfl _ _ _ 171 rfl 5 3 lawM Try.underlying171 _ _ _ _ rfl hown1 (by unfold maxLen; omega) _ _ _ rfl rfl (keyM 45 rfl) _ [] (plainElem_int Try.underlying3 rfl) ?_; intro wm2 hown2 hgrow2)
    | (refine wpList_insert_own _ rfl _ _ _ 171 rfl 5 3 lawM Try.underlying171 _ _ _ _ rfl hown2 (by unfold maxLen; omega) _ _ _ rfl rfl (keyM 42 rfl) _ [] (plainElem_int Try.underlying3 rfl) ?_; intro wm3 hown3 hgrow3)
    | (refine wpList_insert_own _ rfl _ _ _ 171 rfl 5 3 lawM Try.underlying171 _ _ _ _ rfl hown3 (by unfold maxLen; omega) _ _ _ rfl rfl (keyM 38 rfl) _ [] (plainElem_int Try.underlying3 rfl) ?_; intro wm4 hown4 hgrow4)
    | fail)
  have HB4 : Hid (Below w4.heap.size w4 wm4) := Lib.hid (hbel.trans ((grown_below hgrow1 (Nat.le_refl _) hbel.size).trans ((grown_below hgrow2 (Nat.le_refl _) (Nat.le_trans hbel.size hgrow1.size)).trans ((grown_below hgrow3 (Nat.le_refl _) (Nat.le_trans hbel.size (Nat.le_trans hgrow1.size hgrow2.size))).trans (grown_below hgrow4 (Nat.le_refl _) (Nat.le_trans hbel.size (Nat.le_trans hgrow1.size (Nat.le_trans hgrow2.size hgrow3.size))))))))
  have HO4 : Hid (Own8 wm4 w4.heap.size 4 D4) := Lib.hid hown4
  clear hown0 hown1 hown2 hown3 hown4 hgrow1 hgrow2 hgrow3 hgrow4 hbel
  have hown0 : Own8 (wm4.alloc (.map #[] 0)) wm4.heap.size 0 (.map []) := World.ownsMap_made _ _ _ _
  have hbel := below_al wm4 (.map #[] 0)
  go_upto_region 6 with (first
    | (refine wpList_insert_own _ rfl _ _ _ 171 rfl 5 3 lawM Try.underlying171 _ _ _ _ rfl hown0 (by unfold maxLen; omega) _ _ _ rfl rfl (keyM 61 rfl) _ [] (plainElem_int Try.underlying3 rfl) ?_; intro wn1 hown1 hgrow1)
    | (refine wpList_insert_own _ rfl _ _ _ 171 rfl 5 3 lawM Try.underlying171 _ _ _ _ rfl hown1 (by unfold maxLen; omega) _ _ _ rfl rfl (keyM 60 rfl) _ [] (plainElem_int Try.underlying3 rfl) ?_; intro wn2 hown2 hgrow2)
    | fail)
  have HG : Hid (Below wm4.heap.size wm4 wn2) := Lib.hid (hbel.trans ((grown_below hgrow1 (Nat.le_refl _) hbel.size).trans (grown_below hgrow2 (Nat.le_refl _) (Nat.le_trans hbel.size hgrow1.size))))
  have hlt4 := HO4.out.lt
  have hD2 : Own8 wn2 wm4.heap.size 2 D2 := hown2
  have hD4 : Own8 wn2 w4.heap.size 4 D4 := ((HO4.out.alloc _).kept hgrow1 (fun e => by injection e with e; omega)).kept hgrow2 (fun e => by injection e with e; omega)
  clear hown0 hown1 hown2 hgrow1 hgrow2 hbel HO4
  have hbw : Below w4.heap.size w4 wn2 := HB4.out.trans (HG.out.mono HB4.out.size)
  have M5 := Lib.hid (M4.out.keep hbw)
  have F5 := Lib.hid (F4.out.trans (Far.below hbw))
  have B5 := Lib.hid (B4.out.keep hbw)
  clear hbw HB4 HG M4 F4 B4
  have z8 := (B5.out.cell 8).trans rfl
  have z1 := (B5.out.cell 1).trans rfl
  have hwf := wf8 (o := o) (by have := HO.out; omega)
  have hh1 := has4 HO.out
  go_upto_region 7 with (first
    | (at_lookup; refine wpList_lookup_own_ok_int _ rfl _ _ 171 rfl 5 3 .i64 lawM Try.underlying171 Try.underlying3 (zeroM _) _ _ _ rfl hD4 _ _ rfl (keyM _ hwf) ?_; intro x1 hat1 hwc1; rw [hh1])
    | fail)
  have HE := Lib.hid (at4 HO.out hat1 rd ra rb)
  clear hD2 hD4 hat1 hwc1
  go_wp2_with fail
  refine (put_any M5.out x1 rd ra rb 0 0 0 (by omega)).mono ?_
  rintro e w6 ⟨rfl, X6, hM6, hF6⟩
  have M6 := Lib.hid hM6
  have F6 := Lib.hid (F5.out.trans hF6)
  have B6 := Lib.hid (B5.out.far hF6)
  clear hM6 hF6
  have z1 := (B6.out.cell 1).trans rfl
  have hlen : Hid ((L3 ++ ([⟨x1, rd, ra, rb, 0, 0, 0⟩] : List In)).length ≤ 3900) := Lib.hid (by rw [List.length_append]; simp; omega)
  go_wp2_with fail
  refine (keep_any M6.out d hlen.out).mono ?_
  rintro e w7 ⟨rfl, X7, hM7, hF7⟩
  have M7 := Lib.hid hM7
  have F7 := Lib.hid (F6.out.trans hF7)
  clear hM7 hF7
  go_wp2_with fail
  refine bodyPost_ret (v := .tuple #[]) (results_none rfl _ _ _) rfl ?_
  refine ⟨rfl, X7, ?_, F7.out⟩
  have := M7.out
  rw [HRD.out, HRA.out, HRB.out, HE.out]
  rw [← HL3.out] at this
  simpa only [List.append_assoc] using this

set_option maxRecDepth 20000 in
set_option maxHeartbeats 3200000 in
theorem reckon_cond (h : Ms w0 w q X PA pn pc p L lb) (d a b c to ce n o : Int) (ho : o = 61 ∨ o = 60) (hp : Few p) (hL : L.length ≤ 3000) :
    Calls Try.prog 78 #[.pointer (some ⟨q, 0, none⟩), .agg #[.int .i64 2, .int .i64 d, .int .i64 a, .int .i64 b, .int .i64 c, .int .i64 to, .int .i64 ce, .int .u64 n, .int .u8 o]] w fun e w' => e = .returned (.tuple #[]) ∧
      PutL w0 w q X PA pn pc p (L ++ (rdI p a 0 ++ (rdI p b 1 ++ (opI o (tgR p d) (rdR p a 0) (rdR p b 1) ++ kpI p d)))) lb w' := by
  have H := Lib.hid h
  have la := rdI_len p a 0
  have lb1 := rdI_len p b 1
  have B0 := Lib.hid (Box.new w q X #[.int .i64 2, .int .i64 d, .int .i64 a, .int .i64 b, .int .i64 c, .int .i64 to, .int .i64 ce, .int .u64 n, .int .u8 o] 62 h.lt h.xlt)
  have HP := Lib.hid hp
  have y2 := (B0.out.cell 2).trans rfl
  have hmm := @run_makeMap Try.prog
  have HO := Lib.hid ho
  clear h hp ho
  go_enter Try.func78, Try.ntmps78
  go_wp2_with fail
  refine (read_any (H.out.keep (below_al w _)) a 0 (by omega) (HP.out a) (by omega)).mono ?_
  rintro e w1 ⟨rfl, X1, hM1, hF1⟩
  have M1 := Lib.hid hM1
  have F1 := Lib.hid (Far.after (below_al w (.cells #[.int .i64 2, .int .i64 d, .int .i64 a, .int .i64 b, .int .i64 c, .int .i64 to, .int .i64 ce, .int .u64 n, .int .u8 o] 62)) hF1)
  have B1 := Lib.hid (B0.out.far hF1)
  clear hM1 hF1
  have y3 := (B1.out.cell 3).trans rfl
  have ll1 : (L ++ rdI p a 0).length ≤ 3100 := by rw [List.length_append]; omega
  go_wp2_with fail
  refine (read_any M1.out b 1 (by omega) (HP.out b) (by omega)).mono ?_
  rintro e w2 ⟨rfl, X2, hM2, hF2⟩
  have M2 := Lib.hid hM2
  have F2 := Lib.hid (F1.out.trans hF2)
  have B2 := Lib.hid (B1.out.far hF2)
  clear hM2 hF2
  have y1 := (B2.out.cell 1).trans rfl
  have ll2 : (L ++ rdI p a 0 ++ rdI p b 1).length ≤ 3200 := by rw [List.length_append]; omega
  go_wp2_with fail
  refine (target_any M2.out d (HP.out d)).mono ?_
  rintro e w4 ⟨rfl, hb4⟩
  have M4 := Lib.hid (M2.out.keep hb4)
  have F4 := Lib.hid (F2.out.trans (Far.below hb4))
  have B4 := Lib.hid (B2.out.keep hb4)
  clear hb4
  obtain ⟨L3, hL3⟩ : ∃ L3, L ++ rdI p a 0 ++ rdI p b 1 = L3 := ⟨_, rfl⟩
  rw [hL3] at M4 ll2
  have HL3 := Lib.hid hL3
  clear hL3 M2 M1 F1 F2 B0 B1 B2 y1 y2 y3 ll1
  obtain ⟨rd, hrd⟩ : ∃ rd, tgR p d = rd := ⟨_, rfl⟩
  obtain ⟨ra, hra⟩ : ∃ ra, rdR p a 0 = ra := ⟨_, rfl⟩
  obtain ⟨rb, hrb⟩ : ∃ rb, rdR p b 1 = rb := ⟨_, rfl⟩
  rw [hrd, hra, hrb]
  have HRD := Lib.hid hrd
  have HRA := Lib.hid hra
  have HRB := Lib.hid hrb
  clear hrd hra hrb
  have hown0 : Own8 (w4.alloc (.map #[] 0)) w4.heap.size 0 (.map []) := World.ownsMap_made _ _ _ _
  have hbel := below_al w4 (.map #[] 0)
  go_upto_region 5 with (first
    | (refine wpList_insert_own _ rfl _ _ _ 171 rfl 5 3 lawM Try.underlying171 _ _ _ _ rfl hown0 (by unfold maxLen; omega) _ _ _ rfl rfl (keyM 43 rfl) _ [] (plainElem_int Try.underlying3 rfl) ?_; intro wm1 hown1 hgrow1)
    | (refine wpList_insert_own _ rfl _ _ _ 171 rfl 5 3 lawM Try.underlying171 _ _ _ _ rfl hown1 (by unfold maxLen; omega) _ _ _ rfl rfl (keyM 45 rfl) _ [] (plainElem_int Try.underlying3 rfl) ?_; intro wm2 hown2 hgrow2)
    | (refine wpList_insert_own _ rfl _ _ _ 171 rfl 5 3 lawM Try.underlying171 _ _ _ _ rfl hown2 (by unfold maxLen; omega) _ _ _ rfl rfl (keyM 42 rfl) _ [] (plainElem_int Try.underlying3 rfl) ?_; intro wm3 hown3 hgrow3)
    | (refine wpList_insert_own _ rfl _ _ _ 171 rfl 5 3 lawM Try.underlying171 _ _ _ _ rfl hown3 (by unfold maxLen; omega) _ _ _ rfl rfl (keyM 38 rfl) _ [] (plainElem_int Try.underlying3 rfl) ?_; intro wm4 hown4 hgrow4)
    | fail)
  have HB4 : Hid (Below w4.heap.size w4 wm4) := Lib.hid (hbel.trans ((grown_below hgrow1 (Nat.le_refl _) hbel.size).trans ((grown_below hgrow2 (Nat.le_refl _) (Nat.le_trans hbel.size hgrow1.size)).trans ((grown_below hgrow3 (Nat.le_refl _) (Nat.le_trans hbel.size (Nat.le_trans hgrow1.size hgrow2.size))).trans (grown_below hgrow4 (Nat.le_refl _) (Nat.le_trans hbel.size (Nat.le_trans hgrow1.size (Nat.le_trans hgrow2.size hgrow3.size))))))))
  have HO4 : Hid (Own8 wm4 w4.heap.size 4 D4) := Lib.hid hown4
  clear hown0 hown1 hown2 hown3 hown4 hgrow1 hgrow2 hgrow3 hgrow4 hbel
  have hown0 : Own8 (wm4.alloc (.map #[] 0)) wm4.heap.size 0 (.map []) := World.ownsMap_made _ _ _ _
  have hbel := below_al wm4 (.map #[] 0)
  go_upto_region 6 with (first
    | (refine wpList_insert_own _ rfl _ _ _ 171 rfl 5 3 lawM Try.underlying171 _ _ _ _ rfl hown0 (by unfold maxLen; omega) _ _ _ rfl rfl (keyM 61 rfl) _ [] (plainElem_int Try.underlying3 rfl) ?_; intro wn1 hown1 hgrow1)
    | (refine wpList_insert_own _ rfl _ _ _ 171 rfl 5 3 lawM Try.underlying171 _ _ _ _ rfl hown1 (by unfold maxLen; omega) _ _ _ rfl rfl (keyM 60 rfl) _ [] (plainElem_int Try.underlying3 rfl) ?_; intro wn2 hown2 hgrow2)
    | fail)
  have HG : Hid (Below wm4.heap.size wm4 wn2) := Lib.hid (hbel.trans ((grown_below hgrow1 (Nat.le_refl _) hbel.size).trans (grown_below hgrow2 (Nat.le_refl _) (Nat.le_trans hbel.size hgrow1.size))))
  have hlt4 := HO4.out.lt
  have hD2 : Own8 wn2 wm4.heap.size 2 D2 := hown2
  have hD4 : Own8 wn2 w4.heap.size 4 D4 := ((HO4.out.alloc _).kept hgrow1 (fun e => by injection e with e; omega)).kept hgrow2 (fun e => by injection e with e; omega)
  clear hown0 hown1 hown2 hgrow1 hgrow2 hbel HO4
  have hbw : Below w4.heap.size w4 wn2 := HB4.out.trans (HG.out.mono HB4.out.size)
  have M5 := Lib.hid (M4.out.keep hbw)
  have F5 := Lib.hid (F4.out.trans (Far.below hbw))
  have B5 := Lib.hid (B4.out.keep hbw)
  clear hbw HB4 HG M4 F4 B4
  have z8 := (B5.out.cell 8).trans rfl
  have z1 := (B5.out.cell 1).trans rfl
  have hwf := wf8 (o := o) (by have := HO.out; omega)
  have hh1 := hasnt4 HO.out
  have hh2 := has2 HO.out
  go_upto_region 7 with (first
    | (at_lookup; refine wpList_lookup_own_ok_int _ rfl _ _ 171 rfl 5 3 .i64 lawM Try.underlying171 Try.underlying3 (zeroM _) _ _ _ rfl hD4 _ _ rfl (keyM _ hwf) ?_; intro x1 hat1 hwc1; rw [hh1])
    | fail)
  clear hD4 hat1 hwc1
  go_upto_region 11 with (first
    | (at_lookup; refine wpList_lookup_own_ok_int _ rfl _ _ 171 rfl 5 3 .i64 lawM Try.underlying171 Try.underlying3 (zeroM _) _ _ _ rfl hD2 _ _ rfl (keyM _ hwf) ?_; intro x2 hat2 hwc2; rw [hh2])
    | fail)
  have HE := Lib.hid (at2 HO.out hat2 rd ra rb)
  clear hD2 hat2 hwc2
  go_wp2_with fail
  refine (put_any M5.out 6 0 ra rb 0 0 0 (by omega)).mono ?_
  rintro e w6 ⟨rfl, X6, hM6, hF6⟩
  have M6 := Lib.hid hM6
  have F6 := Lib.hid (F5.out.trans hF6)
  have B6 := Lib.hid (B5.out.far hF6)
  clear hM6 hF6
  have hlen : Hid ((L3 ++ ([⟨6, 0, ra, rb, 0, 0, 0⟩] : List In)).length ≤ 3900) := Lib.hid (by rw [List.length_append]; simp; omega)
  go_wp2_with fail
  refine (put_any M6.out 7 rd 0 0 0 x2 0 (by have := hlen.out; omega)).mono ?_
  rintro e w6 ⟨rfl, X6, hM6, hF6⟩
  have M6 := Lib.hid hM6
  have F6 := Lib.hid (F6.out.trans hF6)
  have B6 := Lib.hid (B6.out.far hF6)
  clear hM6 hF6
  have z1 := (B6.out.cell 1).trans rfl
  have hlen : Hid ((L3 ++ ([⟨6, 0, ra, rb, 0, 0, 0⟩] : List In) ++ ([⟨7, rd, 0, 0, 0, x2, 0⟩] : List In)).length ≤ 3900) := Lib.hid (by rw [List.length_append, List.length_append]; simp; omega)
  go_wp2_with fail
  refine (keep_any M6.out d hlen.out).mono ?_
  rintro e w7 ⟨rfl, X7, hM7, hF7⟩
  have M7 := Lib.hid hM7
  have F7 := Lib.hid (F6.out.trans hF7)
  clear hM7 hF7
  go_wp2_with fail
  go_end0
  refine ⟨rfl, X7, ?_, F7.out⟩
  have := M7.out
  rw [HRD.out, HRA.out, HRB.out, HE.out]
  rw [← HL3.out] at this
  simpa only [List.append_assoc, List.cons_append, List.nil_append] using this

end
end Go.Proofs.Ytkohichiojmakaa.EmK
