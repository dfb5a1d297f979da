/-
  WALKS: package emit: label; step, the kinds 2, 5, 9, 10, 11, 12.
-/
import Derived.Test.YtkohichiojmakaaEmitStep
import Derived.Test.YtkohichiojmakaaEmitReck
import Derived.Test.YtkohichiojmakaaGAlu
namespace Go.Proofs.Ytkohichiojmakaa.EmT
set_option linter.unusedVariables false
set_option linter.unusedSimpArgs false
open Go.RowKit Cm Mm Ow A64 A64W Stp Alu Em InW EmW EmP EmR EmS EmK

section
variable {w0 w : World} {q X : Nat} {PA : Option Addr} {pn pc : Nat} {p : List Pl} {L : List In} {lb : List Int}
theorem lb_set {w : World} {B q : Nat} {g ln k : Nat} {lb : List Int} (h : Lb w B q (some ⟨g, 0, none⟩) ln lb) (v : Int) (w' : World) (hg : w'.heap[g]? = (w.setCell ⟨g, k, none⟩ (.int .i64 v)).heap[g]?) : Lb w' B q (some ⟨g, 0, none⟩) ln (lb.set k v) := by
  obtain ⟨h1, h2, h3⟩ := h
  refine ⟨by simpa using h1, h2, .inr ?_⟩
  rcases h3 with ⟨h, _⟩ | ⟨g', e, k1, k2, k3⟩
  · cases h
  · injection e with e; injection e with e; subst e
    refine ⟨g, rfl, k1, k2, hg.trans ?_⟩
    rw [AluG.block_set k3]
    congr 2
    unfold lbA
    rw [List.setIfInBounds_toArray, List.map_set]

set_option maxRecDepth 20000 in
set_option maxHeartbeats 3200000 in
theorem label_neg (h : Ms w0 w q X PA pn pc p L lb) (tj : Int) (h0 : tj < 0) :
    Calls Try.prog 80 #[.pointer (some ⟨q, 0, none⟩), .int .i64 tj] w fun e w' => e = .returned (.tuple #[]) ∧ ∃ X', Ms w0 w' q X' PA pn pc p L lb := by
  have H := Lib.hid h
  obtain ⟨A, m, cp, LB, ln, hK, hP, hpn, hO, hX, hLb, hB, hq, hXw⟩ := h
  have y1 := hK.c1
  have y2 := hK.c2
  have d0 : decide (0 ≤ tj) = false := decide_eq_false (by omega)
  clear hP hO hX hLb hB hK
  go_enter Try.func80, Try.ntmps80
  go_wp2_with fail
  go_end0
  exact ⟨rfl, X, H.out⟩

set_option maxRecDepth 20000 in
set_option maxHeartbeats 3200000 in
theorem label_out (h : Ms w0 w q X PA pn pc p L lb) (tj : Int) (h0 : 0 ≤ tj) (h1 : (lb.length : Int) ≤ tj) :
    Calls Try.prog 80 #[.pointer (some ⟨q, 0, none⟩), .int .i64 tj] w fun e w' => e = .returned (.tuple #[]) ∧ ∃ X', Ms w0 w' q X' PA pn pc p L lb := by
  have H := Lib.hid h
  obtain ⟨A, m, cp, LB, ln, hK, hP, hpn, hO, hX, hLb, hB, hq, hXw⟩ := h
  have y1 := hK.c1
  have y2 := hK.c2
  have hl := hLb.1
  have d0 : decide (0 ≤ tj) = true := decide_eq_true h0
  have d1 : decide (tj < (ln : Int)) = false := decide_eq_false (by omega)
  clear hP hO hX hLb hB hK h1 hl
  go_enter Try.func80, Try.ntmps80
  go_wp2_with fail
  go_end0
  exact ⟨rfl, X, H.out⟩

set_option maxRecDepth 20000 in
set_option maxHeartbeats 3200000 in
theorem label_has (h : Ms w0 w q X PA pn pc p L lb) (tj : Int) (k : Nat) (h0 : tj = (k : Nat)) (h1 : k < lb.length) (h2 : 0 ≤ lb.getD k 0) :
    Calls Try.prog 80 #[.pointer (some ⟨q, 0, none⟩), .int .i64 tj] w fun e w' => e = .returned (.tuple #[]) ∧ ∃ X', Ms w0 w' q X' PA pn pc p L lb := by
  have H := Lib.hid h
  obtain ⟨A, m, cp, LB, ln, hK, hP, hpn, hO, hX, hLb, hB, hq, hXw⟩ := h
  have y1 := hK.c1
  have y2 := hK.c2
  have hl := hLb.1
  subst h0
  obtain ⟨g, hgl, hgq, rfl, hgc⟩ : ∃ g, g < w.heap.size ∧ g < q ∧ LB = some ⟨g, 0, none⟩ ∧ w.cell? ⟨g, k, none⟩ = some (.int .i64 (lb.getD k 0)) := by
    rcases hLb.2.2 with ⟨_, e⟩ | ⟨g, rfl, k1, k2, k3⟩
    · omega
    · refine ⟨g, (Array.getElem?_eq_some_iff.1 k3).1, k2, rfl, ?_⟩
      simp only [World.cell?, k3]
      simp [lbA, List.getD, h1]
  have d0 : decide (0 ≤ (k : Int)) = true := decide_eq_true (by omega)
  have d1 : decide ((k : Int) < (ln : Int)) = true := decide_eq_true (by omega)
  have hkl : (k : Int) < (ln : Int) := by omega
  generalize lb.getD k 0 = x at *
  have d2 : decide (x < 0) = false := decide_eq_false (by omega)
  clear hP hO hX hLb hB hK h1 hl
  go_enter Try.func80, Try.ntmps80
  go_wp2_with fail
  go_end0
  exact ⟨rfl, X, H.out⟩

set_option maxRecDepth 20000 in
set_option maxHeartbeats 3200000 in
theorem label_set (h : Ms w0 w q X PA pn pc p L lb) (tj : Int) (k : Nat) (h0 : tj = (k : Nat)) (h1 : k < lb.length) (h2 : lb.getD k 0 < 0) (hL : L.length ≤ 4000) :
    Calls Try.prog 80 #[.pointer (some ⟨q, 0, none⟩), .int .i64 tj] w fun e w' => e = .returned (.tuple #[]) ∧ ∃ X', Ms w0 w' q X' PA pn pc p L (lb.set k L.length) := by
  have H := Lib.hid h
  obtain ⟨A, m, cp, LB, ln, hK, hP, hpn, hO, hX, hLb, hB, hq, hXw⟩ := h
  have hm : m = L.length := by have := hO.len; simpa using this.symm
  have y1 := hK.c1
  have y2 := hK.c2
  have hl := hLb.1
  subst h0
  obtain ⟨g, hgl, hgq, rfl, hgc, hgf, hgb⟩ : ∃ g, g < w.heap.size ∧ g < q ∧ LB = some ⟨g, 0, none⟩ ∧ w.cell? ⟨g, k, none⟩ = some (.int .i64 (lb.getD k 0)) ∧ w.frozen? ⟨g, k, none⟩ = false ∧ w0.heap.size ≤ g := by
    rcases hLb.2.2 with ⟨_, e⟩ | ⟨g, rfl, k1, k2, k3⟩
    · omega
    · refine ⟨g, (Array.getElem?_eq_some_iff.1 k3).1, k2, rfl, ?_, ?_, k1⟩
      · simp only [World.cell?, k3]
        simp [lbA, List.getD, h1]
      · simp only [World.frozen?, k3]; simp
  have d0 : decide (0 ≤ (k : Int)) = true := decide_eq_true (by omega)
  have d1 : decide ((k : Int) < (ln : Int)) = true := decide_eq_true (by omega)
  have hkl : (k : Int) < (ln : Int) := by omega
  have d2 : decide (lb.getD k 0 < 0) = true := decide_eq_true h2
  have HK := Lib.hid hK
  have HP := Lib.hid hP
  have HO := Lib.hid hO
  have HX := Lib.hid hX
  have HLB := Lib.hid hLb
  have HB := Lib.hid hB
  have HM := Lib.hid hm
  have hqw := hK.lt
  have hXX := hXw
  generalize hx : lb.getD k 0 = x at *
  clear hP hO hX hLb hB hK h1 hl hm hx
  go_enter Try.func80, Try.ntmps80
  go_wp2_with fail
  refine Hd.start 11 (fun w' => w'.cell? ⟨q, 1, none⟩ = some (.slice A m cp) ∧ w'.cell? ⟨q, 2, none⟩ = some (.slice (some ⟨g, 0, none⟩) ln ln) ∧ w'.cell? ⟨g, k, none⟩ = some (.int .i64 x) ∧ w'.frozen? ⟨g, k, none⟩ = false) (by kernel_rfl) ?_
  have SA : w.drew.cell? ⟨q, 1, none⟩ = some (.slice A m cp) ∧ w.drew.cell? ⟨q, 2, none⟩ = some (.slice (some ⟨g, 0, none⟩) ln ln) ∧ w.drew.cell? ⟨g, k, none⟩ = some (.int .i64 x) ∧ w.drew.frozen? ⟨g, k, none⟩ = false := ⟨y1, y2, hgc, hgf⟩
  refine Hd.take (i := 0) (v := ?v0) rfl (by decide +kernel) (by decide +kernel) (fun _ _ _ h => h) rfl ?hy0 SA ?rest0
  case hy0 =>
    intro wq hSw
    obtain ⟨s1, s2, s3, s4⟩ := hSw
    go_simp
    try with_reducible rfl
  try simp only [Act.put, List.setIfInBounds_toArray, List.set_cons_zero, List.set_cons_succ]
  refine Hd.take (i := 1) (v := ?v1) rfl (by decide +kernel) (by decide +kernel) (fun _ _ _ h => h) rfl ?hy1 SA ?rest1
  case hy1 =>
    intro wq hSw
    obtain ⟨s1, s2, s3, s4⟩ := hSw
    go_simp
    try with_reducible rfl
  try simp only [Act.put, List.setIfInBounds_toArray, List.set_cons_zero, List.set_cons_succ]
  refine Hd.take (i := 2) (v := ?v2) rfl (by decide +kernel) (by decide +kernel) (fun _ _ _ h => h) rfl ?hy2 SA ?rest2
  case hy2 =>
    intro wq hSw
    obtain ⟨s1, s2, s3, s4⟩ := hSw
    go_simp
    try with_reducible rfl
  try simp only [Act.put, List.setIfInBounds_toArray, List.set_cons_zero, List.set_cons_succ]
  refine Hd.take (i := 3) (v := ?v3) rfl (by decide +kernel) (by decide +kernel) (fun _ _ _ h => h) rfl ?hy3 SA ?rest3
  case hy3 =>
    intro wq hSw
    obtain ⟨s1, s2, s3, s4⟩ := hSw
    go_simp
    try with_reducible rfl
  try simp only [Act.put, List.setIfInBounds_toArray, List.set_cons_zero, List.set_cons_succ]
  refine Hd.take (i := 4) (v := ?v4) rfl (by decide +kernel) (by decide +kernel) (fun _ _ _ h => h) rfl ?hy4 SA ?rest4
  case hy4 =>
    intro wq hSw
    obtain ⟨s1, s2, s3, s4⟩ := hSw
    go_simp
    try with_reducible rfl
  try simp only [Act.put, List.setIfInBounds_toArray, List.set_cons_zero, List.set_cons_succ]
  refine Hd.take (i := 5) (v := ?v5) rfl (by decide +kernel) (by decide +kernel) (fun _ _ _ h => h) rfl ?hy5 SA ?rest5
  case hy5 =>
    intro wq hSw
    obtain ⟨s1, s2, s3, s4⟩ := hSw
    go_simp
    try with_reducible rfl
  try simp only [Act.put, List.setIfInBounds_toArray, List.set_cons_zero, List.set_cons_succ]
  refine Hd.take (i := 6) (v := ?v6) rfl (by decide +kernel) (by decide +kernel) (fun _ _ _ h => h) rfl ?hy6 SA ?rest6
  case hy6 =>
    intro wq hSw
    obtain ⟨s1, s2, s3, s4⟩ := hSw
    go_simp
    try with_reducible rfl
  try simp only [Act.put, List.setIfInBounds_toArray, List.set_cons_zero, List.set_cons_succ]
  refine Hd.take (i := 7) (v := ?v7) rfl (by decide +kernel) (by decide +kernel) (fun _ _ _ h => h) rfl ?hy7 SA ?rest7
  case hy7 =>
    intro wq hSw
    obtain ⟨s1, s2, s3, s4⟩ := hSw
    go_simp
    try with_reducible rfl
  try simp only [Act.put, List.setIfInBounds_toArray, List.set_cons_zero, List.set_cons_succ]
  refine Hd.take (i := 8) (v := ?v8) rfl (by decide +kernel) (by decide +kernel) (fun _ _ _ h => h) rfl ?hy8 SA ?rest8
  case hy8 =>
    intro wq hSw
    obtain ⟨s1, s2, s3, s4⟩ := hSw
    go_simp
    try with_reducible rfl
  try simp only [Act.put, List.setIfInBounds_toArray, List.set_cons_zero, List.set_cons_succ]
  refine Hd.take (i := 9) (v := ?v9) rfl (by decide +kernel) (by decide +kernel) (fun _ _ _ h => h) rfl ?hy9 SA ?rest9
  case hy9 =>
    intro wq hSw
    obtain ⟨s1, s2, s3, s4⟩ := hSw
    go_simp
    try with_reducible rfl
  try simp only [Act.put, List.setIfInBounds_toArray, List.set_cons_zero, List.set_cons_succ]
  refine Hd.take (i := 10) (v := ?v10) rfl (by decide +kernel) (by decide +kernel) (fun _ _ _ h => h) rfl ?hy10 SA ?rest10
  case hy10 =>
    intro wq hSw
    obtain ⟨s1, s2, s3, s4⟩ := hSw
    go_simp
    try with_reducible rfl
  try simp only [Act.put, List.setIfInBounds_toArray, List.set_cons_zero, List.set_cons_succ]
  refine Hd.one (i := 11) rfl (by kernel_rfl) rfl (fun K hK => ?_)
  obtain ⟨s1, s2, s3, s4⟩ := SA
  go_simp
  refine hK _ _ (fun h => absurd h (by omega)) ?_
  clear hK K
  try simp only [Act.put, List.setIfInBounds_toArray, List.set_cons_zero, List.set_cons_succ]
  refine Hd.done (by kernel_rfl) ?_ _
  go_wp2_with fail
  go_end0
  have hsz : (w.setCell ⟨g, k, none⟩ (.int .i64 (m : Int))).drew.heap.size = w.heap.size := by simp
  have hot : ∀ b, b ≠ g → (w.setCell ⟨g, k, none⟩ (.int .i64 (m : Int))).drew.heap[b]? = w.heap[b]? := fun b hb => (Below.heap_setCell w ⟨g, k, none⟩ _ _ hb)
  refine ⟨rfl, X, ⟨A, m, cp, some ⟨g, 0, none⟩, ln, HK.out.same (hot q (by omega)), HP.out, hpn, (Ow2.own_set HO.out (a := ⟨g, k, none⟩) (by show g < q + 1; omega) _).keep ((Below.refl _ _).drew), HX.out, ?_, ?_, hq, by rw [hsz]; exact hXX⟩⟩
  · rw [← HM.out]
    exact lb_set HLB.out _ _ rfl
  · exact (Below.setCell HB.out (by exact hgb) _).drew

/-- one step is walked, whatever else turns -/
structure StepOk2 (s : St) : Prop where
  go : ∀ {w0 w : World} {q X : Nat} {PA : Option Addr} {pn pc : Nat} {p : List Pl} {L : List In} {lb : List Int} (h : Ms w0 w q X PA pn pc p L lb) (hp : Few p) (hL : L.length ≤ 2000),
    Calls Try.prog 55 #[.pointer (some ⟨q, 0, none⟩), .agg #[.int .i64 s.kind, .int .i64 s.d, .int .i64 s.a, .int .i64 s.b, .int .i64 s.c, .int .i64 s.to, .int .i64 s.cell, .int .u64 s.n, .int .u8 s.op]] w fun e w' => e = .returned (.tuple #[]) ∧
      ∃ X', Ms w0 w' q X' PA pn pc p (L ++ emS p s) (lbS lb s L.length)
theorem StepOk.two {s : St} (h : StepOk s) : StepOk2 s := ⟨fun hM hp hL => (h hM hp hL).mono fun e w' ⟨h1, X', h2, h3⟩ => ⟨h1, X', h2⟩⟩

set_option maxRecDepth 20000 in
set_option maxHeartbeats 3200000 in
theorem step_2t (d a b c tj ce n o : Int) (ho : o = 43 ∨ o = 45 ∨ o = 42 ∨ o = 38) : StepOk ⟨2, d, a, b, c, tj, ce, n, o⟩ := by
  intro w0 w q X PA pn pc p L lb h hp hL
  have H := Lib.hid h
  have B0 := Lib.hid (Box.new w q X #[.int .i64 2, .int .i64 d, .int .i64 a, .int .i64 b, .int .i64 c, .int .i64 tj, .int .i64 ce, .int .u64 n, .int .u8 o] 62 h.lt h.xlt)
  have HP := Lib.hid hp
  have HE : Hid (emS p ⟨2, d, a, b, c, tj, ce, n, o⟩ = rdI p a 0 ++ (rdI p b 1 ++ (opI o (tgR p d) (rdR p a 0) (rdR p b 1) ++ kpI p d))) := Lib.hid (by unfold emS; rfl)
  have HLB : Hid (lbS lb ⟨2, d, a, b, c, tj, ce, n, o⟩ L.length = lb) := Lib.hid (by simp [lbS])
  rw [HE.out, HLB.out]
  have hlt0 := h.lt
  clear h hp
  go_enter Try.func55, Try.ntmps55
  obtain ⟨W, hW⟩ : ∃ W, w.alloc (.cells #[.int .i64 2, .int .i64 d, .int .i64 a, .int .i64 b, .int .i64 c, .int .i64 tj, .int .i64 ce, .int .u64 n, .int .u8 o] 62) = W := ⟨_, rfl⟩
  have HW := Lib.hid hW
  have BW := Lib.hid (show Below w.heap.size w W by rw [← hW]; exact below_al w _)
  rw [hW] at B0
  have M0 := Lib.hid (H.out.keep BW.out)
  have F0 : Hid (Far w W q X X) := Lib.hid (Far.below BW.out)
  have b0 := (B0.out.cell 0).trans rfl
  have b1 := (B0.out.cell 1).trans rfl
  have b2 := (B0.out.cell 2).trans rfl
  have b3 := (B0.out.cell 3).trans rfl
  have b5 := (B0.out.cell 5).trans rfl
  have b7 := (B0.out.cell 7).trans rfl
  have rl := rdI_len p a 0
  have b4 := (B0.out.cell 4).trans rfl
  have b6 := (B0.out.cell 6).trans rfl
  have b8 := (B0.out.cell 8).trans rfl
  go_wp2_with fail
  try rw [hW]
  clear hW
  refine (reckon_three M0.out d a b c tj ce n o ho HP.out (by omega)).mono ?_
  rintro e w1 ⟨rfl, X1, hM1, hF1⟩
  have M1 := Lib.hid hM1
  have F1 := Lib.hid (F0.out.trans hF1)
  clear hM1 hF1
  go_wp2_with fail
  go_end0
  exact ⟨rfl, X1, M1.out, F1.out⟩

set_option maxRecDepth 20000 in
set_option maxHeartbeats 3200000 in
theorem step_2c (d a b c tj ce n o : Int) (ho : o = 61 ∨ o = 60) : StepOk ⟨2, d, a, b, c, tj, ce, n, o⟩ := by
  intro w0 w q X PA pn pc p L lb h hp hL
  have H := Lib.hid h
  have B0 := Lib.hid (Box.new w q X #[.int .i64 2, .int .i64 d, .int .i64 a, .int .i64 b, .int .i64 c, .int .i64 tj, .int .i64 ce, .int .u64 n, .int .u8 o] 62 h.lt h.xlt)
  have HP := Lib.hid hp
  have HE : Hid (emS p ⟨2, d, a, b, c, tj, ce, n, o⟩ = rdI p a 0 ++ (rdI p b 1 ++ (opI o (tgR p d) (rdR p a 0) (rdR p b 1) ++ kpI p d))) := Lib.hid (by unfold emS; rfl)
  have HLB : Hid (lbS lb ⟨2, d, a, b, c, tj, ce, n, o⟩ L.length = lb) := Lib.hid (by simp [lbS])
  rw [HE.out, HLB.out]
  have hlt0 := h.lt
  clear h hp
  go_enter Try.func55, Try.ntmps55
  obtain ⟨W, hW⟩ : ∃ W, w.alloc (.cells #[.int .i64 2, .int .i64 d, .int .i64 a, .int .i64 b, .int .i64 c, .int .i64 tj, .int .i64 ce, .int .u64 n, .int .u8 o] 62) = W := ⟨_, rfl⟩
  have HW := Lib.hid hW
  have BW := Lib.hid (show Below w.heap.size w W by rw [← hW]; exact below_al w _)
  rw [hW] at B0
  have M0 := Lib.hid (H.out.keep BW.out)
  have F0 : Hid (Far w W q X X) := Lib.hid (Far.below BW.out)
  have b0 := (B0.out.cell 0).trans rfl
  have b1 := (B0.out.cell 1).trans rfl
  have b2 := (B0.out.cell 2).trans rfl
  have b3 := (B0.out.cell 3).trans rfl
  have b5 := (B0.out.cell 5).trans rfl
  have b7 := (B0.out.cell 7).trans rfl
  have rl := rdI_len p a 0
  have b4 := (B0.out.cell 4).trans rfl
  have b6 := (B0.out.cell 6).trans rfl
  have b8 := (B0.out.cell 8).trans rfl
  go_wp2_with fail
  try rw [hW]
  clear hW
  refine (reckon_cond M0.out d a b c tj ce n o ho HP.out (by omega)).mono ?_
  rintro e w1 ⟨rfl, X1, hM1, hF1⟩
  have M1 := Lib.hid hM1
  have F1 := Lib.hid (F0.out.trans hF1)
  clear hM1 hF1
  go_wp2_with fail
  go_end0
  exact ⟨rfl, X1, M1.out, F1.out⟩

set_option maxRecDepth 20000 in
set_option maxHeartbeats 3200000 in
theorem step_5 (d a b c tj ce n o : Int) : StepOk ⟨5, d, a, b, c, tj, ce, n, o⟩ := by
  intro w0 w q X PA pn pc p L lb h hp hL
  have H := Lib.hid h
  have B0 := Lib.hid (Box.new w q X #[.int .i64 5, .int .i64 d, .int .i64 a, .int .i64 b, .int .i64 c, .int .i64 tj, .int .i64 ce, .int .u64 n, .int .u8 o] 62 h.lt h.xlt)
  have HP := Lib.hid hp
  have HE : Hid (emS p ⟨5, d, a, b, c, tj, ce, n, o⟩ = rdI p a 0 ++ (rdI p b 1 ++ (rdI p c 2 ++ (casI (tgR p d) (rdR p a 0) (rdR p b 1) (rdR p c 2) ++ kpI p d)))) := Lib.hid (by unfold emS; rfl)
  have HLB : Hid (lbS lb ⟨5, d, a, b, c, tj, ce, n, o⟩ L.length = lb) := Lib.hid (by simp [lbS])
  rw [HE.out, HLB.out]
  have hlt0 := h.lt
  clear h hp
  go_enter Try.func55, Try.ntmps55
  obtain ⟨W, hW⟩ : ∃ W, w.alloc (.cells #[.int .i64 5, .int .i64 d, .int .i64 a, .int .i64 b, .int .i64 c, .int .i64 tj, .int .i64 ce, .int .u64 n, .int .u8 o] 62) = W := ⟨_, rfl⟩
  have HW := Lib.hid hW
  have BW := Lib.hid (show Below w.heap.size w W by rw [← hW]; exact below_al w _)
  rw [hW] at B0
  have M0 := Lib.hid (H.out.keep BW.out)
  have F0 : Hid (Far w W q X X) := Lib.hid (Far.below BW.out)
  have b0 := (B0.out.cell 0).trans rfl
  have b1 := (B0.out.cell 1).trans rfl
  have b2 := (B0.out.cell 2).trans rfl
  have b3 := (B0.out.cell 3).trans rfl
  have b5 := (B0.out.cell 5).trans rfl
  have b7 := (B0.out.cell 7).trans rfl
  have rl := rdI_len p a 0
  have b4 := (B0.out.cell 4).trans rfl
  have b6 := (B0.out.cell 6).trans rfl
  have b8 := (B0.out.cell 8).trans rfl
  go_wp2_with fail
  try rw [hW]
  clear hW
  refine (swap_any M0.out 5 d a b c tj ce n o HP.out (by omega)).mono ?_
  rintro e w1 ⟨rfl, X1, hM1, hF1⟩
  have M1 := Lib.hid hM1
  have F1 := Lib.hid (F0.out.trans hF1)
  clear hM1 hF1
  go_wp2_with fail
  go_end0
  exact ⟨rfl, X1, M1.out, F1.out⟩

set_option maxRecDepth 20000 in
set_option maxHeartbeats 3200000 in
theorem step_10 (d a b c tj ce n o : Int) : StepOk ⟨10, d, a, b, c, tj, ce, n, o⟩ := by
  intro w0 w q X PA pn pc p L lb h hp hL
  have H := Lib.hid h
  have B0 := Lib.hid (Box.new w q X #[.int .i64 10, .int .i64 d, .int .i64 a, .int .i64 b, .int .i64 c, .int .i64 tj, .int .i64 ce, .int .u64 n, .int .u8 o] 62 h.lt h.xlt)
  have HP := Lib.hid hp
  have HE : Hid (emS p ⟨10, d, a, b, c, tj, ce, n, o⟩ = [⟨8, 0, 0, 1, 0, 0, tj⟩]) := Lib.hid (by unfold emS; rfl)
  have HLB : Hid (lbS lb ⟨10, d, a, b, c, tj, ce, n, o⟩ L.length = lb) := Lib.hid (by simp [lbS])
  rw [HE.out, HLB.out]
  have hlt0 := h.lt
  clear h hp
  go_enter Try.func55, Try.ntmps55
  obtain ⟨W, hW⟩ : ∃ W, w.alloc (.cells #[.int .i64 10, .int .i64 d, .int .i64 a, .int .i64 b, .int .i64 c, .int .i64 tj, .int .i64 ce, .int .u64 n, .int .u8 o] 62) = W := ⟨_, rfl⟩
  have HW := Lib.hid hW
  have BW := Lib.hid (show Below w.heap.size w W by rw [← hW]; exact below_al w _)
  rw [hW] at B0
  have M0 := Lib.hid (H.out.keep BW.out)
  have F0 : Hid (Far w W q X X) := Lib.hid (Far.below BW.out)
  have b0 := (B0.out.cell 0).trans rfl
  have b1 := (B0.out.cell 1).trans rfl
  have b2 := (B0.out.cell 2).trans rfl
  have b3 := (B0.out.cell 3).trans rfl
  have b5 := (B0.out.cell 5).trans rfl
  have b7 := (B0.out.cell 7).trans rfl
  have rl := rdI_len p a 0
  go_wp2_with fail
  try rw [hW]
  clear hW
  refine (put_any M0.out 8 0 0 1 0 0 tj (by omega)).mono ?_
  rintro e w1 ⟨rfl, X1, hM1, hF1⟩
  have M1 := Lib.hid hM1
  have F1 := Lib.hid (F0.out.trans hF1)
  clear hM1 hF1
  go_wp2_with fail
  go_end0
  exact ⟨rfl, X1, M1.out, F1.out⟩

set_option maxRecDepth 20000 in
set_option maxHeartbeats 3200000 in
theorem step_12 (d a b c tj ce n o : Int) : StepOk ⟨12, d, a, b, c, tj, ce, n, o⟩ := by
  intro w0 w q X PA pn pc p L lb h hp hL
  have H := Lib.hid h
  have B0 := Lib.hid (Box.new w q X #[.int .i64 12, .int .i64 d, .int .i64 a, .int .i64 b, .int .i64 c, .int .i64 tj, .int .i64 ce, .int .u64 n, .int .u8 o] 62 h.lt h.xlt)
  have HP := Lib.hid hp
  have HE : Hid (emS p ⟨12, d, a, b, c, tj, ce, n, o⟩ = [hltI]) := Lib.hid (by unfold emS; rfl)
  have HLB : Hid (lbS lb ⟨12, d, a, b, c, tj, ce, n, o⟩ L.length = lb) := Lib.hid (by simp [lbS])
  rw [HE.out, HLB.out]
  have hlt0 := h.lt
  clear h hp
  go_enter Try.func55, Try.ntmps55
  obtain ⟨W, hW⟩ : ∃ W, w.alloc (.cells #[.int .i64 12, .int .i64 d, .int .i64 a, .int .i64 b, .int .i64 c, .int .i64 tj, .int .i64 ce, .int .u64 n, .int .u8 o] 62) = W := ⟨_, rfl⟩
  have HW := Lib.hid hW
  have BW := Lib.hid (show Below w.heap.size w W by rw [← hW]; exact below_al w _)
  rw [hW] at B0
  have M0 := Lib.hid (H.out.keep BW.out)
  have F0 : Hid (Far w W q X X) := Lib.hid (Far.below BW.out)
  have b0 := (B0.out.cell 0).trans rfl
  have b1 := (B0.out.cell 1).trans rfl
  have b2 := (B0.out.cell 2).trans rfl
  have b3 := (B0.out.cell 3).trans rfl
  have b5 := (B0.out.cell 5).trans rfl
  have b7 := (B0.out.cell 7).trans rfl
  have rl := rdI_len p a 0
  go_wp2_with fail
  try rw [hW]
  clear hW
  refine (put_any M0.out 22 0 0 0 0 0 0 (by omega)).mono ?_
  rintro e w1 ⟨rfl, X1, hM1, hF1⟩
  have M1 := Lib.hid hM1
  have F1 := Lib.hid (F0.out.trans hF1)
  clear hM1 hF1
  go_wp2_with fail
  go_end0
  exact ⟨rfl, X1, M1.out, F1.out⟩

set_option maxRecDepth 20000 in
set_option maxHeartbeats 3200000 in
theorem step_11 (d a b c tj ce n o : Int) : StepOk ⟨11, d, a, b, c, tj, ce, n, o⟩ := by
  intro w0 w q X PA pn pc p L lb h hp hL
  have H := Lib.hid h
  have B0 := Lib.hid (Box.new w q X #[.int .i64 11, .int .i64 d, .int .i64 a, .int .i64 b, .int .i64 c, .int .i64 tj, .int .i64 ce, .int .u64 n, .int .u8 o] 62 h.lt h.xlt)
  have HP := Lib.hid hp
  have HE : Hid (emS p ⟨11, d, a, b, c, tj, ce, n, o⟩ = rdI p a 0 ++ [⟨10, 0, rdR p a 0, 1, 0, 0, tj⟩]) := Lib.hid (by unfold emS; rfl)
  have HLB : Hid (lbS lb ⟨11, d, a, b, c, tj, ce, n, o⟩ L.length = lb) := Lib.hid (by simp [lbS])
  rw [HE.out, HLB.out]
  have hlt0 := h.lt
  clear h hp
  go_enter Try.func55, Try.ntmps55
  obtain ⟨W, hW⟩ : ∃ W, w.alloc (.cells #[.int .i64 11, .int .i64 d, .int .i64 a, .int .i64 b, .int .i64 c, .int .i64 tj, .int .i64 ce, .int .u64 n, .int .u8 o] 62) = W := ⟨_, rfl⟩
  have HW := Lib.hid hW
  have BW := Lib.hid (show Below w.heap.size w W by rw [← hW]; exact below_al w _)
  rw [hW] at B0
  have M0 := Lib.hid (H.out.keep BW.out)
  have F0 : Hid (Far w W q X X) := Lib.hid (Far.below BW.out)
  have b0 := (B0.out.cell 0).trans rfl
  have b1 := (B0.out.cell 1).trans rfl
  have b2 := (B0.out.cell 2).trans rfl
  have b3 := (B0.out.cell 3).trans rfl
  have b5 := (B0.out.cell 5).trans rfl
  have b7 := (B0.out.cell 7).trans rfl
  have rl := rdI_len p a 0
  go_wp2_with fail
  try rw [hW]
  clear hW
  have hbd : Below W.heap.size W W.drew := (Below.refl _ _).drew
  refine Hd.start 8 (fun w' => w'.cell? ⟨w.heap.size, 2, none⟩ = some (.int .i64 a) ∧ w'.cell? ⟨w.heap.size, 5, none⟩ = some (.int .i64 tj)) (by kernel_rfl) ?_
  have SA : W.drew.cell? ⟨w.heap.size, 2, none⟩ = some (.int .i64 a) ∧ W.drew.cell? ⟨w.heap.size, 5, none⟩ = some (.int .i64 tj) := ⟨b2, b5⟩
  refine Hd.take (i := 0) (v := ?v0) rfl (by decide +kernel) (by decide +kernel) (fun _ _ _ h => h) rfl ?hy0 SA ?rest0
  case hy0 =>
    intro wq hSw
    obtain ⟨s1, s2⟩ := hSw
    go_simp
    try with_reducible rfl
  try simp only [Act.put, List.setIfInBounds_toArray, List.set_cons_zero, List.set_cons_succ]
  refine Hd.take (i := 1) (v := ?v1) rfl (by decide +kernel) (by decide +kernel) (fun _ _ _ h => h) rfl ?hy1 SA ?rest1
  case hy1 =>
    intro wq hSw
    obtain ⟨s1, s2⟩ := hSw
    go_simp
    try with_reducible rfl
  try simp only [Act.put, List.setIfInBounds_toArray, List.set_cons_zero, List.set_cons_succ]
  refine Hd.take (i := 2) (v := ?v2) rfl (by decide +kernel) (by decide +kernel) (fun _ _ _ h => h) rfl ?hy2 SA ?rest2
  case hy2 =>
    intro wq hSw
    obtain ⟨s1, s2⟩ := hSw
    go_simp
    try with_reducible rfl
  try simp only [Act.put, List.setIfInBounds_toArray, List.set_cons_zero, List.set_cons_succ]
  refine Hd.take (i := 3) (v := ?v3) rfl (by decide +kernel) (by decide +kernel) (fun _ _ _ h => h) rfl ?hy3 SA ?rest3
  case hy3 =>
    intro wq hSw
    obtain ⟨s1, s2⟩ := hSw
    go_simp
    try with_reducible rfl
  try simp only [Act.put, List.setIfInBounds_toArray, List.set_cons_zero, List.set_cons_succ]
  refine Hd.take (i := 5) (v := ?v4) rfl (by decide +kernel) (by decide +kernel) (fun _ _ _ h => h) rfl ?hy4 SA ?rest4
  case hy4 =>
    intro wq hSw
    obtain ⟨s1, s2⟩ := hSw
    go_simp
    try with_reducible rfl
  try simp only [Act.put, List.setIfInBounds_toArray, List.set_cons_zero, List.set_cons_succ]
  refine Hd.take (i := 6) (v := ?v5) rfl (by decide +kernel) (by decide +kernel) (fun _ _ _ h => h) rfl ?hy5 SA ?rest5
  case hy5 =>
    intro wq hSw
    obtain ⟨s1, s2⟩ := hSw
    go_simp
    try with_reducible rfl
  try simp only [Act.put, List.setIfInBounds_toArray, List.set_cons_zero, List.set_cons_succ]
  refine Hd.one (i := 4) rfl (by kernel_rfl) rfl (fun K hK => ?_)
  go_simp
  refine (read_any (M0.out.keep hbd) a 0 (by omega) (HP.out a) (by omega)).mono ?_
  rintro e w2 ⟨rfl, X2, hM2, hF2⟩
  have M2 := Lib.hid hM2
  have F2 := Lib.hid ((F0.out.trans (Far.below hbd)).trans hF2)
  have B2 := Lib.hid ((B0.out.keep hbd).far hF2)
  have SB : w2.cell? ⟨w.heap.size, 2, none⟩ = some (.int .i64 a) ∧ w2.cell? ⟨w.heap.size, 5, none⟩ = some (.int .i64 tj) := ⟨(B2.out.cell 2).trans rfl, (B2.out.cell 5).trans rfl⟩
  refine hK _ _ (fun _ => SB) ?_
  clear hK K hM2 hF2
  try simp only [Act.put, List.setIfInBounds_toArray, List.set_cons_zero, List.set_cons_succ]
  refine Hd.one (i := 7) rfl (by kernel_rfl) rfl (fun K hK => ?_)
  go_simp
  refine hK _ _ (fun _ => SB) ?_
  clear hK K
  try simp only [Act.put, List.setIfInBounds_toArray, List.set_cons_zero, List.set_cons_succ]
  refine Hd.one (i := 8) rfl (by kernel_rfl) rfl (fun K hK => ?_)
  go_simp
  have h1 : (L ++ rdI p a 0).length ≤ 2100 := by rw [List.length_append]; omega
  refine (put_any M2.out 10 0 (rdR p a 0) 1 0 0 tj (by omega)).mono ?_
  rintro e w3 ⟨rfl, X3, hM3, hF3⟩
  have M3 := Lib.hid hM3
  have F3 := Lib.hid (F2.out.trans hF3)
  refine hK _ _ (fun h => absurd h (by omega)) ?_
  clear hK K hM3 hF3
  try simp only [Act.put, List.setIfInBounds_toArray, List.set_cons_zero, List.set_cons_succ]
  refine Hd.done (by kernel_rfl) ?_ _
  clear SA SB
  go_wp2_with fail
  go_end0
  exact ⟨rfl, X3, by rw [← List.append_assoc]; exact M3.out, F3.out⟩

set_option maxRecDepth 20000 in
set_option maxHeartbeats 3200000 in
theorem step_9n (d a b c tj ce n o : Int) : ∀ {w0 w : World} {q X : Nat} {PA : Option Addr} {pn pc : Nat} {p : List Pl} {L : List In} {lb : List Int} (h : Ms w0 w q X PA pn pc p L lb) (hp : Few p) (hL : L.length ≤ 2000) (h0 : tj < 0),
    Calls Try.prog 55 #[.pointer (some ⟨q, 0, none⟩), .agg #[.int .i64 9, .int .i64 d, .int .i64 a, .int .i64 b, .int .i64 c, .int .i64 tj, .int .i64 ce, .int .u64 n, .int .u8 o]] w fun e w' => e = .returned (.tuple #[]) ∧ ∃ X', Ms w0 w' q X' PA pn pc p L lb := by
  intro w0 w q X PA pn pc p L lb h hp hL h0
  have H := Lib.hid h
  have B0 := Lib.hid (Box.new w q X #[.int .i64 9, .int .i64 d, .int .i64 a, .int .i64 b, .int .i64 c, .int .i64 tj, .int .i64 ce, .int .u64 n, .int .u8 o] 62 h.lt h.xlt)
  have HP := Lib.hid hp
  have hlt0 := h.lt
  clear h hp
  go_enter Try.func55, Try.ntmps55
  obtain ⟨W, hW⟩ : ∃ W, w.alloc (.cells #[.int .i64 9, .int .i64 d, .int .i64 a, .int .i64 b, .int .i64 c, .int .i64 tj, .int .i64 ce, .int .u64 n, .int .u8 o] 62) = W := ⟨_, rfl⟩
  have HW := Lib.hid hW
  have BW := Lib.hid (show Below w.heap.size w W by rw [← hW]; exact below_al w _)
  rw [hW] at B0
  have M0 := Lib.hid (H.out.keep BW.out)
  have F0 : Hid (Far w W q X X) := Lib.hid (Far.below BW.out)
  have b0 := (B0.out.cell 0).trans rfl
  have b1 := (B0.out.cell 1).trans rfl
  have b2 := (B0.out.cell 2).trans rfl
  have b3 := (B0.out.cell 3).trans rfl
  have b5 := (B0.out.cell 5).trans rfl
  have b7 := (B0.out.cell 7).trans rfl
  have rl := rdI_len p a 0
  go_wp2_with fail
  try rw [hW]
  clear hW
  refine (label_neg M0.out tj h0).mono ?_
  rintro e w1 ⟨rfl, X1, hM1⟩
  have M1 := Lib.hid hM1
  clear hM1
  go_wp2_with fail
  go_end0
  exact ⟨rfl, X1, M1.out⟩

set_option maxRecDepth 20000 in
set_option maxHeartbeats 3200000 in
theorem step_9o (d a b c tj ce n o : Int) : ∀ {w0 w : World} {q X : Nat} {PA : Option Addr} {pn pc : Nat} {p : List Pl} {L : List In} {lb : List Int} (h : Ms w0 w q X PA pn pc p L lb) (hp : Few p) (hL : L.length ≤ 2000) (h0 : 0 ≤ tj) (h1 : (lb.length : Int) ≤ tj),
    Calls Try.prog 55 #[.pointer (some ⟨q, 0, none⟩), .agg #[.int .i64 9, .int .i64 d, .int .i64 a, .int .i64 b, .int .i64 c, .int .i64 tj, .int .i64 ce, .int .u64 n, .int .u8 o]] w fun e w' => e = .returned (.tuple #[]) ∧ ∃ X', Ms w0 w' q X' PA pn pc p L lb := by
  intro w0 w q X PA pn pc p L lb h hp hL h0 h1
  have H := Lib.hid h
  have B0 := Lib.hid (Box.new w q X #[.int .i64 9, .int .i64 d, .int .i64 a, .int .i64 b, .int .i64 c, .int .i64 tj, .int .i64 ce, .int .u64 n, .int .u8 o] 62 h.lt h.xlt)
  have HP := Lib.hid hp
  have hlt0 := h.lt
  clear h hp
  go_enter Try.func55, Try.ntmps55
  obtain ⟨W, hW⟩ : ∃ W, w.alloc (.cells #[.int .i64 9, .int .i64 d, .int .i64 a, .int .i64 b, .int .i64 c, .int .i64 tj, .int .i64 ce, .int .u64 n, .int .u8 o] 62) = W := ⟨_, rfl⟩
  have HW := Lib.hid hW
  have BW := Lib.hid (show Below w.heap.size w W by rw [← hW]; exact below_al w _)
  rw [hW] at B0
  have M0 := Lib.hid (H.out.keep BW.out)
  have F0 : Hid (Far w W q X X) := Lib.hid (Far.below BW.out)
  have b0 := (B0.out.cell 0).trans rfl
  have b1 := (B0.out.cell 1).trans rfl
  have b2 := (B0.out.cell 2).trans rfl
  have b3 := (B0.out.cell 3).trans rfl
  have b5 := (B0.out.cell 5).trans rfl
  have b7 := (B0.out.cell 7).trans rfl
  have rl := rdI_len p a 0
  go_wp2_with fail
  try rw [hW]
  clear hW
  refine (label_out M0.out tj h0 h1).mono ?_
  rintro e w1 ⟨rfl, X1, hM1⟩
  have M1 := Lib.hid hM1
  clear hM1
  go_wp2_with fail
  go_end0
  exact ⟨rfl, X1, M1.out⟩

set_option maxRecDepth 20000 in
set_option maxHeartbeats 3200000 in
theorem step_9h (d a b c tj ce n o : Int) : ∀ {w0 w : World} {q X : Nat} {PA : Option Addr} {pn pc : Nat} {p : List Pl} {L : List In} {lb : List Int} (h : Ms w0 w q X PA pn pc p L lb) (hp : Few p) (hL : L.length ≤ 2000) (k : Nat) (h0 : tj = (k : Nat)) (h1 : k < lb.length) (h2 : 0 ≤ lb.getD k 0),
    Calls Try.prog 55 #[.pointer (some ⟨q, 0, none⟩), .agg #[.int .i64 9, .int .i64 d, .int .i64 a, .int .i64 b, .int .i64 c, .int .i64 tj, .int .i64 ce, .int .u64 n, .int .u8 o]] w fun e w' => e = .returned (.tuple #[]) ∧ ∃ X', Ms w0 w' q X' PA pn pc p L lb := by
  intro w0 w q X PA pn pc p L lb h hp hL k h0 h1 h2
  subst h0
  have H := Lib.hid h
  have B0 := Lib.hid (Box.new w q X #[.int .i64 9, .int .i64 d, .int .i64 a, .int .i64 b, .int .i64 c, .int .i64 (k : Int), .int .i64 ce, .int .u64 n, .int .u8 o] 62 h.lt h.xlt)
  have HP := Lib.hid hp
  have hlt0 := h.lt
  clear h hp
  go_enter Try.func55, Try.ntmps55
  obtain ⟨W, hW⟩ : ∃ W, w.alloc (.cells #[.int .i64 9, .int .i64 d, .int .i64 a, .int .i64 b, .int .i64 c, .int .i64 (k : Int), .int .i64 ce, .int .u64 n, .int .u8 o] 62) = W := ⟨_, rfl⟩
  have HW := Lib.hid hW
  have BW := Lib.hid (show Below w.heap.size w W by rw [← hW]; exact below_al w _)
  rw [hW] at B0
  have M0 := Lib.hid (H.out.keep BW.out)
  have F0 : Hid (Far w W q X X) := Lib.hid (Far.below BW.out)
  have b0 := (B0.out.cell 0).trans rfl
  have b1 := (B0.out.cell 1).trans rfl
  have b2 := (B0.out.cell 2).trans rfl
  have b3 := (B0.out.cell 3).trans rfl
  have b5 := (B0.out.cell 5).trans rfl
  have b7 := (B0.out.cell 7).trans rfl
  have rl := rdI_len p a 0
  go_wp2_with fail
  try rw [hW]
  clear hW
  refine (label_has M0.out k k rfl h1 h2).mono ?_
  rintro e w1 ⟨rfl, X1, hM1⟩
  have M1 := Lib.hid hM1
  clear hM1
  go_wp2_with fail
  go_end0
  exact ⟨rfl, X1, M1.out⟩

set_option maxRecDepth 20000 in
set_option maxHeartbeats 3200000 in
theorem step_9s (d a b c tj ce n o : Int) : ∀ {w0 w : World} {q X : Nat} {PA : Option Addr} {pn pc : Nat} {p : List Pl} {L : List In} {lb : List Int} (h : Ms w0 w q X PA pn pc p L lb) (hp : Few p) (hL : L.length ≤ 2000) (k : Nat) (h0 : tj = (k : Nat)) (h1 : k < lb.length) (h2 : lb.getD k 0 < 0),
    Calls Try.prog 55 #[.pointer (some ⟨q, 0, none⟩), .agg #[.int .i64 9, .int .i64 d, .int .i64 a, .int .i64 b, .int .i64 c, .int .i64 tj, .int .i64 ce, .int .u64 n, .int .u8 o]] w fun e w' => e = .returned (.tuple #[]) ∧ ∃ X', Ms w0 w' q X' PA pn pc p L (lb.set k L.length) := by
  intro w0 w q X PA pn pc p L lb h hp hL k h0 h1 h2
  subst h0
  have H := Lib.hid h
  have B0 := Lib.hid (Box.new w q X #[.int .i64 9, .int .i64 d, .int .i64 a, .int .i64 b, .int .i64 c, .int .i64 (k : Int), .int .i64 ce, .int .u64 n, .int .u8 o] 62 h.lt h.xlt)
  have HP := Lib.hid hp
  have hlt0 := h.lt
  clear h hp
  go_enter Try.func55, Try.ntmps55
  obtain ⟨W, hW⟩ : ∃ W, w.alloc (.cells #[.int .i64 9, .int .i64 d, .int .i64 a, .int .i64 b, .int .i64 c, .int .i64 (k : Int), .int .i64 ce, .int .u64 n, .int .u8 o] 62) = W := ⟨_, rfl⟩
  have HW := Lib.hid hW
  have BW := Lib.hid (show Below w.heap.size w W by rw [← hW]; exact below_al w _)
  rw [hW] at B0
  have M0 := Lib.hid (H.out.keep BW.out)
  have F0 : Hid (Far w W q X X) := Lib.hid (Far.below BW.out)
  have b0 := (B0.out.cell 0).trans rfl
  have b1 := (B0.out.cell 1).trans rfl
  have b2 := (B0.out.cell 2).trans rfl
  have b3 := (B0.out.cell 3).trans rfl
  have b5 := (B0.out.cell 5).trans rfl
  have b7 := (B0.out.cell 7).trans rfl
  have rl := rdI_len p a 0
  go_wp2_with fail
  try rw [hW]
  clear hW
  refine (label_set M0.out k k rfl h1 h2 (by omega)).mono ?_
  rintro e w1 ⟨rfl, X1, hM1⟩
  have M1 := Lib.hid hM1
  clear hM1
  go_wp2_with fail
  go_end0
  exact ⟨rfl, X1, M1.out⟩

theorem step_9 (d a b c tj ce n o : Int) : StepOk2 ⟨9, d, a, b, c, tj, ce, n, o⟩ := by
  refine ⟨fun {w0 w q X PA pn pc p L lb} h hp hL => ?_⟩
  have HE : emS p ⟨9, d, a, b, c, tj, ce, n, o⟩ = [] := by unfold emS; rfl
  rw [HE, List.append_nil]
  by_cases h0 : tj < 0
  · have e : lbS lb ⟨9, d, a, b, c, tj, ce, n, o⟩ L.length = lb := by unfold lbS; rw [if_neg (by simp only; omega)]
    rw [e]
    exact step_9n d a b c tj ce n o h hp hL h0
  by_cases h1 : (lb.length : Int) ≤ tj
  · have e : lbS lb ⟨9, d, a, b, c, tj, ce, n, o⟩ L.length = lb := by unfold lbS; rw [if_neg (by simp only; omega)]
    rw [e]
    exact step_9o d a b c tj ce n o h hp hL (by omega) h1
  obtain ⟨k, rfl⟩ := Int.eq_ofNat_of_zero_le (show 0 ≤ tj by omega)
  by_cases h2 : lb.getD k 0 < 0
  · have e : lbS lb ⟨9, d, a, b, c, (k : Int), ce, n, o⟩ L.length = lb.set k L.length := by unfold lbS; rw [if_pos ⟨rfl, by simp only; omega, by simp only; omega, by simpa using h2⟩]; rfl
    rw [e]
    exact step_9s d a b c k ce n o h hp hL k rfl (by omega) h2
  · have e : lbS lb ⟨9, d, a, b, c, (k : Int), ce, n, o⟩ L.length = lb := by unfold lbS; rw [if_neg (by simp only [Int.toNat_natCast]; exact fun hh => h2 hh.2.2.2)]
    rw [e]
    exact step_9h d a b c k ce n o h hp hL k rfl (by omega) (by omega)
end
end Go.Proofs.Ytkohichiojmakaa.EmT
