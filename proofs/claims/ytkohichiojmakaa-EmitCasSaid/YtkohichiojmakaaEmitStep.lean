/-
  WALKS: package emit: step.
-/
import Derived.Test.YtkohichiojmakaaEmitSwap
import Derived.Test.YtkohichiojmakaaGHeld
import Derived.Test.YtkohichiojmakaaGEm
namespace Go.Proofs.Ytkohichiojmakaa.EmT
set_option linter.unusedVariables false
set_option linter.unusedSimpArgs false
open Go.RowKit Cm Mm Ow A64 A64W Stp Alu Em InW EmW EmP EmR EmS

section
variable {w0 w : World} {q X : Nat} {PA : Option Addr} {pn pc : Nat} {p : List Pl} {L : List In} {lb : List Int}
/-- one step is walked -/
def StepOk (s : St) : Prop := ∀ {w0 w : World} {q X : Nat} {PA : Option Addr} {pn pc : Nat} {p : List Pl} {L : List In} {lb : List Int} (h : Ms w0 w q X PA pn pc p L lb) (hp : Few p) (hL : L.length ≤ 2000),
    Calls Try.prog 55 #[.pointer (some ⟨q, 0, none⟩), .agg #[.int .i64 s.kind, .int .i64 s.d, .int .i64 s.a, .int .i64 s.b, .int .i64 s.c, .int .i64 s.to, .int .i64 s.cell, .int .u64 s.n, .int .u8 s.op]] w fun e w' => e = .returned (.tuple #[]) ∧
      PutL w0 w q X PA pn pc p (L ++ emS p s) (lbS lb s L.length) w'

set_option maxHeartbeats 3200000 in
theorem step_0 (d a b c tj ce n o : Int) (v : BitVec 64) (hv : (v.toNat : Int) = n) : StepOk ⟨0, d, a, b, c, tj, ce, n, o⟩ := by
  subst hv
  intro w0 w q X PA pn pc p L lb h hp hL
  have H := Lib.hid h
  have B0 := Lib.hid (Box.new w q X #[.int .i64 0, .int .i64 d, .int .i64 a, .int .i64 b, .int .i64 c, .int .i64 tj, .int .i64 ce, .int .u64 (v.toNat : Int), .int .u8 o] 62 h.lt h.xlt)
  have HP := Lib.hid hp
  have HE : Hid (emS p ⟨0, d, a, b, c, tj, ce, (v.toNat : Int), o⟩ = constI (tgR p d) (BitVec.ofInt 64 (v.toNat : Int)) ++ kpI p d) := Lib.hid (by unfold emS; rfl)
  have HLB : Hid (lbS lb ⟨0, d, a, b, c, tj, ce, (v.toNat : Int), o⟩ L.length = lb) := Lib.hid (by simp [lbS])
  rw [HE.out, HLB.out]
  have hlt0 := h.lt
  clear h hp
  go_enter Try.func55, Try.ntmps55
  obtain ⟨W, hW⟩ : ∃ W, w.alloc (.cells #[.int .i64 0, .int .i64 d, .int .i64 a, .int .i64 b, .int .i64 c, .int .i64 tj, .int .i64 ce, .int .u64 (v.toNat : Int), .int .u8 o] 62) = W := ⟨_, rfl⟩
  have HW := Lib.hid hW
  have BW := Lib.hid (show Below w.heap.size w W by rw [← hW]; exact below_al w _)
  rw [hW] at B0
  have M0 := Lib.hid (H.out.keep BW.out)
  have F0 : Hid (Far w W q X X) := Lib.hid (Far.below BW.out)
  have b0 := (B0.out.cell 0).trans rfl
  have b1 := (B0.out.cell 1).trans rfl
  have b2 := (B0.out.cell 2).trans rfl
  have b3 := (B0.out.cell 3).trans rfl
  have b5 := (B0.out.cell 5).trans rfl
  have b7 := (B0.out.cell 7).trans rfl
  have rl := rdI_len p a 0
  rw [ofInt64]
  go_wp2_with fail
  try rw [hW]
  clear hW
  have hbd : Below W.heap.size W W.drew := (Below.refl _ _).drew
  refine Hd.start 7 (fun w' => w'.cell? ⟨w.heap.size, 1, none⟩ = some (.int .i64 d) ∧ w'.cell? ⟨w.heap.size, 7, none⟩ = some (.int .u64 (v.toNat : Int))) (by kernel_rfl) ?_
  have SA : W.drew.cell? ⟨w.heap.size, 1, none⟩ = some (.int .i64 d) ∧ W.drew.cell? ⟨w.heap.size, 7, none⟩ = some (.int .u64 (v.toNat : Int)) := ⟨b1, b7⟩
  refine Hd.take (i := 0) (v := ?v0) rfl (by decide +kernel) (by decide +kernel) (fun _ _ _ h => h) rfl ?hy0 SA ?rest0
  case hy0 =>
    intro wq hSw
    obtain ⟨s1, s2⟩ := hSw
    go_simp
    try with_reducible rfl
  try simp only [Act.put, List.setIfInBounds_toArray, List.set_cons_zero, List.set_cons_succ]
  refine Hd.take (i := 1) (v := ?v1) rfl (by decide +kernel) (by decide +kernel) (fun _ _ _ h => h) rfl ?hy1 SA ?rest1
  case hy1 =>
    intro wq hSw
    obtain ⟨s1, s2⟩ := hSw
    go_simp
    try with_reducible rfl
  try simp only [Act.put, List.setIfInBounds_toArray, List.set_cons_zero, List.set_cons_succ]
  refine Hd.take (i := 2) (v := ?v2) rfl (by decide +kernel) (by decide +kernel) (fun _ _ _ h => h) rfl ?hy2 SA ?rest2
  case hy2 =>
    intro wq hSw
    obtain ⟨s1, s2⟩ := hSw
    go_simp
    try with_reducible rfl
  try simp only [Act.put, List.setIfInBounds_toArray, List.set_cons_zero, List.set_cons_succ]
  refine Hd.take (i := 3) (v := ?v3) rfl (by decide +kernel) (by decide +kernel) (fun _ _ _ h => h) rfl ?hy3 SA ?rest3
  case hy3 =>
    intro wq hSw
    obtain ⟨s1, s2⟩ := hSw
    go_simp
    try with_reducible rfl
  try simp only [Act.put, List.setIfInBounds_toArray, List.set_cons_zero, List.set_cons_succ]
  refine Hd.take (i := 5) (v := ?v4) rfl (by decide +kernel) (by decide +kernel) (fun _ _ _ h => h) rfl ?hy4 SA ?rest4
  case hy4 =>
    intro wq hSw
    obtain ⟨s1, s2⟩ := hSw
    go_simp
    try with_reducible rfl
  try simp only [Act.put, List.setIfInBounds_toArray, List.set_cons_zero, List.set_cons_succ]
  refine Hd.take (i := 6) (v := ?v5) rfl (by decide +kernel) (by decide +kernel) (fun _ _ _ h => h) rfl ?hy5 SA ?rest5
  case hy5 =>
    intro wq hSw
    obtain ⟨s1, s2⟩ := hSw
    go_simp
    try with_reducible rfl
  try simp only [Act.put, List.setIfInBounds_toArray, List.set_cons_zero, List.set_cons_succ]
  refine Hd.one (i := 4) rfl (by kernel_rfl) rfl (fun K hK => ?_)
  go_simp
  refine (target_any (M0.out.keep hbd) d (HP.out d)).mono ?_
  rintro e w2 ⟨rfl, hb2⟩
  have hb2' := hbd.trans hb2
  have M2 := Lib.hid (M0.out.keep hb2')
  have F2 := Lib.hid (F0.out.trans (Far.below hb2'))
  have B2 := Lib.hid (B0.out.keep hb2')
  have SB : w2.cell? ⟨w.heap.size, 1, none⟩ = some (.int .i64 d) ∧ w2.cell? ⟨w.heap.size, 7, none⟩ = some (.int .u64 (v.toNat : Int)) := ⟨(B2.out.cell 1).trans rfl, (B2.out.cell 7).trans rfl⟩
  refine hK _ _ (fun _ => SB) ?_
  clear hK K hb2 hb2'
  try simp only [Act.put, List.setIfInBounds_toArray, List.set_cons_zero, List.set_cons_succ]
  refine Hd.one (i := 7) rfl (by kernel_rfl) rfl (fun K hK => ?_)
  go_simp
  refine (constant_any M2.out (tgR p d) v (by omega)).mono ?_
  rintro e w3 ⟨rfl, X3, hM3, hF3⟩
  have M3 := Lib.hid hM3
  have F3 := Lib.hid (F2.out.trans hF3)
  have B3 := Lib.hid (B2.out.far hF3)
  refine hK _ _ (fun h => absurd h (by omega)) ?_
  clear hK K hM3 hF3
  try simp only [Act.put, List.setIfInBounds_toArray, List.set_cons_zero, List.set_cons_succ]
  refine Hd.done (by kernel_rfl) ?_ _
  have y1 := (B3.out.cell 1).trans rfl
  have hlen : Hid ((L ++ constI (tgR p d) v).length ≤ 3900) := Lib.hid (by rw [← cI_all, List.length_append]; have := cI_len (tgR p d) v 3; omega)
  clear SA SB b0 b1 b2 b3 b5 b7
  go_wp2_with fail
  refine (keep_any M3.out d hlen.out).mono ?_
  rintro e w4 ⟨rfl, X4, hM4, hF4⟩
  have M4 := Lib.hid hM4
  have F4 := Lib.hid (F3.out.trans hF4)
  clear hM4 hF4
  go_wp2_with fail
  go_end0
  exact ⟨rfl, X4, by rw [← List.append_assoc]; exact M4.out, F4.out⟩

set_option maxHeartbeats 3200000 in
theorem step_8 (d a b c tj ce n o : Int) : StepOk ⟨8, d, a, b, c, tj, ce, n, o⟩ := by
  intro w0 w q X PA pn pc p L lb h hp hL
  have H := Lib.hid h
  have B0 := Lib.hid (Box.new w q X #[.int .i64 8, .int .i64 d, .int .i64 a, .int .i64 b, .int .i64 c, .int .i64 tj, .int .i64 ce, .int .u64 n, .int .u8 o] 62 h.lt h.xlt)
  have HP := Lib.hid hp
  have HE : Hid (emS p ⟨8, d, a, b, c, tj, ce, n, o⟩ = rdI p a 0 ++ outI (rdR p a 0)) := Lib.hid (by unfold emS; rfl)
  have HLB : Hid (lbS lb ⟨8, d, a, b, c, tj, ce, n, o⟩ L.length = lb) := Lib.hid (by simp [lbS])
  rw [HE.out, HLB.out]
  have hlt0 := h.lt
  clear h hp
  go_enter Try.func55, Try.ntmps55
  obtain ⟨W, hW⟩ : ∃ W, w.alloc (.cells #[.int .i64 8, .int .i64 d, .int .i64 a, .int .i64 b, .int .i64 c, .int .i64 tj, .int .i64 ce, .int .u64 n, .int .u8 o] 62) = W := ⟨_, rfl⟩
  have HW := Lib.hid hW
  have BW := Lib.hid (show Below w.heap.size w W by rw [← hW]; exact below_al w _)
  rw [hW] at B0
  have M0 := Lib.hid (H.out.keep BW.out)
  have F0 : Hid (Far w W q X X) := Lib.hid (Far.below BW.out)
  have b0 := (B0.out.cell 0).trans rfl
  have b1 := (B0.out.cell 1).trans rfl
  have b2 := (B0.out.cell 2).trans rfl
  have b3 := (B0.out.cell 3).trans rfl
  have b5 := (B0.out.cell 5).trans rfl
  have b7 := (B0.out.cell 7).trans rfl
  have rl := rdI_len p a 0
  go_wp2_with fail
  try rw [hW]
  clear hW
  refine (read_any M0.out a 0 (by omega) (HP.out a) (by omega)).mono ?_
  rintro e w1 ⟨rfl, X1, hM1, hF1⟩
  have M1 := Lib.hid hM1
  have F1 := Lib.hid (F0.out.trans hF1)
  have h1 : Hid ((L ++ rdI p a 0).length ≤ 2100) := Lib.hid (by rw [List.length_append]; omega)
  clear hM1 hF1 b0 b1 b2 b3 b5 b7
  go_wp2_with fail
  refine (put_any M1.out 2 0 (rdR p a 0) 31 0 0 0 (by have := h1.out; omega)).mono ?_
  rintro e w2 ⟨rfl, X2, hM2, hF2⟩
  have M2 := Lib.hid hM2
  have F2 := Lib.hid (F1.out.trans hF2)
  have h2 : Hid ((L ++ rdI p a 0 ++ ([⟨2, 0, rdR p a 0, 31, 0, 0, 0⟩] : List In)).length ≤ 2200) := Lib.hid (by rw [List.length_append]; have := h1.out; simp; omega)
  clear hM2 hF2
  go_wp2_with fail
  refine (put_any M2.out 23 0 0 0 0 0 0 (by have := h2.out; omega)).mono ?_
  rintro e w3 ⟨rfl, X3, hM3, hF3⟩
  have M3 := Lib.hid hM3
  have F3 := Lib.hid (F2.out.trans hF3)
  clear hM3 hF3
  go_wp2_with fail
  go_end0
  exact ⟨rfl, X3, by have := M3.out; simpa [outI] using this, F3.out⟩

end
end Go.Proofs.Ytkohichiojmakaa.EmT
