/-
  WALK: the law A64Known.
-/
import Derived.Test.YtfbfoooligbcfaaA64Laws
namespace Go.Proofs.Ytfbfoooligbcfaa.A64K
set_option linter.unusedVariables false
set_option linter.unusedSimpArgs false
open Go.RowKit Go.WideShapes Go.ChangeShapes Cm Mm Ow A64 Fld FldW A64W A64P A64C A64T A64R A64E A64D A64H A64Q A64G A64L

def known : List In := [⟨0, 3, 0, 0, 1, 0, 4660⟩, ⟨1, 3, 0, 0, 3, 0, 1⟩, ⟨2, 1, 2, 3, 0, 0, 0⟩, ⟨3, 1, 2, 3, 0, 0, 0⟩, ⟨4, 1, 2, 3, 0, 0, 0⟩, ⟨5, 1, 2, 3, 0, 0, 0⟩, ⟨6, 0, 2, 3, 0, 0, 0⟩, ⟨7, 1, 0, 0, 0, 0, 0⟩, ⟨7, 1, 0, 0, 0, 11, 0⟩, ⟨8, 0, 0, 0, 0, 0, (-1)⟩, ⟨9, 0, 0, 0, 0, 1, 2⟩, ⟨10, 0, 4, 0, 0, 0, 3⟩, ⟨11, 0, 4, 0, 0, 0, (-2)⟩, ⟨12, 1, 28, 0, 0, 0, 2⟩, ⟨13, 1, 28, 0, 0, 0, 2⟩, ⟨14, 1, 2, 0, 0, 0, 0⟩, ⟨15, 1, 2, 0, 0, 0, 0⟩, ⟨16, 1, 2, 0, 0, 0, 0⟩, ⟨17, 1, 2, 0, 3, 0, 0⟩, ⟨20, 0, 5, 0, 0, 0, 0⟩, ⟨22, 0, 0, 0, 0, 0, 0⟩, ⟨23, 0, 0, 0, 0, 0, 0⟩, ⟨18, 0, 0, 0, 0, 0, 0⟩, ⟨19, 0, 0, 0, 0, 0, 0⟩]
def wants : List (BitVec 32) := [3533850243#32, 4074766371#32, 2332229697#32, 3405971521#32, 2600696897#32, 2315452481#32, 3942842463#32, 2594117601#32, 2594154465#32, 402653183#32, 1409286209#32, 3019898980#32, 3053453252#32, 4181724033#32, 4177529729#32, 3370122305#32, 3365928001#32, 3361700929#32, 3355671617#32, 3574299685#32, 3560964096#32, 3556769793#32, 3573758911#32, 3573758879#32]
theorem known_enc : ∀ k : Nat, k < 24 → encode (known.getD k zeroIn) = (wants.getD k 0, 0) := by decide +kernel
theorem known_ok : ∀ k : Nat, k < 24 → okIn (known.getD k zeroIn) := by unfold okIn i64b; decide +kernel
def knownCells : Array Value := (known.map insL).flatten.toArray
def wantCells : Array Value := (wants.map fun x => Value.int .u32 (x.toNat : Int)).toArray
theorem ins_info : (Try.prog.info? 23).map (fun i => (i.zero, i.size)) = some (some (.agg #[.int .i64 0, .int .i64 0, .int .i64 0, .int .i64 0, .int .i64 0, .int .i64 0, .int .i64 0]), 7) := by kernel_rfl
theorem u32_info : (Try.prog.info? 26).map (fun i => (i.zero, i.size)) = some (some (.int .u32 0), 1) := by kernel_rfl
theorem run_known (w : World) : (Instr.buildSlice 38 24 #[(0, .agg #[.int .i64 0, .int .i64 3, .int .i64 0, .int .i64 0, .int .i64 1, .int .i64 0, .int .i64 4660]), (1, .agg #[.int .i64 1, .int .i64 3, .int .i64 0, .int .i64 0, .int .i64 3, .int .i64 0, .int .i64 1]), (2, .agg #[.int .i64 2, .int .i64 1, .int .i64 2, .int .i64 3, .int .i64 0, .int .i64 0, .int .i64 0]), (3, .agg #[.int .i64 3, .int .i64 1, .int .i64 2, .int .i64 3, .int .i64 0, .int .i64 0, .int .i64 0]), (4, .agg #[.int .i64 4, .int .i64 1, .int .i64 2, .int .i64 3, .int .i64 0, .int .i64 0, .int .i64 0]), (5, .agg #[.int .i64 5, .int .i64 1, .int .i64 2, .int .i64 3, .int .i64 0, .int .i64 0, .int .i64 0]), (6, .agg #[.int .i64 6, .int .i64 0, .int .i64 2, .int .i64 3, .int .i64 0, .int .i64 0, .int .i64 0]), (7, .agg #[.int .i64 7, .int .i64 1, .int .i64 0, .int .i64 0, .int .i64 0, .int .i64 0, .int .i64 0]), (8, .agg #[.int .i64 7, .int .i64 1, .int .i64 0, .int .i64 0, .int .i64 0, .int .i64 11, .int .i64 0]), (9, .agg #[.int .i64 8, .int .i64 0, .int .i64 0, .int .i64 0, .int .i64 0, .int .i64 0, .int .i64 (-1)]), (10, .agg #[.int .i64 9, .int .i64 0, .int .i64 0, .int .i64 0, .int .i64 0, .int .i64 1, .int .i64 2]), (11, .agg #[.int .i64 10, .int .i64 0, .int .i64 4, .int .i64 0, .int .i64 0, .int .i64 0, .int .i64 3]), (12, .agg #[.int .i64 11, .int .i64 0, .int .i64 4, .int .i64 0, .int .i64 0, .int .i64 0, .int .i64 (-2)]), (13, .agg #[.int .i64 12, .int .i64 1, .int .i64 28, .int .i64 0, .int .i64 0, .int .i64 0, .int .i64 2]), (14, .agg #[.int .i64 13, .int .i64 1, .int .i64 28, .int .i64 0, .int .i64 0, .int .i64 0, .int .i64 2]), (15, .agg #[.int .i64 14, .int .i64 1, .int .i64 2, .int .i64 0, .int .i64 0, .int .i64 0, .int .i64 0]), (16, .agg #[.int .i64 15, .int .i64 1, .int .i64 2, .int .i64 0, .int .i64 0, .int .i64 0, .int .i64 0]), (17, .agg #[.int .i64 16, .int .i64 1, .int .i64 2, .int .i64 0, .int .i64 0, .int .i64 0, .int .i64 0]), (18, .agg #[.int .i64 17, .int .i64 1, .int .i64 2, .int .i64 0, .int .i64 3, .int .i64 0, .int .i64 0]), (19, .agg #[.int .i64 20, .int .i64 0, .int .i64 5, .int .i64 0, .int .i64 0, .int .i64 0, .int .i64 0]), (20, .agg #[.int .i64 22, .int .i64 0, .int .i64 0, .int .i64 0, .int .i64 0, .int .i64 0, .int .i64 0]), (21, .agg #[.int .i64 23, .int .i64 0, .int .i64 0, .int .i64 0, .int .i64 0, .int .i64 0, .int .i64 0]), (22, .agg #[.int .i64 18, .int .i64 0, .int .i64 0, .int .i64 0, .int .i64 0, .int .i64 0, .int .i64 0]), (23, .agg #[.int .i64 19, .int .i64 0, .int .i64 0, .int .i64 0, .int .i64 0, .int .i64 0, .int .i64 0])]).run Try.prog w = .ok (.slice (some ⟨w.heap.size, 0, none⟩) 24 24) (w.alloc (.cells knownCells 23)) := by
  cases hi : Try.prog.info? 23 with
  | none => have := ins_info; rw [hi] at this; cases this
  | some i =>
    have h := ins_info
    rw [hi] at h
    simp only [Option.map_some, Option.some.injEq, Prod.mk.injEq] at h
    exact run_buildSlice w _ _ 24 _ knownCells i _ Try.underlying38 hi h.1 (by rw [h.2]; decide) (by rw [h.2]; decide) (by rw [h.2]; kernel_rfl)
theorem run_wants (w : World) : (Instr.buildSlice 39 24 #[(0, .int .u32 3533850243), (1, .int .u32 4074766371), (2, .int .u32 2332229697), (3, .int .u32 3405971521), (4, .int .u32 2600696897), (5, .int .u32 2315452481), (6, .int .u32 3942842463), (7, .int .u32 2594117601), (8, .int .u32 2594154465), (9, .int .u32 402653183), (10, .int .u32 1409286209), (11, .int .u32 3019898980), (12, .int .u32 3053453252), (13, .int .u32 4181724033), (14, .int .u32 4177529729), (15, .int .u32 3370122305), (16, .int .u32 3365928001), (17, .int .u32 3361700929), (18, .int .u32 3355671617), (19, .int .u32 3574299685), (20, .int .u32 3560964096), (21, .int .u32 3556769793), (22, .int .u32 3573758911), (23, .int .u32 3573758879)]).run Try.prog w = .ok (.slice (some ⟨w.heap.size, 0, none⟩) 24 24) (w.alloc (.cells wantCells 26)) := by
  cases hi : Try.prog.info? 26 with
  | none => have := u32_info; rw [hi] at this; cases this
  | some i =>
    have h := u32_info
    rw [hi] at h
    simp only [Option.map_some, Option.some.injEq, Prod.mk.injEq] at h
    exact run_buildSlice w _ _ 24 _ wantCells i _ Try.underlying39 hi h.1 (by rw [h.2]; decide) (by rw [h.2]; decide) (by rw [h.2]; kernel_rfl)
theorem known_cells (k j : Nat) (hk : k < 24) (hj : j < 7) : knownCells[k * 7 + j]? = (insL (known.getD k zeroIn))[j]? := by
  have hl : known.length = 24 := by decide
  have h := flat_get (L := known.map insL) (sz := 7) (fun x hx => by obtain ⟨f, _, rfl⟩ := List.mem_map.1 hx; rfl) k j (by simp [hl, hk]) hj
  have e : (known.map insL).getD k [] = insL (known.getD k zeroIn) := by simp [List.getD, List.getElem?_map, hl, hk]
  rw [e] at h
  unfold knownCells
  rw [List.getElem?_toArray]
  exact h
theorem want_cell (k : Nat) (hk : k < 24) : wantCells[k]? = some (.int .u32 ((wants.getD k 0).toNat : Int)) := by
  have hl : wants.length = 24 := by decide
  unfold wantCells
  rw [List.getElem?_toArray]
  simp [List.getD, List.getElem?_map, hl, hk]

section
attribute [-go_sem] Instr.buildSlice
set_option maxRecDepth 20000 in
set_option maxHeartbeats 6400000 in
theorem walkKnown (which : Int) (w : World) (w0 : (Lit.int .i64 which).wf = true) :
    Calls Try.prog 5 #[.int .i64 which] w fun e w' => e = .returned (.bool true) ∧ Below w.heap.size w w' := by
  clear w0
  have RK := Lib.hid run_known
  have RW := Lib.hid run_wants
  by_cases hb : 0 ≤ which ∧ which < 24
  · obtain ⟨k, rfl⟩ := Int.eq_ofNat_of_zero_le hb.1
    have hk : k < 24 := by omega
    have hE := known_enc k hk
    have hO := known_ok k hk
    have hcs := fun j hj => known_cells k j hk hj
    have hwc := want_cell k hk
    generalize known.getD k zeroIn = i at *
    generalize wants.getD k 0 = ew at *
    have EN := fun w => encode_any i w hO
    rw [hE] at EN
    have EN := Lib.hid EN
    have hcs := Lib.hid hcs
    have hwc := Lib.hid hwc
    have i1 : (k : Int) < 24 := by omega
    clear hE hO hb
    go_enter Try.func5, Try.ntmps5
    go_wp2_with fail
    refine (alive_any _).mono ?_
    rintro e w2 ⟨rfl, hb2⟩
    have rk := RK.out
    have rw' := RW.out
    have q : ∀ j, j < 7 → ((w2.alloc (.cells knownCells 23)).alloc (.cells wantCells 26)).cell? ⟨w2.heap.size, k * 7 + j, none⟩ = (insL i)[j]? := fun j hj => by
      rw [← hcs.out j hj, (below_al _ _).cell (p := ⟨w2.heap.size, k * 7 + j, none⟩) (by simp)]
      simp [World.cell?_alloc_new]
    have q0 : ((w2.alloc (.cells knownCells 23)).alloc (.cells wantCells 26)).cell? ⟨w2.heap.size, k * 7, none⟩ = some (.int .i64 i.kind) := q 0 (by omega)
    have q1 : ((w2.alloc (.cells knownCells 23)).alloc (.cells wantCells 26)).cell? ⟨w2.heap.size, k * 7 + 1, none⟩ = some (.int .i64 i.d) := q 1 (by omega)
    have q2 : ((w2.alloc (.cells knownCells 23)).alloc (.cells wantCells 26)).cell? ⟨w2.heap.size, k * 7 + 2, none⟩ = some (.int .i64 i.a) := q 2 (by omega)
    have q3 : ((w2.alloc (.cells knownCells 23)).alloc (.cells wantCells 26)).cell? ⟨w2.heap.size, k * 7 + 3, none⟩ = some (.int .i64 i.b) := q 3 (by omega)
    have q4 : ((w2.alloc (.cells knownCells 23)).alloc (.cells wantCells 26)).cell? ⟨w2.heap.size, k * 7 + 4, none⟩ = some (.int .i64 i.s) := q 4 (by omega)
    have q5 : ((w2.alloc (.cells knownCells 23)).alloc (.cells wantCells 26)).cell? ⟨w2.heap.size, k * 7 + 5, none⟩ = some (.int .i64 i.c) := q 5 (by omega)
    have q6 : ((w2.alloc (.cells knownCells 23)).alloc (.cells wantCells 26)).cell? ⟨w2.heap.size, k * 7 + 6, none⟩ = some (.int .i64 i.n) := q 6 (by omega)
    have Q : ((w2.alloc (.cells knownCells 23)).alloc (.cells wantCells 26)).cell? ⟨w2.heap.size + 1, k, none⟩ = some (.int .u32 (ew.toNat : Int)) := by
      rw [← hwc.out]
      have e : w2.heap.size + 1 = (w2.alloc (.cells knownCells 23)).heap.size := by simp
      rw [e]
      simp [World.cell?_alloc_new]
    have QH := Lib.hid Q
    have QB := Lib.hid (((below_al w2 (.cells knownCells 23)).alloc (by simp) (.cells wantCells 26)))
    clear q Q
    go_wp2_with fail
    refine (EN.out _).mono ?_
    rintro e w4 ⟨rfl, hb4⟩
    have Q4 := (hb4.cell (p := ⟨w2.heap.size + 1, k, none⟩) (by simp)).trans QH.out
    have hB := Lib.hid (hb2.trans ((QB.out.trans (hb4.mono QB.out.size)).mono hb2.size))
    clear q0 q1 q2 q3 q4 q5 q6 rk rw'
    go_wp2_with (go_at_call 19; refine (num_any _ _).mono ?_; rintro e w' ⟨rfl, rfl⟩)
    go_ret
    exact ⟨rfl, hB.out⟩
  · obtain h | ⟨h, h'⟩ : which < 0 ∨ (0 ≤ which ∧ 24 ≤ which) := by omega
    all_goals
      clear hb
      go_enter Try.func5, Try.ntmps5
      go_wp2_with fail
      refine (alive_any _).mono ?_
      rintro e w2 ⟨rfl, hb2⟩
      have rk := RK.out
      have rw' := RW.out
      go_wp2_with fail
      go_ret
      exact ⟨rfl, hb2.trans (((below_al w2 (.cells knownCells 23)).alloc (by simp) (.cells wantCells 26)).mono hb2.size)⟩
end
end Go.Proofs.Ytfbfoooligbcfaa.A64K
