/-
  WALKS: cofferdamref1's NewCore.
-/
import Derived.Test.YtkohichiojmakaaEmitEvent
namespace Go.Proofs.Ytkohichiojmakaa.EmX
set_option linter.unusedVariables false
set_option linter.unusedSimpArgs false
open Go.RowKit Cm Mm Ow Me Rm A64 Alu AluG Em EmM EmW
theorem bornA_eq (p : Nat) (now : List (BitVec 64)) (ver : List Int) : ((((Try.zeroCells79.setIfInBounds 0 (.pointer (some ⟨p, 0, none⟩))).setIfInBounds 1 (.int .i64 0)).setIfInBounds 35 (.int .i64 0)).setIfInBounds 39 (.int .i64 (-1))).setIfInBounds 30 (.int .u64 1048576) = (coL p (born now ver)).toArray := by kernel_rfl
theorem born_co {w : World} {cs : Array Value} {p : Nat} {F : List Nat} (now : List (BitVec 64)) (ver kept : List Int) (hM : Mem w 129 p F now.length (nowI (born now ver)) kept ver) (hcs : cs = (coL p (born now ver)).toArray) :
    Co (w.alloc (.cells cs coTy)) w.heap.size p F (born now ver) ∧ ∀ w0, Below w0.heap.size w0 w → Below w0.heap.size w0 (w.alloc (.cells cs coTy)) := by
  have hl := hM.lt
  have hnF : w.heap.size ∉ F := fun h => by have := hl _ h; omega
  refine ⟨⟨?_, (born_inv now ver).ok, List.length_replicate, ⟨kept, ?_⟩, hnF⟩, fun w0 h => h.trans ((below_al w _).mono h.size)⟩
  · rw [← hcs]
    exact heap_alloc_new w _
  · exact hM.keep (below_al w _)
set_option maxRecDepth 100000 in
set_option maxHeartbeats 3200000 in
theorem newcore_nil (w : World) :
    Calls Try.prog 32 #[.pointer none, .int .i64 0, .int .i64 0] w fun e w' => ∃ q mq F, e = .returned (.pointer (some ⟨q, 0, none⟩)) ∧ Co w' q mq F (born [] []) ∧ w.heap.size ≤ q ∧ (∀ k ∈ F, w.heap.size ≤ k) ∧ Below w.heap.size w w' := by
  have NM := rnew_any 0 w (fun w => by have := FldR.rcut_any 0 0 64 w (by omega); rwa [words_int] at this)
  go_enter Try.func32, Try.ntmps32
  go_wp2_with fail
  refine NM.mono ?_
  rintro e w2 ⟨p, F, rfl, hM, hF, hB⟩
  have HM := Lib.hid hM
  have HF := Lib.hid hF
  have HB := Lib.hid hB
  clear hM hF hB NM
  go_wp2_with fail
  have hc := born_co (w := w2) (p := p) (F := F) [] [] [] HM.out (bornA_eq p _ _)
  obtain ⟨hc1, hc2⟩ := hc
  have hc3 := hc2 w HB.out
  clear hc2
  go_ret
  exact ⟨_, p, F, rfl, hc1, HB.out.size, HF.out, hc3⟩
set_option maxRecDepth 100000 in
set_option maxHeartbeats 3200000 in
theorem newcore_some (w : World) (p : Nat) (F : List Nat) (now : List (BitVec 64)) (ver kept : List Int) (hM : Mem w 129 p F now.length (nowI (born now ver)) kept ver) :
    Calls Try.prog 32 #[.pointer (some ⟨p, 0, none⟩), .int .i64 0, .int .i64 0] w fun e w' => ∃ q, e = .returned (.pointer (some ⟨q, 0, none⟩)) ∧ Co w' q p F (born now ver) ∧ w.heap.size ≤ q ∧ Below w.heap.size w w' := by
  have HM := Lib.hid hM
  clear hM
  go_enter Try.func32, Try.ntmps32
  go_wp2_with fail
  obtain ⟨hc1, hc2⟩ := born_co (w := w) (p := p) (F := F) now ver kept HM.out (bornA_eq p _ _)
  have hc3 := hc2 w (Below.refl _ _)
  clear hc2
  go_ret
  exact ⟨_, rfl, hc1, Nat.le_refl _, hc3⟩
end Go.Proofs.Ytkohichiojmakaa.EmX
