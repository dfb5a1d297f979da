/-
  WALKS: what is put out, word by word.
-/
import Derived.Test.YtkohichiojmakaaEmitConsts
namespace Go.Proofs.Ytkohichiojmakaa.EmL
set_option linter.unusedVariables false
set_option linter.unusedSimpArgs false
open Go.RowKit Cm Mm Ow Me Rm Fld A64 A64W A64P Stp Alu AluG Em EmM EmW EmP EmR EmS EmT EmN EmC EmX Pat InW
def uvL (x : BitVec 64) : List Value := [.int .u64 (x.toNat : Int)]
abbrev u64T : TypeId := 58
theorem elU64 : El Try.prog 86 u64T 1 8 := by
  obtain ⟨i, h1, h2, h3, h4⟩ := info_parts (P := Try.prog) (e := 58) (z := .int .u64 0) (size := 1) (bytes := 8) (by kernel_rfl)
  exact ⟨Try.underlying86, ⟨i, _, h1, h2, h3, h4, rfl⟩, by decide⟩
theorem uv_each (x : BitVec 64) : ∀ y ∈ [uvL x], y.length = 1 := fun y hy => by simp at hy; subst hy; rfl
theorem uv_ones (x : BitVec 64) : ∀ y ∈ [uvL x], ∀ u ∈ y, u.oneCell' = true := fun y hy u hu => by simp at hy; subst hy; simp [uvL] at hu; subst hu; rfl
theorem outs_app (a b : List Ev) : outs (a ++ b) = outs a ++ outs b := by simp [outs]
theorem outs_le (e : List Ev) : (outs e).length ≤ e.length := by
  unfold outs
  rw [List.length_map]
  exact List.length_filter_le _ _
theorem outs_nil : outs [] = [] := rfl
theorem outs_yes (a : Int) (v : BitVec 64) : outs [⟨4, a, v⟩] = [v] := rfl
theorem outs_no {k a : Int} {v : BitVec 64} (h : ¬ k = 4) : outs [⟨k, a, v⟩] = [] := by simp [outs, h]
section
variable {wC wr w' : World} {base q mq : Nat} {F : List Nat} {s : Cr} {e : TypeId} {sz : Nat} {E : Option Addr} {n c : Nat} {L : List (List Value)}
theorem Lr.app2 (h : Lr wC base q mq F s e sz E n c L wr) {E2 : Option Addr} {n2 c2 : Nat} {L2 : List (List Value)} (ho : Own w' base e sz E2 n2 c2 L2) (hb : Below base wr w') (hk : ∀ b, b < wr.heap.size → E.map (·.block) ≠ some b → w'.heap[b]? = wr.heap[b]?) : Lr wC base q mq F s e sz E2 n2 c2 L2 w' := by
  have hO : Only (E.map (·.block)).toList wr w' := ⟨hb.os, hb.tape, hb.output, hb.size, fun k hk2 hn => hk k hk2 (fun e => hn (by rw [e]; simp))⟩
  have hE : ∀ g ∈ (E.map (·.block)).toList, base ≤ g := fun g hg => (h.out.lt g (by simpa using hg)).1
  refine ⟨h.co.only hO (fun hq => by have := hE q hq; have := h.lq.2; omega) (fun k hk hx => by have := hE k hx; have := (h.lF k hk).2; omega), ho, h.bl.trans (hO.below (fun x hx => by have := hE x hx; have := h.lq; omega) h.bl.size), Nat.le_trans h.sz hO.size, h.lq, h.lF⟩
end
end Go.Proofs.Ytkohichiojmakaa.EmL
