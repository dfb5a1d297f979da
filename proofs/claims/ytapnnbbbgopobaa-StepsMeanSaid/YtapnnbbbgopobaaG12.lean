/-
  A statement laid into a slice.
-/
import Derived.Test.YtapnnbbbgopobaaRdG
import Derived.Great.BuildSlice
import Derived.Test.YtapnnbbbgopobaaG05
set_option linter.unusedVariables false
set_option linter.unusedSimpArgs false
namespace Go.Proofs.Ytapnnbbbgopobaa.Rr
open Go.RowKit Cm Mm Ow Me Ml Lg Lx
theorem elSt : El Try.prog 27 122 21 288 := by
  obtain ⟨i, h1, h2, h3, h4⟩ := info_parts (P := Try.prog) (e := 122) (z := .agg #[.int .i64 0, .int .i64 0, .string ⟨#[]⟩, .string ⟨#[]⟩, .int .i64 0, .int .u64 0, .int .u8 0, .string ⟨#[]⟩, .slice none 0 0, .int .i64 0, .int .u64 0, .int .u8 0, .string ⟨#[]⟩, .slice none 0 0, .int .i64 0, .int .u64 0, .int .u8 0, .string ⟨#[]⟩, .slice none 0 0, .slice none 0 0, .slice none 0 0]) (size := 21) (bytes := 288) (by kernel_rfl)
  exact ⟨Try.underlying27, ⟨i, _, h1, h2, h3, h4, rfl⟩, by decide⟩
theorem fill21 (v0 v1 v2 v3 v4 v5 v6 v7 v8 v9 v10 v11 v12 v13 v14 v15 v16 v17 v18 v19 v20 : Value) : Instr.fill (fun i => some (i * 21, 21)) ((Array.range (1 * 21)).map ((Value.agg #[.int .i64 0, .int .i64 0, .string ⟨#[]⟩, .string ⟨#[]⟩, .int .i64 0, .int .u64 0, .int .u8 0, .string ⟨#[]⟩, .slice none 0 0, .int .i64 0, .int .u64 0, .int .u8 0, .string ⟨#[]⟩, .slice none 0 0, .int .i64 0, .int .u64 0, .int .u8 0, .string ⟨#[]⟩, .slice none 0 0, .slice none 0 0, .slice none 0 0]).cells[· % (Value.agg #[.int .i64 0, .int .i64 0, .string ⟨#[]⟩, .string ⟨#[]⟩, .int .i64 0, .int .u64 0, .int .u8 0, .string ⟨#[]⟩, .slice none 0 0, .int .i64 0, .int .u64 0, .int .u8 0, .string ⟨#[]⟩, .slice none 0 0, .int .i64 0, .int .u64 0, .int .u8 0, .string ⟨#[]⟩, .slice none 0 0, .slice none 0 0, .slice none 0 0]).cells.size]!)) [(0, .agg #[v0, v1, v2, v3, v4, v5, v6, v7, v8, v9, v10, v11, v12, v13, v14, v15, v16, v17, v18, v19, v20])] = some #[v0, v1, v2, v3, v4, v5, v6, v7, v8, v9, v10, v11, v12, v13, v14, v15, v16, v17, v18, v19, v20] := by kernel_rfl
theorem wpList_bsSt {ops : Array Oper} {rest : List Oper} {o : Oper} {a : Act} {w : World} {Q : Exit → Act → World → Prop} (hg : o.guard = none) (x : Operand) (ho : o.op = .buildSlice 27 1 #[(0, x)]) (v0 v1 v2 v3 v4 v5 v6 v7 v8 v9 v10 v11 v12 v13 v14 v15 v16 v17 v18 v19 v20 : Value) (hx : a.eval x = .agg #[v0, v1, v2, v3, v4, v5, v6, v7, v8, v9, v10, v11, v12, v13, v14, v15, v16, v17, v18, v19, v20])
    (h : wpList Try.prog ops Q rest (a.put o.dst (.slice (some ⟨w.heap.size, 0, none⟩) 1 1)) (w.alloc (.cells #[v0, v1, v2, v3, v4, v5, v6, v7, v8, v9, v10, v11, v12, v13, v14, v15, v16, v17, v18, v19, v20] 122))) : wpList Try.prog ops Q (o :: rest) a w := by
  obtain ⟨i, h1, h2, h3, h4⟩ := info_parts (P := Try.prog) (e := 122) (z := .agg #[.int .i64 0, .int .i64 0, .string ⟨#[]⟩, .string ⟨#[]⟩, .int .i64 0, .int .u64 0, .int .u8 0, .string ⟨#[]⟩, .slice none 0 0, .int .i64 0, .int .u64 0, .int .u8 0, .string ⟨#[]⟩, .slice none 0 0, .int .i64 0, .int .u64 0, .int .u8 0, .string ⟨#[]⟩, .slice none 0 0, .slice none 0 0, .slice none 0 0]) (size := 21) (bytes := 288) (by kernel_rfl)
  refine wpList_buildSlice hg _ 122 1 _ ho #[v0, v1, v2, v3, v4, v5, v6, v7, v8, v9, v10, v11, v12, v13, v14, v15, v16, v17, v18, v19, v20] i _ Try.underlying27 h1 h2 (by rw [h3]; decide) (by rw [h3]; decide) ?_ h
  rw [h3]
  have hp : ((#[(0, x)] : Array (Nat × Operand)).map fun (i, x) => (i, a.eval x)).toList = [(0, .agg #[v0, v1, v2, v3, v4, v5, v6, v7, v8, v9, v10, v11, v12, v13, v14, v15, v16, v17, v18, v19, v20])] := by simp [hx]
  rw [hp]
  exact fill21 v0 v1 v2 v3 v4 v5 v6 v7 v8 v9 v10 v11 v12 v13 v14 v15 v16 v17 v18 v19 v20
end Go.Proofs.Ytapnnbbbgopobaa.Rr
namespace Go.Proofs.Ytapnnbbbgopobaa.Rr
open Go.RowKit Cm Mm Ow Me Ml Lg Lx
theorem exP_mono {P P' : Nat → Prop} {w : World} (hP : ∀ b, P b → b < w.heap.size → P' b) : ∀ {x : Ex} {vs : List Value}, exP P w x vs → exP P' w x vs
  | .num n, vs, h => h
  | .name s, vs, h => h
  | .op o a b, vs, h => by
    unfold exP at h ⊢
    obtain ⟨blk, va, vb, h0, h1, h2, h3, h4, h5, h6⟩ := h
    exact ⟨blk, va, vb, h0, hP blk h1 h2, h2, h3, h4, exP_mono hP h5, exP_mono hP h6⟩
def bdP (P : Nat → Prop) (w : World) : Bd → Nat → Nat → Prop
  | .nil, _, _ => True
  | .cons h body els rest, blk, off => (∃ vi vx vy BA bn bc EA en ec, (∀ j, j < 21 → w.cell? ⟨blk, off + j, none⟩ = (stVs h vi vx vy BA bn bc EA en ec)[j]?) ∧ exP P w h.i vi ∧ exP P w h.x vx ∧ exP P w h.y vy ∧ h.name.size ≤ maxLen ∧ h.cell.size ≤ maxLen ∧
      (blen body = bn ∧ bn ≤ bc ∧ bc ≤ maxLen ∧ (0 < bn → ∃ b' o', BA = some ⟨b', o', none⟩ ∧ P b' ∧ b' < w.heap.size ∧ bdP P w body b' o')) ∧ (blen els = en ∧ en ≤ ec ∧ ec ≤ maxLen ∧ (0 < en → ∃ b' o', EA = some ⟨b', o', none⟩ ∧ P b' ∧ b' < w.heap.size ∧ bdP P w els b' o'))) ∧ bdP P w rest blk (off + 21)
def IsBdP (P : Nat → Prop) (w : World) (b : Bd) (A : Option Addr) (n cap : Nat) : Prop := blen b = n ∧ n ≤ cap ∧ cap ≤ maxLen ∧ (0 < n → ∃ b' o', A = some ⟨b', o', none⟩ ∧ P b' ∧ b' < w.heap.size ∧ bdP P w b b' o')
def StP (P : Nat → Prop) (w : World) (h : Hd) (body els : Bd) (vs : List Value) : Prop := ∃ vi vx vy BA bn bc EA en ec, vs = stVs h vi vx vy BA bn bc EA en ec ∧ exP P w h.i vi ∧ exP P w h.x vx ∧ exP P w h.y vy ∧ h.name.size ≤ maxLen ∧ h.cell.size ≤ maxLen ∧ IsBdP P w body BA bn bc ∧ IsBdP P w els EA en ec
theorem bdP_only {G : List Nat} {P : Nat → Prop} {w w' : World} (ho : Only G w w') (hG : ∀ g ∈ G, ¬ P g) : ∀ (b : Bd) (blk off : Nat), P blk → blk < w.heap.size → bdP P w b blk off → bdP P w' b blk off
  | .nil, _, _,_, _, _ => trivial
  | .cons h body els rest, blk, off, hB, hlt, hh => by
    unfold bdP at hh
    unfold bdP
    obtain ⟨⟨vi, vx, vy, BA, bn, bc, EA, en, ec, h1, h2, h3, h4, h5, h6, h7, h8⟩, hr⟩ := hh
    refine ⟨⟨vi, vx, vy, BA, bn, bc, EA, en, ec, fun j hj => (only_cell ho hlt (fun hx => hG _ hx hB) _).trans (h1 j hj), exP_only ho hG h2, exP_only ho hG h3, exP_only ho hG h4, h5, h6, ?_, ?_⟩, bdP_only ho hG rest blk (off + 21) hB hlt hr⟩
    · refine ⟨h7.1, h7.2.1, h7.2.2.1, fun h0 => ?_⟩
      obtain ⟨b', o', e, e2, e3, e4⟩ := h7.2.2.2 h0
      exact ⟨b', o', e, e2, Nat.lt_of_lt_of_le e3 ho.size, bdP_only ho hG body b' o' e2 e3 e4⟩
    · refine ⟨h8.1, h8.2.1, h8.2.2.1, fun h0 => ?_⟩
      obtain ⟨b', o', e, e2, e3, e4⟩ := h8.2.2.2 h0
      exact ⟨b', o', e, e2, Nat.lt_of_lt_of_le e3 ho.size, bdP_only ho hG els b' o' e2 e3 e4⟩
theorem isP_only {G : List Nat} {P : Nat → Prop} {w w' : World} (ho : Only G w w') (hG : ∀ g ∈ G, ¬ P g) {b : Bd} {A : Option Addr} {n cap : Nat} (h : IsBdP P w b A n cap) : IsBdP P w' b A n cap :=
  ⟨h.1, h.2.1, h.2.2.1, fun h0 => by
    obtain ⟨b', o', e, e2, e3, e4⟩ := h.2.2.2 h0
    exact ⟨b', o', e, e2, Nat.lt_of_lt_of_le e3 ho.size, bdP_only ho hG b b' o' e2 e3 e4⟩⟩
theorem stP_only {G : List Nat} {P : Nat → Prop} {w w' : World} (ho : Only G w w') (hG : ∀ g ∈ G, ¬ P g) {h : Hd} {body els : Bd} {vs : List Value} (hs : StP P w h body els vs) : StP P w' h body els vs := by
  obtain ⟨vi, vx, vy, BA, bn, bc, EA, en, ec, h1, h2, h3, h4, h5, h6, h7, h8⟩ := hs
  exact ⟨vi, vx, vy, BA, bn, bc, EA, en, ec, h1, exP_only ho hG h2, exP_only ho hG h3, exP_only ho hG h4, h5, h6, isP_only ho hG h7, isP_only ho hG h8⟩
theorem bdP_mono {P P' : Nat → Prop} {w : World} (hP : ∀ b, P b → b < w.heap.size → P' b) : ∀ (b : Bd) (blk off : Nat), bdP P w b blk off → bdP P' w b blk off
  | .nil, _, _, _ => trivial
  | .cons h body els rest, blk, off, hh => by
    unfold bdP at hh
    unfold bdP
    obtain ⟨⟨vi, vx, vy, BA, bn, bc, EA, en, ec, h1, h2, h3, h4, h5, h6, h7, h8⟩, hr⟩ := hh
    refine ⟨⟨vi, vx, vy, BA, bn, bc, EA, en, ec, h1, exP_mono hP h2, exP_mono hP h3, exP_mono hP h4, h5, h6, ?_, ?_⟩, bdP_mono hP rest blk (off + 21) hr⟩
    · refine ⟨h7.1, h7.2.1, h7.2.2.1, fun h0 => ?_⟩
      obtain ⟨b', o', e, e2, e3, e4⟩ := h7.2.2.2 h0
      exact ⟨b', o', e, hP b' e2 e3, e3, bdP_mono hP body b' o' e4⟩
    · refine ⟨h8.1, h8.2.1, h8.2.2.1, fun h0 => ?_⟩
      obtain ⟨b', o', e, e2, e3, e4⟩ := h8.2.2.2 h0
      exact ⟨b', o', e, hP b' e2 e3, e3, bdP_mono hP els b' o' e4⟩
theorem isP_mono {P P' : Nat → Prop} {w : World} (hP : ∀ b, P b → b < w.heap.size → P' b) {b : Bd} {A : Option Addr} {n cap : Nat} (h : IsBdP P w b A n cap) : IsBdP P' w b A n cap :=
  ⟨h.1, h.2.1, h.2.2.1, fun h0 => by
    obtain ⟨b', o', e, e2, e3, e4⟩ := h.2.2.2 h0
    exact ⟨b', o', e, hP b' e2 e3, e3, bdP_mono hP b b' o' e4⟩⟩
theorem stP_mono {P P' : Nat → Prop} {w : World} (hP : ∀ b, P b → b < w.heap.size → P' b) {h : Hd} {body els : Bd} {vs : List Value} (hs : StP P w h body els vs) : StP P' w h body els vs := by
  obtain ⟨vi, vx, vy, BA, bn, bc, EA, en, ec, h1, h2, h3, h4, h5, h6, h7, h8⟩ := hs
  exact ⟨vi, vx, vy, BA, bn, bc, EA, en, ec, h1, exP_mono hP h2, exP_mono hP h3, exP_mono hP h4, h5, h6, isP_mono hP h7, isP_mono hP h8⟩
theorem bdP_of {B : Nat} {P : Nat → Prop} {w : World} (hP : ∀ b, B ≤ b → b < w.heap.size → P b) : ∀ (b : Bd) (blk off : Nat), bdAt B w b blk off → bdP P w b blk off
  | .nil, _, _, _ => trivial
  | .cons h body els rest, blk, off, hh => by
    unfold bdAt at hh
    unfold bdP
    obtain ⟨⟨vi, vx, vy, BA, bn, bc, EA, en, ec, h1, h2, h3, h4, h5, h6, h7, h8⟩, hr⟩ := hh
    refine ⟨⟨vi, vx, vy, BA, bn, bc, EA, en, ec, h1, exP_of hP h2, exP_of hP h3, exP_of hP h4, h5, h6, ?_, ?_⟩, bdP_of hP rest blk (off + 21) hr⟩
    · refine ⟨h7.1, h7.2.1, h7.2.2.1, fun h0 => ?_⟩
      obtain ⟨b', o', e, e2, e3, e4⟩ := h7.2.2.2 h0
      exact ⟨b', o', e, hP b' e2 e3, e3, bdP_of hP body b' o' e4⟩
    · refine ⟨h8.1, h8.2.1, h8.2.2.1, fun h0 => ?_⟩
      obtain ⟨b', o', e, e2, e3, e4⟩ := h8.2.2.2 h0
      exact ⟨b', o', e, hP b' e2 e3, e3, bdP_of hP els b' o' e4⟩
theorem isP_of {B : Nat} {P : Nat → Prop} {w : World} (hP : ∀ b, B ≤ b → b < w.heap.size → P b) {b : Bd} {A : Option Addr} {n cap : Nat} (h : IsBd B w b A n cap) : IsBdP P w b A n cap :=
  ⟨h.1, h.2.1, h.2.2.1, fun h0 => by
    obtain ⟨b', o', e, e2, e3, e4⟩ := h.2.2.2 h0
    exact ⟨b', o', e, hP b' e2 e3, e3, bdP_of hP b b' o' e4⟩⟩
theorem stP_of {B : Nat} {P : Nat → Prop} {w : World} (hP : ∀ b, B ≤ b → b < w.heap.size → P b) {h : Hd} {body els : Bd} {vs : List Value} (hs : StV B w h body els vs) : StP P w h body els vs := by
  obtain ⟨vi, vx, vy, BA, bn, bc, EA, en, ec, h1, h2, h3, h4, h5, h6, h7, h8⟩ := hs
  exact ⟨vi, vx, vy, BA, bn, bc, EA, en, ec, h1, exP_of hP h2, exP_of hP h3, exP_of hP h4, h5, h6, isP_of hP h7, isP_of hP h8⟩
theorem bdV_of {B : Nat} {P : Nat → Prop} {w : World} (hP : ∀ b, P b → B ≤ b) : ∀ (b : Bd) (blk off : Nat), bdP P w b blk off → bdAt B w b blk off
  | .nil, _, _, _ => trivial
  | .cons h body els rest, blk, off, hh => by
    unfold bdP at hh
    unfold bdAt
    obtain ⟨⟨vi, vx, vy, BA, bn, bc, EA, en, ec, h1, h2, h3, h4, h5, h6, h7, h8⟩, hr⟩ := hh
    refine ⟨⟨vi, vx, vy, BA, bn, bc, EA, en, ec, h1, exV_of hP h2, exV_of hP h3, exV_of hP h4, h5, h6, ?_, ?_⟩, bdV_of hP rest blk (off + 21) hr⟩
    · refine ⟨h7.1, h7.2.1, h7.2.2.1, fun h0 => ?_⟩
      obtain ⟨b', o', e, e2, e3, e4⟩ := h7.2.2.2 h0
      exact ⟨b', o', e, hP b' e2, e3, bdV_of hP body b' o' e4⟩
    · refine ⟨h8.1, h8.2.1, h8.2.2.1, fun h0 => ?_⟩
      obtain ⟨b', o', e, e2, e3, e4⟩ := h8.2.2.2 h0
      exact ⟨b', o', e, hP b' e2, e3, bdV_of hP els b' o' e4⟩
theorem isV_of {B : Nat} {P : Nat → Prop} {w : World} (hP : ∀ b, P b → B ≤ b) {b : Bd} {A : Option Addr} {n cap : Nat} (h : IsBdP P w b A n cap) : IsBd B w b A n cap :=
  ⟨h.1, h.2.1, h.2.2.1, fun h0 => by
    obtain ⟨b', o', e, e2, e3, e4⟩ := h.2.2.2 h0
    exact ⟨b', o', e, hP b' e2, e3, bdV_of hP b b' o' e4⟩⟩
theorem stV_of {B : Nat} {P : Nat → Prop} {w : World} (hP : ∀ b, P b → B ≤ b) {h : Hd} {body els : Bd} {vs : List Value} (hs : StP P w h body els vs) : StV B w h body els vs := by
  obtain ⟨vi, vx, vy, BA, bn, bc, EA, en, ec, h1, h2, h3, h4, h5, h6, h7, h8⟩ := hs
  exact ⟨vi, vx, vy, BA, bn, bc, EA, en, ec, h1, exV_of hP h2, exV_of hP h3, exV_of hP h4, h5, h6, isV_of hP h7, isV_of hP h8⟩
def RowsP (P : Nat → Prop) (w : World) (L : List (List Value)) (ts : List (Hd × Bd × Bd)) : Prop := ts.length = L.length ∧ ∀ i, i < L.length → StP P w (ts.getD i zeroT).1 (ts.getD i zeroT).2.1 (ts.getD i zeroT).2.2 (L.getD i [])
theorem RowsP.nil (P : Nat → Prop) (w : World) : RowsP P w [] [] := ⟨rfl, fun i hi => absurd hi (by simp)⟩
theorem RowsP.only {G : List Nat} {P : Nat → Prop} {w w' : World} {L : List (List Value)} {ts : List (Hd × Bd × Bd)} (h : RowsP P w L ts) (ho : Only G w w') (hG : ∀ g ∈ G, ¬ P g) : RowsP P w' L ts := ⟨h.1, fun i hi => stP_only ho hG (h.2 i hi)⟩
theorem RowsP.mono {P P' : Nat → Prop} {w : World} {L : List (List Value)} {ts : List (Hd × Bd × Bd)} (h : RowsP P w L ts) (hP : ∀ b, P b → b < w.heap.size → P' b) : RowsP P' w L ts := ⟨h.1, fun i hi => stP_mono hP (h.2 i hi)⟩
theorem RowsP.ok {B : Nat} {P : Nat → Prop} {w : World} {L : List (List Value)} {ts : List (Hd × Bd × Bd)} (h : RowsP P w L ts) (hP : ∀ b, P b → B ≤ b) : RowsOk B w L ts := ⟨h.1, fun i hi => stV_of hP (h.2 i hi)⟩
theorem RowsP.snoc {P : Nat → Prop} {w : World} {L : List (List Value)} {ts : List (Hd × Bd × Bd)} (h : RowsP P w L ts) {t : Hd × Bd × Bd} {r : List Value} (hs : StP P w t.1 t.2.1 t.2.2 r) : RowsP P w (L ++ [r]) (ts ++ [t]) := by
  refine ⟨by simp [h.1], fun i hi => ?_⟩
  by_cases h1 : i < L.length
  · have h2 : i < ts.length := by rw [h.1]; exact h1
    have := h.2 i h1
    simpa [List.getD, List.getElem?_append_left h1, List.getElem?_append_left h2] using this
  · have h3 : i = L.length := by simp at hi; omega
    subst h3
    have h4 : ts.length ≤ L.length := by rw [h.1]; exact Nat.le_refl _
    simp only [List.getD, List.getElem?_append_right (Nat.le_refl L.length), List.getElem?_append_right h4]
    simpa [h.1] using hs
end Go.Proofs.Ytapnnbbbgopobaa.Rr
namespace Go.Proofs.Ytapnnbbbgopobaa.Fr
open Go.RowKit Cm Mm Ow Me Ml Lg Rr
def Lo (B : Nat) (b : Nat) : Prop := b < B
theorem Nm.apart {w : World} {B : Nat} {A : Option Addr} {n c : Nat} {l : List ByteArray} (h : Nm w B A n c l) : ∀ g ∈ (A.map (·.block)).toList, ¬ Lo B g := fun g hg hh => by have := (h.lt g (Fr.mem_blk.1 hg)).1; unfold Lo at hh; omega
theorem exP_len {P : Nat → Prop} {w : World} : ∀ {x : Ex} {vs : List Value}, exP P w x vs → vs.length = 5
  | .num n, vs, h => by unfold exP at h; rw [h.1]; rfl
  | .name s, vs, h => by unfold exP at h; rw [h.1]; rfl
  | .op o a b, vs, h => by unfold exP at h; obtain ⟨blk, va, vb, h, _⟩ := h; rw [h]; rfl
def stN (l : List ByteArray) (a b : Ex) (k : Nat) : List ByteArray := if k = 0 then l else if k = 1 then exN l a else exN (exN l a) b
set_option maxRecDepth 20000 in
set_option maxHeartbeats 3200000 in
theorem ex_any : ∀ (x : Ex) {B : Nat} {w : World} {A : Option Addr} {n c : Nat} {l : List ByteArray} {vs : List Value}, exP (Lo B) w x vs → Nm w B A n c l → n + lv x ≤ 4000000 → B ≤ w.heap.size →
    Calls Try.prog 85 #[.slice A n c, .agg vs.toArray] w (NmA w B A (exN l x))
  | .num z, B, w, A, n, c, l, vs, h, hN, hn, hB => by
    unfold exP at h
    obtain ⟨rfl, _⟩ := h
    exact ex_num z hN
  | .name s, B, w, A, n, c, l, vs, h, hN, hn, hB => by
    unfold exP at h
    obtain ⟨rfl, _⟩ := h
    exact ex_name s hN (by unfold lv at hn; omega) hB
  | .op o a b, B, w, A, n, c, l, vs, h, hN, hn, hB => by
    unfold exP at h
    obtain ⟨blk, va, vb, rfl, h1, h2, h3, h4, h5, h6⟩ := h
    have IA := Lib.hid (fun (w : World) (A : Option Addr) (n c : Nat) (l : List ByteArray) (h : exP (Lo B) w a va) => ex_any a (A := A) (n := n) (c := c) (l := l) h)
    have IB := Lib.hid (fun (w : World) (A : Option Addr) (n c : Nat) (l : List ByteArray) (h : exP (Lo B) w b vb) => ex_any b (A := A) (n := n) (c := c) (l := l) h)
    have hb := below_new w (.cells #[.int .i64 2, .int .u64 0, .int .u8 o, .string ⟨#[]⟩, .slice (some ⟨blk, 0, none⟩) 2 2] 120)
    have hbx := heap_alloc_new w (.cells #[.int .i64 2, .int .u64 0, .int .u8 o, .string ⟨#[]⟩, .slice (some ⟨blk, 0, none⟩) 2 2] 120)
    obtain ⟨W, hW⟩ : ∃ W, w.alloc (.cells #[.int .i64 2, .int .u64 0, .int .u8 o, .string ⟨#[]⟩, .slice (some ⟨blk, 0, none⟩) 2 2] 120) = W := ⟨_, rfl⟩
    rw [hW] at hb hbx
    have x0 : W.cell? ⟨w.heap.size, 0, none⟩ = some (.int .i64 2) := by simp only [World.cell?, hbx]; simp
    have x4 : W.cell? ⟨w.heap.size, 4, none⟩ = some (.slice (some ⟨blk, 0, none⟩) 2 2) := by simp only [World.cell?, hbx]; simp
    have hwl : w.heap.size < W.heap.size := by rw [← hW]; simp
    have XA := Lib.hid (exP_keep hb h5)
    have XB := Lib.hid (exP_keep hb h6)
    have HB := Lib.hid hb
    obtain ⟨a0, a1, a2, a3, a4, rfl⟩ := Fr.len5 (exP_len h5)
    obtain ⟨b0, b1, b2, b3, b4, rfl⟩ := Fr.len5 (exP_len h6)
    have CA : Hid (∀ j, j < 5 → W.cell? ⟨blk, j, none⟩ = ([a0, a1, a2, a3, a4] : List Value)[j]?) := Lib.hid (fun j hj => (hb.cell (p := ⟨blk, j, none⟩) h2).trans (h3 j hj))
    have CB : Hid (∀ j, j < 5 → W.cell? ⟨blk, 5 + j, none⟩ = ([b0, b1, b2, b3, b4] : List Value)[j]?) := Lib.hid (fun j hj => (hb.cell (p := ⟨blk, 5 + j, none⟩) h2).trans (h4 j hj))
    have hbl : blk < W.heap.size := by omega
    have N0 := Lib.hid (hN.keep hb)
    have AP := Lib.hid hN.apart
    have AL := Lib.hid hN.lt
    have LO : Hid (Lo B blk) := Lib.hid h1
    have LN := Lib.hid hN.len
    unfold lv at hn
    clear h3 h4 h5 h6 hb hbx h1 h2 hN
    go_enter Try.func85, Try.ntmps85
    go_upto_region 1 with fail
    try rw [hW]
    clear hW
    go_wp2_with fail
    go_loopw [0, 5] (fun s i wr => ∃ (k : Nat) (A1 : Option Addr) (n1 c1 : Nat), k ≤ 2 ∧ s = .slice A1 n1 c1 ∧ i = .int .i64 k ∧ Nm wr B A1 n1 c1 (stN l a b k) ∧ Grw A A1 W wr) (fun _ i _ => 2 - (intOf i).toNat)
    case atStart => exact ⟨0, A, n, c, by omega, rfl, rfl, N0.out, Grw.refl _ _⟩
    case round =>
      obtain ⟨k, A1, n1, c1, hk, rfl, rfl, hN1, hG1⟩ := hrel
      have N1 := Lib.hid hN1
      have G1 := Lib.hid hG1
      have hns : w.heap.size ∉ (A.map (·.block)).toList := fun hx => by have := (AL.out _ (Fr.mem_blk.1 hx)).2; omega
      have hnb : blk ∉ (A.map (·.block)).toList := fun hx => AP.out _ hx LO.out
      have x0r : wr.cell? ⟨w.heap.size, 0, none⟩ = some (.int .i64 2) := (only_cell hG1.only hwl hns 0).trans x0
      have x4r : wr.cell? ⟨w.heap.size, 4, none⟩ = some (.slice (some ⟨blk, 0, none⟩) 2 2) := (only_cell hG1.only hwl hns 4).trans x4
      have CAr : Hid (∀ j, j < 5 → wr.cell? ⟨blk, j, none⟩ = ([a0, a1, a2, a3, a4] : List Value)[j]?) := Lib.hid (fun j hj => (only_cell hG1.only hbl hnb j).trans (CA.out j hj))
      have CBr : Hid (∀ j, j < 5 → wr.cell? ⟨blk, 5 + j, none⟩ = ([b0, b1, b2, b3, b4] : List Value)[j]?) := Lib.hid (fun j hj => (only_cell hG1.only hbl hnb (5 + j)).trans (CB.out j hj))
      have hsz : B ≤ wr.heap.size := Nat.le_trans hB (Nat.le_trans (Nat.le_of_lt hwl) hG1.only.size)
      have LN1 := Lib.hid hN1.len
      clear hN1 hG1 hns hnb x0 x4 N0
      by_cases h0 : k = 0
      · subst h0
        have y0 : wr.cell? ⟨blk, 0, none⟩ = some a0 := CAr.out 0 (by omega)
        have y1 : wr.cell? ⟨blk, 1, none⟩ = some a1 := CAr.out 1 (by omega)
        have y2 : wr.cell? ⟨blk, 2, none⟩ = some a2 := CAr.out 2 (by omega)
        have y3 : wr.cell? ⟨blk, 3, none⟩ = some a3 := CAr.out 3 (by omega)
        have y4 : wr.cell? ⟨blk, 4, none⟩ = some a4 := CAr.out 4 (by omega)
        have hn1 : n1 + lv a ≤ 4000000 := by have := LN1.out; have := LN.out; unfold stN at *; rw [if_pos rfl] at *; omega
        clear CBr
        go_wp2_with fail
        refine (IA.out _ A1 n1 c1 _ (exP_only G1.out.only AP.out XA.out) N1.out hn1 hsz).mono ?_
        rintro e w2 ⟨A2, n2, c2, rfl, h2, hg2⟩
        have N2 := Lib.hid h2
        have G2 := Lib.hid (G1.out.trans hg2)
        clear h2 hg2
        go_wp2_with fail
        go_roundw
        case rel => exact ⟨1, A2, n2, c2, by omega, rfl, by go_num, N2.out, G2.out⟩
        case measure => simp [intOf]
      by_cases h1 : k = 1
      · subst h1
        have y0 : wr.cell? ⟨blk, 5, none⟩ = some b0 := CBr.out 0 (by omega)
        have y1 : wr.cell? ⟨blk, 6, none⟩ = some b1 := CBr.out 1 (by omega)
        have y2 : wr.cell? ⟨blk, 7, none⟩ = some b2 := CBr.out 2 (by omega)
        have y3 : wr.cell? ⟨blk, 8, none⟩ = some b3 := CBr.out 3 (by omega)
        have y4 : wr.cell? ⟨blk, 9, none⟩ = some b4 := CBr.out 4 (by omega)
        have hn1 : n1 + lv b ≤ 4000000 := by have := LN1.out; have := LN.out; have := (exN_len a l).2; unfold stN at *; rw [if_neg (by decide), if_pos rfl] at *; omega
        clear CAr
        go_wp2_with fail
        refine (IB.out _ A1 n1 c1 _ (exP_only G1.out.only AP.out XB.out) N1.out hn1 hsz).mono ?_
        rintro e w2 ⟨A2, n2, c2, rfl, h2, hg2⟩
        have N2 := Lib.hid h2
        have G2 := Lib.hid (G1.out.trans hg2)
        clear h2 hg2
        go_wp2_with fail
        go_roundw
        case rel => exact ⟨2, A2, n2, c2, by omega, rfl, by go_num, N2.out, G2.out⟩
        case measure => simp [intOf]
      · obtain rfl : k = 2 := by omega
        go_wp2_with fail
        go_ret
        exact ⟨A1, n1, c1, rfl, N1.out, (Grw.of_below HB.out).trans G1.out⟩
end Go.Proofs.Ytapnnbbbgopobaa.Fr
namespace Go.Proofs.Ytapnnbbbgopobaa.Fr
open Go.RowKit Cm Mm Ow Me Ml Lg Rr
def isNamed (k : Int) : Bool := k == 0 || k == 1 || k == 3
def isCelled (k : Int) : Bool := k == 1 || k == 2 || k == 3
def isXd (k : Int) : Bool := k == 0 || k == 2 || k == 3 || k == 5 || k == 6 || k == 7
def ownN (l : List ByteArray) (h : Hd) : List ByteArray :=
  let l1 := if isNamed h.kind then addN l h.name else l
  let l2 := if isCelled h.kind then exN l1 h.i else l1
  let l3 := if isXd h.kind then exN l2 h.x else l2
  if h.kind = 3 then exN l3 h.y else l3
def namesN (l : List ByteArray) : Bd → List ByteArray
  | .nil => l
  | .cons h body els rest =>
    let l1 := ownN l h
    let l2 := if h.kind = 6 ∨ h.kind = 7 then namesN l1 body else l1
    let l3 := if h.kind = 6 then namesN l2 els else l2
    namesN l3 rest
theorem ownN_len (h : Hd) (l : List ByteArray) : l.length ≤ (ownN l h).length ∧ (ownN l h).length ≤ l.length + (1 + (lv h.i + lv h.x + lv h.y)) := by
  unfold ownN
  dsimp only
  have h1 : l.length ≤ (if isNamed h.kind then addN l h.name else l).length ∧ (if isNamed h.kind then addN l h.name else l).length ≤ l.length + 1 := by
    have := addN_len l h.name
    split
    · exact this
    · omega
  generalize (if isNamed h.kind then addN l h.name else l) = l1 at *
  have h2 : l1.length ≤ (if isCelled h.kind then exN l1 h.i else l1).length ∧ (if isCelled h.kind then exN l1 h.i else l1).length ≤ l1.length + lv h.i := by
    have := exN_len h.i l1
    split
    · exact this
    · omega
  generalize (if isCelled h.kind then exN l1 h.i else l1) = l2 at *
  have h3 : l2.length ≤ (if isXd h.kind then exN l2 h.x else l2).length ∧ (if isXd h.kind then exN l2 h.x else l2).length ≤ l2.length + lv h.x := by
    have := exN_len h.x l2
    split
    · exact this
    · omega
  generalize (if isXd h.kind then exN l2 h.x else l2) = l3 at *
  have := exN_len h.y l3
  split <;> omega
theorem namesN_len : ∀ (b : Bd) (l : List ByteArray), l.length ≤ (namesN l b).length ∧ (namesN l b).length ≤ l.length + bsz b
  | .nil, l => ⟨Nat.le_refl _, Nat.le_add_right _ _⟩
  | .cons h body els rest, l => by
    have h1 := ownN_len h l
    unfold namesN
    dsimp only
    have h2 : (ownN l h).length ≤ (if h.kind = 6 ∨ h.kind = 7 then namesN (ownN l h) body else ownN l h).length ∧ (if h.kind = 6 ∨ h.kind = 7 then namesN (ownN l h) body else ownN l h).length ≤ (ownN l h).length + bsz body := by
      have := namesN_len body (ownN l h)
      split
      · exact this
      · omega
    generalize (if h.kind = 6 ∨ h.kind = 7 then namesN (ownN l h) body else ownN l h) = l2 at *
    have h3 : l2.length ≤ (if h.kind = 6 then namesN l2 els else l2).length ∧ (if h.kind = 6 then namesN l2 els else l2).length ≤ l2.length + bsz els := by
      have := namesN_len els l2
      split
      · exact this
      · omega
    generalize (if h.kind = 6 then namesN l2 els else l2) = l3 at *
    have := namesN_len rest l3
    simp only [bsz]
    omega
structure Wy (w0 w : World) (B g : Nat) (cs : Array Value) (A0 A : Option Addr) (n c : Nat) (l : List ByteArray) : Prop where
  nm : Nm w B A n c l
  gr : Grw A0 A w0 w
  sb : w.heap[g]? = some (.cells cs 122 (0, 0))
  ne : ∀ b, A.map (·.block) = some b → b ≠ g
  hB : B ≤ w.heap.size
section
variable {w0 w w' : World} {B g : Nat} {cs : Array Value} {A0 A A' : Option Addr} {n c n' c' : Nat} {l l' : List ByteArray}
theorem Wy.step (h : Wy w0 w B g cs A0 A n c l) (hn : Nm w' B A' n' c' l') (hg : Grw A A' w w') : Wy w0 w' B g cs A0 A' n' c' l' := by
  have hlt : g < w.heap.size := (Array.getElem?_eq_some_iff.1 h.sb).1
  refine ⟨hn, h.gr.trans hg, (hg.only.block g hlt (fun hx => h.ne g (Fr.mem_blk.1 hx) rfl)).trans h.sb, fun b hb => ?_, Nat.le_trans h.hB hg.only.size⟩
  rcases hg.blk with e | e
  · exact h.ne b (e ▸ hb)
  · have := e b hb; omega
theorem Wy.cell (h : Wy w0 w B g cs A0 A n c l) {j : Nat} {v : Value} (hj : cs[j]? = some v) : w.cell? ⟨g, j, none⟩ = some v := by
  simp only [World.cell?, h.sb]
  simp [hj]
theorem Wy.exP (h : Wy w0 w B g cs A0 A n c l) (hA : ∀ y ∈ (A0.map (·.block)).toList, ¬ Lo B y) {x : Ex} {vs : List Value} (hx : Rr.exP (Lo B) w0 x vs) : Rr.exP (Lo B) w x vs := exP_only h.gr.only hA hx
end
theorem named_b {k : Int} {b : Bool} (h : isNamed k = b) (w : World) : Calls Try.prog 84 #[.int .i64 k] w fun e w' => e = .returned (.bool b) ∧ w = w' := by subst h; exact named_any k w
theorem celled_b {k : Int} {b : Bool} (h : isCelled k = b) (w : World) : Calls Try.prog 70 #[.int .i64 k] w fun e w' => e = .returned (.bool b) ∧ w = w' := by subst h; exact celled_any k w
set_option maxRecDepth 20000 in
set_option maxHeartbeats 3200000 in
theorem own_0 {w : World} {B : Nat} {A : Option Addr} {n c : Nat} {l : List ByteArray} {a3 : Int} {nm cl : ByteArray} {i x y : Ex} {i0 i1 i2 i3 i4 x0 x1 x2 x3 x4 y0 y1 y2 y3 y4 : Value} {BA : Option Addr} {bn bc : Nat} {EA : Option Addr} {en ec : Nat} (cs : Array Value) (hcs : cs = #[.int .i64 0, .int .i64 a3, .string nm, .string cl, i0, i1, i2, i3, i4, x0, x1, x2, x3, x4, y0, y1, y2, y3, y4, .slice BA bn bc, .slice EA en ec])
    (hi : exP (Lo B) w i [i0, i1, i2, i3, i4]) (hx : exP (Lo B) w x [x0, x1, x2, x3, x4]) (hy : exP (Lo B) w y [y0, y1, y2, y3, y4]) (hN : Nm w B A n c l) (hn : n + (1 + (lv i + lv x + lv y)) ≤ 3000000) (hB : B ≤ w.heap.size) :
    Calls Try.prog 71 #[.slice A n c, .agg cs] w (NmA w B A (ownN l ⟨0, a3, nm, cl, i, x, y⟩)) := by
  have hb := below_new w (.cells cs 122)
  have D0 := Lib.hid (⟨hN.keep hb, Grw.refl _ _, heap_alloc_new w (.cells cs 122), fun b hb h => by have := (hN.lt b hb).2; omega, Nat.le_trans hB hb.size⟩ : Wy (w.alloc (.cells cs 122)) (w.alloc (.cells cs 122)) B w.heap.size cs A A n c l)
  have XI := Lib.hid (exP_keep hb hi)
  have XX := Lib.hid (exP_keep hb hx)
  have XY := Lib.hid (exP_keep hb hy)
  have AP := Lib.hid hN.apart
  have LN := Lib.hid hN.len
  have HB := Lib.hid hb
  have NB := Lib.hid (fun w => named_b (k := 0) (b := true) rfl w)
  have CB := Lib.hid (fun w => celled_b (k := 0) (b := false) rfl w)
  have HE : Hid (ownN l ⟨0, a3, nm, cl, i, x, y⟩ = (exN (addN l nm) x)) := Lib.hid (by rfl)
  have HCS := Lib.hid hcs
  clear hb hi hx hy hN hcs
  go_enter Try.func71, Try.ntmps71
  go_upto_region 1 with fail
  obtain ⟨W, hW⟩ : ∃ W, w.alloc (.cells cs 122) = W := ⟨_, rfl⟩
  rw [hW] at D0 XI XX XY HB
  try rw [hW]
  clear hW
  have e0 : cs[0]? = some (.int .i64 0) := by rw [HCS.out]; rfl
  have e2 : cs[2]? = some (.string nm) := by rw [HCS.out]; rfl
  have e4 : cs[4]? = some i0 := by rw [HCS.out]; rfl
  have e5 : cs[5]? = some i1 := by rw [HCS.out]; rfl
  have e6 : cs[6]? = some i2 := by rw [HCS.out]; rfl
  have e7 : cs[7]? = some i3 := by rw [HCS.out]; rfl
  have e8 : cs[8]? = some i4 := by rw [HCS.out]; rfl
  have e9 : cs[9]? = some x0 := by rw [HCS.out]; rfl
  have e10 : cs[10]? = some x1 := by rw [HCS.out]; rfl
  have e11 : cs[11]? = some x2 := by rw [HCS.out]; rfl
  have e12 : cs[12]? = some x3 := by rw [HCS.out]; rfl
  have e13 : cs[13]? = some x4 := by rw [HCS.out]; rfl
  have e14 : cs[14]? = some y0 := by rw [HCS.out]; rfl
  have e15 : cs[15]? = some y1 := by rw [HCS.out]; rfl
  have e16 : cs[16]? = some y2 := by rw [HCS.out]; rfl
  have e17 : cs[17]? = some y3 := by rw [HCS.out]; rfl
  have e18 : cs[18]? = some y4 := by rw [HCS.out]; rfl
  have E := Lib.hid (And.intro e0 (And.intro e2 (And.intro e4 (And.intro e5 (And.intro e6 (And.intro e7 (And.intro e8 (And.intro e9 (And.intro e10 (And.intro e11 (And.intro e12 (And.intro e13 (And.intro e14 (And.intro e15 (And.intro e16 (And.intro e17 e18))))))))))))))))
  clear e0 e2 e4 e5 e6 e7 e8 e9 e10 e11 e12 e13 e14 e15 e16 e17 e18 HCS
  obtain ⟨e0, e2, e4, e5, e6, e7, e8, e9, e10, e11, e12, e13, e14, e15, e16, e17, e18⟩ := E.out
  have hs0 := D0.out.hB
  have z0 := D0.out.cell e0
  have z2 := D0.out.cell e2
  have z4 := D0.out.cell e4
  have z5 := D0.out.cell e5
  have z6 := D0.out.cell e6
  have z7 := D0.out.cell e7
  have z8 := D0.out.cell e8
  have z9 := D0.out.cell e9
  have z10 := D0.out.cell e10
  have z11 := D0.out.cell e11
  have z12 := D0.out.cell e12
  have z13 := D0.out.cell e13
  have z14 := D0.out.cell e14
  have z15 := D0.out.cell e15
  have z16 := D0.out.cell e16
  have z17 := D0.out.cell e17
  have z18 := D0.out.cell e18
  go_wp2_with (first | (go_at_call 84; refine (NB.out _).mono ?_; rintro e w' ⟨rfl, rfl⟩) | (go_at_call 70; refine (CB.out _).mono ?_; rintro e w' ⟨rfl, rfl⟩) | fail)
  refine (add_any nm D0.out.nm (by have := LN.out; omega) D0.out.hB).mono ?_
  rintro e w1 ⟨A1, n1, c1, rfl, hn1, hg1⟩
  have D1 := Lib.hid (D0.out.step hn1 hg1)
  have LL1 : Hid ((addN l nm).length ≤ l.length + (1)) := Lib.hid (by have := (addN_len l nm).2; omega)
  clear hn1 hg1 z0 z2 z4 z5 z6 z7 z8 z9 z10 z11 z12 z13 z14 z15 z16 z17 z18
  have z0 := D1.out.cell e0
  have z2 := D1.out.cell e2
  have z4 := D1.out.cell e4
  have z5 := D1.out.cell e5
  have z6 := D1.out.cell e6
  have z7 := D1.out.cell e7
  have z8 := D1.out.cell e8
  have z9 := D1.out.cell e9
  have z10 := D1.out.cell e10
  have z11 := D1.out.cell e11
  have z12 := D1.out.cell e12
  have z13 := D1.out.cell e13
  have z14 := D1.out.cell e14
  have z15 := D1.out.cell e15
  have z16 := D1.out.cell e16
  have z17 := D1.out.cell e17
  have z18 := D1.out.cell e18
  go_wp2_with (first | (go_at_call 84; refine (NB.out _).mono ?_; rintro e w' ⟨rfl, rfl⟩) | (go_at_call 70; refine (CB.out _).mono ?_; rintro e w' ⟨rfl, rfl⟩) | fail)
  refine (ex_any x (D1.out.exP AP.out XX.out) D1.out.nm (by have := D1.out.nm.len; have := LN.out; have := LL1.out; omega) D1.out.hB).mono ?_
  rintro e w2 ⟨A2, n2, c2, rfl, hn2, hg2⟩
  have D2 := Lib.hid (D1.out.step hn2 hg2)
  have LL2 : Hid ((exN (addN l nm) x).length ≤ l.length + (1 + lv x)) := Lib.hid (by have := (exN_len x (addN l nm)).2; have := LN.out; have := LL1.out; omega)
  clear hn2 hg2 z0 z2 z4 z5 z6 z7 z8 z9 z10 z11 z12 z13 z14 z15 z16 z17 z18
  have z0 := D2.out.cell e0
  have z2 := D2.out.cell e2
  have z4 := D2.out.cell e4
  have z5 := D2.out.cell e5
  have z6 := D2.out.cell e6
  have z7 := D2.out.cell e7
  have z8 := D2.out.cell e8
  have z9 := D2.out.cell e9
  have z10 := D2.out.cell e10
  have z11 := D2.out.cell e11
  have z12 := D2.out.cell e12
  have z13 := D2.out.cell e13
  have z14 := D2.out.cell e14
  have z15 := D2.out.cell e15
  have z16 := D2.out.cell e16
  have z17 := D2.out.cell e17
  have z18 := D2.out.cell e18
  go_wp2_with (first | (go_at_call 84; refine (NB.out _).mono ?_; rintro e w' ⟨rfl, rfl⟩) | (go_at_call 70; refine (CB.out _).mono ?_; rintro e w' ⟨rfl, rfl⟩) | fail)
  go_ret
  exact ⟨A2, n2, c2, rfl, by rw [HE.out]; exact D2.out.nm, (Grw.of_below HB.out).trans D2.out.gr⟩
set_option maxRecDepth 20000 in
set_option maxHeartbeats 3200000 in
theorem own_1 {w : World} {B : Nat} {A : Option Addr} {n c : Nat} {l : List ByteArray} {a3 : Int} {nm cl : ByteArray} {i x y : Ex} {i0 i1 i2 i3 i4 x0 x1 x2 x3 x4 y0 y1 y2 y3 y4 : Value} {BA : Option Addr} {bn bc : Nat} {EA : Option Addr} {en ec : Nat} (cs : Array Value) (hcs : cs = #[.int .i64 1, .int .i64 a3, .string nm, .string cl, i0, i1, i2, i3, i4, x0, x1, x2, x3, x4, y0, y1, y2, y3, y4, .slice BA bn bc, .slice EA en ec])
    (hi : exP (Lo B) w i [i0, i1, i2, i3, i4]) (hx : exP (Lo B) w x [x0, x1, x2, x3, x4]) (hy : exP (Lo B) w y [y0, y1, y2, y3, y4]) (hN : Nm w B A n c l) (hn : n + (1 + (lv i + lv x + lv y)) ≤ 3000000) (hB : B ≤ w.heap.size) :
    Calls Try.prog 71 #[.slice A n c, .agg cs] w (NmA w B A (ownN l ⟨1, a3, nm, cl, i, x, y⟩)) := by
  have hb := below_new w (.cells cs 122)
  have D0 := Lib.hid (⟨hN.keep hb, Grw.refl _ _, heap_alloc_new w (.cells cs 122), fun b hb h => by have := (hN.lt b hb).2; omega, Nat.le_trans hB hb.size⟩ : Wy (w.alloc (.cells cs 122)) (w.alloc (.cells cs 122)) B w.heap.size cs A A n c l)
  have XI := Lib.hid (exP_keep hb hi)
  have XX := Lib.hid (exP_keep hb hx)
  have XY := Lib.hid (exP_keep hb hy)
  have AP := Lib.hid hN.apart
  have LN := Lib.hid hN.len
  have HB := Lib.hid hb
  have NB := Lib.hid (fun w => named_b (k := 1) (b := true) rfl w)
  have CB := Lib.hid (fun w => celled_b (k := 1) (b := true) rfl w)
  have HE : Hid (ownN l ⟨1, a3, nm, cl, i, x, y⟩ = (exN (addN l nm) i)) := Lib.hid (by rfl)
  have HCS := Lib.hid hcs
  clear hb hi hx hy hN hcs
  go_enter Try.func71, Try.ntmps71
  go_upto_region 1 with fail
  obtain ⟨W, hW⟩ : ∃ W, w.alloc (.cells cs 122) = W := ⟨_, rfl⟩
  rw [hW] at D0 XI XX XY HB
  try rw [hW]
  clear hW
  have e0 : cs[0]? = some (.int .i64 1) := by rw [HCS.out]; rfl
  have e2 : cs[2]? = some (.string nm) := by rw [HCS.out]; rfl
  have e4 : cs[4]? = some i0 := by rw [HCS.out]; rfl
  have e5 : cs[5]? = some i1 := by rw [HCS.out]; rfl
  have e6 : cs[6]? = some i2 := by rw [HCS.out]; rfl
  have e7 : cs[7]? = some i3 := by rw [HCS.out]; rfl
  have e8 : cs[8]? = some i4 := by rw [HCS.out]; rfl
  have e9 : cs[9]? = some x0 := by rw [HCS.out]; rfl
  have e10 : cs[10]? = some x1 := by rw [HCS.out]; rfl
  have e11 : cs[11]? = some x2 := by rw [HCS.out]; rfl
  have e12 : cs[12]? = some x3 := by rw [HCS.out]; rfl
  have e13 : cs[13]? = some x4 := by rw [HCS.out]; rfl
  have e14 : cs[14]? = some y0 := by rw [HCS.out]; rfl
  have e15 : cs[15]? = some y1 := by rw [HCS.out]; rfl
  have e16 : cs[16]? = some y2 := by rw [HCS.out]; rfl
  have e17 : cs[17]? = some y3 := by rw [HCS.out]; rfl
  have e18 : cs[18]? = some y4 := by rw [HCS.out]; rfl
  have E := Lib.hid (And.intro e0 (And.intro e2 (And.intro e4 (And.intro e5 (And.intro e6 (And.intro e7 (And.intro e8 (And.intro e9 (And.intro e10 (And.intro e11 (And.intro e12 (And.intro e13 (And.intro e14 (And.intro e15 (And.intro e16 (And.intro e17 e18))))))))))))))))
  clear e0 e2 e4 e5 e6 e7 e8 e9 e10 e11 e12 e13 e14 e15 e16 e17 e18 HCS
  obtain ⟨e0, e2, e4, e5, e6, e7, e8, e9, e10, e11, e12, e13, e14, e15, e16, e17, e18⟩ := E.out
  have hs0 := D0.out.hB
  have z0 := D0.out.cell e0
  have z2 := D0.out.cell e2
  have z4 := D0.out.cell e4
  have z5 := D0.out.cell e5
  have z6 := D0.out.cell e6
  have z7 := D0.out.cell e7
  have z8 := D0.out.cell e8
  have z9 := D0.out.cell e9
  have z10 := D0.out.cell e10
  have z11 := D0.out.cell e11
  have z12 := D0.out.cell e12
  have z13 := D0.out.cell e13
  have z14 := D0.out.cell e14
  have z15 := D0.out.cell e15
  have z16 := D0.out.cell e16
  have z17 := D0.out.cell e17
  have z18 := D0.out.cell e18
  go_wp2_with (first | (go_at_call 84; refine (NB.out _).mono ?_; rintro e w' ⟨rfl, rfl⟩) | (go_at_call 70; refine (CB.out _).mono ?_; rintro e w' ⟨rfl, rfl⟩) | fail)
  refine (add_any nm D0.out.nm (by have := LN.out; omega) D0.out.hB).mono ?_
  rintro e w1 ⟨A1, n1, c1, rfl, hn1, hg1⟩
  have D1 := Lib.hid (D0.out.step hn1 hg1)
  have LL1 : Hid ((addN l nm).length ≤ l.length + (1)) := Lib.hid (by have := (addN_len l nm).2; omega)
  clear hn1 hg1 z0 z2 z4 z5 z6 z7 z8 z9 z10 z11 z12 z13 z14 z15 z16 z17 z18
  have z0 := D1.out.cell e0
  have z2 := D1.out.cell e2
  have z4 := D1.out.cell e4
  have z5 := D1.out.cell e5
  have z6 := D1.out.cell e6
  have z7 := D1.out.cell e7
  have z8 := D1.out.cell e8
  have z9 := D1.out.cell e9
  have z10 := D1.out.cell e10
  have z11 := D1.out.cell e11
  have z12 := D1.out.cell e12
  have z13 := D1.out.cell e13
  have z14 := D1.out.cell e14
  have z15 := D1.out.cell e15
  have z16 := D1.out.cell e16
  have z17 := D1.out.cell e17
  have z18 := D1.out.cell e18
  go_wp2_with (first | (go_at_call 84; refine (NB.out _).mono ?_; rintro e w' ⟨rfl, rfl⟩) | (go_at_call 70; refine (CB.out _).mono ?_; rintro e w' ⟨rfl, rfl⟩) | fail)
  refine (ex_any i (D1.out.exP AP.out XI.out) D1.out.nm (by have := D1.out.nm.len; have := LN.out; have := LL1.out; omega) D1.out.hB).mono ?_
  rintro e w2 ⟨A2, n2, c2, rfl, hn2, hg2⟩
  have D2 := Lib.hid (D1.out.step hn2 hg2)
  have LL2 : Hid ((exN (addN l nm) i).length ≤ l.length + (1 + lv i)) := Lib.hid (by have := (exN_len i (addN l nm)).2; have := LN.out; have := LL1.out; omega)
  clear hn2 hg2 z0 z2 z4 z5 z6 z7 z8 z9 z10 z11 z12 z13 z14 z15 z16 z17 z18
  have z0 := D2.out.cell e0
  have z2 := D2.out.cell e2
  have z4 := D2.out.cell e4
  have z5 := D2.out.cell e5
  have z6 := D2.out.cell e6
  have z7 := D2.out.cell e7
  have z8 := D2.out.cell e8
  have z9 := D2.out.cell e9
  have z10 := D2.out.cell e10
  have z11 := D2.out.cell e11
  have z12 := D2.out.cell e12
  have z13 := D2.out.cell e13
  have z14 := D2.out.cell e14
  have z15 := D2.out.cell e15
  have z16 := D2.out.cell e16
  have z17 := D2.out.cell e17
  have z18 := D2.out.cell e18
  go_wp2_with (first | (go_at_call 84; refine (NB.out _).mono ?_; rintro e w' ⟨rfl, rfl⟩) | (go_at_call 70; refine (CB.out _).mono ?_; rintro e w' ⟨rfl, rfl⟩) | fail)
  go_ret
  exact ⟨A2, n2, c2, rfl, by rw [HE.out]; exact D2.out.nm, (Grw.of_below HB.out).trans D2.out.gr⟩
set_option maxRecDepth 20000 in
set_option maxHeartbeats 3200000 in
theorem own_2 {w : World} {B : Nat} {A : Option Addr} {n c : Nat} {l : List ByteArray} {a3 : Int} {nm cl : ByteArray} {i x y : Ex} {i0 i1 i2 i3 i4 x0 x1 x2 x3 x4 y0 y1 y2 y3 y4 : Value} {BA : Option Addr} {bn bc : Nat} {EA : Option Addr} {en ec : Nat} (cs : Array Value) (hcs : cs = #[.int .i64 2, .int .i64 a3, .string nm, .string cl, i0, i1, i2, i3, i4, x0, x1, x2, x3, x4, y0, y1, y2, y3, y4, .slice BA bn bc, .slice EA en ec])
    (hi : exP (Lo B) w i [i0, i1, i2, i3, i4]) (hx : exP (Lo B) w x [x0, x1, x2, x3, x4]) (hy : exP (Lo B) w y [y0, y1, y2, y3, y4]) (hN : Nm w B A n c l) (hn : n + (1 + (lv i + lv x + lv y)) ≤ 3000000) (hB : B ≤ w.heap.size) :
    Calls Try.prog 71 #[.slice A n c, .agg cs] w (NmA w B A (ownN l ⟨2, a3, nm, cl, i, x, y⟩)) := by
  have hb := below_new w (.cells cs 122)
  have D0 := Lib.hid (⟨hN.keep hb, Grw.refl _ _, heap_alloc_new w (.cells cs 122), fun b hb h => by have := (hN.lt b hb).2; omega, Nat.le_trans hB hb.size⟩ : Wy (w.alloc (.cells cs 122)) (w.alloc (.cells cs 122)) B w.heap.size cs A A n c l)
  have XI := Lib.hid (exP_keep hb hi)
  have XX := Lib.hid (exP_keep hb hx)
  have XY := Lib.hid (exP_keep hb hy)
  have AP := Lib.hid hN.apart
  have LN := Lib.hid hN.len
  have HB := Lib.hid hb
  have NB := Lib.hid (fun w => named_b (k := 2) (b := false) rfl w)
  have CB := Lib.hid (fun w => celled_b (k := 2) (b := true) rfl w)
  have HE : Hid (ownN l ⟨2, a3, nm, cl, i, x, y⟩ = (exN (exN l i) x)) := Lib.hid (by rfl)
  have HCS := Lib.hid hcs
  clear hb hi hx hy hN hcs
  go_enter Try.func71, Try.ntmps71
  go_upto_region 1 with fail
  obtain ⟨W, hW⟩ : ∃ W, w.alloc (.cells cs 122) = W := ⟨_, rfl⟩
  rw [hW] at D0 XI XX XY HB
  try rw [hW]
  clear hW
  have e0 : cs[0]? = some (.int .i64 2) := by rw [HCS.out]; rfl
  have e2 : cs[2]? = some (.string nm) := by rw [HCS.out]; rfl
  have e4 : cs[4]? = some i0 := by rw [HCS.out]; rfl
  have e5 : cs[5]? = some i1 := by rw [HCS.out]; rfl
  have e6 : cs[6]? = some i2 := by rw [HCS.out]; rfl
  have e7 : cs[7]? = some i3 := by rw [HCS.out]; rfl
  have e8 : cs[8]? = some i4 := by rw [HCS.out]; rfl
  have e9 : cs[9]? = some x0 := by rw [HCS.out]; rfl
  have e10 : cs[10]? = some x1 := by rw [HCS.out]; rfl
  have e11 : cs[11]? = some x2 := by rw [HCS.out]; rfl
  have e12 : cs[12]? = some x3 := by rw [HCS.out]; rfl
  have e13 : cs[13]? = some x4 := by rw [HCS.out]; rfl
  have e14 : cs[14]? = some y0 := by rw [HCS.out]; rfl
  have e15 : cs[15]? = some y1 := by rw [HCS.out]; rfl
  have e16 : cs[16]? = some y2 := by rw [HCS.out]; rfl
  have e17 : cs[17]? = some y3 := by rw [HCS.out]; rfl
  have e18 : cs[18]? = some y4 := by rw [HCS.out]; rfl
  have E := Lib.hid (And.intro e0 (And.intro e2 (And.intro e4 (And.intro e5 (And.intro e6 (And.intro e7 (And.intro e8 (And.intro e9 (And.intro e10 (And.intro e11 (And.intro e12 (And.intro e13 (And.intro e14 (And.intro e15 (And.intro e16 (And.intro e17 e18))))))))))))))))
  clear e0 e2 e4 e5 e6 e7 e8 e9 e10 e11 e12 e13 e14 e15 e16 e17 e18 HCS
  obtain ⟨e0, e2, e4, e5, e6, e7, e8, e9, e10, e11, e12, e13, e14, e15, e16, e17, e18⟩ := E.out
  have hs0 := D0.out.hB
  have z0 := D0.out.cell e0
  have z2 := D0.out.cell e2
  have z4 := D0.out.cell e4
  have z5 := D0.out.cell e5
  have z6 := D0.out.cell e6
  have z7 := D0.out.cell e7
  have z8 := D0.out.cell e8
  have z9 := D0.out.cell e9
  have z10 := D0.out.cell e10
  have z11 := D0.out.cell e11
  have z12 := D0.out.cell e12
  have z13 := D0.out.cell e13
  have z14 := D0.out.cell e14
  have z15 := D0.out.cell e15
  have z16 := D0.out.cell e16
  have z17 := D0.out.cell e17
  have z18 := D0.out.cell e18
  go_wp2_with (first | (go_at_call 84; refine (NB.out _).mono ?_; rintro e w' ⟨rfl, rfl⟩) | (go_at_call 70; refine (CB.out _).mono ?_; rintro e w' ⟨rfl, rfl⟩) | fail)
  refine (ex_any i (D0.out.exP AP.out XI.out) D0.out.nm (by omega) D0.out.hB).mono ?_
  rintro e w1 ⟨A1, n1, c1, rfl, hn1, hg1⟩
  have D1 := Lib.hid (D0.out.step hn1 hg1)
  have LL1 : Hid ((exN l i).length ≤ l.length + (lv i)) := Lib.hid (by have := (exN_len i l).2; omega)
  clear hn1 hg1 z0 z2 z4 z5 z6 z7 z8 z9 z10 z11 z12 z13 z14 z15 z16 z17 z18
  have z0 := D1.out.cell e0
  have z2 := D1.out.cell e2
  have z4 := D1.out.cell e4
  have z5 := D1.out.cell e5
  have z6 := D1.out.cell e6
  have z7 := D1.out.cell e7
  have z8 := D1.out.cell e8
  have z9 := D1.out.cell e9
  have z10 := D1.out.cell e10
  have z11 := D1.out.cell e11
  have z12 := D1.out.cell e12
  have z13 := D1.out.cell e13
  have z14 := D1.out.cell e14
  have z15 := D1.out.cell e15
  have z16 := D1.out.cell e16
  have z17 := D1.out.cell e17
  have z18 := D1.out.cell e18
  go_wp2_with (first | (go_at_call 84; refine (NB.out _).mono ?_; rintro e w' ⟨rfl, rfl⟩) | (go_at_call 70; refine (CB.out _).mono ?_; rintro e w' ⟨rfl, rfl⟩) | fail)
  refine (ex_any x (D1.out.exP AP.out XX.out) D1.out.nm (by have := D1.out.nm.len; have := LN.out; have := LL1.out; omega) D1.out.hB).mono ?_
  rintro e w2 ⟨A2, n2, c2, rfl, hn2, hg2⟩
  have D2 := Lib.hid (D1.out.step hn2 hg2)
  have LL2 : Hid ((exN (exN l i) x).length ≤ l.length + (lv i + lv x)) := Lib.hid (by have := (exN_len x (exN l i)).2; have := LN.out; have := LL1.out; omega)
  clear hn2 hg2 z0 z2 z4 z5 z6 z7 z8 z9 z10 z11 z12 z13 z14 z15 z16 z17 z18
  have z0 := D2.out.cell e0
  have z2 := D2.out.cell e2
  have z4 := D2.out.cell e4
  have z5 := D2.out.cell e5
  have z6 := D2.out.cell e6
  have z7 := D2.out.cell e7
  have z8 := D2.out.cell e8
  have z9 := D2.out.cell e9
  have z10 := D2.out.cell e10
  have z11 := D2.out.cell e11
  have z12 := D2.out.cell e12
  have z13 := D2.out.cell e13
  have z14 := D2.out.cell e14
  have z15 := D2.out.cell e15
  have z16 := D2.out.cell e16
  have z17 := D2.out.cell e17
  have z18 := D2.out.cell e18
  go_wp2_with (first | (go_at_call 84; refine (NB.out _).mono ?_; rintro e w' ⟨rfl, rfl⟩) | (go_at_call 70; refine (CB.out _).mono ?_; rintro e w' ⟨rfl, rfl⟩) | fail)
  go_ret
  exact ⟨A2, n2, c2, rfl, by rw [HE.out]; exact D2.out.nm, (Grw.of_below HB.out).trans D2.out.gr⟩
set_option maxRecDepth 20000 in
set_option maxHeartbeats 3200000 in
theorem own_3 {w : World} {B : Nat} {A : Option Addr} {n c : Nat} {l : List ByteArray} {a3 : Int} {nm cl : ByteArray} {i x y : Ex} {i0 i1 i2 i3 i4 x0 x1 x2 x3 x4 y0 y1 y2 y3 y4 : Value} {BA : Option Addr} {bn bc : Nat} {EA : Option Addr} {en ec : Nat} (cs : Array Value) (hcs : cs = #[.int .i64 3, .int .i64 a3, .string nm, .string cl, i0, i1, i2, i3, i4, x0, x1, x2, x3, x4, y0, y1, y2, y3, y4, .slice BA bn bc, .slice EA en ec])
    (hi : exP (Lo B) w i [i0, i1, i2, i3, i4]) (hx : exP (Lo B) w x [x0, x1, x2, x3, x4]) (hy : exP (Lo B) w y [y0, y1, y2, y3, y4]) (hN : Nm w B A n c l) (hn : n + (1 + (lv i + lv x + lv y)) ≤ 3000000) (hB : B ≤ w.heap.size) :
    Calls Try.prog 71 #[.slice A n c, .agg cs] w (NmA w B A (ownN l ⟨3, a3, nm, cl, i, x, y⟩)) := by
  have hb := below_new w (.cells cs 122)
  have D0 := Lib.hid (⟨hN.keep hb, Grw.refl _ _, heap_alloc_new w (.cells cs 122), fun b hb h => by have := (hN.lt b hb).2; omega, Nat.le_trans hB hb.size⟩ : Wy (w.alloc (.cells cs 122)) (w.alloc (.cells cs 122)) B w.heap.size cs A A n c l)
  have XI := Lib.hid (exP_keep hb hi)
  have XX := Lib.hid (exP_keep hb hx)
  have XY := Lib.hid (exP_keep hb hy)
  have AP := Lib.hid hN.apart
  have LN := Lib.hid hN.len
  have HB := Lib.hid hb
  have NB := Lib.hid (fun w => named_b (k := 3) (b := true) rfl w)
  have CB := Lib.hid (fun w => celled_b (k := 3) (b := true) rfl w)
  have HE : Hid (ownN l ⟨3, a3, nm, cl, i, x, y⟩ = (exN (exN (exN (addN l nm) i) x) y)) := Lib.hid (by rfl)
  have HCS := Lib.hid hcs
  clear hb hi hx hy hN hcs
  go_enter Try.func71, Try.ntmps71
  go_upto_region 1 with fail
  obtain ⟨W, hW⟩ : ∃ W, w.alloc (.cells cs 122) = W := ⟨_, rfl⟩
  rw [hW] at D0 XI XX XY HB
  try rw [hW]
  clear hW
  have e0 : cs[0]? = some (.int .i64 3) := by rw [HCS.out]; rfl
  have e2 : cs[2]? = some (.string nm) := by rw [HCS.out]; rfl
  have e4 : cs[4]? = some i0 := by rw [HCS.out]; rfl
  have e5 : cs[5]? = some i1 := by rw [HCS.out]; rfl
  have e6 : cs[6]? = some i2 := by rw [HCS.out]; rfl
  have e7 : cs[7]? = some i3 := by rw [HCS.out]; rfl
  have e8 : cs[8]? = some i4 := by rw [HCS.out]; rfl
  have e9 : cs[9]? = some x0 := by rw [HCS.out]; rfl
  have e10 : cs[10]? = some x1 := by rw [HCS.out]; rfl
  have e11 : cs[11]? = some x2 := by rw [HCS.out]; rfl
  have e12 : cs[12]? = some x3 := by rw [HCS.out]; rfl
  have e13 : cs[13]? = some x4 := by rw [HCS.out]; rfl
  have e14 : cs[14]? = some y0 := by rw [HCS.out]; rfl
  have e15 : cs[15]? = some y1 := by rw [HCS.out]; rfl
  have e16 : cs[16]? = some y2 := by rw [HCS.out]; rfl
  have e17 : cs[17]? = some y3 := by rw [HCS.out]; rfl
  have e18 : cs[18]? = some y4 := by rw [HCS.out]; rfl
  have E := Lib.hid (And.intro e0 (And.intro e2 (And.intro e4 (And.intro e5 (And.intro e6 (And.intro e7 (And.intro e8 (And.intro e9 (And.intro e10 (And.intro e11 (And.intro e12 (And.intro e13 (And.intro e14 (And.intro e15 (And.intro e16 (And.intro e17 e18))))))))))))))))
  clear e0 e2 e4 e5 e6 e7 e8 e9 e10 e11 e12 e13 e14 e15 e16 e17 e18 HCS
  obtain ⟨e0, e2, e4, e5, e6, e7, e8, e9, e10, e11, e12, e13, e14, e15, e16, e17, e18⟩ := E.out
  have hs0 := D0.out.hB
  have z0 := D0.out.cell e0
  have z2 := D0.out.cell e2
  have z4 := D0.out.cell e4
  have z5 := D0.out.cell e5
  have z6 := D0.out.cell e6
  have z7 := D0.out.cell e7
  have z8 := D0.out.cell e8
  have z9 := D0.out.cell e9
  have z10 := D0.out.cell e10
  have z11 := D0.out.cell e11
  have z12 := D0.out.cell e12
  have z13 := D0.out.cell e13
  have z14 := D0.out.cell e14
  have z15 := D0.out.cell e15
  have z16 := D0.out.cell e16
  have z17 := D0.out.cell e17
  have z18 := D0.out.cell e18
  go_wp2_with (first | (go_at_call 84; refine (NB.out _).mono ?_; rintro e w' ⟨rfl, rfl⟩) | (go_at_call 70; refine (CB.out _).mono ?_; rintro e w' ⟨rfl, rfl⟩) | fail)
  refine (add_any nm D0.out.nm (by have := LN.out; omega) D0.out.hB).mono ?_
  rintro e w1 ⟨A1, n1, c1, rfl, hn1, hg1⟩
  have D1 := Lib.hid (D0.out.step hn1 hg1)
  have LL1 : Hid ((addN l nm).length ≤ l.length + (1)) := Lib.hid (by have := (addN_len l nm).2; omega)
  clear hn1 hg1 z0 z2 z4 z5 z6 z7 z8 z9 z10 z11 z12 z13 z14 z15 z16 z17 z18
  have z0 := D1.out.cell e0
  have z2 := D1.out.cell e2
  have z4 := D1.out.cell e4
  have z5 := D1.out.cell e5
  have z6 := D1.out.cell e6
  have z7 := D1.out.cell e7
  have z8 := D1.out.cell e8
  have z9 := D1.out.cell e9
  have z10 := D1.out.cell e10
  have z11 := D1.out.cell e11
  have z12 := D1.out.cell e12
  have z13 := D1.out.cell e13
  have z14 := D1.out.cell e14
  have z15 := D1.out.cell e15
  have z16 := D1.out.cell e16
  have z17 := D1.out.cell e17
  have z18 := D1.out.cell e18
  go_wp2_with (first | (go_at_call 84; refine (NB.out _).mono ?_; rintro e w' ⟨rfl, rfl⟩) | (go_at_call 70; refine (CB.out _).mono ?_; rintro e w' ⟨rfl, rfl⟩) | fail)
  refine (ex_any i (D1.out.exP AP.out XI.out) D1.out.nm (by have := D1.out.nm.len; have := LN.out; have := LL1.out; omega) D1.out.hB).mono ?_
  rintro e w2 ⟨A2, n2, c2, rfl, hn2, hg2⟩
  have D2 := Lib.hid (D1.out.step hn2 hg2)
  have LL2 : Hid ((exN (addN l nm) i).length ≤ l.length + (1 + lv i)) := Lib.hid (by have := (exN_len i (addN l nm)).2; have := LN.out; have := LL1.out; omega)
  clear hn2 hg2 z0 z2 z4 z5 z6 z7 z8 z9 z10 z11 z12 z13 z14 z15 z16 z17 z18
  have z0 := D2.out.cell e0
  have z2 := D2.out.cell e2
  have z4 := D2.out.cell e4
  have z5 := D2.out.cell e5
  have z6 := D2.out.cell e6
  have z7 := D2.out.cell e7
  have z8 := D2.out.cell e8
  have z9 := D2.out.cell e9
  have z10 := D2.out.cell e10
  have z11 := D2.out.cell e11
  have z12 := D2.out.cell e12
  have z13 := D2.out.cell e13
  have z14 := D2.out.cell e14
  have z15 := D2.out.cell e15
  have z16 := D2.out.cell e16
  have z17 := D2.out.cell e17
  have z18 := D2.out.cell e18
  go_wp2_with (first | (go_at_call 84; refine (NB.out _).mono ?_; rintro e w' ⟨rfl, rfl⟩) | (go_at_call 70; refine (CB.out _).mono ?_; rintro e w' ⟨rfl, rfl⟩) | fail)
  refine (ex_any x (D2.out.exP AP.out XX.out) D2.out.nm (by have := D2.out.nm.len; have := LN.out; have := LL2.out; omega) D2.out.hB).mono ?_
  rintro e w3 ⟨A3, n3, c3, rfl, hn3, hg3⟩
  have D3 := Lib.hid (D2.out.step hn3 hg3)
  have LL3 : Hid ((exN (exN (addN l nm) i) x).length ≤ l.length + (1 + lv i + lv x)) := Lib.hid (by have := (exN_len x (exN (addN l nm) i)).2; have := LN.out; have := LL2.out; omega)
  clear hn3 hg3 z0 z2 z4 z5 z6 z7 z8 z9 z10 z11 z12 z13 z14 z15 z16 z17 z18
  have z0 := D3.out.cell e0
  have z2 := D3.out.cell e2
  have z4 := D3.out.cell e4
  have z5 := D3.out.cell e5
  have z6 := D3.out.cell e6
  have z7 := D3.out.cell e7
  have z8 := D3.out.cell e8
  have z9 := D3.out.cell e9
  have z10 := D3.out.cell e10
  have z11 := D3.out.cell e11
  have z12 := D3.out.cell e12
  have z13 := D3.out.cell e13
  have z14 := D3.out.cell e14
  have z15 := D3.out.cell e15
  have z16 := D3.out.cell e16
  have z17 := D3.out.cell e17
  have z18 := D3.out.cell e18
  go_wp2_with (first | (go_at_call 84; refine (NB.out _).mono ?_; rintro e w' ⟨rfl, rfl⟩) | (go_at_call 70; refine (CB.out _).mono ?_; rintro e w' ⟨rfl, rfl⟩) | fail)
  refine (ex_any y (D3.out.exP AP.out XY.out) D3.out.nm (by have := D3.out.nm.len; have := LN.out; have := LL3.out; omega) D3.out.hB).mono ?_
  rintro e w4 ⟨A4, n4, c4, rfl, hn4, hg4⟩
  have D4 := Lib.hid (D3.out.step hn4 hg4)
  have LL4 : Hid ((exN (exN (exN (addN l nm) i) x) y).length ≤ l.length + (1 + lv i + lv x + lv y)) := Lib.hid (by have := (exN_len y (exN (exN (addN l nm) i) x)).2; have := LN.out; have := LL3.out; omega)
  clear hn4 hg4 z0 z2 z4 z5 z6 z7 z8 z9 z10 z11 z12 z13 z14 z15 z16 z17 z18
  have z0 := D4.out.cell e0
  have z2 := D4.out.cell e2
  have z4 := D4.out.cell e4
  have z5 := D4.out.cell e5
  have z6 := D4.out.cell e6
  have z7 := D4.out.cell e7
  have z8 := D4.out.cell e8
  have z9 := D4.out.cell e9
  have z10 := D4.out.cell e10
  have z11 := D4.out.cell e11
  have z12 := D4.out.cell e12
  have z13 := D4.out.cell e13
  have z14 := D4.out.cell e14
  have z15 := D4.out.cell e15
  have z16 := D4.out.cell e16
  have z17 := D4.out.cell e17
  have z18 := D4.out.cell e18
  go_wp2_with (first | (go_at_call 84; refine (NB.out _).mono ?_; rintro e w' ⟨rfl, rfl⟩) | (go_at_call 70; refine (CB.out _).mono ?_; rintro e w' ⟨rfl, rfl⟩) | fail)
  go_ret
  exact ⟨A4, n4, c4, rfl, by rw [HE.out]; exact D4.out.nm, (Grw.of_below HB.out).trans D4.out.gr⟩
set_option maxRecDepth 20000 in
set_option maxHeartbeats 3200000 in
theorem own_4 {w : World} {B : Nat} {A : Option Addr} {n c : Nat} {l : List ByteArray} {a3 : Int} {nm cl : ByteArray} {i x y : Ex} {i0 i1 i2 i3 i4 x0 x1 x2 x3 x4 y0 y1 y2 y3 y4 : Value} {BA : Option Addr} {bn bc : Nat} {EA : Option Addr} {en ec : Nat} (cs : Array Value) (hcs : cs = #[.int .i64 4, .int .i64 a3, .string nm, .string cl, i0, i1, i2, i3, i4, x0, x1, x2, x3, x4, y0, y1, y2, y3, y4, .slice BA bn bc, .slice EA en ec])
    (hi : exP (Lo B) w i [i0, i1, i2, i3, i4]) (hx : exP (Lo B) w x [x0, x1, x2, x3, x4]) (hy : exP (Lo B) w y [y0, y1, y2, y3, y4]) (hN : Nm w B A n c l) (hn : n + (1 + (lv i + lv x + lv y)) ≤ 3000000) (hB : B ≤ w.heap.size) :
    Calls Try.prog 71 #[.slice A n c, .agg cs] w (NmA w B A (ownN l ⟨4, a3, nm, cl, i, x, y⟩)) := by
  have hb := below_new w (.cells cs 122)
  have D0 := Lib.hid (⟨hN.keep hb, Grw.refl _ _, heap_alloc_new w (.cells cs 122), fun b hb h => by have := (hN.lt b hb).2; omega, Nat.le_trans hB hb.size⟩ : Wy (w.alloc (.cells cs 122)) (w.alloc (.cells cs 122)) B w.heap.size cs A A n c l)
  have XI := Lib.hid (exP_keep hb hi)
  have XX := Lib.hid (exP_keep hb hx)
  have XY := Lib.hid (exP_keep hb hy)
  have AP := Lib.hid hN.apart
  have LN := Lib.hid hN.len
  have HB := Lib.hid hb
  have NB := Lib.hid (fun w => named_b (k := 4) (b := false) rfl w)
  have CB := Lib.hid (fun w => celled_b (k := 4) (b := false) rfl w)
  have HE : Hid (ownN l ⟨4, a3, nm, cl, i, x, y⟩ = l) := Lib.hid (by rfl)
  have HCS := Lib.hid hcs
  clear hb hi hx hy hN hcs
  go_enter Try.func71, Try.ntmps71
  go_upto_region 1 with fail
  obtain ⟨W, hW⟩ : ∃ W, w.alloc (.cells cs 122) = W := ⟨_, rfl⟩
  rw [hW] at D0 XI XX XY HB
  try rw [hW]
  clear hW
  have e0 : cs[0]? = some (.int .i64 4) := by rw [HCS.out]; rfl
  have e2 : cs[2]? = some (.string nm) := by rw [HCS.out]; rfl
  have e4 : cs[4]? = some i0 := by rw [HCS.out]; rfl
  have e5 : cs[5]? = some i1 := by rw [HCS.out]; rfl
  have e6 : cs[6]? = some i2 := by rw [HCS.out]; rfl
  have e7 : cs[7]? = some i3 := by rw [HCS.out]; rfl
  have e8 : cs[8]? = some i4 := by rw [HCS.out]; rfl
  have e9 : cs[9]? = some x0 := by rw [HCS.out]; rfl
  have e10 : cs[10]? = some x1 := by rw [HCS.out]; rfl
  have e11 : cs[11]? = some x2 := by rw [HCS.out]; rfl
  have e12 : cs[12]? = some x3 := by rw [HCS.out]; rfl
  have e13 : cs[13]? = some x4 := by rw [HCS.out]; rfl
  have e14 : cs[14]? = some y0 := by rw [HCS.out]; rfl
  have e15 : cs[15]? = some y1 := by rw [HCS.out]; rfl
  have e16 : cs[16]? = some y2 := by rw [HCS.out]; rfl
  have e17 : cs[17]? = some y3 := by rw [HCS.out]; rfl
  have e18 : cs[18]? = some y4 := by rw [HCS.out]; rfl
  have E := Lib.hid (And.intro e0 (And.intro e2 (And.intro e4 (And.intro e5 (And.intro e6 (And.intro e7 (And.intro e8 (And.intro e9 (And.intro e10 (And.intro e11 (And.intro e12 (And.intro e13 (And.intro e14 (And.intro e15 (And.intro e16 (And.intro e17 e18))))))))))))))))
  clear e0 e2 e4 e5 e6 e7 e8 e9 e10 e11 e12 e13 e14 e15 e16 e17 e18 HCS
  obtain ⟨e0, e2, e4, e5, e6, e7, e8, e9, e10, e11, e12, e13, e14, e15, e16, e17, e18⟩ := E.out
  have hs0 := D0.out.hB
  have z0 := D0.out.cell e0
  have z2 := D0.out.cell e2
  have z4 := D0.out.cell e4
  have z5 := D0.out.cell e5
  have z6 := D0.out.cell e6
  have z7 := D0.out.cell e7
  have z8 := D0.out.cell e8
  have z9 := D0.out.cell e9
  have z10 := D0.out.cell e10
  have z11 := D0.out.cell e11
  have z12 := D0.out.cell e12
  have z13 := D0.out.cell e13
  have z14 := D0.out.cell e14
  have z15 := D0.out.cell e15
  have z16 := D0.out.cell e16
  have z17 := D0.out.cell e17
  have z18 := D0.out.cell e18
  go_wp2_with (first | (go_at_call 84; refine (NB.out _).mono ?_; rintro e w' ⟨rfl, rfl⟩) | (go_at_call 70; refine (CB.out _).mono ?_; rintro e w' ⟨rfl, rfl⟩) | fail)
  go_ret
  exact ⟨A, n, c, rfl, by rw [HE.out]; exact D0.out.nm, (Grw.of_below HB.out).trans D0.out.gr⟩
set_option maxRecDepth 20000 in
set_option maxHeartbeats 3200000 in
theorem own_5 {w : World} {B : Nat} {A : Option Addr} {n c : Nat} {l : List ByteArray} {a3 : Int} {nm cl : ByteArray} {i x y : Ex} {i0 i1 i2 i3 i4 x0 x1 x2 x3 x4 y0 y1 y2 y3 y4 : Value} {BA : Option Addr} {bn bc : Nat} {EA : Option Addr} {en ec : Nat} (cs : Array Value) (hcs : cs = #[.int .i64 5, .int .i64 a3, .string nm, .string cl, i0, i1, i2, i3, i4, x0, x1, x2, x3, x4, y0, y1, y2, y3, y4, .slice BA bn bc, .slice EA en ec])
    (hi : exP (Lo B) w i [i0, i1, i2, i3, i4]) (hx : exP (Lo B) w x [x0, x1, x2, x3, x4]) (hy : exP (Lo B) w y [y0, y1, y2, y3, y4]) (hN : Nm w B A n c l) (hn : n + (1 + (lv i + lv x + lv y)) ≤ 3000000) (hB : B ≤ w.heap.size) :
    Calls Try.prog 71 #[.slice A n c, .agg cs] w (NmA w B A (ownN l ⟨5, a3, nm, cl, i, x, y⟩)) := by
  have hb := below_new w (.cells cs 122)
  have D0 := Lib.hid (⟨hN.keep hb, Grw.refl _ _, heap_alloc_new w (.cells cs 122), fun b hb h => by have := (hN.lt b hb).2; omega, Nat.le_trans hB hb.size⟩ : Wy (w.alloc (.cells cs 122)) (w.alloc (.cells cs 122)) B w.heap.size cs A A n c l)
  have XI := Lib.hid (exP_keep hb hi)
  have XX := Lib.hid (exP_keep hb hx)
  have XY := Lib.hid (exP_keep hb hy)
  have AP := Lib.hid hN.apart
  have LN := Lib.hid hN.len
  have HB := Lib.hid hb
  have NB := Lib.hid (fun w => named_b (k := 5) (b := false) rfl w)
  have CB := Lib.hid (fun w => celled_b (k := 5) (b := false) rfl w)
  have HE : Hid (ownN l ⟨5, a3, nm, cl, i, x, y⟩ = (exN l x)) := Lib.hid (by rfl)
  have HCS := Lib.hid hcs
  clear hb hi hx hy hN hcs
  go_enter Try.func71, Try.ntmps71
  go_upto_region 1 with fail
  obtain ⟨W, hW⟩ : ∃ W, w.alloc (.cells cs 122) = W := ⟨_, rfl⟩
  rw [hW] at D0 XI XX XY HB
  try rw [hW]
  clear hW
  have e0 : cs[0]? = some (.int .i64 5) := by rw [HCS.out]; rfl
  have e2 : cs[2]? = some (.string nm) := by rw [HCS.out]; rfl
  have e4 : cs[4]? = some i0 := by rw [HCS.out]; rfl
  have e5 : cs[5]? = some i1 := by rw [HCS.out]; rfl
  have e6 : cs[6]? = some i2 := by rw [HCS.out]; rfl
  have e7 : cs[7]? = some i3 := by rw [HCS.out]; rfl
  have e8 : cs[8]? = some i4 := by rw [HCS.out]; rfl
  have e9 : cs[9]? = some x0 := by rw [HCS.out]; rfl
  have e10 : cs[10]? = some x1 := by rw [HCS.out]; rfl
  have e11 : cs[11]? = some x2 := by rw [HCS.out]; rfl
  have e12 : cs[12]? = some x3 := by rw [HCS.out]; rfl
  have e13 : cs[13]? = some x4 := by rw [HCS.out]; rfl
  have e14 : cs[14]? = some y0 := by rw [HCS.out]; rfl
  have e15 : cs[15]? = some y1 := by rw [HCS.out]; rfl
  have e16 : cs[16]? = some y2 := by rw [HCS.out]; rfl
  have e17 : cs[17]? = some y3 := by rw [HCS.out]; rfl
  have e18 : cs[18]? = some y4 := by rw [HCS.out]; rfl
  have E := Lib.hid (And.intro e0 (And.intro e2 (And.intro e4 (And.intro e5 (And.intro e6 (And.intro e7 (And.intro e8 (And.intro e9 (And.intro e10 (And.intro e11 (And.intro e12 (And.intro e13 (And.intro e14 (And.intro e15 (And.intro e16 (And.intro e17 e18))))))))))))))))
  clear e0 e2 e4 e5 e6 e7 e8 e9 e10 e11 e12 e13 e14 e15 e16 e17 e18 HCS
  obtain ⟨e0, e2, e4, e5, e6, e7, e8, e9, e10, e11, e12, e13, e14, e15, e16, e17, e18⟩ := E.out
  have hs0 := D0.out.hB
  have z0 := D0.out.cell e0
  have z2 := D0.out.cell e2
  have z4 := D0.out.cell e4
  have z5 := D0.out.cell e5
  have z6 := D0.out.cell e6
  have z7 := D0.out.cell e7
  have z8 := D0.out.cell e8
  have z9 := D0.out.cell e9
  have z10 := D0.out.cell e10
  have z11 := D0.out.cell e11
  have z12 := D0.out.cell e12
  have z13 := D0.out.cell e13
  have z14 := D0.out.cell e14
  have z15 := D0.out.cell e15
  have z16 := D0.out.cell e16
  have z17 := D0.out.cell e17
  have z18 := D0.out.cell e18
  go_wp2_with (first | (go_at_call 84; refine (NB.out _).mono ?_; rintro e w' ⟨rfl, rfl⟩) | (go_at_call 70; refine (CB.out _).mono ?_; rintro e w' ⟨rfl, rfl⟩) | fail)
  refine (ex_any x (D0.out.exP AP.out XX.out) D0.out.nm (by omega) D0.out.hB).mono ?_
  rintro e w1 ⟨A1, n1, c1, rfl, hn1, hg1⟩
  have D1 := Lib.hid (D0.out.step hn1 hg1)
  have LL1 : Hid ((exN l x).length ≤ l.length + (lv x)) := Lib.hid (by have := (exN_len x l).2; omega)
  clear hn1 hg1 z0 z2 z4 z5 z6 z7 z8 z9 z10 z11 z12 z13 z14 z15 z16 z17 z18
  have z0 := D1.out.cell e0
  have z2 := D1.out.cell e2
  have z4 := D1.out.cell e4
  have z5 := D1.out.cell e5
  have z6 := D1.out.cell e6
  have z7 := D1.out.cell e7
  have z8 := D1.out.cell e8
  have z9 := D1.out.cell e9
  have z10 := D1.out.cell e10
  have z11 := D1.out.cell e11
  have z12 := D1.out.cell e12
  have z13 := D1.out.cell e13
  have z14 := D1.out.cell e14
  have z15 := D1.out.cell e15
  have z16 := D1.out.cell e16
  have z17 := D1.out.cell e17
  have z18 := D1.out.cell e18
  go_wp2_with (first | (go_at_call 84; refine (NB.out _).mono ?_; rintro e w' ⟨rfl, rfl⟩) | (go_at_call 70; refine (CB.out _).mono ?_; rintro e w' ⟨rfl, rfl⟩) | fail)
  go_ret
  exact ⟨A1, n1, c1, rfl, by rw [HE.out]; exact D1.out.nm, (Grw.of_below HB.out).trans D1.out.gr⟩
set_option maxRecDepth 20000 in
set_option maxHeartbeats 3200000 in
theorem own_6 {w : World} {B : Nat} {A : Option Addr} {n c : Nat} {l : List ByteArray} {a3 : Int} {nm cl : ByteArray} {i x y : Ex} {i0 i1 i2 i3 i4 x0 x1 x2 x3 x4 y0 y1 y2 y3 y4 : Value} {BA : Option Addr} {bn bc : Nat} {EA : Option Addr} {en ec : Nat} (cs : Array Value) (hcs : cs = #[.int .i64 6, .int .i64 a3, .string nm, .string cl, i0, i1, i2, i3, i4, x0, x1, x2, x3, x4, y0, y1, y2, y3, y4, .slice BA bn bc, .slice EA en ec])
    (hi : exP (Lo B) w i [i0, i1, i2, i3, i4]) (hx : exP (Lo B) w x [x0, x1, x2, x3, x4]) (hy : exP (Lo B) w y [y0, y1, y2, y3, y4]) (hN : Nm w B A n c l) (hn : n + (1 + (lv i + lv x + lv y)) ≤ 3000000) (hB : B ≤ w.heap.size) :
    Calls Try.prog 71 #[.slice A n c, .agg cs] w (NmA w B A (ownN l ⟨6, a3, nm, cl, i, x, y⟩)) := by
  have hb := below_new w (.cells cs 122)
  have D0 := Lib.hid (⟨hN.keep hb, Grw.refl _ _, heap_alloc_new w (.cells cs 122), fun b hb h => by have := (hN.lt b hb).2; omega, Nat.le_trans hB hb.size⟩ : Wy (w.alloc (.cells cs 122)) (w.alloc (.cells cs 122)) B w.heap.size cs A A n c l)
  have XI := Lib.hid (exP_keep hb hi)
  have XX := Lib.hid (exP_keep hb hx)
  have XY := Lib.hid (exP_keep hb hy)
  have AP := Lib.hid hN.apart
  have LN := Lib.hid hN.len
  have HB := Lib.hid hb
  have NB := Lib.hid (fun w => named_b (k := 6) (b := false) rfl w)
  have CB := Lib.hid (fun w => celled_b (k := 6) (b := false) rfl w)
  have HE : Hid (ownN l ⟨6, a3, nm, cl, i, x, y⟩ = (exN l x)) := Lib.hid (by rfl)
  have HCS := Lib.hid hcs
  clear hb hi hx hy hN hcs
  go_enter Try.func71, Try.ntmps71
  go_upto_region 1 with fail
  obtain ⟨W, hW⟩ : ∃ W, w.alloc (.cells cs 122) = W := ⟨_, rfl⟩
  rw [hW] at D0 XI XX XY HB
  try rw [hW]
  clear hW
  have e0 : cs[0]? = some (.int .i64 6) := by rw [HCS.out]; rfl
  have e2 : cs[2]? = some (.string nm) := by rw [HCS.out]; rfl
  have e4 : cs[4]? = some i0 := by rw [HCS.out]; rfl
  have e5 : cs[5]? = some i1 := by rw [HCS.out]; rfl
  have e6 : cs[6]? = some i2 := by rw [HCS.out]; rfl
  have e7 : cs[7]? = some i3 := by rw [HCS.out]; rfl
  have e8 : cs[8]? = some i4 := by rw [HCS.out]; rfl
  have e9 : cs[9]? = some x0 := by rw [HCS.out]; rfl
  have e10 : cs[10]? = some x1 := by rw [HCS.out]; rfl
  have e11 : cs[11]? = some x2 := by rw [HCS.out]; rfl
  have e12 : cs[12]? = some x3 := by rw [HCS.out]; rfl
  have e13 : cs[13]? = some x4 := by rw [HCS.out]; rfl
  have e14 : cs[14]? = some y0 := by rw [HCS.out]; rfl
  have e15 : cs[15]? = some y1 := by rw [HCS.out]; rfl
  have e16 : cs[16]? = some y2 := by rw [HCS.out]; rfl
  have e17 : cs[17]? = some y3 := by rw [HCS.out]; rfl
  have e18 : cs[18]? = some y4 := by rw [HCS.out]; rfl
  have E := Lib.hid (And.intro e0 (And.intro e2 (And.intro e4 (And.intro e5 (And.intro e6 (And.intro e7 (And.intro e8 (And.intro e9 (And.intro e10 (And.intro e11 (And.intro e12 (And.intro e13 (And.intro e14 (And.intro e15 (And.intro e16 (And.intro e17 e18))))))))))))))))
  clear e0 e2 e4 e5 e6 e7 e8 e9 e10 e11 e12 e13 e14 e15 e16 e17 e18 HCS
  obtain ⟨e0, e2, e4, e5, e6, e7, e8, e9, e10, e11, e12, e13, e14, e15, e16, e17, e18⟩ := E.out
  have hs0 := D0.out.hB
  have z0 := D0.out.cell e0
  have z2 := D0.out.cell e2
  have z4 := D0.out.cell e4
  have z5 := D0.out.cell e5
  have z6 := D0.out.cell e6
  have z7 := D0.out.cell e7
  have z8 := D0.out.cell e8
  have z9 := D0.out.cell e9
  have z10 := D0.out.cell e10
  have z11 := D0.out.cell e11
  have z12 := D0.out.cell e12
  have z13 := D0.out.cell e13
  have z14 := D0.out.cell e14
  have z15 := D0.out.cell e15
  have z16 := D0.out.cell e16
  have z17 := D0.out.cell e17
  have z18 := D0.out.cell e18
  go_wp2_with (first | (go_at_call 84; refine (NB.out _).mono ?_; rintro e w' ⟨rfl, rfl⟩) | (go_at_call 70; refine (CB.out _).mono ?_; rintro e w' ⟨rfl, rfl⟩) | fail)
  refine (ex_any x (D0.out.exP AP.out XX.out) D0.out.nm (by omega) D0.out.hB).mono ?_
  rintro e w1 ⟨A1, n1, c1, rfl, hn1, hg1⟩
  have D1 := Lib.hid (D0.out.step hn1 hg1)
  have LL1 : Hid ((exN l x).length ≤ l.length + (lv x)) := Lib.hid (by have := (exN_len x l).2; omega)
  clear hn1 hg1 z0 z2 z4 z5 z6 z7 z8 z9 z10 z11 z12 z13 z14 z15 z16 z17 z18
  have z0 := D1.out.cell e0
  have z2 := D1.out.cell e2
  have z4 := D1.out.cell e4
  have z5 := D1.out.cell e5
  have z6 := D1.out.cell e6
  have z7 := D1.out.cell e7
  have z8 := D1.out.cell e8
  have z9 := D1.out.cell e9
  have z10 := D1.out.cell e10
  have z11 := D1.out.cell e11
  have z12 := D1.out.cell e12
  have z13 := D1.out.cell e13
  have z14 := D1.out.cell e14
  have z15 := D1.out.cell e15
  have z16 := D1.out.cell e16
  have z17 := D1.out.cell e17
  have z18 := D1.out.cell e18
  go_wp2_with (first | (go_at_call 84; refine (NB.out _).mono ?_; rintro e w' ⟨rfl, rfl⟩) | (go_at_call 70; refine (CB.out _).mono ?_; rintro e w' ⟨rfl, rfl⟩) | fail)
  go_ret
  exact ⟨A1, n1, c1, rfl, by rw [HE.out]; exact D1.out.nm, (Grw.of_below HB.out).trans D1.out.gr⟩
set_option maxRecDepth 20000 in
set_option maxHeartbeats 3200000 in
theorem own_7 {w : World} {B : Nat} {A : Option Addr} {n c : Nat} {l : List ByteArray} {a3 : Int} {nm cl : ByteArray} {i x y : Ex} {i0 i1 i2 i3 i4 x0 x1 x2 x3 x4 y0 y1 y2 y3 y4 : Value} {BA : Option Addr} {bn bc : Nat} {EA : Option Addr} {en ec : Nat} (cs : Array Value) (hcs : cs = #[.int .i64 7, .int .i64 a3, .string nm, .string cl, i0, i1, i2, i3, i4, x0, x1, x2, x3, x4, y0, y1, y2, y3, y4, .slice BA bn bc, .slice EA en ec])
    (hi : exP (Lo B) w i [i0, i1, i2, i3, i4]) (hx : exP (Lo B) w x [x0, x1, x2, x3, x4]) (hy : exP (Lo B) w y [y0, y1, y2, y3, y4]) (hN : Nm w B A n c l) (hn : n + (1 + (lv i + lv x + lv y)) ≤ 3000000) (hB : B ≤ w.heap.size) :
    Calls Try.prog 71 #[.slice A n c, .agg cs] w (NmA w B A (ownN l ⟨7, a3, nm, cl, i, x, y⟩)) := by
  have hb := below_new w (.cells cs 122)
  have D0 := Lib.hid (⟨hN.keep hb, Grw.refl _ _, heap_alloc_new w (.cells cs 122), fun b hb h => by have := (hN.lt b hb).2; omega, Nat.le_trans hB hb.size⟩ : Wy (w.alloc (.cells cs 122)) (w.alloc (.cells cs 122)) B w.heap.size cs A A n c l)
  have XI := Lib.hid (exP_keep hb hi)
  have XX := Lib.hid (exP_keep hb hx)
  have XY := Lib.hid (exP_keep hb hy)
  have AP := Lib.hid hN.apart
  have LN := Lib.hid hN.len
  have HB := Lib.hid hb
  have NB := Lib.hid (fun w => named_b (k := 7) (b := false) rfl w)
  have CB := Lib.hid (fun w => celled_b (k := 7) (b := false) rfl w)
  have HE : Hid (ownN l ⟨7, a3, nm, cl, i, x, y⟩ = (exN l x)) := Lib.hid (by rfl)
  have HCS := Lib.hid hcs
  clear hb hi hx hy hN hcs
  go_enter Try.func71, Try.ntmps71
  go_upto_region 1 with fail
  obtain ⟨W, hW⟩ : ∃ W, w.alloc (.cells cs 122) = W := ⟨_, rfl⟩
  rw [hW] at D0 XI XX XY HB
  try rw [hW]
  clear hW
  have e0 : cs[0]? = some (.int .i64 7) := by rw [HCS.out]; rfl
  have e2 : cs[2]? = some (.string nm) := by rw [HCS.out]; rfl
  have e4 : cs[4]? = some i0 := by rw [HCS.out]; rfl
  have e5 : cs[5]? = some i1 := by rw [HCS.out]; rfl
  have e6 : cs[6]? = some i2 := by rw [HCS.out]; rfl
  have e7 : cs[7]? = some i3 := by rw [HCS.out]; rfl
  have e8 : cs[8]? = some i4 := by rw [HCS.out]; rfl
  have e9 : cs[9]? = some x0 := by rw [HCS.out]; rfl
  have e10 : cs[10]? = some x1 := by rw [HCS.out]; rfl
  have e11 : cs[11]? = some x2 := by rw [HCS.out]; rfl
  have e12 : cs[12]? = some x3 := by rw [HCS.out]; rfl
  have e13 : cs[13]? = some x4 := by rw [HCS.out]; rfl
  have e14 : cs[14]? = some y0 := by rw [HCS.out]; rfl
  have e15 : cs[15]? = some y1 := by rw [HCS.out]; rfl
  have e16 : cs[16]? = some y2 := by rw [HCS.out]; rfl
  have e17 : cs[17]? = some y3 := by rw [HCS.out]; rfl
  have e18 : cs[18]? = some y4 := by rw [HCS.out]; rfl
  have E := Lib.hid (And.intro e0 (And.intro e2 (And.intro e4 (And.intro e5 (And.intro e6 (And.intro e7 (And.intro e8 (And.intro e9 (And.intro e10 (And.intro e11 (And.intro e12 (And.intro e13 (And.intro e14 (And.intro e15 (And.intro e16 (And.intro e17 e18))))))))))))))))
  clear e0 e2 e4 e5 e6 e7 e8 e9 e10 e11 e12 e13 e14 e15 e16 e17 e18 HCS
  obtain ⟨e0, e2, e4, e5, e6, e7, e8, e9, e10, e11, e12, e13, e14, e15, e16, e17, e18⟩ := E.out
  have hs0 := D0.out.hB
  have z0 := D0.out.cell e0
  have z2 := D0.out.cell e2
  have z4 := D0.out.cell e4
  have z5 := D0.out.cell e5
  have z6 := D0.out.cell e6
  have z7 := D0.out.cell e7
  have z8 := D0.out.cell e8
  have z9 := D0.out.cell e9
  have z10 := D0.out.cell e10
  have z11 := D0.out.cell e11
  have z12 := D0.out.cell e12
  have z13 := D0.out.cell e13
  have z14 := D0.out.cell e14
  have z15 := D0.out.cell e15
  have z16 := D0.out.cell e16
  have z17 := D0.out.cell e17
  have z18 := D0.out.cell e18
  go_wp2_with (first | (go_at_call 84; refine (NB.out _).mono ?_; rintro e w' ⟨rfl, rfl⟩) | (go_at_call 70; refine (CB.out _).mono ?_; rintro e w' ⟨rfl, rfl⟩) | fail)
  refine (ex_any x (D0.out.exP AP.out XX.out) D0.out.nm (by omega) D0.out.hB).mono ?_
  rintro e w1 ⟨A1, n1, c1, rfl, hn1, hg1⟩
  have D1 := Lib.hid (D0.out.step hn1 hg1)
  have LL1 : Hid ((exN l x).length ≤ l.length + (lv x)) := Lib.hid (by have := (exN_len x l).2; omega)
  clear hn1 hg1 z0 z2 z4 z5 z6 z7 z8 z9 z10 z11 z12 z13 z14 z15 z16 z17 z18
  have z0 := D1.out.cell e0
  have z2 := D1.out.cell e2
  have z4 := D1.out.cell e4
  have z5 := D1.out.cell e5
  have z6 := D1.out.cell e6
  have z7 := D1.out.cell e7
  have z8 := D1.out.cell e8
  have z9 := D1.out.cell e9
  have z10 := D1.out.cell e10
  have z11 := D1.out.cell e11
  have z12 := D1.out.cell e12
  have z13 := D1.out.cell e13
  have z14 := D1.out.cell e14
  have z15 := D1.out.cell e15
  have z16 := D1.out.cell e16
  have z17 := D1.out.cell e17
  have z18 := D1.out.cell e18
  go_wp2_with (first | (go_at_call 84; refine (NB.out _).mono ?_; rintro e w' ⟨rfl, rfl⟩) | (go_at_call 70; refine (CB.out _).mono ?_; rintro e w' ⟨rfl, rfl⟩) | fail)
  go_ret
  exact ⟨A1, n1, c1, rfl, by rw [HE.out]; exact D1.out.nm, (Grw.of_below HB.out).trans D1.out.gr⟩
set_option maxRecDepth 20000 in
set_option maxHeartbeats 3200000 in
theorem own_lo {w : World} {B : Nat} {A : Option Addr} {n c : Nat} {l : List ByteArray} {k a3 : Int} {nm cl : ByteArray} {i x y : Ex} {i0 i1 i2 i3 i4 x0 x1 x2 x3 x4 y0 y1 y2 y3 y4 : Value} {BA : Option Addr} {bn bc : Nat} {EA : Option Addr} {en ec : Nat} (cs : Array Value) (hcs : cs = #[.int .i64 k, .int .i64 a3, .string nm, .string cl, i0, i1, i2, i3, i4, x0, x1, x2, x3, x4, y0, y1, y2, y3, y4, .slice BA bn bc, .slice EA en ec])
    (hi : exP (Lo B) w i [i0, i1, i2, i3, i4]) (hx : exP (Lo B) w x [x0, x1, x2, x3, x4]) (hy : exP (Lo B) w y [y0, y1, y2, y3, y4]) (hN : Nm w B A n c l) (hn : n + (1 + (lv i + lv x + lv y)) ≤ 3000000) (hB : B ≤ w.heap.size) (h0 : (k == 0) = false) (h1 : (k == 1) = false) (h2 : (k == 2) = false) (h3 : (k == 3) = false) (h4 : (k == 4) = false) (h5 : (k == 5) = false) (h6 : (k == 6) = false) (h7 : (k == 7) = false) (hk : decide (5 ≤ k) = false) :
    Calls Try.prog 71 #[.slice A n c, .agg cs] w (NmA w B A (ownN l ⟨k, a3, nm, cl, i, x, y⟩)) := by
  have hb := below_new w (.cells cs 122)
  have D0 := Lib.hid (⟨hN.keep hb, Grw.refl _ _, heap_alloc_new w (.cells cs 122), fun b hb h => by have := (hN.lt b hb).2; omega, Nat.le_trans hB hb.size⟩ : Wy (w.alloc (.cells cs 122)) (w.alloc (.cells cs 122)) B w.heap.size cs A A n c l)
  have XI := Lib.hid (exP_keep hb hi)
  have XX := Lib.hid (exP_keep hb hx)
  have XY := Lib.hid (exP_keep hb hy)
  have AP := Lib.hid hN.apart
  have LN := Lib.hid hN.len
  have HB := Lib.hid hb
  have NB := Lib.hid (fun w => named_b (k := k) (b := false) (by simp [isNamed, h0, h1, h3]) w)
  have CB := Lib.hid (fun w => celled_b (k := k) (b := false) (by simp [isCelled, h1, h2, h3]) w)
  have HE : Hid (ownN l ⟨k, a3, nm, cl, i, x, y⟩ = l) := Lib.hid (by unfold ownN; simp only [isNamed, isCelled, isXd, h0, h1, h2, h3, h5, h6, h7, Bool.or_self, Bool.false_eq_true, if_false]; rw [if_neg (by simpa using h3)])
  have HCS := Lib.hid hcs
  clear hb hi hx hy hN hcs
  go_enter Try.func71, Try.ntmps71
  go_upto_region 1 with fail
  obtain ⟨W, hW⟩ : ∃ W, w.alloc (.cells cs 122) = W := ⟨_, rfl⟩
  rw [hW] at D0 XI XX XY HB
  try rw [hW]
  clear hW
  have e0 : cs[0]? = some (.int .i64 k) := by rw [HCS.out]; rfl
  have e2 : cs[2]? = some (.string nm) := by rw [HCS.out]; rfl
  have e4 : cs[4]? = some i0 := by rw [HCS.out]; rfl
  have e5 : cs[5]? = some i1 := by rw [HCS.out]; rfl
  have e6 : cs[6]? = some i2 := by rw [HCS.out]; rfl
  have e7 : cs[7]? = some i3 := by rw [HCS.out]; rfl
  have e8 : cs[8]? = some i4 := by rw [HCS.out]; rfl
  have e9 : cs[9]? = some x0 := by rw [HCS.out]; rfl
  have e10 : cs[10]? = some x1 := by rw [HCS.out]; rfl
  have e11 : cs[11]? = some x2 := by rw [HCS.out]; rfl
  have e12 : cs[12]? = some x3 := by rw [HCS.out]; rfl
  have e13 : cs[13]? = some x4 := by rw [HCS.out]; rfl
  have e14 : cs[14]? = some y0 := by rw [HCS.out]; rfl
  have e15 : cs[15]? = some y1 := by rw [HCS.out]; rfl
  have e16 : cs[16]? = some y2 := by rw [HCS.out]; rfl
  have e17 : cs[17]? = some y3 := by rw [HCS.out]; rfl
  have e18 : cs[18]? = some y4 := by rw [HCS.out]; rfl
  have E := Lib.hid (And.intro e0 (And.intro e2 (And.intro e4 (And.intro e5 (And.intro e6 (And.intro e7 (And.intro e8 (And.intro e9 (And.intro e10 (And.intro e11 (And.intro e12 (And.intro e13 (And.intro e14 (And.intro e15 (And.intro e16 (And.intro e17 e18))))))))))))))))
  clear e0 e2 e4 e5 e6 e7 e8 e9 e10 e11 e12 e13 e14 e15 e16 e17 e18 HCS
  obtain ⟨e0, e2, e4, e5, e6, e7, e8, e9, e10, e11, e12, e13, e14, e15, e16, e17, e18⟩ := E.out
  have hs0 := D0.out.hB
  have z0 := D0.out.cell e0
  have z2 := D0.out.cell e2
  have z4 := D0.out.cell e4
  have z5 := D0.out.cell e5
  have z6 := D0.out.cell e6
  have z7 := D0.out.cell e7
  have z8 := D0.out.cell e8
  have z9 := D0.out.cell e9
  have z10 := D0.out.cell e10
  have z11 := D0.out.cell e11
  have z12 := D0.out.cell e12
  have z13 := D0.out.cell e13
  have z14 := D0.out.cell e14
  have z15 := D0.out.cell e15
  have z16 := D0.out.cell e16
  have z17 := D0.out.cell e17
  have z18 := D0.out.cell e18
  go_wp2_with (first | (go_at_call 84; refine (NB.out _).mono ?_; rintro e w' ⟨rfl, rfl⟩) | (go_at_call 70; refine (CB.out _).mono ?_; rintro e w' ⟨rfl, rfl⟩) | fail)
  go_ret
  exact ⟨A, n, c, rfl, by rw [HE.out]; exact D0.out.nm, (Grw.of_below HB.out).trans D0.out.gr⟩
set_option maxRecDepth 20000 in
set_option maxHeartbeats 3200000 in
theorem own_hi {w : World} {B : Nat} {A : Option Addr} {n c : Nat} {l : List ByteArray} {k a3 : Int} {nm cl : ByteArray} {i x y : Ex} {i0 i1 i2 i3 i4 x0 x1 x2 x3 x4 y0 y1 y2 y3 y4 : Value} {BA : Option Addr} {bn bc : Nat} {EA : Option Addr} {en ec : Nat} (cs : Array Value) (hcs : cs = #[.int .i64 k, .int .i64 a3, .string nm, .string cl, i0, i1, i2, i3, i4, x0, x1, x2, x3, x4, y0, y1, y2, y3, y4, .slice BA bn bc, .slice EA en ec])
    (hi : exP (Lo B) w i [i0, i1, i2, i3, i4]) (hx : exP (Lo B) w x [x0, x1, x2, x3, x4]) (hy : exP (Lo B) w y [y0, y1, y2, y3, y4]) (hN : Nm w B A n c l) (hn : n + (1 + (lv i + lv x + lv y)) ≤ 3000000) (hB : B ≤ w.heap.size) (h0 : (k == 0) = false) (h1 : (k == 1) = false) (h2 : (k == 2) = false) (h3 : (k == 3) = false) (h4 : (k == 4) = false) (h5 : (k == 5) = false) (h6 : (k == 6) = false) (h7 : (k == 7) = false) (hk : decide (5 ≤ k) = true) (hk7 : decide (k ≤ 7) = false) :
    Calls Try.prog 71 #[.slice A n c, .agg cs] w (NmA w B A (ownN l ⟨k, a3, nm, cl, i, x, y⟩)) := by
  have hb := below_new w (.cells cs 122)
  have D0 := Lib.hid (⟨hN.keep hb, Grw.refl _ _, heap_alloc_new w (.cells cs 122), fun b hb h => by have := (hN.lt b hb).2; omega, Nat.le_trans hB hb.size⟩ : Wy (w.alloc (.cells cs 122)) (w.alloc (.cells cs 122)) B w.heap.size cs A A n c l)
  have XI := Lib.hid (exP_keep hb hi)
  have XX := Lib.hid (exP_keep hb hx)
  have XY := Lib.hid (exP_keep hb hy)
  have AP := Lib.hid hN.apart
  have LN := Lib.hid hN.len
  have HB := Lib.hid hb
  have NB := Lib.hid (fun w => named_b (k := k) (b := false) (by simp [isNamed, h0, h1, h3]) w)
  have CB := Lib.hid (fun w => celled_b (k := k) (b := false) (by simp [isCelled, h1, h2, h3]) w)
  have HE : Hid (ownN l ⟨k, a3, nm, cl, i, x, y⟩ = l) := Lib.hid (by unfold ownN; simp only [isNamed, isCelled, isXd, h0, h1, h2, h3, h5, h6, h7, Bool.or_self, Bool.false_eq_true, if_false]; rw [if_neg (by simpa using h3)])
  have HCS := Lib.hid hcs
  clear hb hi hx hy hN hcs
  go_enter Try.func71, Try.ntmps71
  go_upto_region 1 with fail
  obtain ⟨W, hW⟩ : ∃ W, w.alloc (.cells cs 122) = W := ⟨_, rfl⟩
  rw [hW] at D0 XI XX XY HB
  try rw [hW]
  clear hW
  have e0 : cs[0]? = some (.int .i64 k) := by rw [HCS.out]; rfl
  have e2 : cs[2]? = some (.string nm) := by rw [HCS.out]; rfl
  have e4 : cs[4]? = some i0 := by rw [HCS.out]; rfl
  have e5 : cs[5]? = some i1 := by rw [HCS.out]; rfl
  have e6 : cs[6]? = some i2 := by rw [HCS.out]; rfl
  have e7 : cs[7]? = some i3 := by rw [HCS.out]; rfl
  have e8 : cs[8]? = some i4 := by rw [HCS.out]; rfl
  have e9 : cs[9]? = some x0 := by rw [HCS.out]; rfl
  have e10 : cs[10]? = some x1 := by rw [HCS.out]; rfl
  have e11 : cs[11]? = some x2 := by rw [HCS.out]; rfl
  have e12 : cs[12]? = some x3 := by rw [HCS.out]; rfl
  have e13 : cs[13]? = some x4 := by rw [HCS.out]; rfl
  have e14 : cs[14]? = some y0 := by rw [HCS.out]; rfl
  have e15 : cs[15]? = some y1 := by rw [HCS.out]; rfl
  have e16 : cs[16]? = some y2 := by rw [HCS.out]; rfl
  have e17 : cs[17]? = some y3 := by rw [HCS.out]; rfl
  have e18 : cs[18]? = some y4 := by rw [HCS.out]; rfl
  have E := Lib.hid (And.intro e0 (And.intro e2 (And.intro e4 (And.intro e5 (And.intro e6 (And.intro e7 (And.intro e8 (And.intro e9 (And.intro e10 (And.intro e11 (And.intro e12 (And.intro e13 (And.intro e14 (And.intro e15 (And.intro e16 (And.intro e17 e18))))))))))))))))
  clear e0 e2 e4 e5 e6 e7 e8 e9 e10 e11 e12 e13 e14 e15 e16 e17 e18 HCS
  obtain ⟨e0, e2, e4, e5, e6, e7, e8, e9, e10, e11, e12, e13, e14, e15, e16, e17, e18⟩ := E.out
  have hs0 := D0.out.hB
  have z0 := D0.out.cell e0
  have z2 := D0.out.cell e2
  have z4 := D0.out.cell e4
  have z5 := D0.out.cell e5
  have z6 := D0.out.cell e6
  have z7 := D0.out.cell e7
  have z8 := D0.out.cell e8
  have z9 := D0.out.cell e9
  have z10 := D0.out.cell e10
  have z11 := D0.out.cell e11
  have z12 := D0.out.cell e12
  have z13 := D0.out.cell e13
  have z14 := D0.out.cell e14
  have z15 := D0.out.cell e15
  have z16 := D0.out.cell e16
  have z17 := D0.out.cell e17
  have z18 := D0.out.cell e18
  go_wp2_with (first | (go_at_call 84; refine (NB.out _).mono ?_; rintro e w' ⟨rfl, rfl⟩) | (go_at_call 70; refine (CB.out _).mono ?_; rintro e w' ⟨rfl, rfl⟩) | fail)
  go_ret
  exact ⟨A, n, c, rfl, by rw [HE.out]; exact D0.out.nm, (Grw.of_below HB.out).trans D0.out.gr⟩
theorem own_any {w : World} {B : Nat} {A : Option Addr} {n c : Nat} {l : List ByteArray} {h : Hd} {b1 b2 : Bd} {vs : List Value} (hs : StP (Lo B) w h b1 b2 vs) (hN : Nm w B A n c l) (hn : n + (1 + (lv h.i + lv h.x + lv h.y)) ≤ 3000000) (hB : B ≤ w.heap.size) :
    Calls Try.prog 71 #[.slice A n c, .agg vs.toArray] w (NmA w B A (ownN l h)) := by
  obtain ⟨vi, vx, vy, BA, bn, bc, EA, en, ec, rfl, hi, hx, hy, -⟩ := hs
  obtain ⟨i0, i1, i2, i3, i4, rfl⟩ := Fr.len5 (exP_len hi)
  obtain ⟨x0, x1, x2, x3, x4, rfl⟩ := Fr.len5 (exP_len hx)
  obtain ⟨y0, y1, y2, y3, y4, rfl⟩ := Fr.len5 (exP_len hy)
  obtain ⟨k, a3, nm, cl, i, x, y⟩ := h
  dsimp only at hi hx hy hn ⊢
  have hcs : (stVs ⟨k, a3, nm, cl, i, x, y⟩ [i0, i1, i2, i3, i4] [x0, x1, x2, x3, x4] [y0, y1, y2, y3, y4] BA bn bc EA en ec).toArray = #[.int .i64 k, .int .i64 a3, .string nm, .string cl, i0, i1, i2, i3, i4, x0, x1, x2, x3, x4, y0, y1, y2, y3, y4, .slice BA bn bc, .slice EA en ec] := rfl
  generalize (stVs ⟨k, a3, nm, cl, i, x, y⟩ [i0, i1, i2, i3, i4] [x0, x1, x2, x3, x4] [y0, y1, y2, y3, y4] BA bn bc EA en ec).toArray = cs at *
  by_cases h0 : k = 0
  · subst h0
    exact own_0 cs hcs hi hx hy hN hn hB
  by_cases h1 : k = 1
  · subst h1
    exact own_1 cs hcs hi hx hy hN hn hB
  by_cases h2 : k = 2
  · subst h2
    exact own_2 cs hcs hi hx hy hN hn hB
  by_cases h3 : k = 3
  · subst h3
    exact own_3 cs hcs hi hx hy hN hn hB
  by_cases h4 : k = 4
  · subst h4
    exact own_4 cs hcs hi hx hy hN hn hB
  by_cases h5 : k = 5
  · subst h5
    exact own_5 cs hcs hi hx hy hN hn hB
  by_cases h6 : k = 6
  · subst h6
    exact own_6 cs hcs hi hx hy hN hn hB
  by_cases h7 : k = 7
  · subst h7
    exact own_7 cs hcs hi hx hy hN hn hB
  by_cases h5' : 5 ≤ k
  · exact own_hi cs hcs hi hx hy hN hn hB (by simpa using h0) (by simpa using h1) (by simpa using h2) (by simpa using h3) (by simpa using h4) (by simpa using h5) (by simpa using h6) (by simpa using h7) (decide_eq_true h5') (decide_eq_false (by omega))
  · exact own_lo cs hcs hi hx hy hN hn hB (by simpa using h0) (by simpa using h1) (by simpa using h2) (by simpa using h3) (by simpa using h4) (by simpa using h5) (by simpa using h6) (by simpa using h7) (decide_eq_false h5')
end Go.Proofs.Ytapnnbbbgopobaa.Fr
