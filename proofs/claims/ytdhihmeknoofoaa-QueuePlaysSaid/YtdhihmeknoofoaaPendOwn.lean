/-
  WALKS: pending writes: how the arguments are opened, rows of writes that a call makes.
-/
import Derived.Test.YtdhihmeknoofoaaPendLast
import Derived.Test.YtdhihmeknoofoaaOwn2
import Derived.Test.YtdhihmeknoofoaaQueueTexts
import Derived.Test.YtdhihmeknoofoaaHeld
namespace Go.Proofs.Ytdhihmeknoofoaa.PnO
set_option linter.unusedVariables false
set_option linter.unusedSimpArgs false
open Go.RowKit Go.WideShapes Go.ChangeShapes Cm Mm Ow Ow2 Pnd PnW PnL

theorem elW : El Try.prog 50 53 3 24 := by
  obtain ⟨i, h1, h2, h3, h4⟩ := info_parts (P := Try.prog) (e := 53) (z := .agg #[.int .i64 0, .int .u64 0, .bool false]) (size := 3) (bytes := 24) (by kernel_rfl)
  exact ⟨Try.underlying50, ⟨i, _, h1, h2, h3, h4, rfl⟩, by decide⟩
theorem wr_one (s : Wr) : ∀ u ∈ wrL s, u.oneCell' = true := fun u hu => by
  simp only [wrL, List.mem_cons, List.mem_nil_iff, or_false] at hu
  rcases hu with rfl | rfl | rfl <;> rfl
theorem wr_each (s : Wr) : ∀ y ∈ [wrL s], y.length = 3 := by intro y hy; simp at hy; subst hy; rfl
theorem wr_ones (s : Wr) : ∀ y ∈ [wrL s], ∀ u ∈ y, u.oneCell' = true := by intro y hy u hu; simp at hy; subst hy; exact wr_one s u hu
theorem isW_own {w : World} {B : Nat} {A : Option Addr} {n c : Nat} {l : List Wr} (h : Own w B 53 3 A n c (l.map wrL)) : IsW w A n c l := by
  have hl : l.length = n := by simpa using h.len
  refine ⟨hl, h.sl.ext fun i hi => ?_⟩
  simp [List.getD, show i < l.length by omega]
theorem range_map (l : List Wr) : (List.range l.length).map (fun i => wrL (l.getD i zeroWr)) = l.map wrL := by
  refine List.ext_getElem (by simp) (fun i h1 h2 => ?_)
  simp only [List.length_map] at h2
  simp [List.getD, h2]
theorem own_same {w w' : World} {base : Nat} {e : TypeId} {sz : Nat} {A : Option Addr} {n cap : Nat} {L : List (List Value)} (h : Own w base e sz A n cap L) (hs : ∀ g, A.map (·.block) = some g → w'.heap[g]? = w.heap[g]?) : Own w' base e sz A n cap L := by
  refine ⟨h.len, h.each, ?_⟩
  obtain ⟨h1, h2⟩ := h.row
  refine ⟨h1, ?_⟩
  rcases h2 with h2 | ⟨g, c, cur, e1, e2, e3, e4⟩
  · exact .inl h2
  · refine .inr ⟨g, c, cur, e1, e2, ?_, e4⟩
    rw [hs g (by injection e1 with e1; subst e1; rfl)]
    exact e3
theorem own_head {w : World} {base : Nat} {e : TypeId} {sz : Nat} {A : Option Addr} {n cap : Nat} {L : List (List Value)} (h : Own w base e sz A n cap L) (hn : 0 < n) : ∃ g, A = some ⟨g, 0, none⟩ := by
  rcases h.row.2 with ⟨h1, h2⟩ | ⟨g, c, cur, h1, _⟩
  · have := h.len; have := h.each; 
    injection h1 with h1 h2 h3
    omega
  · injection h1 with e1; exact ⟨g, e1⟩

theorem and_1023 (p : Int) : 0 ≤ bits .and .i64 p 1023 ∧ bits .and .i64 p 1023 ≤ 1023 := by
  have h : bits .and .i64 p 1023 = IntKind.i64.wrap ((BitVec.ofInt 64 p &&& 1023#64).toNat : Int) := rfl
  rw [h, IntKind.wrap_i64, BitVec.toNat_and]
  have : (BitVec.ofInt 64 p).toNat &&& (1023#64).toNat ≤ 1023 := Nat.and_le_right
  omega

set_option maxRecDepth 100000 in
theorem open_writes {H : Type} {enc : TypeId × Value → H} {w : World} {v : Value} {d : DataW H} {p : List MemPlace} {r : Reach} {b0 : Nat}
    (h : DataW.Trod enc Try.prog w 0 (fun _ => true) true 50 v d p) (hok : Value.okWide Try.prog w r b0 50 v) :
    ∃ A n cap, ∃ l : List Wr, v = .slice A n cap ∧ IsW w A n cap l := by
  obtain ⟨a0, len, cap0, rfl⟩ := okWide_slice Try.underlying50 hok
  obtain ⟨fuel, hf⟩ := h
  obtain ⟨A, n, cap, l, hcs, hl, hsl, hk, _⟩ := open_sl (α := Wr) zeroWr wrL (fun _ => True) 3 Try.underlying50 (by kernel_rfl) (by decide) (fun m cs y hy => by
    obtain ⟨hlen, hg⟩ := struct_cells Try.underlying53 (by kernel_rfl) (by kernel_rfl) hy
    match cs, hlen with
    | [u0, u1, u2], _ =>
      obtain ⟨_, _, g0⟩ := hg 0 _ rfl
      obtain ⟨_, _, g1⟩ := hg 1 _ rfl
      obtain ⟨_, _, g2⟩ := hg 2 _ rfl
      obtain ⟨z0, e0, _, h0⟩ := DataW.trod_int Try.underlying3 g0
      obtain ⟨z1, e1, _, h1⟩ := DataW.trod_int Try.underlying29 g1
      obtain ⟨z2, e2, _⟩ := DataW.trod_bool Try.underlying4 g2
      simp at e0 e1 e2
      subst e0 e1 e2
      exact ⟨⟨z0, z1, z2⟩, rfl, trivial⟩) hf
  have hcs' : [Value.slice a0 len cap0] = [Value.slice A n cap] := hcs
  injection hcs' with hcs'
  exact ⟨A, n, cap, l, hcs', hl, hsl⟩
set_option maxRecDepth 100000 in
theorem open_ints {H : Type} {enc : TypeId × Value → H} {w : World} {v : Value} {d : DataW H} {p : List MemPlace} {r : Reach} {b0 : Nat}
    (h : DataW.Trod enc Try.prog w 0 (fun _ => true) true 33 v d p) (hok : Value.okWide Try.prog w r b0 33 v) :
    ∃ A n cap, ∃ l : List Int, v = .slice A n cap ∧ l.length = n ∧ Sl w A n cap 1 (fun i => [.int .i64 (l.getD i 0)]) := by
  obtain ⟨a0, len, cap0, rfl⟩ := okWide_slice Try.underlying33 hok
  obtain ⟨fuel, hf⟩ := h
  obtain ⟨A, n, cap, l, hcs, hl, hsl, hk, _⟩ := open_sl (α := Int) 0 (fun z => [.int .i64 z]) (fun _ => True) 1 Try.underlying33 (by kernel_rfl) (by decide) (fun m cs y hy => by
    obtain ⟨z0, e0, _, h0⟩ := DataW.trod_int Try.underlying3 hy
    exact ⟨z0, e0, trivial⟩) hf
  have hcs' : [Value.slice a0 len cap0] = [Value.slice A n cap] := hcs
  injection hcs' with hcs'
  exact ⟨A, n, cap, l, hcs', hl, hsl⟩
theorem int_cell {w : World} {A : Option Addr} {n cap : Nat} {l : List Int} (h : Sl w A n cap 1 (fun i => [.int .i64 (l.getD i 0)])) {k : Nat} (hk : k < n) : ∃ b o, A = some ⟨b, o, none⟩ ∧ w.cell? ⟨b, o + k, none⟩ = some (.int .i64 (l.getD k 0)) := by
  obtain ⟨b, o, e, _, hc⟩ := h.at_ (by omega)
  exact ⟨b, o, e, by simpa using hc k hk 0 (by omega)⟩
end Go.Proofs.Ytdhihmeknoofoaa.PnO
