/-
  WALKS: slices of slices of words; slices.Clone; image.Join and the document's Join.
-/
import Derived.Test.YtkohichiojmakaaJoinPlain
import Derived.Test.YtkohichiojmakaaImgRefRight
import Derived.Test.YtkohichiojmakaaImgAlive
import Derived.Test.YtkohichiojmakaaPatWords
import Derived.Lib.SliceRun
namespace Go.Proofs.Ytkohichiojmakaa.ImJ
set_option linter.unusedVariables false
set_option linter.unusedSimpArgs false
open Go.RowKit Go.WideShapes Go.ChangeShapes Cm Mm Ow Ow2 Ow3 A64 A64W A64P Pat InW PatW Img ImC ImR ImQ ImN ImA Jn

structure Row where
  A : Option Addr
  n : Nat
  c : Nat
  l : List (BitVec 32)
def zeroRow : Row := ⟨none, 0, 0, []⟩
def rowL (r : Row) : List Value := [.slice r.A r.n r.c]
def okRow (w : World) (r : Row) : Prop := IsWd w r.A r.n r.c r.l
/-- the slice that holds slices of words -/
def IsRows (w : World) (T : Option Addr) (n cap : Nat) (rs : List Row) : Prop := rs.length = n ∧ Sl w T n cap 1 (fun i => rowL (rs.getD i zeroRow)) ∧ ∀ i, i < n → okRow w (rs.getD i zeroRow)
theorem IsRows.keep {w w' : World} {A : Option Addr} {n cap : Nat} {l : List Row} (h : IsRows w A n cap l) (hb : Below w.heap.size w w') : IsRows w' A n cap l := ⟨h.1, h.2.1.keep hb, fun i hi => (h.2.2 i hi).keep hb⟩
theorem IsRows.cell {w : World} {A : Option Addr} {n cap : Nat} {l : List Row} (h : IsRows w A n cap l) {k : Nat} (hk : k < n) : ∃ b o, A = some ⟨b, o, none⟩ ∧ b < w.heap.size ∧ w.cell? ⟨b, o + k, none⟩ = some (.slice (l.getD k zeroRow).A (l.getD k zeroRow).n (l.getD k zeroRow).c) := by
  obtain ⟨b, o, e, hb, hc⟩ := h.2.1.at_ (by omega)
  exact ⟨b, o, e, hb, by simpa [rowL] using hc k hk 0 (by omega)⟩
def ths (rs : List Row) : List (List (BitVec 32)) := rs.map (·.l)
theorem ths_get (rs : List Row) (k : Nat) : (ths rs).getD k [] = (rs.getD k zeroRow).l := by
  unfold ths
  by_cases h : k < rs.length
  · simp [List.getD, h]
  · simp [List.getD, h, zeroRow]

set_option maxRecDepth 100000 in
theorem open_words0 {H : Type} {enc : TypeId × Value → H} {w : World} {b : Nat} {sp : Nat → Bool} {hd : Bool} {fuel : Nat} {cs : List Value} {y : DataW H × List MemPlace}
    (h : DataW.trod enc Try.prog w b sp hd fuel 22 cs = some y) : ∃ A n cap l, cs = [.slice A n cap] ∧ IsWd w A n cap l := by
  obtain ⟨A, n, cap, l, hcs, hl, hsl, _, _⟩ := open_sl (α := BitVec 32) 0 wvL (fun _ => True) 1 Try.underlying22 (by kernel_rfl) (by decide) (fun m cs y hy => by
    obtain ⟨z0, e0, _, h0⟩ := DataW.trod_int Try.underlying55 hy
    obtain ⟨x, rfl⟩ := w32_word h0
    exact ⟨x, e0, trivial⟩) h
  exact ⟨A, n, cap, l, hcs, hl, hsl⟩
set_option maxRecDepth 100000 in
theorem open_words {H : Type} {enc : TypeId × Value → H} {w : World} {v : Value} {d : DataW H} {p : List MemPlace} {r : Reach} {b0 : Nat}
    (h : DataW.Trod enc Try.prog w 0 (fun _ => true) true 22 v d p) (hok : Value.okWide Try.prog w r b0 22 v) : ∃ A n cap l, v = .slice A n cap ∧ IsWd w A n cap l := by
  obtain ⟨a0, len, cap0, rfl⟩ := okWide_slice Try.underlying22 hok
  obtain ⟨fuel, hf⟩ := h
  obtain ⟨A, n, cap, l, hcs, hI⟩ := open_words0 hf
  have hcs' : [Value.slice a0 len cap0] = [Value.slice A n cap] := hcs
  injection hcs' with hcs'
  exact ⟨A, n, cap, l, hcs', hI⟩
set_option maxRecDepth 100000 in
theorem open_rows {H : Type} {enc : TypeId × Value → H} {w : World} {v : Value} {d : DataW H} {p : List MemPlace} {r : Reach} {b0 : Nat}
    (h : DataW.Trod enc Try.prog w 0 (fun _ => true) true 23 v d p) (hok : Value.okWide Try.prog w r b0 23 v) : ∃ A n cap rs, v = .slice A n cap ∧ IsRows w A n cap rs := by
  obtain ⟨a0, len, cap0, rfl⟩ := okWide_slice Try.underlying23 hok
  obtain ⟨fuel, hf⟩ := h
  obtain ⟨A, n, cap, l, hcs, hl, hsl, hk, _⟩ := open_sl (α := Row) zeroRow rowL (okRow w) 1 Try.underlying23 (by kernel_rfl) (by decide) (fun m cs y hy => by
    obtain ⟨A, n, cap, l, e, hI⟩ := open_words0 hy
    exact ⟨⟨A, n, cap, l⟩, e, hI⟩) hf
  have hcs' : [Value.slice a0 len cap0] = [Value.slice A n cap] := hcs
  injection hcs' with hcs'
  exact ⟨A, n, cap, l, hcs', hl, hsl, hk⟩

theorem wv_range (l : List (BitVec 32)) (n : Nat) (hl : l.length = n) : (List.range n).map (fun i => wvL (l.getD i 0)) = l.map wvL := by
  subst hl
  refine List.ext_getElem (by simp) (fun i h1 h2 => ?_)
  simp only [List.length_map] at h2
  simp [List.getD, h2]
theorem own_lit0 (w : World) (base : Nat) (hb : base ≤ w.heap.size) : Own (w.alloc (.cells #[] 55)) base 55 1 (some ⟨w.heap.size, 0, none⟩) 0 0 [] :=
  ⟨rfl, fun y hy => by simp at hy, World.ownsRow_lit w #[] 0 hb (by unfold maxLen; omega) rfl⟩
theorem isWd_none {w : World} {n c : Nat} {l : List (BitVec 32)} (h : IsWd w none n c l) : n = 0 ∧ l = [] := by
  have : n = 0 := by
    by_cases hn : n = 0
    · exact hn
    · obtain ⟨b, o, e, _⟩ := h.cell (k := 0) (by omega); cases e
  subst this
  exact ⟨rfl, List.length_eq_zero_iff.1 h.1⟩

theorem eql_nil (a : Option Addr) (n c : Nat) (w : World) : (binOp .eql 22 (.slice a n c) (.slice none 0 0)).run Try.prog w = .ok (.bool a.isNone) w :=
  Go.Lib.run_eql_slice_nil w _ _ a n c 0 0 Try.underlying22
attribute [local go_sem] eql_nil
set_option maxHeartbeats 1600000 in
set_option maxRecDepth 20000 in
theorem clone_any (A : Option Addr) (n cap : Nat) (l : List (BitVec 32)) (w : World) (h : IsWd w A n cap l) (hn : n ≤ 65536) :
    Calls Try.prog 38 #[.slice A n cap] w fun e w' => ∃ A' c', e = .returned (.slice A' n c') ∧ Own w' w.heap.size 55 1 A' n c' (l.map wvL) ∧ Below w.heap.size w w' := by
  cases A with
  | none =>
    obtain ⟨rfl, rfl⟩ := isWd_none h
    go_enter Try.func38, Try.ntmps38
    go_wp2_with fail
    go_ret
    exact ⟨none, 0, rfl, Own.nil _ _ _ _, Below.refl _ _⟩
  | some a =>
    have hl := Lib.hid (wv_range l n h.1)
    have B1 : Hid (Below w.heap.size w (w.alloc (.cells #[] 55))) := Lib.hid (below_al _ _)
    have O1 := Lib.hid (own_lit0 w w.heap.size (Nat.le_refl _))
    have HI := Lib.hid (h.keep B1.out)
    clear h
    go_enter Try.func38, Try.ntmps38
    go_wp2_with (at_builtin; refine wpList_app _ rfl _ _ rfl elWd w.heap.size _ 0 0 _ rfl O1.out (some a) n cap (fun i => wvL (l.getD i 0)) rfl HI.out.2 (fun _ _ => rfl) (fun i _ => by intro u hu; simp [wvL] at hu; subst hu; rfl) (by unfold maxLen; omega) (by omega) B1.out.size ?_; intro A2 c2 w2 hown2 hg2 hat2; rw [hl.out, List.nil_append] at hown2; rw [Nat.zero_add] at hown2 ⊢; have HO2 := Lib.hid hown2; have BB2 : Hid (Below w.heap.size w w2) := Lib.hid (B1.out.trans ((Below.refl _ _).grown hg2 B1.out.size (fun k hk => by simp at hk; omega))); clear hown2 hg2 hat2)
    go_ret
    exact ⟨A2, c2, rfl, HO2.out, BB2.out⟩
end Go.Proofs.Ytkohichiojmakaa.ImJ
