/-
  ARGUMENTS OF CHAPTER 21 OPENED: slices of instructions and of ints.
-/
import Derived.Test.YtkohichiojmakaaPatAlive
namespace Go.Proofs.Ytkohichiojmakaa.PatO
set_option linter.unusedVariables false
set_option linter.unusedSimpArgs false
open Go.RowKit Go.WideShapes Go.ChangeShapes Cm Mm Ow A64 A64W A64P Pat InW

set_option maxRecDepth 100000 in
theorem open_ins {H : Type} {enc : TypeId × Value → H} {w : World} {v : Value} {d : DataW H} {p : List MemPlace} {r : Reach} {b0 : Nat}
    (h : DataW.Trod enc Try.prog w 0 (fun _ => true) true 43 v d p) (hok : Value.okWide Try.prog w r b0 43 v) :
    ∃ A n cap, ∃ l : List In, v = .slice A n cap ∧ IsIn w A n cap l ∧ ∀ i, i < n → okIn (l.getD i zeroIn) := by
  obtain ⟨a0, len, cap0, rfl⟩ := okWide_slice Try.underlying43 hok
  obtain ⟨fuel, hf⟩ := h
  obtain ⟨A, n, cap, l, hcs, hl, hsl, hk, _⟩ := open_sl (α := In) zeroIn insL okIn 7 Try.underlying43 (by kernel_rfl) (by decide) (fun m cs y hy => by
    obtain ⟨hlen, hg⟩ := struct_cells Try.underlying45 (by kernel_rfl) (by kernel_rfl) hy
    match cs, hlen with
    | [u0, u1, u2, u3, u4, u5, u6], _ =>
      obtain ⟨_, _, g0⟩ := hg 0 _ rfl
      obtain ⟨_, _, g1⟩ := hg 1 _ rfl
      obtain ⟨_, _, g2⟩ := hg 2 _ rfl
      obtain ⟨_, _, g3⟩ := hg 3 _ rfl
      obtain ⟨_, _, g4⟩ := hg 4 _ rfl
      obtain ⟨_, _, g5⟩ := hg 5 _ rfl
      obtain ⟨_, _, g6⟩ := hg 6 _ rfl
      obtain ⟨z0, e0, _, h0⟩ := DataW.trod_int Try.underlying3 g0
      obtain ⟨z1, e1, _, h1⟩ := DataW.trod_int Try.underlying3 g1
      obtain ⟨z2, e2, _, h2⟩ := DataW.trod_int Try.underlying3 g2
      obtain ⟨z3, e3, _, h3⟩ := DataW.trod_int Try.underlying3 g3
      obtain ⟨z4, e4, _, h4⟩ := DataW.trod_int Try.underlying3 g4
      obtain ⟨z5, e5, _, h5⟩ := DataW.trod_int Try.underlying3 g5
      obtain ⟨z6, e6, _, h6⟩ := DataW.trod_int Try.underlying3 g6
      simp at e0 e1 e2 e3 e4 e5 e6
      subst e0 e1 e2 e3 e4 e5 e6
      exact ⟨⟨z0, z1, z2, z3, z4, z5, z6⟩, rfl, i64_bounds h0, i64_bounds h1, i64_bounds h2, i64_bounds h3, i64_bounds h4, i64_bounds h5, i64_bounds h6⟩) hf
  have hcs' : [Value.slice a0 len cap0] = [Value.slice A n cap] := hcs
  injection hcs' with hcs'
  exact ⟨A, n, cap, l, hcs', ⟨hl, hsl⟩, hk⟩
set_option maxRecDepth 100000 in
theorem open_ints {H : Type} {enc : TypeId × Value → H} {w : World} {v : Value} {d : DataW H} {p : List MemPlace} {r : Reach} {b0 : Nat}
    (h : DataW.Trod enc Try.prog w 0 (fun _ => true) true 25 v d p) (hok : Value.okWide Try.prog w r b0 25 v) :
    ∃ A n cap, ∃ l : List Int, v = .slice A n cap ∧ IsI w A n cap l ∧ ∀ i, i < n → i64b (l.getD i 0) := by
  obtain ⟨a0, len, cap0, rfl⟩ := okWide_slice Try.underlying25 hok
  obtain ⟨fuel, hf⟩ := h
  obtain ⟨A, n, cap, l, hcs, hl, hsl, hk, _⟩ := open_sl (α := Int) 0 (fun z => [.int .i64 z]) i64b 1 Try.underlying25 (by kernel_rfl) (by decide) (fun m cs y hy => by
    obtain ⟨z0, e0, _, h0⟩ := DataW.trod_int Try.underlying3 hy
    exact ⟨z0, e0, i64_bounds h0⟩) hf
  have hcs' : [Value.slice a0 len cap0] = [Value.slice A n cap] := hcs
  injection hcs' with hcs'
  exact ⟨A, n, cap, l, hcs', ⟨hl, hsl⟩, hk⟩
end Go.Proofs.Ytkohichiojmakaa.PatO
