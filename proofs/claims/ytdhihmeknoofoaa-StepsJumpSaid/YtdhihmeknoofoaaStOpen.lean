/-
  A CODE AMONG THE ARGUMENTS, opened; the example of chapter 15.
-/
import Derived.Test.YtdhihmeknoofoaaStFlush
namespace Go.Proofs.Ytdhihmeknoofoaa.StO
set_option linter.unusedVariables false
set_option linter.unusedSimpArgs false
open Go.RowKit Go.WideShapes Go.ChangeShapes Cm Mm Ow Stp StW StC StM StF

theorem open_steps {H : Type} {enc : TypeId × Value → H} {w : World} {b : Nat} {sp : Nat → Bool} {hd : Bool} {fuel : Nat} {cs : List Value} {y : DataW H × List MemPlace}
    (h : DataW.trod enc Try.prog w b sp hd fuel 22 cs = some y) : ∃ A n cap l, cs = [.slice A n cap] ∧ IsSt w A n cap l := by
  obtain ⟨A, n, cap, l, hcs, hl, hsl, _, _⟩ := open_sl (α := St) zeroSt stL (fun _ => True) 9 Try.underlying22 (by kernel_rfl) (by decide) (fun m cs y hy => by
    obtain ⟨hlen, hg⟩ := struct_cells Try.underlying31 (by kernel_rfl) (by kernel_rfl) hy
    match cs, hlen with
    | [u0, u1, u2, u3, u4, u5, u6, u7, u8], _ =>
      obtain ⟨_, _, g0⟩ := hg 0 _ rfl
      obtain ⟨_, _, g1⟩ := hg 1 _ rfl
      obtain ⟨_, _, g2⟩ := hg 2 _ rfl
      obtain ⟨_, _, g3⟩ := hg 3 _ rfl
      obtain ⟨_, _, g4⟩ := hg 4 _ rfl
      obtain ⟨_, _, g5⟩ := hg 5 _ rfl
      obtain ⟨_, _, g6⟩ := hg 6 _ rfl
      obtain ⟨_, _, g7⟩ := hg 7 _ rfl
      obtain ⟨_, _, g8⟩ := hg 8 _ rfl
      obtain ⟨z0, e0, _, h0⟩ := DataW.trod_int Try.underlying3 g0
      obtain ⟨z1, e1, _, h1⟩ := DataW.trod_int Try.underlying3 g1
      obtain ⟨z2, e2, _, h2⟩ := DataW.trod_int Try.underlying3 g2
      obtain ⟨z3, e3, _, h3⟩ := DataW.trod_int Try.underlying3 g3
      obtain ⟨z4, e4, _, h4⟩ := DataW.trod_int Try.underlying3 g4
      obtain ⟨z5, e5, _, h5⟩ := DataW.trod_int Try.underlying3 g5
      obtain ⟨z6, e6, _, h6⟩ := DataW.trod_int Try.underlying3 g6
      obtain ⟨z7, e7, _, h7⟩ := DataW.trod_int Try.underlying29 g7
      obtain ⟨z8, e8, _, h8⟩ := DataW.trod_int Try.underlying5 g8
      simp at e0 e1 e2 e3 e4 e5 e6 e7 e8
      subst e0 e1 e2 e3 e4 e5 e6 e7 e8
      exact ⟨⟨z0, z1, z2, z3, z4, z5, z6, z7, z8⟩, rfl, trivial⟩) h
  exact ⟨A, n, cap, l, hcs, hl, hsl⟩
theorem open_cells {H : Type} {enc : TypeId × Value → H} {w : World} {b : Nat} {sp : Nat → Bool} {hd : Bool} {fuel : Nat} {cs : List Value} {y : DataW H × List MemPlace}
    (h : DataW.trod enc Try.prog w b sp hd fuel 24 cs = some y) : ∃ x y A n cap l, cs = [.int .i64 x, .int .i64 y, .slice A n cap] ∧ i64b x ∧ i64b y ∧ IsSt w A n cap l := by
  obtain ⟨hlen, hg⟩ := struct_cells Try.underlying24 (by kernel_rfl) (by kernel_rfl) h
  match cs, hlen with
  | [u0, u1, u2], _ =>
    obtain ⟨_, _, g0⟩ := hg 0 _ rfl
    obtain ⟨_, _, g1⟩ := hg 1 _ rfl
    obtain ⟨_, _, g2⟩ := hg 2 _ rfl
    obtain ⟨z0, e0, _, h0⟩ := DataW.trod_int Try.underlying3 g0
    obtain ⟨z1, e1, _, h1⟩ := DataW.trod_int Try.underlying3 g1
    obtain ⟨A, n, cap, l, e2, hl⟩ := open_steps g2
    simp at e0 e1 e2
    subst e0 e1 e2
    exact ⟨z0, z1, A, n, cap, l, rfl, i64_bounds h0, i64_bounds h1, hl⟩
theorem agg_of {P : Program} {w : World} {r : Reach} {b : Nat} {t : TypeId} {v : Value} {fs : Array Field} (hs : P.underlying t = some (.struct fs)) (hv : Value.okWide P w r b t v) : ∃ l : List Value, v = .agg l.toArray := by
  obtain ⟨cs, rfl, _⟩ := okWide_struct hs hv
  exact ⟨cs.toList, by simp⟩
set_option maxRecDepth 100000 in
theorem open_code {H : Type} {enc : TypeId × Value → H} {w : World} {v : Value} {d : DataW H} {p : List MemPlace} {r : Reach} {b0 : Nat}
    (h : DataW.Trod enc Try.prog w 0 (fun _ => true) true 24 v d p) (hok : Value.okWide Try.prog w r b0 24 v) :
    ∃ x y A n cap l, v = .agg #[.int .i64 x, .int .i64 y, .slice A n cap] ∧ i64b x ∧ i64b y ∧ IsSt w A n cap l := by
  obtain ⟨l', rfl⟩ := agg_of Try.underlying24 hok
  obtain ⟨fuel, hf⟩ := h
  obtain ⟨x, y, A, n, cap, l, e, hx, hy, hl⟩ := open_cells hf
  refine ⟨x, y, A, n, cap, l, ?_, hx, hy, hl⟩
  simp [Value.cells] at e
  subst e
  rfl

/-- one store, before the flush -/
theorem flush_one : flush [⟨4, 0, 0, 0, 0, 0, 0, 0, 0⟩] = [⟨4, 0, 0, 0, 0, 0, 0, 0, 0⟩, fl ⟨4, 0, 0, 0, 0, 0, 0, 0, 0⟩, sy] := by decide
set_option maxHeartbeats 1600000 in
theorem alive_any (w : World) : Calls Try.prog 16 #[] w fun e w' => e = .returned (.bool true) ∧ Below w.heap.size w w' := by
  have hI : IsSt (w.alloc (.cells #[.int .i64 4, .int .i64 0, .int .i64 0, .int .i64 0, .int .i64 0, .int .i64 0, .int .i64 0, .int .u64 0, .int .u8 0] 31)) (some ⟨w.heap.size, 0, none⟩) 1 1 [⟨4, 0, 0, 0, 0, 0, 0, 0, 0⟩] :=
    ⟨rfl, Sl.ext (E := fun _ => stL ⟨4, 0, 0, 0, 0, 0, 0, 0, 0⟩) (sl_one w (stL ⟨4, 0, 0, 0, 0, 0, 0, 0, 0⟩) 31) (fun i hi => by cases i with | zero => rfl | succ i => omega)⟩
  have HI := Lib.hid hI; clear hI
  go_enter Try.func16, Try.ntmps16
  go_wp2_with fail
  refine (fcode_any 0 0 _ 1 1 _ _ HI.out (by omega)).mono ?_
  rintro e w2 ⟨A, m, c, rfl, hown, hb2⟩
  rw [flush_one] at hown
  obtain rfl : m = 3 := by have := hown.len; simp at this; exact this.symm
  have hS := isSt_own hown
  have hB : Below w.heap.size w w2 := (below_al _ _).trans (hb2.mono (by simp))
  clear hown hb2
  obtain ⟨b, o, rfl, hb, _⟩ := hS.cell (k := 0) (by omega)
  have hle := hS.2.le
  have hS := Lib.hid hS
  go_wp2_with fail
  refine (durable_any 0 0 none 0 0 [] _ ⟨rfl, Sl.nil _ _ _⟩ (by omega)).mono ?_
  rintro e w3 ⟨rfl, hb3⟩
  rw [show durT [] = true from rfl]
  have s2 := hS.out.cell (k := 1) (by omega)
  have s3 := hS.out.cell (k := 2) (by omega)
  obtain ⟨_, _, e2, _, p2, _⟩ := s2
  obtain ⟨_, _, e3, _, p3, _⟩ := s3
  simp only [Option.some.injEq, Addr.mk.injEq, and_true] at e2 e3
  obtain ⟨rfl, rfl⟩ := e2
  obtain ⟨rfl, rfl⟩ := e3
  have hb4 : Below w2.heap.size w2 w3 := ((Below.refl _ _).alloc (Nat.le_refl _) _).trans (hb3.mono (by simp))
  rw [← hb4.cell (by exact hb)] at p2 p3
  have q3 : w3.cell? ⟨w2.heap.size, 2, none⟩ = some (.slice (some ⟨b, o, none⟩) 3 c) := by
    rw [hb3.cell (p := ⟨w2.heap.size, 2, none⟩) (by simp)]; simp
  have p2 : w3.cell? ⟨b, o + 1 * 9, none⟩ = some (.int .i64 6) := p2
  have p3 : w3.cell? ⟨b, o + 2 * 9, none⟩ = some (.int .i64 7) := p3
  go_wp2_with fail
  go_ret
  exact ⟨rfl, hB.trans (hb4.mono hB.size)⟩
end Go.Proofs.Ytdhihmeknoofoaa.StO
