/-
  WALK: a64.Decode.
-/
import Derived.Test.YtkohichiojmakaaGEnc
import Derived.Test.YtkohichiojmakaaA64Dec
namespace Go.Proofs.Ytkohichiojmakaa.A64H
set_option linter.unusedVariables false
set_option linter.unusedSimpArgs false
open Go.RowKit Cm Mm Ow A64 Fld FldW A64W A64P A64C A64T A64R A64E A64D

theorem w64_ok (x : Int) : i64b (wrap64 x) := by unfold wrap64 i64b; omega
theorem getF_ok (W : BitVec 32) (x : Bt) : i64b (getF W x) := by
  unfold getF i64b
  have := (get W x.1 x.2).isLt
  omega
theorem sgn_ok {g n : Nat} (hg : g < 4294967296) (hn : n ≤ 32) : i64b (sgn g n) := by
  unfold sgn i64b
  have h2 : 2 ^ n ≤ 2 ^ 32 := Nat.pow_le_pow_right (by decide) hn
  have e : (2 : Int) ^ n = ((2 ^ n : Nat) : Int) := by simp
  have h3 : 0 < 2 ^ n := Nat.two_pow_pos n
  split
  · rw [e]; omega
  · omega
theorem nat_ok {k : Nat} (h : k < 24) : i64b (k : Int) := by unfold i64b; omega
set_option maxRecDepth 100000 in
theorem okIn_dec (k : Nat) (W : BitVec 32) (hk : k < 24) : okIn (decF (form k) k W) := by
  have hg := good_all k hk
  generalize form k = f at *
  simp only [good, inside, Bool.and_eq_true, decide_eq_true_eq] at hg
  obtain ⟨⟨⟨⟨⟨⟨⟨⟨⟨⟨⟨l1, l2⟩, l3⟩, l4⟩, l5⟩, l6⟩, _⟩, _⟩, _⟩, _⟩, _⟩, _⟩ := hg
  have h0 : i64b (decF f (k : Int) W).kind := nat_ok hk
  refine And.intro h0 (And.intro (getF_ok _ _) (And.intro (getF_ok _ _) (And.intro (getF_ok _ _) (And.intro (getF_ok _ _) (And.intro ?_ ?_)))))
  · show i64b (A64.flip f (getF W f.c))
    unfold A64.flip
    split
    · show i64b (IntKind.i64.wrap _)
      rw [IntKind.wrap_i64]
      unfold i64b
      omega
    · exact getF_ok _ _
  · show i64b (getN f W)
    unfold getN
    split
    · exact sgn_ok (get W _ _).isLt (by omega)
    · exact getF_ok _ _
theorem decF_at (f : Fm) (k : Int) (W : BitVec 32) (x : In) (w : World) (hg : good f = true) (hx : decF f k W = x) :
    Calls Try.prog 92 #[.agg #[.int .u32 (f.word.toNat : Int), .int .i64 (f.d.1 : Nat), .int .i64 (f.d.2 : Nat), .int .i64 (f.a.1 : Nat), .int .i64 (f.a.2 : Nat), .int .i64 (f.b.1 : Nat), .int .i64 (f.b.2 : Nat), .int .i64 (f.s.1 : Nat), .int .i64 (f.s.2 : Nat), .int .i64 (f.n.1 : Nat), .int .i64 (f.n.2 : Nat), .int .i64 (f.c.1 : Nat), .int .i64 (f.c.2 : Nat), .bool f.signed, .bool f.turned], .int .i64 k, .int .u32 (W.toNat : Int)] w fun e w' => e = .returned (.agg #[.int .i64 x.kind, .int .i64 x.d, .int .i64 x.a, .int .i64 x.b, .int .i64 x.s, .int .i64 x.c, .int .i64 x.n]) ∧ Below w.heap.size w w' := by
  subst hx; exact decF_any f k W w hg
theorem rightF_at (f : Fm) (x : In) (w : World) (hi : okIn x) (hg : good f = true) :
    Calls Try.prog 70 #[.agg #[.int .u32 (f.word.toNat : Int), .int .i64 (f.d.1 : Nat), .int .i64 (f.d.2 : Nat), .int .i64 (f.a.1 : Nat), .int .i64 (f.a.2 : Nat), .int .i64 (f.b.1 : Nat), .int .i64 (f.b.2 : Nat), .int .i64 (f.s.1 : Nat), .int .i64 (f.s.2 : Nat), .int .i64 (f.n.1 : Nat), .int .i64 (f.n.2 : Nat), .int .i64 (f.c.1 : Nat), .int .i64 (f.c.2 : Nat), .bool f.signed, .bool f.turned], .agg #[.int .i64 x.kind, .int .i64 x.d, .int .i64 x.a, .int .i64 x.b, .int .i64 x.s, .int .i64 x.c, .int .i64 x.n]] w fun e w' => e = .returned (.bool (rightF f x)) ∧ Below w.heap.size w w' := rightF_any f x w hi hg
theorem none_next {W : BitVec 32} {k : Nat} (h : ∀ j, j < k → hit j W = false) (hk : hit k W = false) : ∀ j, j < k + 1 → hit j W = false := fun j hj => by
  by_cases e : j = k
  · subst e; exact hk
  · exact h j (by omega)
theorem kindOf_some {W : BitVec 32} {k : Nat} (hk : k < 24) (h : ∀ j, j < k → hit j W = false) (hh : hit k W = true) : kindOf W = some k := by
  unfold kindOf
  rw [List.find?_range_eq_some]
  exact ⟨hh, List.mem_range.2 hk, fun j hj => by simp [h j hj]⟩
theorem kindOf_none {W : BitVec 32} (h : ∀ j, j < 24 → hit j W = false) : kindOf W = none := by
  unfold kindOf
  rw [List.find?_eq_none]
  intro j hj
  rw [h j (List.mem_range.1 hj)]
  simp

set_option maxRecDepth 20000 in
set_option maxHeartbeats 3200000 in
theorem decode_any (W : BitVec 32) (w : World) :
    Calls Try.prog 68 #[.int .u32 (W.toNat : Int)] w fun e w' => e = .returned (.tuple #[.agg #[.int .i64 (A64.decode W).1.kind, .int .i64 (A64.decode W).1.d, .int .i64 (A64.decode W).1.a, .int .i64 (A64.decode W).1.b, .int .i64 (A64.decode W).1.s, .int .i64 (A64.decode W).1.c, .int .i64 (A64.decode W).1.n], .int .i64 (A64.decode W).2]) ∧ Below w.heap.size w w' := by
  obtain ⟨W1, hW1⟩ : ∃ W1, W1 = w.alloc (.cells #[.int .i64 0, .int .i64 0, .int .i64 0, .int .i64 0, .int .i64 0, .int .i64 0, .int .i64 0] 45) := ⟨_, rfl⟩
  have hB : Below w.heap.size w W1 := by rw [hW1]; exact (Below.refl _ _).alloc (Nat.le_refl _) _
  have hN : Nw w.heap.size W1 := by rw [hW1]; exact heap_alloc_new _ _
  have HW := Lib.hid hW1
  have HN := Lib.hid hN
  clear hW1 hN
  go_enter Try.func68, Try.ntmps68
  go_wp2_with fail
  rw [← HW.out]
  refine (forms_any W1).mono ?_
  rintro e w2 ⟨g, rfl, hge, hgt, hb2⟩
  have HG := Lib.hid hgt
  have hN2 := Lib.hid (HN.out.keep hb2)
  have hB2 := Lib.hid (hB.trans (hb2.mono hB.size))
  have hgl : g < w2.heap.size := (Array.getElem?_eq_some_iff.1 hgt).1
  have hw2 : w.heap.size < w2.heap.size := hN2.out.lt
  clear hgt
  go_wp2_with fail
  go_loopw [9] (fun i wr => ∃ (k : Nat), k ≤ 24 ∧ i = .int .i64 k ∧ Hid (∀ j, j < k → hit j W = false) ∧ Below w2.heap.size w2 wr) (fun i _ => 24 - (intOf i).toNat)
  case atStart => exact ⟨0, by omega, rfl, fun j hj => absurd hj (by omega), Below.refl _ _⟩
  case round =>
    obtain ⟨k, hk, rfl, HH, hbel⟩ := hrel
    have hsz := hbel.size
    by_cases hk24 : k < 24
    · have hf := form_cells ((hbel.block g hgl).trans HG.out) hk24
      have hgd := Lib.hid (good_all k hk24)
      have hox := Lib.hid (okIn_dec k W hk24)
      have hdx : ∃ x, decF (form k) k W = x := ⟨_, rfl⟩
      obtain ⟨x, hx⟩ := hdx
      have hhit : hit k W = (rightF (form k) x && decide (encF (form k) x = W)) := by unfold hit; rw [hx]
      have hks := Lib.hid (kindOf_some (W := W) hk24 HH.out)
      have hdec : kindOf W = some k → A64.decode W = (x, 0) := fun h => by unfold A64.decode; rw [h]; simp only; rw [hx]
      have hdec := Lib.hid hdec
      rw [hx] at hox
      have DX := Lib.hid (fun w => decF_at (form k) k W x w (good_all k hk24) hx)
      have RX := Lib.hid (fun w => rightF_at (form k) x w hox.out (good_all k hk24))
      have EX := Lib.hid (fun w => encF_at (form k) x w (good_all k hk24))
      have HHit := Lib.hid hhit
      clear hx hhit
      generalize form k = f at *
      obtain ⟨f0, f1, f2, f3, f4, f5, f6, f7, f8, f9, f10, f11, f12, f13, f14⟩ := hf
      have i1 : (k : Int) < 24 := by omega
      cases b1 : rightF f x
      · go_wp2_with fail
        refine (DX.out _).mono ?_
        rintro e w3 ⟨rfl, hb3⟩
        have hb3' := ((below_al wr (.cells #[.int .u32 (f.word.toNat : Int), .int .i64 (f.d.1 : Nat), .int .i64 (f.d.2 : Nat), .int .i64 (f.a.1 : Nat), .int .i64 (f.a.2 : Nat), .int .i64 (f.b.1 : Nat), .int .i64 (f.b.2 : Nat), .int .i64 (f.s.1 : Nat), .int .i64 (f.s.2 : Nat), .int .i64 (f.n.1 : Nat), .int .i64 (f.n.2 : Nat), .int .i64 (f.c.1 : Nat), .int .i64 (f.c.2 : Nat), .bool f.signed, .bool f.turned] 150)).trans (hb3.mono (by simp)))
        have hq3 : ∀ o, w3.cell? ⟨wr.heap.size, o, none⟩ = (wr.alloc (.cells #[.int .u32 (f.word.toNat : Int), .int .i64 (f.d.1 : Nat), .int .i64 (f.d.2 : Nat), .int .i64 (f.a.1 : Nat), .int .i64 (f.a.2 : Nat), .int .i64 (f.b.1 : Nat), .int .i64 (f.b.2 : Nat), .int .i64 (f.s.1 : Nat), .int .i64 (f.s.2 : Nat), .int .i64 (f.n.1 : Nat), .int .i64 (f.n.2 : Nat), .int .i64 (f.c.1 : Nat), .int .i64 (f.c.2 : Nat), .bool f.signed, .bool f.turned] 150)).cell? ⟨wr.heap.size, o, none⟩ := fun o => hb3.cell (p := ⟨wr.heap.size, o, none⟩) (by simp)
        have hz3 : wr.heap.size < w3.heap.size := by have := hb3.size; simp at this; omega
        go_wp2_with fail
        refine (RX.out _).mono ?_
        rintro e w4 ⟨rfl, hb4⟩
        rw [b1]
        go_wp2_with fail
        have hn := Lib.hid (none_next HH.out (by rw [HHit.out, b1]; rfl))
        go_roundw
        case rel => exact ⟨k + 1, by omega, by go_num, hn, hbel.trans ((hb3'.trans (((below_al w3 _).trans (hb4.mono (by simp))).mono (by omega))).mono hsz)⟩
        case measure => simp [intOf]; omega
      · go_wp2_with fail
        refine (DX.out _).mono ?_
        rintro e w3 ⟨rfl, hb3⟩
        have hb3' := ((below_al wr (.cells #[.int .u32 (f.word.toNat : Int), .int .i64 (f.d.1 : Nat), .int .i64 (f.d.2 : Nat), .int .i64 (f.a.1 : Nat), .int .i64 (f.a.2 : Nat), .int .i64 (f.b.1 : Nat), .int .i64 (f.b.2 : Nat), .int .i64 (f.s.1 : Nat), .int .i64 (f.s.2 : Nat), .int .i64 (f.n.1 : Nat), .int .i64 (f.n.2 : Nat), .int .i64 (f.c.1 : Nat), .int .i64 (f.c.2 : Nat), .bool f.signed, .bool f.turned] 150)).trans (hb3.mono (by simp)))
        have hq3 : ∀ o, w3.cell? ⟨wr.heap.size, o, none⟩ = (wr.alloc (.cells #[.int .u32 (f.word.toNat : Int), .int .i64 (f.d.1 : Nat), .int .i64 (f.d.2 : Nat), .int .i64 (f.a.1 : Nat), .int .i64 (f.a.2 : Nat), .int .i64 (f.b.1 : Nat), .int .i64 (f.b.2 : Nat), .int .i64 (f.s.1 : Nat), .int .i64 (f.s.2 : Nat), .int .i64 (f.n.1 : Nat), .int .i64 (f.n.2 : Nat), .int .i64 (f.c.1 : Nat), .int .i64 (f.c.2 : Nat), .bool f.signed, .bool f.turned] 150)).cell? ⟨wr.heap.size, o, none⟩ := fun o => hb3.cell (p := ⟨wr.heap.size, o, none⟩) (by simp)
        have hz3 : wr.heap.size < w3.heap.size := by have := hb3.size; simp at this; omega
        go_wp2_with fail
        refine (RX.out _).mono ?_
        rintro e w4 ⟨rfl, hb4⟩
        rw [b1]
        have hb4' := (below_al w3 (.cells #[.int .i64 x.kind, .int .i64 x.d, .int .i64 x.a, .int .i64 x.b, .int .i64 x.s, .int .i64 x.c, .int .i64 x.n] 45)).trans (hb4.mono (by simp))
        have hx4 : ∀ o, w4.cell? ⟨w3.heap.size, o, none⟩ = (w3.alloc (.cells #[.int .i64 x.kind, .int .i64 x.d, .int .i64 x.a, .int .i64 x.b, .int .i64 x.s, .int .i64 x.c, .int .i64 x.n] 45)).cell? ⟨w3.heap.size, o, none⟩ := fun o => hb4.cell (p := ⟨w3.heap.size, o, none⟩) (by simp)
        have hq4 : ∀ o, w4.cell? ⟨wr.heap.size, o, none⟩ = w3.cell? ⟨wr.heap.size, o, none⟩ := fun o => hb4'.cell (p := ⟨wr.heap.size, o, none⟩) hz3
        have hz4 : w3.heap.size < w4.heap.size := by have := hb4.size; simp at this; omega
        have HQ4 := Lib.hid hx4
        have hb5b := Lib.hid (hbel.trans ((hb3'.trans (hb4'.mono (by omega))).mono hsz))
        go_wp2_with fail
        refine (EX.out _).mono ?_
        rintro e w5 ⟨rfl, hb5⟩
        clear hx4 hq4 hq3
        have hx5 : ∀ o, w5.cell? ⟨w3.heap.size, o, none⟩ = (w3.alloc (.cells #[.int .i64 x.kind, .int .i64 x.d, .int .i64 x.a, .int .i64 x.b, .int .i64 x.s, .int .i64 x.c, .int .i64 x.n] 45)).cell? ⟨w3.heap.size, o, none⟩ := fun o => (hb5.cell (p := ⟨w3.heap.size, o, none⟩) hz4).trans (HQ4.out o)
        have hbA := Lib.hid (hb5b.out.trans (hb5.mono hb5b.out.size))
        obtain ⟨⟨z0, z1, z2, z3, z4, z5, z6⟩, z7⟩ := (hN2.out.keep hbA.out).cells
        by_cases he : encF f x = W
        · have he' : (((encF f x).toNat : Int) == (W.toNat : Int)) = true := by rw [he]; simp
          have hd := Lib.hid (hdec.out (hks.out (by rw [HHit.out, b1, decide_eq_true he]; rfl)))
          have hlp : w.heap.size < w3.heap.size := by omega
          have hnp : ¬ (w.heap.size = w3.heap.size) := by omega
          have hnp' : ¬ (w3.heap.size = w.heap.size) := by omega
          clear he
          go_wp2_with fail
          refine bodyPost_ret (v := .tuple #[.agg #[.int .i64 (A64.decode W).1.kind, .int .i64 (A64.decode W).1.d, .int .i64 (A64.decode W).1.a, .int .i64 (A64.decode W).1.b, .int .i64 (A64.decode W).1.s, .int .i64 (A64.decode W).1.c, .int .i64 (A64.decode W).1.n], .int .i64 (A64.decode W).2]) (by rw [hd.out]; simp [results, Try.results68, go_sem, z0, z1, z2, z3, z4, z5, z6]) rfl ⟨rfl, ?_⟩
          have hfin := hB2.out.trans (hbA.out.mono hB2.out.size)
          exact ((((((hfin.setCell (Nat.le_refl _) _).setCell (Nat.le_refl _) _).setCell (Nat.le_refl _) _).setCell (Nat.le_refl _) _).setCell (Nat.le_refl _) _).setCell (Nat.le_refl _) _).setCell (Nat.le_refl _) _
        · have he' : (((encF f x).toNat : Int) == (W.toNat : Int)) = false := by rw [w32_eq, decide_eq_false he]
          have hn := Lib.hid (none_next HH.out (by rw [HHit.out, decide_eq_false he, Bool.and_false]))
          clear he
          go_wp2_with fail
          go_roundw
          case rel => exact ⟨k + 1, by omega, by go_num, hn, hbA.out⟩
          case measure => simp [intOf]; omega
    · obtain rfl : k = 24 := by omega
      have hd : A64.decode W = (zeroIn, 8) := by unfold A64.decode; rw [kindOf_none HH.out]
      have hd := Lib.hid hd
      obtain ⟨⟨z0, z1, z2, z3, z4, z5, z6⟩, z7⟩ := (hN2.out.keep hbel).cells
      go_wp2_with fail
      refine bodyPost_ret (v := .tuple #[.agg #[.int .i64 (A64.decode W).1.kind, .int .i64 (A64.decode W).1.d, .int .i64 (A64.decode W).1.a, .int .i64 (A64.decode W).1.b, .int .i64 (A64.decode W).1.s, .int .i64 (A64.decode W).1.c, .int .i64 (A64.decode W).1.n], .int .i64 (A64.decode W).2]) (by rw [hd.out]; simp [zeroIn, results, Try.results68, go_sem, z0, z1, z2, z3, z4, z5, z6]) rfl ⟨rfl, ?_⟩
      have hfin := hB2.out.trans (hbel.mono hB2.out.size)
      exact ((((((hfin.setCell (Nat.le_refl _) _).setCell (Nat.le_refl _) _).setCell (Nat.le_refl _) _).setCell (Nat.le_refl _) _).setCell (Nat.le_refl _) _).setCell (Nat.le_refl _) _).setCell (Nat.le_refl _) _
end Go.Proofs.Ytkohichiojmakaa.A64H
