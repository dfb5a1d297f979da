/-
  WALK: the document's Decode.
-/
import Derived.Test.YtkohichiojmakaaA64Decode
import Derived.Test.YtkohichiojmakaaA64RefEnc
import Derived.Deep.DeepCutAuto
namespace Go.Proofs.Ytkohichiojmakaa.A64V
set_option linter.unusedVariables false
set_option linter.unusedSimpArgs false
open Go.RowKit Cm Mm Ow A64 Fld FldW FldR A64W A64P A64C A64T A64R A64E A64D A64H A64F A64Q A64G
attribute [local go_sem ↓] Go.wp_at_zero Go.wp_at_succ

/-- the cells of a form, in a variable; nothing elder has turned -/
abbrev SF (w0 : World) (p : Nat) (f : Fm) (w' : World) : Prop := (w'.cell? ⟨p, 0, none⟩ = some (.int .u32 (f.word.toNat : Int)) ∧ w'.cell? ⟨p, 1, none⟩ = some (.int .i64 (f.d.1 : Nat)) ∧ w'.cell? ⟨p, 2, none⟩ = some (.int .i64 (f.d.2 : Nat)) ∧ w'.cell? ⟨p, 3, none⟩ = some (.int .i64 (f.a.1 : Nat)) ∧ w'.cell? ⟨p, 4, none⟩ = some (.int .i64 (f.a.2 : Nat)) ∧ w'.cell? ⟨p, 5, none⟩ = some (.int .i64 (f.b.1 : Nat)) ∧ w'.cell? ⟨p, 6, none⟩ = some (.int .i64 (f.b.2 : Nat)) ∧ w'.cell? ⟨p, 7, none⟩ = some (.int .i64 (f.s.1 : Nat)) ∧ w'.cell? ⟨p, 8, none⟩ = some (.int .i64 (f.s.2 : Nat)) ∧ w'.cell? ⟨p, 9, none⟩ = some (.int .i64 (f.n.1 : Nat)) ∧ w'.cell? ⟨p, 10, none⟩ = some (.int .i64 (f.n.2 : Nat)) ∧ w'.cell? ⟨p, 11, none⟩ = some (.int .i64 (f.c.1 : Nat)) ∧ w'.cell? ⟨p, 12, none⟩ = some (.int .i64 (f.c.2 : Nat)) ∧ w'.cell? ⟨p, 13, none⟩ = some (.bool f.signed) ∧ w'.cell? ⟨p, 14, none⟩ = some (.bool f.turned)) ∧ Below w0.heap.size w0 w'
theorem SF.keep {w0 w w' : World} {p : Nat} {f : Fm} (h : SF w0 p f w) (hb : Below w.heap.size w w') : SF w0 p f w' := by
  obtain ⟨⟨h0, h1, h2, h3, h4, h5, h6, h7, h8, h9, h10, h11, h12, h13, h14⟩, hz⟩ := h
  have k : ∀ (x : Addr) (u : Value), w.cell? x = some u → w'.cell? x = some u := fun x u hx => by
    rw [World.cell?_of_block (hb.block _ (World.block_lt_of_cell? w x hx))]; exact hx
  exact ⟨⟨k _ _ h0, k _ _ h1, k _ _ h2, k _ _ h3, k _ _ h4, k _ _ h5, k _ _ h6, k _ _ h7, k _ _ h8, k _ _ h9, k _ _ h10, k _ _ h11, k _ _ h12, k _ _ h13, k _ _ h14⟩, hz.trans (hb.mono hz.size)⟩
theorem rpget_any (W : BitVec 32) (x : Bt) (w : World) (h : x.1 + x.2 ≤ 32) : Calls Try.prog 65 #[.int .u32 (W.toNat : Int), .int .i64 (x.1 : Nat), .int .i64 (x.2 : Nat)] w fun e w' => e = .returned (.int .u32 ((get W x.1 x.2).toNat : Int)) ∧ w = w' := by
  have := rget_any (W.toNat : Int) W (x.1 : Int) (x.2 : Int) w rfl (by omega) (by omega) (by omega) (by omega)
  rwa [ca_nat (by omega), cn_nat h] at this
theorem rpsgn_any (W : BitVec 32) (x : Bt) (w : World) (h : x.1 + x.2 ≤ 32) : Calls Try.prog 66 #[.int .u32 (W.toNat : Int), .int .i64 (x.1 : Nat), .int .i64 (x.2 : Nat)] w fun e w' => e = .returned (.int .i64 (sgn (get W x.1 x.2).toNat x.2)) ∧ w = w' := by
  have := rsigned_any (W.toNat : Int) W (x.1 : Int) (x.2 : Int) w rfl (by omega) (by omega) (by omega) (by omega)
  rwa [ca_nat (by omega), cn_nat h] at this
theorem wrap_nat {n : Nat} (h : n < 4294967296) : IntKind.i64.wrap (n : Int) = (n : Int) := by rw [IntKind.wrap_i64]; omega
/-- a variable of an instruction, whole -/
def Vw (w : World) (g : Nat) (i : In) : Prop := w.heap[g]? = some (.cells #[.int .i64 i.kind, .int .i64 i.d, .int .i64 i.a, .int .i64 i.b, .int .i64 i.s, .int .i64 i.c, .int .i64 i.n] 45 (0, 0))
theorem Vw.vi {w : World} {g : Nat} {i : In} (h : Vw w g i) : Vi w g i ∧ ∀ o, w.frozen? ⟨g, o, none⟩ = false := by
  unfold Vw at h
  refine ⟨fun j => ?_, fun o => ?_⟩
  · simp only [World.cell?, h]; simp
  · simp only [World.frozen?, h]; simp

theorem SF.init (w : World) (f : Fm) (t : TypeId) : SF (w.alloc (.cells #[.int .u32 (f.word.toNat : Int), .int .i64 (f.d.1 : Nat), .int .i64 (f.d.2 : Nat), .int .i64 (f.a.1 : Nat), .int .i64 (f.a.2 : Nat), .int .i64 (f.b.1 : Nat), .int .i64 (f.b.2 : Nat), .int .i64 (f.s.1 : Nat), .int .i64 (f.s.2 : Nat), .int .i64 (f.n.1 : Nat), .int .i64 (f.n.2 : Nat), .int .i64 (f.c.1 : Nat), .int .i64 (f.c.2 : Nat), .bool f.signed, .bool f.turned] t)) w.heap.size f (w.alloc (.cells #[.int .u32 (f.word.toNat : Int), .int .i64 (f.d.1 : Nat), .int .i64 (f.d.2 : Nat), .int .i64 (f.a.1 : Nat), .int .i64 (f.a.2 : Nat), .int .i64 (f.b.1 : Nat), .int .i64 (f.b.2 : Nat), .int .i64 (f.s.1 : Nat), .int .i64 (f.s.2 : Nat), .int .i64 (f.n.1 : Nat), .int .i64 (f.n.2 : Nat), .int .i64 (f.c.1 : Nat), .int .i64 (f.c.2 : Nat), .bool f.signed, .bool f.turned] t)) := by
  have hc : ∀ j, (w.alloc (.cells #[.int .u32 (f.word.toNat : Int), .int .i64 (f.d.1 : Nat), .int .i64 (f.d.2 : Nat), .int .i64 (f.a.1 : Nat), .int .i64 (f.a.2 : Nat), .int .i64 (f.b.1 : Nat), .int .i64 (f.b.2 : Nat), .int .i64 (f.s.1 : Nat), .int .i64 (f.s.2 : Nat), .int .i64 (f.n.1 : Nat), .int .i64 (f.n.2 : Nat), .int .i64 (f.c.1 : Nat), .int .i64 (f.c.2 : Nat), .bool f.signed, .bool f.turned] t)).cell? ⟨w.heap.size, j, none⟩ = (#[.int .u32 (f.word.toNat : Int), .int .i64 (f.d.1 : Nat), .int .i64 (f.d.2 : Nat), .int .i64 (f.a.1 : Nat), .int .i64 (f.a.2 : Nat), .int .i64 (f.b.1 : Nat), .int .i64 (f.b.2 : Nat), .int .i64 (f.s.1 : Nat), .int .i64 (f.s.2 : Nat), .int .i64 (f.n.1 : Nat), .int .i64 (f.n.2 : Nat), .int .i64 (f.c.1 : Nat), .int .i64 (f.c.2 : Nat), .bool f.signed, .bool f.turned] : Array Value)[j]? := fun j => by simp [World.cell?_alloc_new]
  exact ⟨⟨hc 0, hc 1, hc 2, hc 3, hc 4, hc 5, hc 6, hc 7, hc 8, hc 9, hc 10, hc 11, hc 12, hc 13, hc 14⟩, Below.refl _ _⟩
theorem Vw.new (w : World) (i : In) : Vw (w.alloc (.cells #[.int .i64 i.kind, .int .i64 i.d, .int .i64 i.a, .int .i64 i.b, .int .i64 i.s, .int .i64 i.c, .int .i64 i.n] 45)) w.heap.size i := heap_alloc_new _ _
theorem Vw.keep {w w' : World} {g : Nat} {i : In} (h : Vw w g i) (hb : Below w.heap.size w w') : Vw w' g i := (hb.block _ (Array.getElem?_eq_some_iff.1 h).1).trans h
theorem block_put {w : World} {g i : Nat} {cs : Array Value} {t : TypeId} (h : w.heap[g]? = some (.cells cs t (0, 0))) (v : Value) : (w.setCell ⟨g, i, none⟩ v).heap[g]? = some (.cells (cs.setIfInBounds i v) t (0, 0)) := by
  simp only [World.setCell, Array.getElem?_modify, h]
  simp
theorem Vw.set6 {w : World} {g : Nat} {k d a b s c n : Int} (h : Vw w g ⟨k, d, a, b, s, c, n⟩) (v : Int) : Vw (w.setCell ⟨g, 6, none⟩ (.int .i64 v)) g ⟨k, d, a, b, s, c, v⟩ := block_put h _
theorem Vw.set5 {w : World} {g : Nat} {k d a b s c n : Int} (h : Vw w g ⟨k, d, a, b, s, c, n⟩) (v : Int) : Vw (w.setCell ⟨g, 5, none⟩ (.int .i64 v)) g ⟨k, d, a, b, s, v, n⟩ := block_put h _
theorem SF.drew {w0 w : World} {p : Nat} {f : Fm} (h : SF w0 p f w) : SF w0 p f w.drew := h.keep ((Below.refl _ _).drew)
theorem SF.al {w0 w : World} {p : Nat} {f : Fm} (h : SF w0 p f w) (o : Obj) : SF w0 p f (w.alloc o) := h.keep (below_al _ _)

set_option maxRecDepth 20000 in
set_option maxHeartbeats 12800000 in
theorem rdecode_any (W : BitVec 32) (w : World) :
    Calls Try.prog 40 #[.int .u32 (W.toNat : Int)] w fun e w' => e = .returned (.tuple #[.agg #[.int .i64 (A64.decode W).1.kind, .int .i64 (A64.decode W).1.d, .int .i64 (A64.decode W).1.a, .int .i64 (A64.decode W).1.b, .int .i64 (A64.decode W).1.s, .int .i64 (A64.decode W).1.c, .int .i64 (A64.decode W).1.n], .int .i64 (A64.decode W).2]) ∧ Below w.heap.size w w' := by
  obtain ⟨W1, hW1⟩ : ∃ W1, W1 = w.alloc (.cells #[.int .i64 0, .int .i64 0, .int .i64 0, .int .i64 0, .int .i64 0, .int .i64 0, .int .i64 0] 45) := ⟨_, rfl⟩
  have hB : Below w.heap.size w W1 := by rw [hW1]; exact (Below.refl _ _).alloc (Nat.le_refl _) _
  have hN : Nw w.heap.size W1 := by rw [hW1]; exact heap_alloc_new _ _
  have HW := Lib.hid hW1
  have HN := Lib.hid hN
  have HB1 := Lib.hid hB
  have hw1 : w.heap.size < W1.heap.size := hN.lt
  clear hW1 hN hB
  go_enter Try.func40, Try.ntmps40
  go_upto_region 1 with (fail)
  rw [← HW.out]
  go_wp2_with fail
  go_loopw [4] (fun i wr => ∃ (k : Nat), k ≤ 24 ∧ i = .int .i64 k ∧ Hid (∀ j, j < k → hit j W = false) ∧ Below W1.heap.size W1 wr) (fun i _ => 24 - (intOf i).toNat)
  case atStart => exact ⟨0, by omega, rfl, fun j hj => absurd hj (by omega), Below.refl _ _⟩
  case round =>
    obtain ⟨k, hk, rfl, HH, hbel⟩ := hrel
    have HB := Lib.hid hbel
    clear hbel
    by_cases hk24 : k < 24
    · have i1 : (k : Int) ≤ 23 := by omega
      have hgd := good_all k hk24
      have FO := Lib.hid (fun w => formOf_at (form k) (k : Int) k w hk24 rfl rfl)
      have hdx : ∃ x, decF (form k) k W = x := ⟨_, rfl⟩
      obtain ⟨x, hx⟩ := hdx
      have hox := Lib.hid (okIn_dec k W hk24)
      rw [hx] at hox
      have hxk : x.kind = (k : Int) := by rw [← hx]; rfl
      have hhit : hit k W = (rightF (form k) x && decide (encF (form k) x = W)) := by unfold hit; rw [hx]
      have hks := Lib.hid (kindOf_some (W := W) hk24 HH.out)
      have hdec : kindOf W = some k → A64.decode W = (x, 0) := fun h => by unfold A64.decode; rw [h]; simp only; rw [hx]
      have hdec := Lib.hid hdec
      have hro := right_of k x hk24 hxk
      have heo := encode_of k x hk24 hxk
      have EN := Lib.hid (fun w => rencode_any x w hox.out)
      have hxd : x = ⟨k, getF W (form k).d, getF W (form k).a, getF W (form k).b, getF W (form k).s, (if (form k).turned then bits .xor .i64 (getF W (form k).c) 1 else getF W (form k).c), (if (form k).signed then sgn (get W (form k).n.1 (form k).n.2).toNat (form k).n.2 else getF W (form k).n)⟩ := by rw [← hx]; rfl
      generalize form k = f at *
      simp only [good, inside, Bool.and_eq_true, decide_eq_true_eq] at hgd
      obtain ⟨⟨⟨⟨⟨⟨⟨⟨⟨⟨⟨l1, l2⟩, l3⟩, l4⟩, l5⟩, l6⟩, _⟩, _⟩, _⟩, _⟩, _⟩, _⟩ := hgd
      have SG := Lib.hid (fun w => rpsgn_any W f.n w l5)
      have g1 := fun w => rpget_any W f.d w l1
      have n1 : (get W f.d.1 f.d.2).toNat < 4294967296 := (get W f.d.1 f.d.2).isLt
      have g2 := fun w => rpget_any W f.a w l2
      have n2 : (get W f.a.1 f.a.2).toNat < 4294967296 := (get W f.a.1 f.a.2).isLt
      have g3 := fun w => rpget_any W f.b w l3
      have n3 : (get W f.b.1 f.b.2).toNat < 4294967296 := (get W f.b.1 f.b.2).isLt
      have g4 := fun w => rpget_any W f.s w l4
      have n4 : (get W f.s.1 f.s.2).toNat < 4294967296 := (get W f.s.1 f.s.2).isLt
      have g5 := fun w => rpget_any W f.n w l5
      have n5 : (get W f.n.1 f.n.2).toNat < 4294967296 := (get W f.n.1 f.n.2).isLt
      have g6 := fun w => rpget_any W f.c w l6
      have n6 : (get W f.c.1 f.c.2).toNat < 4294967296 := (get W f.c.1 f.c.2).isLt
      unfold getF at hxd
      generalize hq1 : (get W f.d.1 f.d.2).toNat = d1 at *
      generalize hq2 : (get W f.a.1 f.a.2).toNat = d2 at *
      generalize hq3 : (get W f.b.1 f.b.2).toNat = d3 at *
      generalize hq4 : (get W f.s.1 f.s.2).toNat = d4 at *
      generalize hq5 : (get W f.n.1 f.n.2).toNat = d5 at *
      generalize hq6 : (get W f.c.1 f.c.2).toNat = d6 at *
      have HXD := Lib.hid hxd
      obtain ⟨ex, hex⟩ : ∃ ex, encode x = ex := ⟨_, rfl⟩
      rw [hex] at EN heo
      have hen : right x = false → ex = (0, 1) := fun h => by rw [← hex]; unfold encode; rw [h]; rfl
      have HEN := Lib.hid hen
      clear hex hen
      have L1 := Lib.hid g1
      have m1 := wrap_nat n1
      have L2 := Lib.hid g2
      have m2 := wrap_nat n2
      have L3 := Lib.hid g3
      have m3 := wrap_nat n3
      have L4 := Lib.hid g4
      have m4 := wrap_nat n4
      have L5 := Lib.hid g5
      have m5 := wrap_nat n5
      have L6 := Lib.hid g6
      have m6 := wrap_nat n6
      clear hx hxd l1 l2 l3 l4 l5 l6 g1 g2 g3 g4 g5 g6 hq1 hq2 hq3 hq4 hq5 hq6
      have HHit := Lib.hid hhit
      have HRO := Lib.hid hro
      have HEO := Lib.hid heo
      clear hhit hro heo hxk
      go_wp2_with fail
      refine (FO.out _).mono ?_
      rintro e w2 ⟨rfl, hb2⟩
      have HB2 := Lib.hid (HB.out.trans (hb2.mono HB.out.size))
      clear hb2
      go_wp2_with fail
      obtain ⟨w3, hw3⟩ : ∃ w3, w3 = w2.alloc (.cells #[.int .u32 (f.word.toNat : Int), .int .i64 (f.d.1 : Nat), .int .i64 (f.d.2 : Nat), .int .i64 (f.a.1 : Nat), .int .i64 (f.a.2 : Nat), .int .i64 (f.b.1 : Nat), .int .i64 (f.b.2 : Nat), .int .i64 (f.s.1 : Nat), .int .i64 (f.s.2 : Nat), .int .i64 (f.n.1 : Nat), .int .i64 (f.n.2 : Nat), .int .i64 (f.c.1 : Nat), .int .i64 (f.c.2 : Nat), .bool f.signed, .bool f.turned] 134) := ⟨_, rfl⟩
      have S0 := Lib.hid (SF.init w2 f 134)
      have HB3 := Lib.hid (HB2.out.trans ((below_al w2 (.cells #[.int .u32 (f.word.toNat : Int), .int .i64 (f.d.1 : Nat), .int .i64 (f.d.2 : Nat), .int .i64 (f.a.1 : Nat), .int .i64 (f.a.2 : Nat), .int .i64 (f.b.1 : Nat), .int .i64 (f.b.2 : Nat), .int .i64 (f.s.1 : Nat), .int .i64 (f.s.2 : Nat), .int .i64 (f.n.1 : Nat), .int .i64 (f.n.2 : Nat), .int .i64 (f.c.1 : Nat), .int .i64 (f.c.2 : Nat), .bool f.signed, .bool f.turned] 134)).mono HB2.out.size))
      rw [← hw3] at S0 HB3 ⊢
      have hpl : w2.heap.size < w3.heap.size := by rw [hw3]; simp
      clear hw3
      have S1 := Lib.hid S0.out.drew
      have S2 := Lib.hid (S1.out.al (.cells #[.int .i64 0, .int .i64 0, .int .i64 0, .int .i64 0, .int .i64 0, .int .i64 0, .int .i64 0] 45))
      have S3 := Lib.hid ((S0.out.al (.cells #[.int .i64 0, .int .i64 0, .int .i64 0, .int .i64 0, .int .i64 0, .int .i64 0, .int .i64 0] 45)).drew)
      have S4 := Lib.hid ((S0.out.al (.cells #[.int .i64 k, .int .i64 d1, .int .i64 d2, .int .i64 d3, .int .i64 d4, .int .i64 d6, .int .i64 d5] 45)).drew)
      have S5 := Lib.hid (S1.out.al (.cells #[.int .i64 k, .int .i64 d1, .int .i64 d2, .int .i64 d3, .int .i64 d4, .int .i64 d6, .int .i64 d5] 45))
      have V1 := Lib.hid (Vw.new w3.drew ⟨k, d1, d2, d3, d4, d6, d5⟩)
      go_cut [7] (fun s7 wx => ∃ g : Nat, s7 = .pointer (some ⟨g, 0, none⟩) ∧ Vw wx g ⟨k, d1, d2, d3, d4, d6, d5⟩ ∧ SF w3 w2.heap.size f wx ∧ w3.heap.size ≤ g)
      case first =>
        go_region_held3 (fun w' => (w'.cell? ⟨w2.heap.size, 0, none⟩ = some (.int .u32 (f.word.toNat : Int)) ∧ w'.cell? ⟨w2.heap.size, 1, none⟩ = some (.int .i64 (f.d.1 : Nat)) ∧ w'.cell? ⟨w2.heap.size, 2, none⟩ = some (.int .i64 (f.d.2 : Nat)) ∧ w'.cell? ⟨w2.heap.size, 3, none⟩ = some (.int .i64 (f.a.1 : Nat)) ∧ w'.cell? ⟨w2.heap.size, 4, none⟩ = some (.int .i64 (f.a.2 : Nat)) ∧ w'.cell? ⟨w2.heap.size, 5, none⟩ = some (.int .i64 (f.b.1 : Nat)) ∧ w'.cell? ⟨w2.heap.size, 6, none⟩ = some (.int .i64 (f.b.2 : Nat)) ∧ w'.cell? ⟨w2.heap.size, 7, none⟩ = some (.int .i64 (f.s.1 : Nat)) ∧ w'.cell? ⟨w2.heap.size, 8, none⟩ = some (.int .i64 (f.s.2 : Nat)) ∧ w'.cell? ⟨w2.heap.size, 9, none⟩ = some (.int .i64 (f.n.1 : Nat)) ∧ w'.cell? ⟨w2.heap.size, 10, none⟩ = some (.int .i64 (f.n.2 : Nat)) ∧ w'.cell? ⟨w2.heap.size, 11, none⟩ = some (.int .i64 (f.c.1 : Nat)) ∧ w'.cell? ⟨w2.heap.size, 12, none⟩ = some (.int .i64 (f.c.2 : Nat)) ∧ w'.cell? ⟨w2.heap.size, 13, none⟩ = some (.bool f.signed) ∧ w'.cell? ⟨w2.heap.size, 14, none⟩ = some (.bool f.turned)) ∧ Below w3.heap.size w3 w') (first | with_reducible assumption | with_reducible exact S1.out | with_reducible exact S2.out | with_reducible exact S3.out | with_reducible exact S4.out | with_reducible exact S5.out)
          (first
          | (go_at_call 65; (with_reducible refine (L1.out _).mono ?_); rintro e w' ⟨rfl, rfl⟩)
          | (go_at_call 65; (with_reducible refine (L2.out _).mono ?_); rintro e w' ⟨rfl, rfl⟩)
          | (go_at_call 65; (with_reducible refine (L3.out _).mono ?_); rintro e w' ⟨rfl, rfl⟩)
          | (go_at_call 65; (with_reducible refine (L4.out _).mono ?_); rintro e w' ⟨rfl, rfl⟩)
          | (go_at_call 65; (with_reducible refine (L5.out _).mono ?_); rintro e w' ⟨rfl, rfl⟩)
          | (go_at_call 65; (with_reducible refine (L6.out _).mono ?_); rintro e w' ⟨rfl, rfl⟩))
        all_goals
          go_wp2_with fail
          go_meet
          exact ⟨_, rfl, V1.out, by first | exact S4.out | exact S5.out, Nat.le_refl _⟩
      case rest =>
        obtain ⟨g, rfl, hv, hs, hg⟩ := hcut
        have HBx := Lib.hid (HB3.out.trans (hs.2.mono HB3.out.size))
        have hge : W1.heap.size ≤ g := Nat.le_trans HB3.out.size hg
        have hwg : w.heap.size < g := by omega
        have hnp : ¬ (w.heap.size = g) := by omega
        have hnp' : ¬ (g = w.heap.size) := by omega
        have HV := Lib.hid hv
        obtain ⟨vi, vf⟩ := hv.vi
        obtain ⟨v0, v1, v2, v3, v4, v5, v6⟩ := vi.cells
        have hgl := vi.lt
        have hpg : ¬ (w2.heap.size = g) := by omega
        have hpg' : ¬ (g = w2.heap.size) := by omega
        obtain ⟨⟨h0, h1, h2, h3, h4, h5, h6, h7, h8, h9, h10, h11, h12, h13, h14⟩, _⟩ := hs
        clear hv vi S0 S1 S2 S3 S4 S5 V1
        clear m1 m2 m3 m4 m5 m6
        cases hsg : f.signed <;> cases htn : f.turned
        all_goals
          rw [hsg, htn] at HXD
          rw [hsg] at h13
          rw [htn] at h14
          simp only [if_true, if_false, Bool.false_eq_true] at HXD
          rw [HXD.out] at EN
          dsimp only at EN
          go_wp2_with (go_at_call 66; refine (SG.out _).mono ?_; rintro e w' ⟨rfl, rfl⟩)
          refine (EN.out _).mono ?_
          rintro e w5 ⟨rfl, hb5⟩
          obtain ⟨VX, BX⟩ : Vw w5 g x ∧ Below W1.heap.size W1 w5 := by
            rw [HXD.out]
            first
              | with_reducible exact ⟨HV.out.keep hb5, HBx.out.trans (hb5.mono HBx.out.size)⟩
              | with_reducible exact ⟨(HV.out.set6 _).keep hb5, (HBx.out.setCell hge _).trans (hb5.mono (HBx.out.setCell hge _).size)⟩
              | with_reducible exact ⟨(HV.out.set5 _).keep hb5, (HBx.out.setCell hge _).trans (hb5.mono (HBx.out.setCell hge _).size)⟩
              | with_reducible exact ⟨((HV.out.set6 _).set5 _).keep hb5, ((HBx.out.setCell hge _).setCell hge _).trans (hb5.mono ((HBx.out.setCell hge _).setCell hge _).size)⟩
          clear hb5 v0 v1 v2 v3 v4 v5 v6 vf hgl HXD EN HV HBx h0 h1 h2 h3 h4 h5 h6 h7 h8 h9 h10 h11 h12 h13 h14
          have HBX := Lib.hid BX
          obtain ⟨vi, vf⟩ := VX.vi
          obtain ⟨v0, v1, v2, v3, v4, v5, v6⟩ := vi.cells
          have hgl := vi.lt
          obtain ⟨⟨z0, z1, z2, z3, z4, z5, z6⟩, z7⟩ := (HN.out.keep BX).cells
          clear VX vi BX
          cases hrr : rightF f x
          · have he := HEN.out (by rw [HRO.out, hrr])
            have hn := Lib.hid (none_next HH.out (by rw [HHit.out, hrr]; rfl))
            rw [he]
            go_wp2_with fail
            go_roundw
            case rel => exact ⟨k + 1, by omega, by go_num, hn, HBX.out⟩
            case measure => simp [intOf]; omega
          · have he := HEO.out hrr
            rw [he]
            by_cases hew : encF f x = W
            · have hd := Lib.hid (hdec.out (hks.out (by rw [HHit.out, hrr, decide_eq_true hew]; rfl)))
              have he' : (((encF f x).toNat : Int) == (W.toNat : Int)) = true := by rw [hew]; simp
              clear hew he
              go_wp2_with fail
              refine bodyPost_ret (v := .tuple #[.agg #[.int .i64 (A64.decode W).1.kind, .int .i64 (A64.decode W).1.d, .int .i64 (A64.decode W).1.a, .int .i64 (A64.decode W).1.b, .int .i64 (A64.decode W).1.s, .int .i64 (A64.decode W).1.c, .int .i64 (A64.decode W).1.n], .int .i64 (A64.decode W).2]) (by rw [hd.out]; simp [results, Try.results40, go_sem, z0, z1, z2, z3, z4, z5, z6]) rfl ⟨rfl, ?_⟩
              have hfin := HB1.out.trans (HBX.out.mono HB1.out.size)
              exact ((((((hfin.setCell (Nat.le_refl _) _).setCell (Nat.le_refl _) _).setCell (Nat.le_refl _) _).setCell (Nat.le_refl _) _).setCell (Nat.le_refl _) _).setCell (Nat.le_refl _) _).setCell (Nat.le_refl _) _
            · have he' : (((encF f x).toNat : Int) == (W.toNat : Int)) = false := by rw [w32_eq, decide_eq_false hew]
              have hn := Lib.hid (none_next HH.out (by rw [HHit.out, decide_eq_false hew, Bool.and_false]))
              clear hew he
              go_wp2_with fail
              go_roundw
              case rel => exact ⟨k + 1, by omega, by go_num, hn, HBX.out⟩
              case measure => simp [intOf]; omega
    · obtain rfl : k = 24 := by omega
      have hd : A64.decode W = (zeroIn, 8) := by unfold A64.decode; rw [kindOf_none HH.out]
      have hd := Lib.hid hd
      obtain ⟨⟨z0, z1, z2, z3, z4, z5, z6⟩, z7⟩ := (HN.out.keep HB.out).cells
      go_wp2_with fail
      refine bodyPost_ret (v := .tuple #[.agg #[.int .i64 (A64.decode W).1.kind, .int .i64 (A64.decode W).1.d, .int .i64 (A64.decode W).1.a, .int .i64 (A64.decode W).1.b, .int .i64 (A64.decode W).1.s, .int .i64 (A64.decode W).1.c, .int .i64 (A64.decode W).1.n], .int .i64 (A64.decode W).2]) (by rw [hd.out]; simp [zeroIn, results, Try.results40, go_sem, z0, z1, z2, z3, z4, z5, z6]) rfl ⟨rfl, ?_⟩
      have hfin := HB1.out.trans (HB.out.mono HB1.out.size)
      exact ((((((hfin.setCell (Nat.le_refl _) _).setCell (Nat.le_refl _) _).setCell (Nat.le_refl _) _).setCell (Nat.le_refl _) _).setCell (Nat.le_refl _) _).setCell (Nat.le_refl _) _).setCell (Nat.le_refl _) _
end Go.Proofs.Ytkohichiojmakaa.A64V
