/-
  WALKS: package a64: a form's encode and decode.
-/
import Derived.Test.YtkohichiojmakaaA64Parts
namespace Go.Proofs.Ytkohichiojmakaa.A64C
set_option linter.unusedVariables false
set_option linter.unusedSimpArgs false
open Go.RowKit Cm Mm A64 Fld FldW A64W A64P

theorem getc_any (W : BitVec 32) (a n : Nat) (q : Nat) (w : World) (hq : w.cell? ⟨q, 0, none⟩ = some (.int .u32 (W.toNat : Int))) (h : a + n ≤ 32) :
    Calls Try.prog 105 #[.agg #[.int .i64 (a : Nat), .int .i64 (n : Nat)], .pointer (some ⟨q, 0, none⟩)] w fun e w' => e = .returned (.int .i64 (getF W (a, n))) ∧ Below w.heap.size w w' := by
  have P : ∀ w, Calls Try.prog 106 #[.int .u32 (W.toNat : Int), .int .i64 (a : Int), .int .i64 (n : Int)] w fun e w' => e = .returned (.int .u32 (getF W (a, n))) ∧ ∃ n, w' = w.drewN n := fun w => by
    have := get_any (W.toNat : Int) W (a : Int) (n : Int) w rfl (by omega) (by omega) (by omega) (by omega)
    rwa [ca_nat (by omega), cn_nat h] at this
  have HP := Lib.hid P; clear P
  have hq' := alloc_cell hq
  have hb : 0 ≤ getF W (a, n) ∧ getF W (a, n) < 4294967296 := by
    unfold getF
    have := (get W a n).isLt
    omega
  obtain ⟨hb0, hb1⟩ := hb
  generalize getF W (a, n) = g at *
  go_enter Try.func105, Try.ntmps105
  go_wp2_with fail
  refine (HP.out _).mono ?_
  rintro e w' ⟨rfl, m, rfl⟩
  go_wp2_with fail
  go_ret
  exact ⟨rfl, below_drewN ((Below.refl _ _).alloc (Nat.le_refl _) _) _⟩

/-- the cells of a form and of an instruction; nothing elder has turned -/
abbrev SE (w0 : World) (p q : Nat) (f : Fm) (i : In) (c : Int) (w' : World) : Prop := (w'.cell? ⟨p, 0, none⟩ = some (.int .u32 (f.word.toNat : Int)) ∧ w'.cell? ⟨p, 1, none⟩ = some (.int .i64 (f.d.1 : Nat)) ∧ w'.cell? ⟨p, 2, none⟩ = some (.int .i64 (f.d.2 : Nat)) ∧ w'.cell? ⟨p, 3, none⟩ = some (.int .i64 (f.a.1 : Nat)) ∧ w'.cell? ⟨p, 4, none⟩ = some (.int .i64 (f.a.2 : Nat)) ∧ w'.cell? ⟨p, 5, none⟩ = some (.int .i64 (f.b.1 : Nat)) ∧ w'.cell? ⟨p, 6, none⟩ = some (.int .i64 (f.b.2 : Nat)) ∧ w'.cell? ⟨p, 7, none⟩ = some (.int .i64 (f.s.1 : Nat)) ∧ w'.cell? ⟨p, 8, none⟩ = some (.int .i64 (f.s.2 : Nat)) ∧ w'.cell? ⟨p, 9, none⟩ = some (.int .i64 (f.n.1 : Nat)) ∧ w'.cell? ⟨p, 10, none⟩ = some (.int .i64 (f.n.2 : Nat)) ∧ w'.cell? ⟨p, 11, none⟩ = some (.int .i64 (f.c.1 : Nat)) ∧ w'.cell? ⟨p, 12, none⟩ = some (.int .i64 (f.c.2 : Nat)) ∧ w'.cell? ⟨p, 13, none⟩ = some (.bool f.signed) ∧ w'.cell? ⟨p, 14, none⟩ = some (.bool f.turned) ∧ w'.cell? ⟨q, 1, none⟩ = some (.int .i64 i.d) ∧ w'.cell? ⟨q, 2, none⟩ = some (.int .i64 i.a) ∧ w'.cell? ⟨q, 3, none⟩ = some (.int .i64 i.b) ∧ w'.cell? ⟨q, 4, none⟩ = some (.int .i64 i.s) ∧ w'.cell? ⟨q, 5, none⟩ = some (.int .i64 c) ∧ w'.cell? ⟨q, 6, none⟩ = some (.int .i64 i.n)) ∧ Below w0.heap.size w0 w'
theorem SE.keep {w0 w w' : World} {p q : Nat} {f : Fm} {i : In} {c : Int} (h : SE w0 p q f i c w) (hb : Below w.heap.size w w') : SE w0 p q f i c w' := by
  obtain ⟨⟨h0, h1, h2, h3, h4, h5, h6, h7, h8, h9, h10, h11, h12, h13, h14, h15, h16, h17, h18, h19, h20⟩, hz⟩ := h
  have k : ∀ (x : Addr) (u : Value), w.cell? x = some u → w'.cell? x = some u := fun x u hx => by
    rw [World.cell?_of_block (hb.block _ (World.block_lt_of_cell? w x hx))]; exact hx
  exact ⟨⟨k _ _ h0, k _ _ h1, k _ _ h2, k _ _ h3, k _ _ h4, k _ _ h5, k _ _ h6, k _ _ h7, k _ _ h8, k _ _ h9, k _ _ h10, k _ _ h11, k _ _ h12, k _ _ h13, k _ _ h14, k _ _ h15, k _ _ h16, k _ _ h17, k _ _ h18, k _ _ h19, k _ _ h20⟩, hz.trans (hb.mono hz.size)⟩
theorem heap_al (w : World) (o : Obj) : (w.alloc o).heap = w.heap.push o := rfl
theorem SE.init (w : World) (f : Fm) (i : In) (c : Int) (t t' : TypeId) : SE w w.heap.size (w.heap.size + 1) f i c (((w.alloc (.cells (fmL f).toArray t)).alloc (.cells #[.int .i64 i.kind, .int .i64 i.d, .int .i64 i.a, .int .i64 i.b, .int .i64 i.s, .int .i64 c, .int .i64 i.n] t'))) := by
  refine ⟨?_, ((Below.refl _ _).alloc (Nat.le_refl _) _).alloc (by simp) _⟩
  have e1 : ((w.alloc (.cells (fmL f).toArray t)).alloc (.cells #[.int .i64 i.kind, .int .i64 i.d, .int .i64 i.a, .int .i64 i.b, .int .i64 i.s, .int .i64 c, .int .i64 i.n] t')).heap[w.heap.size]? = some (.cells (fmL f).toArray t (0, 0)) := by
    simp only [heap_al, Array.getElem?_push, Array.size_push]
    rw [if_neg (by omega)]
    simp
  have e2 : ((w.alloc (.cells (fmL f).toArray t)).alloc (.cells #[.int .i64 i.kind, .int .i64 i.d, .int .i64 i.a, .int .i64 i.b, .int .i64 i.s, .int .i64 c, .int .i64 i.n] t')).heap[w.heap.size + 1]? = some (.cells #[.int .i64 i.kind, .int .i64 i.d, .int .i64 i.a, .int .i64 i.b, .int .i64 i.s, .int .i64 c, .int .i64 i.n] t' (0, 0)) := by
    simp only [heap_al, Array.getElem?_push, Array.size_push]
    simp
  simp only [World.cell?, e1, e2]
  refine ⟨rfl, rfl, rfl, rfl, rfl, rfl, rfl, rfl, rfl, rfl, rfl, rfl, rfl, rfl, rfl, rfl, rfl, rfl, rfl, rfl, rfl⟩
theorem put_S (w0 : World) (p q : Nat) (f : Fm) (i : In) (c : Int) (W : BitVec 32) (x : Bt) (v : Int) (w : World) (hx : x.1 + x.2 ≤ 32) (h : SE w0 p q f i c w) :
    Calls Try.prog 103 #[.int .u32 (W.toNat : Int), .agg #[.int .i64 (x.1 : Nat), .int .i64 (x.2 : Nat)], .int .i64 v] w fun e w' => e = .returned (.int .u32 ((putF W x v).toNat : Int)) ∧ SE w0 p q f i c w' :=
  (putx_any (W.toNat : Int) W x.1 x.2 v w rfl hx).mono fun e w' ⟨h1, h2⟩ => ⟨h1, h.keep h2⟩

set_option maxRecDepth 20000 in
set_option maxHeartbeats 6400000 in
theorem encF_any (f : Fm) (i : In) (w : World) (hg : good f = true) :
    Calls Try.prog 73 #[.agg (fmL f).toArray, .agg (insL i).toArray] w fun e w' => e = .returned (.int .u32 ((encF f i).toNat : Int)) ∧ Below w.heap.size w w' := by
  simp only [good, inside, Bool.and_eq_true, decide_eq_true_eq] at hg
  obtain ⟨⟨⟨⟨⟨⟨⟨⟨⟨⟨⟨l1, l2⟩, l3⟩, l4⟩, l5⟩, l6⟩, _⟩, _⟩, _⟩, _⟩, _⟩, ht⟩ := hg
  have hd : encF f i = putF (putF (putF (putF (putF (putF f.word f.d i.d) f.a i.a) f.b i.b) f.s i.s) f.n i.n) f.c (A64.flip f i.c) := rfl
  have HD := Lib.hid hd; clear hd
  have L1 := Lib.hid l1
  have L2 := Lib.hid l2
  have L3 := Lib.hid l3
  have L4 := Lib.hid l4
  have L5 := Lib.hid l5
  have L6 := Lib.hid l6
  clear l1 l2 l3 l4 l5 l6 ht
  have S0 := Lib.hid (SE.init w f i (A64.flip f i.c) 150 45)
  have e : A64.flip f i.c = if f.turned then bits .xor .i64 i.c 1 else i.c := rfl
  unfold fmL insL
  cases hT : f.turned
  all_goals
    rw [hT] at e
    simp only [if_true, if_false, Bool.false_eq_true] at e
    unfold fmL at S0
    rw [hT, e] at S0
    have HT := Lib.hid hT
    rw [e] at HD
    clear e hT
    go_enter Try.func73, Try.ntmps73
    go_wp2_with fail
    generalize hwb : (World.alloc (World.alloc w _) _) = wb at *
    clear hwb
    generalize w.heap.size + 1 = q at *
    generalize w.heap.size = p at *
    obtain ⟨CC, hCC⟩ : ∃ CC, SE w p q f i CC wb ∧ encF f i = putF (putF (putF (putF (putF (putF f.word f.d i.d) f.a i.a) f.b i.b) f.s i.s) f.n i.n) f.c CC := ⟨_, S0.out, HD.out⟩
    obtain ⟨SA, HE⟩ := hCC
    have HE := Lib.hid HE
    have SB := SE.keep SA ((Below.refl _ _).drew)
    have SB := Lib.hid SB
    clear S0 HD SA
    go_region_held3 (fun w' => (w'.cell? ⟨p, 0, none⟩ = some (.int .u32 (f.word.toNat : Int)) ∧ w'.cell? ⟨p, 1, none⟩ = some (.int .i64 (f.d.1 : Nat)) ∧ w'.cell? ⟨p, 2, none⟩ = some (.int .i64 (f.d.2 : Nat)) ∧ w'.cell? ⟨p, 3, none⟩ = some (.int .i64 (f.a.1 : Nat)) ∧ w'.cell? ⟨p, 4, none⟩ = some (.int .i64 (f.a.2 : Nat)) ∧ w'.cell? ⟨p, 5, none⟩ = some (.int .i64 (f.b.1 : Nat)) ∧ w'.cell? ⟨p, 6, none⟩ = some (.int .i64 (f.b.2 : Nat)) ∧ w'.cell? ⟨p, 7, none⟩ = some (.int .i64 (f.s.1 : Nat)) ∧ w'.cell? ⟨p, 8, none⟩ = some (.int .i64 (f.s.2 : Nat)) ∧ w'.cell? ⟨p, 9, none⟩ = some (.int .i64 (f.n.1 : Nat)) ∧ w'.cell? ⟨p, 10, none⟩ = some (.int .i64 (f.n.2 : Nat)) ∧ w'.cell? ⟨p, 11, none⟩ = some (.int .i64 (f.c.1 : Nat)) ∧ w'.cell? ⟨p, 12, none⟩ = some (.int .i64 (f.c.2 : Nat)) ∧ w'.cell? ⟨p, 13, none⟩ = some (.bool f.signed) ∧ w'.cell? ⟨p, 14, none⟩ = some (.bool f.turned) ∧ w'.cell? ⟨q, 1, none⟩ = some (.int .i64 i.d) ∧ w'.cell? ⟨q, 2, none⟩ = some (.int .i64 i.a) ∧ w'.cell? ⟨q, 3, none⟩ = some (.int .i64 i.b) ∧ w'.cell? ⟨q, 4, none⟩ = some (.int .i64 i.s) ∧ w'.cell? ⟨q, 5, none⟩ = some (.int .i64 CC) ∧ w'.cell? ⟨q, 6, none⟩ = some (.int .i64 i.n)) ∧ Below w.heap.size w w') (assumption)
      (first
        | (go_at_call 103; with_reducible refine (put_S w p q f i CC (f.word) f.d i.d _ L1.out (by assumption)).mono ?_; rintro e wx ⟨rfl, SC⟩)
        | (go_at_call 103; with_reducible refine (put_S w p q f i CC (putF f.word f.d i.d) f.a i.a _ L2.out (by assumption)).mono ?_; rintro e wx ⟨rfl, SC⟩)
        | (go_at_call 103; with_reducible refine (put_S w p q f i CC (putF (putF f.word f.d i.d) f.a i.a) f.b i.b _ L3.out (by assumption)).mono ?_; rintro e wx ⟨rfl, SC⟩))
    go_wp2_with fail
    generalize putF (putF (putF f.word f.d i.d) f.a i.a) f.b i.b = W3 at *
    have S1 := Lib.hid (SE.keep SC ((Below.refl _ _).drew))
    clear SC
    go_region_held3 (fun w' => (w'.cell? ⟨p, 0, none⟩ = some (.int .u32 (f.word.toNat : Int)) ∧ w'.cell? ⟨p, 1, none⟩ = some (.int .i64 (f.d.1 : Nat)) ∧ w'.cell? ⟨p, 2, none⟩ = some (.int .i64 (f.d.2 : Nat)) ∧ w'.cell? ⟨p, 3, none⟩ = some (.int .i64 (f.a.1 : Nat)) ∧ w'.cell? ⟨p, 4, none⟩ = some (.int .i64 (f.a.2 : Nat)) ∧ w'.cell? ⟨p, 5, none⟩ = some (.int .i64 (f.b.1 : Nat)) ∧ w'.cell? ⟨p, 6, none⟩ = some (.int .i64 (f.b.2 : Nat)) ∧ w'.cell? ⟨p, 7, none⟩ = some (.int .i64 (f.s.1 : Nat)) ∧ w'.cell? ⟨p, 8, none⟩ = some (.int .i64 (f.s.2 : Nat)) ∧ w'.cell? ⟨p, 9, none⟩ = some (.int .i64 (f.n.1 : Nat)) ∧ w'.cell? ⟨p, 10, none⟩ = some (.int .i64 (f.n.2 : Nat)) ∧ w'.cell? ⟨p, 11, none⟩ = some (.int .i64 (f.c.1 : Nat)) ∧ w'.cell? ⟨p, 12, none⟩ = some (.int .i64 (f.c.2 : Nat)) ∧ w'.cell? ⟨p, 13, none⟩ = some (.bool f.signed) ∧ w'.cell? ⟨p, 14, none⟩ = some (.bool f.turned) ∧ w'.cell? ⟨q, 1, none⟩ = some (.int .i64 i.d) ∧ w'.cell? ⟨q, 2, none⟩ = some (.int .i64 i.a) ∧ w'.cell? ⟨q, 3, none⟩ = some (.int .i64 i.b) ∧ w'.cell? ⟨q, 4, none⟩ = some (.int .i64 i.s) ∧ w'.cell? ⟨q, 5, none⟩ = some (.int .i64 CC) ∧ w'.cell? ⟨q, 6, none⟩ = some (.int .i64 i.n)) ∧ Below w.heap.size w w') (assumption)
      (first
        | (go_at_call 103; with_reducible refine (put_S w p q f i CC (W3) f.s i.s _ L4.out (by assumption)).mono ?_; rintro e wx ⟨rfl, SC⟩)
        | (go_at_call 103; with_reducible refine (put_S w p q f i CC (putF W3 f.s i.s) f.n i.n _ L5.out (by assumption)).mono ?_; rintro e wx ⟨rfl, SC⟩)
        | (go_at_call 103; with_reducible refine (put_S w p q f i CC (putF (putF W3 f.s i.s) f.n i.n) f.c CC _ L6.out (by assumption)).mono ?_; rintro e wx ⟨rfl, SC⟩))
    go_wp2_with fail
    go_ret
    exact ⟨by rw [HE.out]; rfl, SC.2⟩
end Go.Proofs.Ytkohichiojmakaa.A64C
