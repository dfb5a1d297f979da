/-
  WALKS: package a64: condition, put, and a form's right.
-/
import Derived.Test.YtkohichiojmakaaGOwn
import Derived.Great.BuildSlice
import Derived.Deep.DrawnRows
namespace Go.Proofs.Ytkohichiojmakaa.A64P
set_option linter.unusedVariables false
set_option linter.unusedSimpArgs false
open Go.RowKit Cm Mm A64 Fld FldW A64W

theorem condition_any (c : Int) (w : World) : Calls Try.prog 102 #[.int .i64 c] w fun e w' => e = .returned (.bool (cond c)) ∧ w = w' := by
  obtain h | h | h | h | ⟨h1, h2, h3, h4⟩ : c = 0 ∨ c = 1 ∨ c = 11 ∨ c = 10 ∨ (¬ c = 0 ∧ ¬ c = 1 ∧ ¬ c = 11 ∧ ¬ c = 10) := by omega
  · subst h
    go_enter Try.func102, Try.ntmps102
    go_wp2
    go_ret
    exact ⟨rfl, rfl⟩
  · subst h
    go_enter Try.func102, Try.ntmps102
    go_wp2
    go_ret
    exact ⟨rfl, rfl⟩
  · subst h
    go_enter Try.func102, Try.ntmps102
    go_wp2
    go_ret
    exact ⟨rfl, rfl⟩
  · subst h
    go_enter Try.func102, Try.ntmps102
    go_wp2
    go_ret
    exact ⟨rfl, rfl⟩
  · go_enter Try.func102, Try.ntmps102
    go_wp2
    go_ret
    exact ⟨rfl, rfl⟩

theorem putx_any (x : Int) (W : BitVec 32) (a n : Nat) (v : Int) (w : World) (hx : x = W.toNat) (h : a + n ≤ 32) :
    Calls Try.prog 103 #[.int .u32 x, .agg #[.int .i64 (a : Nat), .int .i64 (n : Nat)], .int .i64 v] w fun e w' => e = .returned (.int .u32 ((putF W (a, n) v).toNat : Int)) ∧ Below w.heap.size w w' := by
  subst hx
  by_cases h0 : n = 0
  · subst h0
    have e : putF W (a, 0) v = W := put_zero _ _ _
    have E := Lib.hid e; clear e
    go_enter Try.func103, Try.ntmps103
    go_wp2
    go_ret
    exact ⟨ret1 (by rw [E.out]), by go_grown⟩
  · have P : ∀ w, Calls Try.prog 109 #[.int .u32 (W.toNat : Int), .int .i64 (a : Int), .int .i64 (n : Int), .int .i64 v] w fun e w' => e = .returned (.int .u32 ((putF W (a, n) v).toNat : Int)) ∧ w = w' := fun w => by
      have := put_any (W.toNat : Int) W (a : Int) (n : Int) v w rfl (by omega) (by omega) (by omega) (by omega)
      rwa [ca_nat (by omega), cn_nat h] at this
    have HP := Lib.hid P; clear P
    go_enter Try.func103, Try.ntmps103
    go_wp2_with fail
    refine (HP.out _).mono ?_
    rintro e w' ⟨rfl, rfl⟩
    go_wp2_with fail
    go_ret
    exact ⟨rfl, by go_grown⟩

/-- an instruction's numbers are integers of 64 bits -/
def i64b (x : Int) : Prop := -9223372036854775808 ≤ x ∧ x ≤ 9223372036854775807
def okIn (i : In) : Prop := i64b i.kind ∧ i64b i.d ∧ i64b i.a ∧ i64b i.b ∧ i64b i.s ∧ i64b i.c ∧ i64b i.n

theorem pfits_any (v : Int) (n : Nat) (w : World) (hv : i64b v) (hn : n ≤ 32) : Calls Try.prog 100 #[.int .i64 v, .int .i64 (n : Int)] w fun e w' => e = .returned (.bool (fits v n)) ∧ w = w' := by
  have := fits_any v (n : Int) w hv.1 hv.2 (by omega) (by omega)
  rwa [show cn 0 (n : Int) = n by unfold cn; omega] at this
theorem pfitsS_any (v : Int) (n : Nat) (w : World) (hv : i64b v) (hn : n ≤ 32) : Calls Try.prog 101 #[.int .i64 v, .int .i64 (n : Int)] w fun e w' => e = .returned (.bool (fitsS v n)) ∧ w = w' := by
  have := fitsSigned_any v (n : Int) w hv.1 hv.2 (by omega) (by omega)
  rwa [show cn 0 (n : Int) = n by unfold cn; omega] at this

set_option maxRecDepth 20000 in
set_option maxHeartbeats 3200000 in
theorem rightF_any (f : Fm) (i : In) (w : World) (hi : okIn i) (hg : good f = true) :
    Calls Try.prog 70 #[.agg (fmL f).toArray, .agg (insL i).toArray] w fun e w' => e = .returned (.bool (rightF f i)) ∧ Below w.heap.size w w' := by
  simp only [good, inside, Bool.and_eq_true, decide_eq_true_eq] at hg
  obtain ⟨⟨⟨⟨⟨⟨⟨⟨⟨⟨⟨l1, l2⟩, l3⟩, l4⟩, l5⟩, l6⟩, _⟩, _⟩, _⟩, _⟩, _⟩, ht⟩ := hg
  obtain ⟨_, k1, k2, k3, k4, k5, k6⟩ := hi
  have F1 := Lib.hid fun w => pfits_any i.d f.d.2 w k1 (by omega)
  have F2 := Lib.hid fun w => pfits_any i.a f.a.2 w k2 (by omega)
  have F3 := Lib.hid fun w => pfits_any i.b f.b.2 w k3 (by omega)
  have F4 := Lib.hid fun w => pfits_any i.s f.s.2 w k4 (by omega)
  have F5 := Lib.hid fun w => pfits_any i.n f.n.2 w k6 (by omega)
  have F6 := Lib.hid fun w => pfitsS_any i.n f.n.2 w k6 (by omega)
  have C := Lib.hid fun w => condition_any i.c w
  have RD : rightF f i = (fits i.d f.d.2 && fits i.a f.a.2 && fits i.b f.b.2 && fits i.s f.s.2 && (if f.signed then fitsS i.n f.n.2 else fits i.n f.n.2) && (if f.c.2 = 0 then i.c == 0 else cond i.c)) := rfl
  have RD := Lib.hid RD
  clear k1 k2 k3 k4 k5 k6 l1 l2 l3 l4 l5 l6 ht
  unfold fmL insL
  generalize fits i.d f.d.2 = b1 at *
  generalize fits i.a f.a.2 = b2 at *
  generalize fits i.b f.b.2 = b3 at *
  generalize fits i.s f.s.2 = b4 at *
  generalize fits i.n f.n.2 = b5 at *
  generalize fitsS i.n f.n.2 = b6 at *
  generalize cond i.c = b7 at *
  go_enter Try.func70, Try.ntmps70
  go_wp2_with (first
    | (with_reducible (refine (F1.out _).mono ?_); rintro e w' ⟨rfl, rfl⟩)
    | (with_reducible (refine (F2.out _).mono ?_); rintro e w' ⟨rfl, rfl⟩)
    | (with_reducible (refine (F3.out _).mono ?_); rintro e w' ⟨rfl, rfl⟩)
    | (with_reducible (refine (F4.out _).mono ?_); rintro e w' ⟨rfl, rfl⟩)
    | (with_reducible (refine (F5.out _).mono ?_); rintro e w' ⟨rfl, rfl⟩)
    | (with_reducible (refine (F6.out _).mono ?_); rintro e w' ⟨rfl, rfl⟩)
    | (with_reducible (refine (C.out _).mono ?_); rintro e w' ⟨rfl, rfl⟩))
  all_goals go_ret
  all_goals refine ⟨retb ?_, by go_grown⟩
  all_goals rw [RD.out]
  all_goals clear RD F1 F2 F3 F4 F5 F6 C
  all_goals first | (simp_all; done) | (simp_all; omega)
end Go.Proofs.Ytkohichiojmakaa.A64P
/-
  WALKS: package a64: a form's encode and decode.
-/
namespace Go.Proofs.Ytkohichiojmakaa.A64C
set_option linter.unusedVariables false
set_option linter.unusedSimpArgs false
open Go.RowKit Cm Mm A64 Fld FldW A64W A64P

theorem getc_any (W : BitVec 32) (a n : Nat) (q : Nat) (w : World) (hq : w.cell? ⟨q, 0, none⟩ = some (.int .u32 (W.toNat : Int))) (h : a + n ≤ 32) :
    Calls Try.prog 105 #[.agg #[.int .i64 (a : Nat), .int .i64 (n : Nat)], .pointer (some ⟨q, 0, none⟩)] w fun e w' => e = .returned (.int .i64 (getF W (a, n))) ∧ Below w.heap.size w w' := by
  have P : ∀ w, Calls Try.prog 106 #[.int .u32 (W.toNat : Int), .int .i64 (a : Int), .int .i64 (n : Int)] w fun e w' => e = .returned (.int .u32 (getF W (a, n))) ∧ ∃ n, w' = w.drewN n := fun w => by
    have := get_any (W.toNat : Int) W (a : Int) (n : Int) w rfl (by omega) (by omega) (by omega) (by omega)
    rwa [ca_nat (by omega), cn_nat h] at this
  have HP := Lib.hid P; clear P
  have hq' := alloc_cell hq
  have hb : 0 ≤ getF W (a, n) ∧ getF W (a, n) < 4294967296 := by
    unfold getF
    have := (get W a n).isLt
    omega
  obtain ⟨hb0, hb1⟩ := hb
  generalize getF W (a, n) = g at *
  go_enter Try.func105, Try.ntmps105
  go_wp2_with fail
  refine (HP.out _).mono ?_
  rintro e w' ⟨rfl, m, rfl⟩
  go_wp2_with fail
  go_ret
  exact ⟨rfl, below_drewN ((Below.refl _ _).alloc (Nat.le_refl _) _) _⟩

/-- the cells of a form and of an instruction; nothing elder has turned -/
abbrev SE (w0 : World) (p q : Nat) (f : Fm) (i : In) (c : Int) (w' : World) : Prop := (w'.cell? ⟨p, 0, none⟩ = some (.int .u32 (f.word.toNat : Int)) ∧ w'.cell? ⟨p, 1, none⟩ = some (.int .i64 (f.d.1 : Nat)) ∧ w'.cell? ⟨p, 2, none⟩ = some (.int .i64 (f.d.2 : Nat)) ∧ w'.cell? ⟨p, 3, none⟩ = some (.int .i64 (f.a.1 : Nat)) ∧ w'.cell? ⟨p, 4, none⟩ = some (.int .i64 (f.a.2 : Nat)) ∧ w'.cell? ⟨p, 5, none⟩ = some (.int .i64 (f.b.1 : Nat)) ∧ w'.cell? ⟨p, 6, none⟩ = some (.int .i64 (f.b.2 : Nat)) ∧ w'.cell? ⟨p, 7, none⟩ = some (.int .i64 (f.s.1 : Nat)) ∧ w'.cell? ⟨p, 8, none⟩ = some (.int .i64 (f.s.2 : Nat)) ∧ w'.cell? ⟨p, 9, none⟩ = some (.int .i64 (f.n.1 : Nat)) ∧ w'.cell? ⟨p, 10, none⟩ = some (.int .i64 (f.n.2 : Nat)) ∧ w'.cell? ⟨p, 11, none⟩ = some (.int .i64 (f.c.1 : Nat)) ∧ w'.cell? ⟨p, 12, none⟩ = some (.int .i64 (f.c.2 : Nat)) ∧ w'.cell? ⟨p, 13, none⟩ = some (.bool f.signed) ∧ w'.cell? ⟨p, 14, none⟩ = some (.bool f.turned) ∧ w'.cell? ⟨q, 1, none⟩ = some (.int .i64 i.d) ∧ w'.cell? ⟨q, 2, none⟩ = some (.int .i64 i.a) ∧ w'.cell? ⟨q, 3, none⟩ = some (.int .i64 i.b) ∧ w'.cell? ⟨q, 4, none⟩ = some (.int .i64 i.s) ∧ w'.cell? ⟨q, 5, none⟩ = some (.int .i64 c) ∧ w'.cell? ⟨q, 6, none⟩ = some (.int .i64 i.n)) ∧ Below w0.heap.size w0 w'
theorem SE.keep {w0 w w' : World} {p q : Nat} {f : Fm} {i : In} {c : Int} (h : SE w0 p q f i c w) (hb : Below w.heap.size w w') : SE w0 p q f i c w' := by
  obtain ⟨⟨h0, h1, h2, h3, h4, h5, h6, h7, h8, h9, h10, h11, h12, h13, h14, h15, h16, h17, h18, h19, h20⟩, hz⟩ := h
  have k : ∀ (x : Addr) (u : Value), w.cell? x = some u → w'.cell? x = some u := fun x u hx => by
    rw [World.cell?_of_block (hb.block _ (World.block_lt_of_cell? w x hx))]; exact hx
  exact ⟨⟨k _ _ h0, k _ _ h1, k _ _ h2, k _ _ h3, k _ _ h4, k _ _ h5, k _ _ h6, k _ _ h7, k _ _ h8, k _ _ h9, k _ _ h10, k _ _ h11, k _ _ h12, k _ _ h13, k _ _ h14, k _ _ h15, k _ _ h16, k _ _ h17, k _ _ h18, k _ _ h19, k _ _ h20⟩, hz.trans (hb.mono hz.size)⟩
theorem heap_al (w : World) (o : Obj) : (w.alloc o).heap = w.heap.push o := rfl
theorem SE.init (w : World) (f : Fm) (i : In) (c : Int) (t t' : TypeId) : SE w w.heap.size (w.heap.size + 1) f i c (((w.alloc (.cells (fmL f).toArray t)).alloc (.cells #[.int .i64 i.kind, .int .i64 i.d, .int .i64 i.a, .int .i64 i.b, .int .i64 i.s, .int .i64 c, .int .i64 i.n] t'))) := by
  refine ⟨?_, ((Below.refl _ _).alloc (Nat.le_refl _) _).alloc (by simp) _⟩
  have e1 : ((w.alloc (.cells (fmL f).toArray t)).alloc (.cells #[.int .i64 i.kind, .int .i64 i.d, .int .i64 i.a, .int .i64 i.b, .int .i64 i.s, .int .i64 c, .int .i64 i.n] t')).heap[w.heap.size]? = some (.cells (fmL f).toArray t (0, 0)) := by
    simp only [heap_al, Array.getElem?_push, Array.size_push]
    rw [if_neg (by omega)]
    simp
  have e2 : ((w.alloc (.cells (fmL f).toArray t)).alloc (.cells #[.int .i64 i.kind, .int .i64 i.d, .int .i64 i.a, .int .i64 i.b, .int .i64 i.s, .int .i64 c, .int .i64 i.n] t')).heap[w.heap.size + 1]? = some (.cells #[.int .i64 i.kind, .int .i64 i.d, .int .i64 i.a, .int .i64 i.b, .int .i64 i.s, .int .i64 c, .int .i64 i.n] t' (0, 0)) := by
    simp only [heap_al, Array.getElem?_push, Array.size_push]
    simp
  simp only [World.cell?, e1, e2]
  refine ⟨rfl, rfl, rfl, rfl, rfl, rfl, rfl, rfl, rfl, rfl, rfl, rfl, rfl, rfl, rfl, rfl, rfl, rfl, rfl, rfl, rfl⟩
theorem put_S (w0 : World) (p q : Nat) (f : Fm) (i : In) (c : Int) (W : BitVec 32) (x : Bt) (v : Int) (w : World) (hx : x.1 + x.2 ≤ 32) (h : SE w0 p q f i c w) :
    Calls Try.prog 103 #[.int .u32 (W.toNat : Int), .agg #[.int .i64 (x.1 : Nat), .int .i64 (x.2 : Nat)], .int .i64 v] w fun e w' => e = .returned (.int .u32 ((putF W x v).toNat : Int)) ∧ SE w0 p q f i c w' :=
  (putx_any (W.toNat : Int) W x.1 x.2 v w rfl hx).mono fun e w' ⟨h1, h2⟩ => ⟨h1, h.keep h2⟩

set_option maxRecDepth 20000 in
set_option maxHeartbeats 6400000 in
theorem encF_any (f : Fm) (i : In) (w : World) (hg : good f = true) :
    Calls Try.prog 73 #[.agg (fmL f).toArray, .agg (insL i).toArray] w fun e w' => e = .returned (.int .u32 ((encF f i).toNat : Int)) ∧ Below w.heap.size w w' := by
  simp only [good, inside, Bool.and_eq_true, decide_eq_true_eq] at hg
  obtain ⟨⟨⟨⟨⟨⟨⟨⟨⟨⟨⟨l1, l2⟩, l3⟩, l4⟩, l5⟩, l6⟩, _⟩, _⟩, _⟩, _⟩, _⟩, ht⟩ := hg
  have hd : encF f i = putF (putF (putF (putF (putF (putF f.word f.d i.d) f.a i.a) f.b i.b) f.s i.s) f.n i.n) f.c (A64.flip f i.c) := rfl
  have HD := Lib.hid hd; clear hd
  have L1 := Lib.hid l1
  have L2 := Lib.hid l2
  have L3 := Lib.hid l3
  have L4 := Lib.hid l4
  have L5 := Lib.hid l5
  have L6 := Lib.hid l6
  clear l1 l2 l3 l4 l5 l6 ht
  have S0 := Lib.hid (SE.init w f i (A64.flip f i.c) 150 45)
  have e : A64.flip f i.c = if f.turned then bits .xor .i64 i.c 1 else i.c := rfl
  unfold fmL insL
  cases hT : f.turned
  all_goals
    rw [hT] at e
    simp only [if_true, if_false, Bool.false_eq_true] at e
    unfold fmL at S0
    rw [hT, e] at S0
    have HT := Lib.hid hT
    rw [e] at HD
    clear e hT
    go_enter Try.func73, Try.ntmps73
    go_wp2_with fail
    generalize hwb : (World.alloc (World.alloc w _) _) = wb at *
    clear hwb
    generalize w.heap.size + 1 = q at *
    generalize w.heap.size = p at *
    obtain ⟨CC, hCC⟩ : ∃ CC, SE w p q f i CC wb ∧ encF f i = putF (putF (putF (putF (putF (putF f.word f.d i.d) f.a i.a) f.b i.b) f.s i.s) f.n i.n) f.c CC := ⟨_, S0.out, HD.out⟩
    obtain ⟨SA, HE⟩ := hCC
    have HE := Lib.hid HE
    have SB := SE.keep SA ((Below.refl _ _).drew)
    have SB := Lib.hid SB
    clear S0 HD SA
    go_region_held3 (fun w' => (w'.cell? ⟨p, 0, none⟩ = some (.int .u32 (f.word.toNat : Int)) ∧ w'.cell? ⟨p, 1, none⟩ = some (.int .i64 (f.d.1 : Nat)) ∧ w'.cell? ⟨p, 2, none⟩ = some (.int .i64 (f.d.2 : Nat)) ∧ w'.cell? ⟨p, 3, none⟩ = some (.int .i64 (f.a.1 : Nat)) ∧ w'.cell? ⟨p, 4, none⟩ = some (.int .i64 (f.a.2 : Nat)) ∧ w'.cell? ⟨p, 5, none⟩ = some (.int .i64 (f.b.1 : Nat)) ∧ w'.cell? ⟨p, 6, none⟩ = some (.int .i64 (f.b.2 : Nat)) ∧ w'.cell? ⟨p, 7, none⟩ = some (.int .i64 (f.s.1 : Nat)) ∧ w'.cell? ⟨p, 8, none⟩ = some (.int .i64 (f.s.2 : Nat)) ∧ w'.cell? ⟨p, 9, none⟩ = some (.int .i64 (f.n.1 : Nat)) ∧ w'.cell? ⟨p, 10, none⟩ = some (.int .i64 (f.n.2 : Nat)) ∧ w'.cell? ⟨p, 11, none⟩ = some (.int .i64 (f.c.1 : Nat)) ∧ w'.cell? ⟨p, 12, none⟩ = some (.int .i64 (f.c.2 : Nat)) ∧ w'.cell? ⟨p, 13, none⟩ = some (.bool f.signed) ∧ w'.cell? ⟨p, 14, none⟩ = some (.bool f.turned) ∧ w'.cell? ⟨q, 1, none⟩ = some (.int .i64 i.d) ∧ w'.cell? ⟨q, 2, none⟩ = some (.int .i64 i.a) ∧ w'.cell? ⟨q, 3, none⟩ = some (.int .i64 i.b) ∧ w'.cell? ⟨q, 4, none⟩ = some (.int .i64 i.s) ∧ w'.cell? ⟨q, 5, none⟩ = some (.int .i64 CC) ∧ w'.cell? ⟨q, 6, none⟩ = some (.int .i64 i.n)) ∧ Below w.heap.size w w') (assumption)
      (first
        | (go_at_call 103; with_reducible refine (put_S w p q f i CC (f.word) f.d i.d _ L1.out (by assumption)).mono ?_; rintro e wx ⟨rfl, SC⟩)
        | (go_at_call 103; with_reducible refine (put_S w p q f i CC (putF f.word f.d i.d) f.a i.a _ L2.out (by assumption)).mono ?_; rintro e wx ⟨rfl, SC⟩)
        | (go_at_call 103; with_reducible refine (put_S w p q f i CC (putF (putF f.word f.d i.d) f.a i.a) f.b i.b _ L3.out (by assumption)).mono ?_; rintro e wx ⟨rfl, SC⟩))
    go_wp2_with fail
    generalize putF (putF (putF f.word f.d i.d) f.a i.a) f.b i.b = W3 at *
    have S1 := Lib.hid (SE.keep SC ((Below.refl _ _).drew))
    clear SC
    go_region_held3 (fun w' => (w'.cell? ⟨p, 0, none⟩ = some (.int .u32 (f.word.toNat : Int)) ∧ w'.cell? ⟨p, 1, none⟩ = some (.int .i64 (f.d.1 : Nat)) ∧ w'.cell? ⟨p, 2, none⟩ = some (.int .i64 (f.d.2 : Nat)) ∧ w'.cell? ⟨p, 3, none⟩ = some (.int .i64 (f.a.1 : Nat)) ∧ w'.cell? ⟨p, 4, none⟩ = some (.int .i64 (f.a.2 : Nat)) ∧ w'.cell? ⟨p, 5, none⟩ = some (.int .i64 (f.b.1 : Nat)) ∧ w'.cell? ⟨p, 6, none⟩ = some (.int .i64 (f.b.2 : Nat)) ∧ w'.cell? ⟨p, 7, none⟩ = some (.int .i64 (f.s.1 : Nat)) ∧ w'.cell? ⟨p, 8, none⟩ = some (.int .i64 (f.s.2 : Nat)) ∧ w'.cell? ⟨p, 9, none⟩ = some (.int .i64 (f.n.1 : Nat)) ∧ w'.cell? ⟨p, 10, none⟩ = some (.int .i64 (f.n.2 : Nat)) ∧ w'.cell? ⟨p, 11, none⟩ = some (.int .i64 (f.c.1 : Nat)) ∧ w'.cell? ⟨p, 12, none⟩ = some (.int .i64 (f.c.2 : Nat)) ∧ w'.cell? ⟨p, 13, none⟩ = some (.bool f.signed) ∧ w'.cell? ⟨p, 14, none⟩ = some (.bool f.turned) ∧ w'.cell? ⟨q, 1, none⟩ = some (.int .i64 i.d) ∧ w'.cell? ⟨q, 2, none⟩ = some (.int .i64 i.a) ∧ w'.cell? ⟨q, 3, none⟩ = some (.int .i64 i.b) ∧ w'.cell? ⟨q, 4, none⟩ = some (.int .i64 i.s) ∧ w'.cell? ⟨q, 5, none⟩ = some (.int .i64 CC) ∧ w'.cell? ⟨q, 6, none⟩ = some (.int .i64 i.n)) ∧ Below w.heap.size w w') (assumption)
      (first
        | (go_at_call 103; with_reducible refine (put_S w p q f i CC (W3) f.s i.s _ L4.out (by assumption)).mono ?_; rintro e wx ⟨rfl, SC⟩)
        | (go_at_call 103; with_reducible refine (put_S w p q f i CC (putF W3 f.s i.s) f.n i.n _ L5.out (by assumption)).mono ?_; rintro e wx ⟨rfl, SC⟩)
        | (go_at_call 103; with_reducible refine (put_S w p q f i CC (putF (putF W3 f.s i.s) f.n i.n) f.c CC _ L6.out (by assumption)).mono ?_; rintro e wx ⟨rfl, SC⟩))
    go_wp2_with fail
    go_ret
    exact ⟨by rw [HE.out]; rfl, SC.2⟩
end Go.Proofs.Ytkohichiojmakaa.A64C
/-
  WALK: a64.forms: the table, in a row of its own.
-/
namespace Go.Proofs.Ytkohichiojmakaa.A64T
set_option linter.unusedVariables false
set_option linter.unusedSimpArgs false
open Go.RowKit Cm Mm Ow A64 FldW A64W

/-- the three registers' fields lie in the variables p, q, r; nothing elder has turned -/
abbrev S6 (w0 : World) (p q r : Nat) (w' : World) : Prop := (w'.cell? ⟨p, 0, none⟩ = some (.int .i64 0) ∧ w'.cell? ⟨p, 1, none⟩ = some (.int .i64 5) ∧ w'.cell? ⟨q, 0, none⟩ = some (.int .i64 5) ∧ w'.cell? ⟨q, 1, none⟩ = some (.int .i64 5) ∧ w'.cell? ⟨r, 0, none⟩ = some (.int .i64 16) ∧ w'.cell? ⟨r, 1, none⟩ = some (.int .i64 5)) ∧ Below w0.heap.size w0 w'
theorem heap_al (w : World) (o : Obj) : (w.alloc o).heap = w.heap.push o := rfl
theorem S6.keep {w0 w w' : World} {p q r : Nat} (h : S6 w0 p q r w) (hb : Below w.heap.size w w') : S6 w0 p q r w' := by
  obtain ⟨⟨h1, h2, h3, h4, h5, h6⟩, h7⟩ := h
  have k : ∀ (x : Addr) (u : Value), w.cell? x = some u → w'.cell? x = some u := fun x u hx => by
    rw [World.cell?_of_block (hb.block _ (World.block_lt_of_cell? w x hx))]; exact hx
  exact ⟨⟨k _ _ h1, k _ _ h2, k _ _ h3, k _ _ h4, k _ _ h5, k _ _ h6⟩, h7.trans (hb.mono h7.size)⟩
theorem half_S (w0 : World) (p q r : Nat) (x : Int) (w : World) (h : S6 w0 p q r w) :
    Calls Try.prog 94 #[.int .u32 x, .pointer (some ⟨p, 0, none⟩)] w fun e w' => e = .returned (.agg #[.int .u32 x, .int .i64 0, .int .i64 5, .int .i64 0, .int .i64 0, .int .i64 0, .int .i64 0, .int .i64 21, .int .i64 2, .int .i64 5, .int .i64 16, .int .i64 0, .int .i64 0, .bool false, .bool false]) ∧ S6 w0 p q r w' :=
  (half_any x p w ⟨h.1.1, h.1.2.1⟩).mono fun e w' ⟨h1, h2⟩ => ⟨h1, h.keep h2⟩
theorem three_S (w0 : World) (p q r : Nat) (x : Int) (w : World) (h : S6 w0 p q r w) :
    Calls Try.prog 95 #[.int .u32 x, .pointer (some ⟨p, 0, none⟩), .pointer (some ⟨q, 0, none⟩), .pointer (some ⟨r, 0, none⟩)] w fun e w' => e = .returned (.agg #[.int .u32 x, .int .i64 0, .int .i64 5, .int .i64 5, .int .i64 5, .int .i64 16, .int .i64 5, .int .i64 0, .int .i64 0, .int .i64 0, .int .i64 0, .int .i64 0, .int .i64 0, .bool false, .bool false]) ∧ S6 w0 p q r w' :=
  (three_any x p q r w ⟨h.1.1, h.1.2.1⟩ ⟨h.1.2.2.1, h.1.2.2.2.1⟩ ⟨h.1.2.2.2.2.1, h.1.2.2.2.2.2⟩).mono fun e w' ⟨h1, h2⟩ => ⟨h1, h.keep h2⟩
theorem zeroN_S (w0 : World) (p q r : Nat) (x : Int) (w : World) (h : S6 w0 p q r w) :
    Calls Try.prog 96 #[.int .u32 x] w fun e w' => e = .returned (.agg #[.int .u32 x, .int .i64 0, .int .i64 0, .int .i64 0, .int .i64 5, .int .i64 0, .int .i64 0, .int .i64 0, .int .i64 0, .int .i64 5, .int .i64 19, .int .i64 0, .int .i64 0, .bool true, .bool false]) ∧ S6 w0 p q r w' :=
  (zeroN_any x  w ).mono fun e w' ⟨h1, h2⟩ => ⟨h1, h.keep h2⟩
theorem far_S (w0 : World) (p q r : Nat) (x : Int) (w : World) (h : S6 w0 p q r w) :
    Calls Try.prog 97 #[.int .u32 x, .pointer (some ⟨p, 0, none⟩), .pointer (some ⟨q, 0, none⟩)] w fun e w' => e = .returned (.agg #[.int .u32 x, .int .i64 0, .int .i64 5, .int .i64 5, .int .i64 5, .int .i64 0, .int .i64 0, .int .i64 0, .int .i64 0, .int .i64 10, .int .i64 12, .int .i64 0, .int .i64 0, .bool false, .bool false]) ∧ S6 w0 p q r w' :=
  (far_any x p q w ⟨h.1.1, h.1.2.1⟩ ⟨h.1.2.2.1, h.1.2.2.2.1⟩).mono fun e w' ⟨h1, h2⟩ => ⟨h1, h.keep h2⟩
theorem two_S (w0 : World) (p q r : Nat) (x : Int) (w : World) (h : S6 w0 p q r w) :
    Calls Try.prog 98 #[.int .u32 x, .pointer (some ⟨p, 0, none⟩), .pointer (some ⟨q, 0, none⟩)] w fun e w' => e = .returned (.agg #[.int .u32 x, .int .i64 0, .int .i64 5, .int .i64 5, .int .i64 5, .int .i64 0, .int .i64 0, .int .i64 0, .int .i64 0, .int .i64 0, .int .i64 0, .int .i64 0, .int .i64 0, .bool false, .bool false]) ∧ S6 w0 p q r w' :=
  (two_any x p q w ⟨h.1.1, h.1.2.1⟩ ⟨h.1.2.2.1, h.1.2.2.2.1⟩).mono fun e w' ⟨h1, h2⟩ => ⟨h1, h.keep h2⟩
theorem bare_S (w0 : World) (p q r : Nat) (x : Int) (w : World) (h : S6 w0 p q r w) :
    Calls Try.prog 99 #[.int .u32 x] w fun e w' => e = .returned (.agg #[.int .u32 x, .int .i64 0, .int .i64 0, .int .i64 0, .int .i64 0, .int .i64 0, .int .i64 0, .int .i64 0, .int .i64 0, .int .i64 0, .int .i64 0, .int .i64 0, .int .i64 0, .bool false, .bool false]) ∧ S6 w0 p q r w' :=
  (bare_any x  w ).mono fun e w' ⟨h1, h2⟩ => ⟨h1, h.keep h2⟩
theorem register_S (w0 : World) (p q r : Nat) (k : Int) (w : World) (h : S6 w0 p q r w) : Calls Try.prog 93 #[.int .i64 k] w fun e w' => e = .returned (.agg #[.int .i64 k, .int .i64 5]) ∧ S6 w0 p q r w' :=
  (register_any k w).mono fun e w' ⟨h1, h2⟩ => ⟨h1, h.keep (by rw [h2]; exact (Below.refl _ _).alloc (Nat.le_refl _) _)⟩

/-- the table's cells -/
def tableCells : Array Value := (table.map fmL).flatten.toArray
theorem form_info : (Try.prog.info? 150).map (fun i => (i.zero, i.size)) = some (some (.agg #[.int .u32 0, .int .i64 0, .int .i64 0, .int .i64 0, .int .i64 0, .int .i64 0, .int .i64 0, .int .i64 0, .int .i64 0, .int .i64 0, .int .i64 0, .int .i64 0, .int .i64 0, .bool false, .bool false]), 15) := by kernel_rfl
theorem run_table (w : World) : (Instr.buildSlice 145 24 #[(0, .agg #[.int .u32 3531603968, .int .i64 0, .int .i64 5, .int .i64 0, .int .i64 0, .int .i64 0, .int .i64 0, .int .i64 21, .int .i64 2, .int .i64 5, .int .i64 16, .int .i64 0, .int .i64 0, .bool false, .bool false]),
    (1, .agg #[.int .u32 4068474880, .int .i64 0, .int .i64 5, .int .i64 0, .int .i64 0, .int .i64 0, .int .i64 0, .int .i64 21, .int .i64 2, .int .i64 5, .int .i64 16, .int .i64 0, .int .i64 0, .bool false, .bool false]),
    (2, .agg #[.int .u32 2332033024, .int .i64 0, .int .i64 5, .int .i64 5, .int .i64 5, .int .i64 16, .int .i64 5, .int .i64 0, .int .i64 0, .int .i64 0, .int .i64 0, .int .i64 0, .int .i64 0, .bool false, .bool false]),
    (3, .agg #[.int .u32 3405774848, .int .i64 0, .int .i64 5, .int .i64 5, .int .i64 5, .int .i64 16, .int .i64 5, .int .i64 0, .int .i64 0, .int .i64 0, .int .i64 0, .int .i64 0, .int .i64 0, .bool false, .bool false]),
    (4, .agg #[.int .u32 2600500224, .int .i64 0, .int .i64 5, .int .i64 5, .int .i64 5, .int .i64 16, .int .i64 5, .int .i64 0, .int .i64 0, .int .i64 0, .int .i64 0, .int .i64 0, .int .i64 0, .bool false, .bool false]),
    (5, .agg #[.int .u32 2315255808, .int .i64 0, .int .i64 5, .int .i64 5, .int .i64 5, .int .i64 16, .int .i64 5, .int .i64 0, .int .i64 0, .int .i64 0, .int .i64 0, .int .i64 0, .int .i64 0, .bool false, .bool false]),
    (6, .agg #[.int .u32 3942645791, .int .i64 0, .int .i64 0, .int .i64 5, .int .i64 5, .int .i64 16, .int .i64 5, .int .i64 0, .int .i64 0, .int .i64 0, .int .i64 0, .int .i64 0, .int .i64 0, .bool false, .bool false]),
    (7, .agg #[.int .u32 2594113504, .int .i64 0, .int .i64 5, .int .i64 0, .int .i64 0, .int .i64 0, .int .i64 0, .int .i64 0, .int .i64 0, .int .i64 0, .int .i64 0, .int .i64 12, .int .i64 4, .bool false, .bool true]),
    (8, .agg #[.int .u32 335544320, .int .i64 0, .int .i64 0, .int .i64 0, .int .i64 0, .int .i64 0, .int .i64 0, .int .i64 0, .int .i64 0, .int .i64 0, .int .i64 26, .int .i64 0, .int .i64 0, .bool true, .bool false]),
    (9, .agg #[.int .u32 1409286144, .int .i64 0, .int .i64 0, .int .i64 0, .int .i64 0, .int .i64 0, .int .i64 0, .int .i64 0, .int .i64 0, .int .i64 5, .int .i64 19, .int .i64 0, .int .i64 4, .bool true, .bool false]),
    (10, .agg #[.int .u32 3019898880, .int .i64 0, .int .i64 0, .int .i64 0, .int .i64 5, .int .i64 0, .int .i64 0, .int .i64 0, .int .i64 0, .int .i64 5, .int .i64 19, .int .i64 0, .int .i64 0, .bool true, .bool false]),
    (11, .agg #[.int .u32 3036676096, .int .i64 0, .int .i64 0, .int .i64 0, .int .i64 5, .int .i64 0, .int .i64 0, .int .i64 0, .int .i64 0, .int .i64 5, .int .i64 19, .int .i64 0, .int .i64 0, .bool true, .bool false]),
    (12, .agg #[.int .u32 4181721088, .int .i64 0, .int .i64 5, .int .i64 5, .int .i64 5, .int .i64 0, .int .i64 0, .int .i64 0, .int .i64 0, .int .i64 10, .int .i64 12, .int .i64 0, .int .i64 0, .bool false, .bool false]),
    (13, .agg #[.int .u32 4177526784, .int .i64 0, .int .i64 5, .int .i64 5, .int .i64 5, .int .i64 0, .int .i64 0, .int .i64 0, .int .i64 0, .int .i64 10, .int .i64 12, .int .i64 0, .int .i64 0, .bool false, .bool false]),
    (14, .agg #[.int .u32 3370122240, .int .i64 0, .int .i64 5, .int .i64 5, .int .i64 5, .int .i64 0, .int .i64 0, .int .i64 0, .int .i64 0, .int .i64 0, .int .i64 0, .int .i64 0, .int .i64 0, .bool false, .bool false]),
    (15, .agg #[.int .u32 3365927936, .int .i64 0, .int .i64 5, .int .i64 5, .int .i64 5, .int .i64 0, .int .i64 0, .int .i64 0, .int .i64 0, .int .i64 0, .int .i64 0, .int .i64 0, .int .i64 0, .bool false, .bool false]),
    (16, .agg #[.int .u32 3361700864, .int .i64 0, .int .i64 5, .int .i64 5, .int .i64 5, .int .i64 0, .int .i64 0, .int .i64 0, .int .i64 0, .int .i64 0, .int .i64 0, .int .i64 0, .int .i64 0, .bool false, .bool false]),
    (17, .agg #[.int .u32 3355474944, .int .i64 0, .int .i64 5, .int .i64 5, .int .i64 5, .int .i64 0, .int .i64 0, .int .i64 16, .int .i64 5, .int .i64 0, .int .i64 0, .int .i64 0, .int .i64 0, .bool false, .bool false]),
    (18, .agg #[.int .u32 3573758911, .int .i64 0, .int .i64 0, .int .i64 0, .int .i64 0, .int .i64 0, .int .i64 0, .int .i64 0, .int .i64 0, .int .i64 0, .int .i64 0, .int .i64 0, .int .i64 0, .bool false, .bool false]),
    (19, .agg #[.int .u32 3573758879, .int .i64 0, .int .i64 0, .int .i64 0, .int .i64 0, .int .i64 0, .int .i64 0, .int .i64 0, .int .i64 0, .int .i64 0, .int .i64 0, .int .i64 0, .int .i64 0, .bool false, .bool false]),
    (20, .agg #[.int .u32 3574299680, .int .i64 0, .int .i64 0, .int .i64 0, .int .i64 5, .int .i64 0, .int .i64 0, .int .i64 0, .int .i64 0, .int .i64 0, .int .i64 0, .int .i64 0, .int .i64 0, .bool false, .bool false]),
    (21, .agg #[.int .u32 3573751839, .int .i64 0, .int .i64 0, .int .i64 0, .int .i64 0, .int .i64 0, .int .i64 0, .int .i64 0, .int .i64 0, .int .i64 0, .int .i64 0, .int .i64 0, .int .i64 0, .bool false, .bool false]),
    (22, .agg #[.int .u32 3560964096, .int .i64 0, .int .i64 0, .int .i64 0, .int .i64 0, .int .i64 0, .int .i64 0, .int .i64 0, .int .i64 0, .int .i64 0, .int .i64 0, .int .i64 0, .int .i64 0, .bool false, .bool false]),
    (23, .agg #[.int .u32 3556769793, .int .i64 0, .int .i64 0, .int .i64 0, .int .i64 0, .int .i64 0, .int .i64 0, .int .i64 0, .int .i64 0, .int .i64 0, .int .i64 0, .int .i64 0, .int .i64 0, .bool false, .bool false])]).run Try.prog w = .ok (.slice (some ⟨w.heap.size, 0, none⟩) 24 24) (w.alloc (.cells tableCells 150)) := by
  cases hi : Try.prog.info? 150 with
  | none => have := form_info; rw [hi] at this; cases this
  | some i =>
    have h := form_info
    rw [hi] at h
    simp only [Option.map_some, Option.some.injEq, Prod.mk.injEq] at h
    exact run_buildSlice w _ _ 24 _ tableCells i _ Try.underlying145 hi h.1 (by rw [h.2]; decide) (by rw [h.2]; decide) (by rw [h.2]; kernel_rfl)

section
attribute [-go_sem] Instr.buildSlice
set_option maxRecDepth 20000 in
set_option maxHeartbeats 6400000 in
theorem forms_any (w : World) : Calls Try.prog 69 #[] w fun e w' => ∃ g, e = .returned (.slice (some ⟨g, 0, none⟩) 24 24) ∧ w.heap.size ≤ g ∧ w'.heap[g]? = some (.cells tableCells 150 (0, 0)) ∧ Below w.heap.size w w' := by
  have S0 : S6 w (w.heap.size + 1 + 1 + 1) (w.heap.size + 1 + 1 + 1 + 1) (w.heap.size + 1 + 1 + 1 + 1 + 1) ((((((w.alloc (.cells #[.int .i64 0, .int .i64 5] 148)).alloc (.cells #[.int .i64 5, .int .i64 5] 148)).alloc (.cells #[.int .i64 16, .int .i64 5] 148)).alloc (.cells #[.int .i64 0, .int .i64 5] 148)).alloc (.cells #[.int .i64 5, .int .i64 5] 148)).alloc (.cells #[.int .i64 16, .int .i64 5] 148)).drew := by
    refine ⟨?_, by go_grown⟩
    simp only [World.cell?, heap_drew, heap_al, Array.getElem?_push, Array.size_push]
    refine ⟨?_, ?_, ?_, ?_, ?_, ?_⟩ <;> simp
  have HS := Lib.hid S0; clear S0
  go_enter Try.func69, Try.ntmps69
  go_wp2_with fail
  refine (register_any 0 _).mono ?_
  rintro e w1 ⟨rfl, rfl⟩
  go_wp2_with fail
  refine (register_any 5 _).mono ?_
  rintro e w1 ⟨rfl, rfl⟩
  go_wp2_with fail
  refine (register_any 16 _).mono ?_
  rintro e w1 ⟨rfl, rfl⟩
  go_wp2_with fail
  generalize ((((((w.alloc (.cells #[.int .i64 0, .int .i64 5] 148)).alloc (.cells #[.int .i64 5, .int .i64 5] 148)).alloc (.cells #[.int .i64 16, .int .i64 5] 148)).alloc (.cells #[.int .i64 0, .int .i64 5] 148)).alloc (.cells #[.int .i64 5, .int .i64 5] 148)).alloc (.cells #[.int .i64 16, .int .i64 5] 148)) = wb at *
  generalize w.heap.size + 1 + 1 + 1 + 1 + 1 = r at *
  generalize w.heap.size + 1 + 1 + 1 + 1 = q at *
  generalize w.heap.size + 1 + 1 + 1 = p at *
  have SB := HS.out
  have RT := run_table
  go_region_held3 (fun w' => (w'.cell? ⟨p, 0, none⟩ = some (.int .i64 0) ∧ w'.cell? ⟨p, 1, none⟩ = some (.int .i64 5) ∧ w'.cell? ⟨q, 0, none⟩ = some (.int .i64 5) ∧ w'.cell? ⟨q, 1, none⟩ = some (.int .i64 5) ∧ w'.cell? ⟨r, 0, none⟩ = some (.int .i64 16) ∧ w'.cell? ⟨r, 1, none⟩ = some (.int .i64 5)) ∧ Below w.heap.size w w') (first | assumption | exact S6.keep SC ((Below.refl _ _).alloc (Nat.le_refl _) _))
    (first
      | (go_at_call 94; refine (half_S w p q r _ _ (by assumption)).mono ?_; rintro e wx ⟨rfl, SC⟩)
      | (go_at_call 95; refine (three_S w p q r _ _ (by assumption)).mono ?_; rintro e wx ⟨rfl, SC⟩)
      | (go_at_call 96; refine (zeroN_S w p q r _ _ (by assumption)).mono ?_; rintro e wx ⟨rfl, SC⟩)
      | (go_at_call 97; refine (far_S w p q r _ _ (by assumption)).mono ?_; rintro e wx ⟨rfl, SC⟩)
      | (go_at_call 98; refine (two_S w p q r _ _ (by assumption)).mono ?_; rintro e wx ⟨rfl, SC⟩)
      | (go_at_call 99; refine (bare_S w p q r _ _ (by assumption)).mono ?_; rintro e wx ⟨rfl, SC⟩)
      | (go_at_call 93; refine (register_S w p q r _ _ (by assumption)).mono ?_; rintro e wx ⟨rfl, SC⟩))
  go_wp2_with fail
  go_returns
  exact ⟨_, rfl, SC.2.size, heap_alloc_new _ _, SC.2.trans ((Below.refl _ _).alloc SC.2.size _)⟩
end
end Go.Proofs.Ytkohichiojmakaa.A64T
/-
  WALKS: package a64: Right and Encode.
-/
namespace Go.Proofs.Ytkohichiojmakaa.A64R
set_option linter.unusedVariables false
set_option linter.unusedSimpArgs false
open Go.RowKit Cm Mm Ow A64 Fld FldW A64W A64P A64C A64T
attribute [local go_sem ↓] Go.wp_at_zero Go.wp_at_succ

/-- the cells of a form in the table and of an instruction; nothing elder has turned -/
abbrev SR (w0 : World) (g o q : Nat) (f : Fm) (i : In) (w' : World) : Prop := ((w'.cell? ⟨g, o, none⟩ = some (.int .u32 (f.word.toNat : Int)) ∧ w'.cell? ⟨g, o + 1, none⟩ = some (.int .i64 (f.d.1 : Nat)) ∧ w'.cell? ⟨g, o + 2, none⟩ = some (.int .i64 (f.d.2 : Nat)) ∧ w'.cell? ⟨g, o + 3, none⟩ = some (.int .i64 (f.a.1 : Nat)) ∧ w'.cell? ⟨g, o + 4, none⟩ = some (.int .i64 (f.a.2 : Nat)) ∧ w'.cell? ⟨g, o + 5, none⟩ = some (.int .i64 (f.b.1 : Nat)) ∧ w'.cell? ⟨g, o + 6, none⟩ = some (.int .i64 (f.b.2 : Nat)) ∧ w'.cell? ⟨g, o + 7, none⟩ = some (.int .i64 (f.s.1 : Nat)) ∧ w'.cell? ⟨g, o + 8, none⟩ = some (.int .i64 (f.s.2 : Nat)) ∧ w'.cell? ⟨g, o + 9, none⟩ = some (.int .i64 (f.n.1 : Nat)) ∧ w'.cell? ⟨g, o + 10, none⟩ = some (.int .i64 (f.n.2 : Nat)) ∧ w'.cell? ⟨g, o + 11, none⟩ = some (.int .i64 (f.c.1 : Nat)) ∧ w'.cell? ⟨g, o + 12, none⟩ = some (.int .i64 (f.c.2 : Nat)) ∧ w'.cell? ⟨g, o + 13, none⟩ = some (.bool f.signed) ∧ w'.cell? ⟨g, o + 14, none⟩ = some (.bool f.turned)) ∧ (w'.cell? ⟨q, 0, none⟩ = some (.int .i64 i.kind) ∧ w'.cell? ⟨q, 1, none⟩ = some (.int .i64 i.d) ∧ w'.cell? ⟨q, 2, none⟩ = some (.int .i64 i.a) ∧ w'.cell? ⟨q, 3, none⟩ = some (.int .i64 i.b) ∧ w'.cell? ⟨q, 4, none⟩ = some (.int .i64 i.s) ∧ w'.cell? ⟨q, 5, none⟩ = some (.int .i64 i.c) ∧ w'.cell? ⟨q, 6, none⟩ = some (.int .i64 i.n))) ∧ Below w0.heap.size w0 w'
theorem SR.keep {w0 w w' : World} {g o q : Nat} {f : Fm} {i : In} (h : SR w0 g o q f i w) (hb : Below w.heap.size w w') : SR w0 g o q f i w' := by
  obtain ⟨⟨⟨h0, h1, h2, h3, h4, h5, h6, h7, h8, h9, h10, h11, h12, h13, h14⟩, ⟨h15, h16, h17, h18, h19, h20, h21⟩⟩, hz⟩ := h
  have k : ∀ (x : Addr) (u : Value), w.cell? x = some u → w'.cell? x = some u := fun x u hx => by
    rw [World.cell?_of_block (hb.block _ (World.block_lt_of_cell? w x hx))]; exact hx
  exact ⟨⟨⟨k _ _ h0, k _ _ h1, k _ _ h2, k _ _ h3, k _ _ h4, k _ _ h5, k _ _ h6, k _ _ h7, k _ _ h8, k _ _ h9, k _ _ h10, k _ _ h11, k _ _ h12, k _ _ h13, k _ _ h14⟩, ⟨k _ _ h15, k _ _ h16, k _ _ h17, k _ _ h18, k _ _ h19, k _ _ h20, k _ _ h21⟩⟩, hz.trans (hb.mono hz.size)⟩
theorem table_len : table.length = 24 := by decide
theorem table_get (k j : Nat) (hk : k < 24) (hj : j < 15) : tableCells[k * 15 + j]? = (fmL (form k))[j]? := by
  have h := flat_get (L := table.map fmL) (sz := 15) (fun x hx => by obtain ⟨f, _, rfl⟩ := List.mem_map.1 hx; rfl) k j (by simp [table_len, hk]) hj
  have e : (table.map fmL).getD k [] = fmL (form k) := by
    unfold form
    simp [List.getD, List.getElem?_map, table_len, hk]
  rw [e] at h
  unfold tableCells
  rw [List.getElem?_toArray]
  exact h
/-- the form of a kind lies in the table -/
theorem form_cells {w : World} {g k : Nat} (h : w.heap[g]? = some (.cells tableCells 150 (0, 0))) (hk : k < 24) : w.cell? ⟨g, k * 15, none⟩ = some (.int .u32 ((form k).word.toNat : Int)) ∧ w.cell? ⟨g, k * 15 + 1, none⟩ = some (.int .i64 ((form k).d.1 : Nat)) ∧ w.cell? ⟨g, k * 15 + 2, none⟩ = some (.int .i64 ((form k).d.2 : Nat)) ∧ w.cell? ⟨g, k * 15 + 3, none⟩ = some (.int .i64 ((form k).a.1 : Nat)) ∧ w.cell? ⟨g, k * 15 + 4, none⟩ = some (.int .i64 ((form k).a.2 : Nat)) ∧ w.cell? ⟨g, k * 15 + 5, none⟩ = some (.int .i64 ((form k).b.1 : Nat)) ∧ w.cell? ⟨g, k * 15 + 6, none⟩ = some (.int .i64 ((form k).b.2 : Nat)) ∧ w.cell? ⟨g, k * 15 + 7, none⟩ = some (.int .i64 ((form k).s.1 : Nat)) ∧ w.cell? ⟨g, k * 15 + 8, none⟩ = some (.int .i64 ((form k).s.2 : Nat)) ∧ w.cell? ⟨g, k * 15 + 9, none⟩ = some (.int .i64 ((form k).n.1 : Nat)) ∧ w.cell? ⟨g, k * 15 + 10, none⟩ = some (.int .i64 ((form k).n.2 : Nat)) ∧ w.cell? ⟨g, k * 15 + 11, none⟩ = some (.int .i64 ((form k).c.1 : Nat)) ∧ w.cell? ⟨g, k * 15 + 12, none⟩ = some (.int .i64 ((form k).c.2 : Nat)) ∧ w.cell? ⟨g, k * 15 + 13, none⟩ = some (.bool (form k).signed) ∧ w.cell? ⟨g, k * 15 + 14, none⟩ = some (.bool (form k).turned) := by
  have c : ∀ j, j < 15 → w.cell? ⟨g, k * 15 + j, none⟩ = (fmL (form k))[j]? := fun j hj => by
    rw [← table_get k j hk hj]
    simp [World.cell?, h]
  refine ⟨by simpa [fmL] using c 0 (by omega), by simpa [fmL] using c 1 (by omega), by simpa [fmL] using c 2 (by omega), by simpa [fmL] using c 3 (by omega), by simpa [fmL] using c 4 (by omega), by simpa [fmL] using c 5 (by omega), by simpa [fmL] using c 6 (by omega), by simpa [fmL] using c 7 (by omega), by simpa [fmL] using c 8 (by omega), by simpa [fmL] using c 9 (by omega), by simpa [fmL] using c 10 (by omega), by simpa [fmL] using c 11 (by omega), by simpa [fmL] using c 12 (by omega), by simpa [fmL] using c 13 (by omega), by simpa [fmL] using c 14 (by omega)⟩
theorem rightF_S (w0 : World) (g o q : Nat) (f : Fm) (i : In) (w : World) (hi : okIn i) (hg : good f = true) (h : SR w0 g o q f i w) :
    Calls Try.prog 70 #[.agg #[.int .u32 (f.word.toNat : Int), .int .i64 (f.d.1 : Nat), .int .i64 (f.d.2 : Nat), .int .i64 (f.a.1 : Nat), .int .i64 (f.a.2 : Nat), .int .i64 (f.b.1 : Nat), .int .i64 (f.b.2 : Nat), .int .i64 (f.s.1 : Nat), .int .i64 (f.s.2 : Nat), .int .i64 (f.n.1 : Nat), .int .i64 (f.n.2 : Nat), .int .i64 (f.c.1 : Nat), .int .i64 (f.c.2 : Nat), .bool f.signed, .bool f.turned], .agg #[.int .i64 i.kind, .int .i64 i.d, .int .i64 i.a, .int .i64 i.b, .int .i64 i.s, .int .i64 i.c, .int .i64 i.n]] w fun e w' => e = .returned (.bool (rightF f i)) ∧ SR w0 g o q f i w' :=
  (rightF_any f i w hi hg).mono fun e w' ⟨h1, h2⟩ => ⟨h1, h.keep h2⟩
theorem encF_S (w0 : World) (g o q : Nat) (f : Fm) (i : In) (w : World) (hg : good f = true) (h : SR w0 g o q f i w) :
    Calls Try.prog 73 #[.agg #[.int .u32 (f.word.toNat : Int), .int .i64 (f.d.1 : Nat), .int .i64 (f.d.2 : Nat), .int .i64 (f.a.1 : Nat), .int .i64 (f.a.2 : Nat), .int .i64 (f.b.1 : Nat), .int .i64 (f.b.2 : Nat), .int .i64 (f.s.1 : Nat), .int .i64 (f.s.2 : Nat), .int .i64 (f.n.1 : Nat), .int .i64 (f.n.2 : Nat), .int .i64 (f.c.1 : Nat), .int .i64 (f.c.2 : Nat), .bool f.signed, .bool f.turned], .agg #[.int .i64 i.kind, .int .i64 i.d, .int .i64 i.a, .int .i64 i.b, .int .i64 i.s, .int .i64 i.c, .int .i64 i.n]] w fun e w' => e = .returned (.int .u32 ((encF f i).toNat : Int)) ∧ SR w0 g o q f i w' :=
  (encF_any f i w hg).mono fun e w' ⟨h1, h2⟩ => ⟨h1, h.keep h2⟩

set_option maxRecDepth 20000 in
set_option maxHeartbeats 3200000 in
theorem right_any (i : In) (w : World) (hi : okIn i) :
    Calls Try.prog 51 #[.agg (insL i).toArray] w fun e w' => e = .returned (.bool (right i)) ∧ Below w.heap.size w w' := by
  by_cases hk : 0 ≤ i.kind ∧ i.kind < 24
  · obtain ⟨hk0, hk1⟩ := hk
    obtain ⟨k, hk⟩ := Int.eq_ofNat_of_zero_le hk0
    have hk24 : k < 24 := by omega
    have hr := Lib.hid (right_of k i hk24 hk)
    have hg := Lib.hid (good_all k hk24)
    obtain ⟨W, hW⟩ : ∃ W, W = w.alloc (.cells #[.int .i64 i.kind, .int .i64 i.d, .int .i64 i.a, .int .i64 i.b, .int .i64 i.s, .int .i64 i.c, .int .i64 i.n] 45) := ⟨_, rfl⟩
    have hB : Below w.heap.size w W := by rw [hW]; exact (Below.refl _ _).alloc (Nat.le_refl _) _
    have hc : ∀ j, W.cell? ⟨w.heap.size, j, none⟩ = #[Value.int .i64 i.kind, Value.int .i64 i.d, Value.int .i64 i.a, Value.int .i64 i.b, Value.int .i64 i.s, Value.int .i64 i.c, Value.int .i64 i.n][j]? := fun j => by rw [hW]; simp [World.cell?_alloc_new]
    have HC := Lib.hid hc
    have HW := Lib.hid hW
    have HI := Lib.hid hi
    have HK := Lib.hid hk
    clear hc hW hi hk
    have hlw : w.heap.size < W.heap.size := by rw [HW.out]; simp
    unfold insL
    go_enter Try.func51, Try.ntmps51
    go_wp2_with fail
    rw [← HW.out]
    refine (forms_any W).mono ?_
    rintro e w2 ⟨g, rfl, hge, hgt, hb2⟩
    have hf := form_cells hgt hk24
    generalize form k = f at *
    have S0 : SR w g (k * 15) w.heap.size f i w2 := by
      have hc : ∀ j, w2.cell? ⟨w.heap.size, j, none⟩ = #[Value.int .i64 i.kind, Value.int .i64 i.d, Value.int .i64 i.a, Value.int .i64 i.b, Value.int .i64 i.s, Value.int .i64 i.c, Value.int .i64 i.n][j]? := fun j => (hb2.cell (p := ⟨w.heap.size, j, none⟩) hlw).trans (HC.out j)
      exact ⟨⟨hf, ⟨hc 0, hc 1, hc 2, hc 3, hc 4, hc 5, hc 6⟩⟩, hB.trans (hb2.mono hB.size)⟩
    clear hf hgt
    have S0 := Lib.hid (S0.keep ((Below.refl _ _).drew))
    have t0 : (0 : Int) ≤ i.kind := hk0
    have t1 : decide ((0 : Int) ≤ i.kind) = true := by simp [hk0]
    have t2 : i.kind < 24 := hk1
    have t3 : i.kind.toNat = k := by rw [HK.out]; simp
    clear hk0 hk1
    go_wp2_with fail
    have SB := S0.out
    clear S0
    go_region_held3 (fun w' => ((w'.cell? ⟨g, k * 15, none⟩ = some (.int .u32 (f.word.toNat : Int)) ∧ w'.cell? ⟨g, k * 15 + 1, none⟩ = some (.int .i64 (f.d.1 : Nat)) ∧ w'.cell? ⟨g, k * 15 + 2, none⟩ = some (.int .i64 (f.d.2 : Nat)) ∧ w'.cell? ⟨g, k * 15 + 3, none⟩ = some (.int .i64 (f.a.1 : Nat)) ∧ w'.cell? ⟨g, k * 15 + 4, none⟩ = some (.int .i64 (f.a.2 : Nat)) ∧ w'.cell? ⟨g, k * 15 + 5, none⟩ = some (.int .i64 (f.b.1 : Nat)) ∧ w'.cell? ⟨g, k * 15 + 6, none⟩ = some (.int .i64 (f.b.2 : Nat)) ∧ w'.cell? ⟨g, k * 15 + 7, none⟩ = some (.int .i64 (f.s.1 : Nat)) ∧ w'.cell? ⟨g, k * 15 + 8, none⟩ = some (.int .i64 (f.s.2 : Nat)) ∧ w'.cell? ⟨g, k * 15 + 9, none⟩ = some (.int .i64 (f.n.1 : Nat)) ∧ w'.cell? ⟨g, k * 15 + 10, none⟩ = some (.int .i64 (f.n.2 : Nat)) ∧ w'.cell? ⟨g, k * 15 + 11, none⟩ = some (.int .i64 (f.c.1 : Nat)) ∧ w'.cell? ⟨g, k * 15 + 12, none⟩ = some (.int .i64 (f.c.2 : Nat)) ∧ w'.cell? ⟨g, k * 15 + 13, none⟩ = some (.bool f.signed) ∧ w'.cell? ⟨g, k * 15 + 14, none⟩ = some (.bool f.turned)) ∧ (w'.cell? ⟨w.heap.size, 0, none⟩ = some (.int .i64 i.kind) ∧ w'.cell? ⟨w.heap.size, 1, none⟩ = some (.int .i64 i.d) ∧ w'.cell? ⟨w.heap.size, 2, none⟩ = some (.int .i64 i.a) ∧ w'.cell? ⟨w.heap.size, 3, none⟩ = some (.int .i64 i.b) ∧ w'.cell? ⟨w.heap.size, 4, none⟩ = some (.int .i64 i.s) ∧ w'.cell? ⟨w.heap.size, 5, none⟩ = some (.int .i64 i.c) ∧ w'.cell? ⟨w.heap.size, 6, none⟩ = some (.int .i64 i.n))) ∧ Below w.heap.size w w') (with_reducible assumption)
      (first
        | (go_at_call 70; with_reducible refine (rightF_S w g (k * 15) w.heap.size f i _ HI.out hg.out (by with_reducible assumption)).mono ?_; rintro e wx ⟨rfl, SC⟩))
    go_wp2_with fail
    go_ret
    exact ⟨retb hr.out.symm, SC.2⟩
  · have hr : right i = false := by unfold right; rw [decide_eq_false hk]; rfl
    have hr := Lib.hid hr
    obtain ⟨W, hW⟩ : ∃ W, W = w.alloc (.cells #[.int .i64 i.kind, .int .i64 i.d, .int .i64 i.a, .int .i64 i.b, .int .i64 i.s, .int .i64 i.c, .int .i64 i.n] 45) := ⟨_, rfl⟩
    have hB : Below w.heap.size w W := by rw [hW]; exact (Below.refl _ _).alloc (Nat.le_refl _) _
    have hc : W.cell? ⟨w.heap.size, 0, none⟩ = some (.int .i64 i.kind) := by rw [hW]; simp [World.cell?_alloc_new]
    have hlw : w.heap.size < W.heap.size := by rw [hW]; simp
    have HW := Lib.hid hW
    have HC := Lib.hid hc
    clear hW hc
    unfold insL
    obtain h | ⟨h, h'⟩ : i.kind < 0 ∨ (0 ≤ i.kind ∧ 24 ≤ i.kind) := by omega
    · have t1 : decide ((0 : Int) ≤ i.kind) = false := by simp; omega
      clear hk
      go_enter Try.func51, Try.ntmps51
      go_wp2_with fail
      rw [← HW.out]
      refine (forms_any W).mono ?_
      rintro e w2 ⟨g, rfl, hge, hgt, hb2⟩
      have hc2 := (hb2.cell (p := ⟨w.heap.size, 0, none⟩) hlw).trans HC.out
      clear hgt
      go_wp2_with fail
      go_quiet (fail)
      go_wp2_with fail
      go_ret
      exact ⟨by rw [hr.out]; rfl, below_drewN (hB.trans (hb2.mono hB.size)) _⟩
    · have t1 : decide ((0 : Int) ≤ i.kind) = true := by simp; omega
      have t2 : decide (i.kind < 24) = false := by simp; omega
      clear hk
      go_enter Try.func51, Try.ntmps51
      go_wp2_with fail
      rw [← HW.out]
      refine (forms_any W).mono ?_
      rintro e w2 ⟨g, rfl, hge, hgt, hb2⟩
      have hc2 := (hb2.cell (p := ⟨w.heap.size, 0, none⟩) hlw).trans HC.out
      clear hgt
      go_wp2_with fail
      go_quiet (fail)
      go_wp2_with fail
      go_ret
      exact ⟨by rw [hr.out]; rfl, below_drewN (hB.trans (hb2.mono hB.size)) _⟩
end Go.Proofs.Ytkohichiojmakaa.A64R
/-
  WALKS: package a64: Encode.
-/
namespace Go.Proofs.Ytkohichiojmakaa.A64E
set_option linter.unusedVariables false
set_option linter.unusedSimpArgs false
open Go.RowKit Cm Mm Ow A64 Fld FldW A64W A64P A64C A64T A64R
attribute [local go_sem ↓] Go.wp_at_zero Go.wp_at_succ

theorem encF_at (f : Fm) (i : In) (w : World) (hg : good f = true) :
    Calls Try.prog 73 #[.agg #[.int .u32 (f.word.toNat : Int), .int .i64 (f.d.1 : Nat), .int .i64 (f.d.2 : Nat), .int .i64 (f.a.1 : Nat), .int .i64 (f.a.2 : Nat), .int .i64 (f.b.1 : Nat), .int .i64 (f.b.2 : Nat), .int .i64 (f.s.1 : Nat), .int .i64 (f.s.2 : Nat), .int .i64 (f.n.1 : Nat), .int .i64 (f.n.2 : Nat), .int .i64 (f.c.1 : Nat), .int .i64 (f.c.2 : Nat), .bool f.signed, .bool f.turned], .agg #[.int .i64 i.kind, .int .i64 i.d, .int .i64 i.a, .int .i64 i.b, .int .i64 i.s, .int .i64 i.c, .int .i64 i.n]] w fun e w' => e = .returned (.int .u32 ((encF f i).toNat : Int)) ∧ Below w.heap.size w w' := encF_any f i w hg
theorem right_at (i : In) (w : World) (hi : okIn i) :
    Calls Try.prog 51 #[.agg #[.int .i64 i.kind, .int .i64 i.d, .int .i64 i.a, .int .i64 i.b, .int .i64 i.s, .int .i64 i.c, .int .i64 i.n]] w fun e w' => e = .returned (.bool (right i)) ∧ Below w.heap.size w w' := right_any i w hi
/-- a variable that has an instruction -/
def Vi (w : World) (p : Nat) (i : In) : Prop := ∀ j, w.cell? ⟨p, j, none⟩ = (#[Value.int .i64 i.kind, Value.int .i64 i.d, Value.int .i64 i.a, Value.int .i64 i.b, Value.int .i64 i.s, Value.int .i64 i.c, Value.int .i64 i.n] : Array Value)[j]?
theorem Vi.keep {w w' : World} {p : Nat} {i : In} (h : Vi w p i) (hb : Below w.heap.size w w') : Vi w' p i := fun j => by
  have h0 := h 0
  have : p < w.heap.size := World.block_lt_of_cell? w ⟨p, 0, none⟩ h0
  exact (hb.cell (p := ⟨p, j, none⟩) this).trans (h j)
theorem Vi.lt {w : World} {p : Nat} {i : In} (h : Vi w p i) : p < w.heap.size := World.block_lt_of_cell? w ⟨p, 0, none⟩ (h 0)
theorem vi_new (w : World) (i : In) (p : Nat) (t : TypeId) (hp : w.heap.size = p) : Vi (w.alloc (.cells #[.int .i64 i.kind, .int .i64 i.d, .int .i64 i.a, .int .i64 i.b, .int .i64 i.s, .int .i64 i.c, .int .i64 i.n] t)) p i := fun j => by
  subst hp; simp [World.cell?_alloc_new]
theorem Vi.cells {w : World} {p : Nat} {i : In} (h : Vi w p i) : w.cell? ⟨p, 0, none⟩ = some (.int .i64 i.kind) ∧ w.cell? ⟨p, 1, none⟩ = some (.int .i64 i.d) ∧ w.cell? ⟨p, 2, none⟩ = some (.int .i64 i.a) ∧ w.cell? ⟨p, 3, none⟩ = some (.int .i64 i.b) ∧ w.cell? ⟨p, 4, none⟩ = some (.int .i64 i.s) ∧ w.cell? ⟨p, 5, none⟩ = some (.int .i64 i.c) ∧ w.cell? ⟨p, 6, none⟩ = some (.int .i64 i.n) := ⟨h 0, h 1, h 2, h 3, h 4, h 5, h 6⟩

set_option maxRecDepth 20000 in
set_option maxHeartbeats 3200000 in
theorem encode_any (i : In) (w : World) (hi : okIn i) :
    Calls Try.prog 53 #[.agg #[.int .i64 i.kind, .int .i64 i.d, .int .i64 i.a, .int .i64 i.b, .int .i64 i.s, .int .i64 i.c, .int .i64 i.n]] w fun e w' => e = .returned (.tuple #[.int .u32 ((encode i).1.toNat : Int), .int .i64 (encode i).2]) ∧ Below w.heap.size w w' := by
  obtain ⟨W, hW⟩ : ∃ W, W = w.alloc (.cells #[.int .i64 i.kind, .int .i64 i.d, .int .i64 i.a, .int .i64 i.b, .int .i64 i.s, .int .i64 i.c, .int .i64 i.n] 45) := ⟨_, rfl⟩
  have hB : Below w.heap.size w W := by rw [hW]; exact (Below.refl _ _).alloc (Nat.le_refl _) _
  have hV : Vi W w.heap.size i := by rw [hW]; exact vi_new _ _ _ _ rfl
  have HV := Lib.hid hV
  have HW := Lib.hid hW
  have HI := Lib.hid hi
  clear hV hW hi
  cases hr : right i
  · have he : encode i = (0, 1) := by unfold encode; rw [hr]; rfl
    have he := Lib.hid he
    go_enter Try.func53, Try.ntmps53
    go_wp2_with fail
    rw [← HW.out]
    refine (right_at i _ HI.out).mono ?_
    rintro e w2 ⟨rfl, hb2⟩
    rw [hr]
    go_wp2_with fail
    go_ret2
    exact ⟨by rw [he.out]; rfl, hB.trans (hb2.mono hB.size)⟩
  · obtain ⟨k, hk24, hk, hrf⟩ := right_kind hr
    have he := Lib.hid (encode_of k i hk24 hk hrf)
    have hg := Lib.hid (good_all k hk24)
    have hki := Lib.hid (show i.kind.toNat = k by omega)
    have t0 : (0 : Int) ≤ i.kind := by omega
    have t2 : i.kind < 24 := by omega
    clear hk hrf
    go_enter Try.func53, Try.ntmps53
    go_wp2_with fail
    rw [← HW.out]
    refine (right_at i _ HI.out).mono ?_
    rintro e w2 ⟨rfl, hb2⟩
    rw [hr]
    obtain ⟨c0, c1, c2, c3, c4, c5, c6⟩ := (HV.out.keep hb2).cells
    have hV2 := Lib.hid ((HV.out.keep hb2).keep ((Below.refl _ _).drew))
    have t3 := hki.out
    go_wp2_with fail
    go_region_with (first
      | (go_at_call 69; refine (forms_any _).mono ?_; rintro e w3 ⟨g, rfl, hge, hgt, hb3⟩; obtain ⟨f0, f1, f2, f3, f4, f5, f6, f7, f8, f9, f10, f11, f12, f13, f14⟩ := form_cells hgt hk24; obtain ⟨d0, d1, d2, d3, d4, d5, d6⟩ := (hV2.out.keep hb3).cells; clear hgt)
      | (go_at_call 73; refine (encF_at (form k) i _ hg.out).mono ?_; rintro e w4 ⟨rfl, hb4⟩))
    all_goals go_wp2_with fail
    all_goals go_ret2
    all_goals exact ⟨by rw [he.out]; rfl, (hB.trans (hb2.mono hB.size)).trans (((((Below.refl _ _).drew).trans hb3).trans (hb4.mono hb3.size)).mono (Nat.le_trans hB.size hb2.size))⟩
end Go.Proofs.Ytkohichiojmakaa.A64E
