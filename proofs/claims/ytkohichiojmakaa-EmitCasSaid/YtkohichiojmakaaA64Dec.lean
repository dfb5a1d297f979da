/-
  WALKS: package a64: a form's decode.
-/
import Derived.Test.YtkohichiojmakaaGEnc
import Derived.Deep.DeepCutAuto
import Derived.Deep.DrawnRows
namespace Go.Proofs.Ytkohichiojmakaa.A64D
set_option linter.unusedVariables false
set_option linter.unusedSimpArgs false
open Go.RowKit Cm Mm A64 Fld FldW A64W A64P A64C
attribute [local go_sem ↓] Go.wp_at_zero Go.wp_at_succ

/-- a variable made within a statement: an instruction of zeros -/
def Nw (r : Nat) (w : World) : Prop := w.heap[r]? = some (.cells #[.int .i64 0, .int .i64 0, .int .i64 0, .int .i64 0, .int .i64 0, .int .i64 0, .int .i64 0] 45 (0, 0))
theorem Nw.keep {r : Nat} {w w' : World} (h : Nw r w) (hb : Below w.heap.size w w') : Nw r w' := (hb.block _ (Array.getElem?_eq_some_iff.1 h).1).trans h
theorem Nw.lt {r : Nat} {w : World} (h : Nw r w) : r < w.heap.size := (Array.getElem?_eq_some_iff.1 h).1
theorem Nw.first {w w' : World} (hb : Below (w.alloc (.cells #[.int .i64 0, .int .i64 0, .int .i64 0, .int .i64 0, .int .i64 0, .int .i64 0, .int .i64 0] 45)).heap.size (w.alloc (.cells #[.int .i64 0, .int .i64 0, .int .i64 0, .int .i64 0, .int .i64 0, .int .i64 0, .int .i64 0] 45)) w') : Nw w.heap.size w' :=
  Nw.keep (heap_alloc_new _ _) hb
theorem Nw.cells {r : Nat} {w : World} (h : Nw r w) : (w.cell? ⟨r, 0, none⟩ = some (.int .i64 0) ∧ w.cell? ⟨r, 1, none⟩ = some (.int .i64 0) ∧ w.cell? ⟨r, 2, none⟩ = some (.int .i64 0) ∧ w.cell? ⟨r, 3, none⟩ = some (.int .i64 0) ∧ w.cell? ⟨r, 4, none⟩ = some (.int .i64 0) ∧ w.cell? ⟨r, 5, none⟩ = some (.int .i64 0) ∧ w.cell? ⟨r, 6, none⟩ = some (.int .i64 0)) ∧ ∀ o, w.frozen? ⟨r, o, none⟩ = false := by
  unfold Nw at h
  simp only [World.cell?, World.frozen?, h]
  exact ⟨⟨rfl, rfl, rfl, rfl, rfl, rfl, rfl⟩, fun o => by simp⟩
/-- the cells of a form and of a word, and of the result's variable; nothing elder has turned -/
abbrev SD (w0 : World) (p q r : Nat) (f : Fm) (W : BitVec 32) (w' : World) : Prop := (w'.cell? ⟨p, 0, none⟩ = some (.int .u32 (f.word.toNat : Int)) ∧ w'.cell? ⟨p, 1, none⟩ = some (.int .i64 (f.d.1 : Nat)) ∧ w'.cell? ⟨p, 2, none⟩ = some (.int .i64 (f.d.2 : Nat)) ∧ w'.cell? ⟨p, 3, none⟩ = some (.int .i64 (f.a.1 : Nat)) ∧ w'.cell? ⟨p, 4, none⟩ = some (.int .i64 (f.a.2 : Nat)) ∧ w'.cell? ⟨p, 5, none⟩ = some (.int .i64 (f.b.1 : Nat)) ∧ w'.cell? ⟨p, 6, none⟩ = some (.int .i64 (f.b.2 : Nat)) ∧ w'.cell? ⟨p, 7, none⟩ = some (.int .i64 (f.s.1 : Nat)) ∧ w'.cell? ⟨p, 8, none⟩ = some (.int .i64 (f.s.2 : Nat)) ∧ w'.cell? ⟨p, 9, none⟩ = some (.int .i64 (f.n.1 : Nat)) ∧ w'.cell? ⟨p, 10, none⟩ = some (.int .i64 (f.n.2 : Nat)) ∧ w'.cell? ⟨p, 11, none⟩ = some (.int .i64 (f.c.1 : Nat)) ∧ w'.cell? ⟨p, 12, none⟩ = some (.int .i64 (f.c.2 : Nat)) ∧ w'.cell? ⟨p, 13, none⟩ = some (.bool f.signed) ∧ w'.cell? ⟨p, 14, none⟩ = some (.bool f.turned) ∧ w'.cell? ⟨q, 0, none⟩ = some (.int .u32 (W.toNat : Int)) ∧ Nw r w') ∧ Below w0.heap.size w0 w'
theorem SD.keep {w0 w w' : World} {p q r : Nat} {f : Fm} {W : BitVec 32} (h : SD w0 p q r f W w) (hb : Below w.heap.size w w') : SD w0 p q r f W w' := by
  obtain ⟨⟨h0, h1, h2, h3, h4, h5, h6, h7, h8, h9, h10, h11, h12, h13, h14, h15, hn⟩, hz⟩ := h
  have k : ∀ (x : Addr) (u : Value), w.cell? x = some u → w'.cell? x = some u := fun x u hx => by
    rw [World.cell?_of_block (hb.block _ (World.block_lt_of_cell? w x hx))]; exact hx
  exact ⟨⟨k _ _ h0, k _ _ h1, k _ _ h2, k _ _ h3, k _ _ h4, k _ _ h5, k _ _ h6, k _ _ h7, k _ _ h8, k _ _ h9, k _ _ h10, k _ _ h11, k _ _ h12, k _ _ h13, k _ _ h14, k _ _ h15, hn.keep hb⟩, hz.trans (hb.mono hz.size)⟩
theorem SD.init (w : World) (f : Fm) (W : BitVec 32) (t t' : TypeId) : SD w w.heap.size (w.heap.size + 1) (w.heap.size + 1 + 1) f W (((w.alloc (.cells (fmL f).toArray t)).alloc (.cells #[.int .u32 (W.toNat : Int)] t')).alloc (.cells #[.int .i64 0, .int .i64 0, .int .i64 0, .int .i64 0, .int .i64 0, .int .i64 0, .int .i64 0] 45)) := by
  refine ⟨?_, (((Below.refl _ _).alloc (Nat.le_refl _) _).alloc (by simp) _).alloc (by simp; omega) _⟩
  have e1 : (((w.alloc (.cells (fmL f).toArray t)).alloc (.cells #[.int .u32 (W.toNat : Int)] t')).alloc (.cells #[.int .i64 0, .int .i64 0, .int .i64 0, .int .i64 0, .int .i64 0, .int .i64 0, .int .i64 0] 45)).heap[w.heap.size]? = some (.cells (fmL f).toArray t (0, 0)) := by
    simp only [heap_al, Array.getElem?_push, Array.size_push]
    rw [if_neg (by omega), if_neg (by omega)]
    simp
  have e2 : (((w.alloc (.cells (fmL f).toArray t)).alloc (.cells #[.int .u32 (W.toNat : Int)] t')).alloc (.cells #[.int .i64 0, .int .i64 0, .int .i64 0, .int .i64 0, .int .i64 0, .int .i64 0, .int .i64 0] 45)).heap[w.heap.size + 1]? = some (.cells #[.int .u32 (W.toNat : Int)] t' (0, 0)) := by
    simp only [heap_al, Array.getElem?_push, Array.size_push]
    rw [if_neg (by omega)]
    simp
  have e3 : Nw (w.heap.size + 1 + 1) (((w.alloc (.cells (fmL f).toArray t)).alloc (.cells #[.int .u32 (W.toNat : Int)] t')).alloc (.cells #[.int .i64 0, .int .i64 0, .int .i64 0, .int .i64 0, .int .i64 0, .int .i64 0, .int .i64 0] 45)) := by
    unfold Nw
    simp only [heap_al, Array.getElem?_push, Array.size_push]
    simp
  simp only [World.cell?, e1, e2]
  refine ⟨rfl, rfl, rfl, rfl, rfl, rfl, rfl, rfl, rfl, rfl, rfl, rfl, rfl, rfl, rfl, rfl, e3⟩
theorem get_S (w0 : World) (p q r : Nat) (f : Fm) (W : BitVec 32) (x : Bt) (w : World) (hx : x.1 + x.2 ≤ 32) (h : SD w0 p q r f W w) :
    Calls Try.prog 105 #[.agg #[.int .i64 (x.1 : Nat), .int .i64 (x.2 : Nat)], .pointer (some ⟨q, 0, none⟩)] w fun e w' => e = .returned (.int .i64 (getF W x)) ∧ SD w0 p q r f W w' ∧ Below w.heap.size w w' := by
  have hq := h
  obtain ⟨⟨_, _, _, _, _, _, _, _, _, _, _, _, _, _, _, hq, _⟩, _⟩ := hq
  exact (getc_any W x.1 x.2 q w hq hx).mono fun e w' ⟨h1, h2⟩ => ⟨h1, h.keep h2, h2⟩
theorem SD.lt {w0 w : World} {p q r : Nat} {f : Fm} {W : BitVec 32} (h : SD w0 p q r f W w) : p < w.heap.size ∧ q < w.heap.size ∧ r < w.heap.size := by
  have hq := h
  obtain ⟨⟨hp, _⟩, _⟩ := h
  obtain ⟨⟨_, _, _, _, _, _, _, _, _, _, _, _, _, _, _, hq, hr⟩, _⟩ := hq
  exact ⟨World.block_lt_of_cell? w _ hp, World.block_lt_of_cell? w _ hq, hr.lt⟩
theorem below_al (w : World) (o : Obj) : Below w.heap.size w (w.alloc o) := (Below.refl _ _).alloc (Nat.le_refl _) _
theorem SD.set {w0 w : World} {p q r g o : Nat} {f : Fm} {W : BitVec 32} {v : Value} (h : SD w0 p q r f W w) (hr1 : g ≠ p) (hr2 : g ≠ q) (hr4 : g ≠ r) (hr3 : w0.heap.size ≤ g) : SD w0 p q r f W (w.setCell ⟨g, o, none⟩ v) := by
  obtain ⟨⟨h0, h1, h2, h3, h4, h5, h6, h7, h8, h9, h10, h11, h12, h13, h14, h15, hn⟩, hz⟩ := h
  have k : ∀ (b x : Nat) (u : Value), g ≠ b → w.cell? ⟨b, x, none⟩ = some u → (w.setCell ⟨g, o, none⟩ v).cell? ⟨b, x, none⟩ = some u := fun b x u hb hx => by
    rw [World.cell?_setCell_other _ _ _ _ (by simp [hb])]; exact hx
  exact ⟨⟨k _ _ _ hr1 h0, k _ _ _ hr1 h1, k _ _ _ hr1 h2, k _ _ _ hr1 h3, k _ _ _ hr1 h4, k _ _ _ hr1 h5, k _ _ _ hr1 h6, k _ _ _ hr1 h7, k _ _ _ hr1 h8, k _ _ _ hr1 h9, k _ _ _ hr1 h10, k _ _ _ hr1 h11, k _ _ _ hr1 h12, k _ _ _ hr1 h13, k _ _ _ hr1 h14, k _ _ _ hr2 h15, (Below.heap_setCell _ _ _ _ (fun e => hr4 e.symm)).trans hn⟩, hz.setCell hr3 _⟩
/-- .. which lies apart from the form's, the word's and the result's -/
def Nx (w0 : World) (p q r g : Nat) (w : World) : Prop := Nw g w ∧ g ≠ p ∧ g ≠ q ∧ g ≠ r ∧ w0.heap.size ≤ g
theorem Nx.keep {w0 : World} {p q r g : Nat} {w w' : World} (h : Nx w0 p q r g w) (hb : Below w.heap.size w w') : Nx w0 p q r g w' := ⟨h.1.keep hb, h.2⟩
theorem Nx.first {w0 w w' : World} {p q r : Nat} {f : Fm} {W : BitVec 32} (h : SD w0 p q r f W w) (hb : Below (w.alloc (.cells #[.int .i64 0, .int .i64 0, .int .i64 0, .int .i64 0, .int .i64 0, .int .i64 0, .int .i64 0] 45)).heap.size (w.alloc (.cells #[.int .i64 0, .int .i64 0, .int .i64 0, .int .i64 0, .int .i64 0, .int .i64 0, .int .i64 0] 45)) w') : Nx w0 p q r w.heap.size w' := by
  obtain ⟨h1, h2, h3⟩ := SD.lt h
  exact ⟨Nw.first hb, by omega, by omega, by omega, h.2.size⟩
theorem Nx.firstD {w0 w w' : World} {p q r : Nat} {f : Fm} {W : BitVec 32} (h : SD w0 p q r f W w.drew) (hb : Below (World.drew (w.alloc (.cells #[.int .i64 0, .int .i64 0, .int .i64 0, .int .i64 0, .int .i64 0, .int .i64 0, .int .i64 0] 45))).heap.size (World.drew (w.alloc (.cells #[.int .i64 0, .int .i64 0, .int .i64 0, .int .i64 0, .int .i64 0, .int .i64 0, .int .i64 0] 45))) w') : Nx w0 p q r w.heap.size w' := Nx.first (w := w.drew) h hb
theorem Nx.cells {w0 : World} {p q s r : Nat} {w : World} (h : Nx w0 p q s r w) : (w.cell? ⟨r, 0, none⟩ = some (.int .i64 0) ∧ w.cell? ⟨r, 1, none⟩ = some (.int .i64 0) ∧ w.cell? ⟨r, 2, none⟩ = some (.int .i64 0) ∧ w.cell? ⟨r, 3, none⟩ = some (.int .i64 0) ∧ w.cell? ⟨r, 4, none⟩ = some (.int .i64 0) ∧ w.cell? ⟨r, 5, none⟩ = some (.int .i64 0) ∧ w.cell? ⟨r, 6, none⟩ = some (.int .i64 0)) ∧ ∀ o, w.frozen? ⟨r, o, none⟩ = false := h.1.cells
theorem Nx.ne1 {w0 : World} {p q r g : Nat} {w : World} (h : Nx w0 p q r g w) : g ≠ p := h.2.1
theorem Nx.ne2 {w0 : World} {p q r g : Nat} {w : World} (h : Nx w0 p q r g w) : g ≠ q := h.2.2.1
theorem Nx.ne3 {w0 : World} {p q r g : Nat} {w : World} (h : Nx w0 p q r g w) : g ≠ r := h.2.2.2.1
theorem Nx.le {w0 : World} {p q r g : Nat} {w : World} (h : Nx w0 p q r g w) : w0.heap.size ≤ g := h.2.2.2.2

/-- behind the statement: the variable g has the instruction i -/
def Mid (w0 : World) (p q r : Nat) (f : Fm) (W : BitVec 32) (i : In) (g : Nat) (w : World) : Prop := (w.cell? ⟨g, 0, none⟩ = some (.int .i64 i.kind) ∧ w.cell? ⟨g, 1, none⟩ = some (.int .i64 i.d) ∧ w.cell? ⟨g, 2, none⟩ = some (.int .i64 i.a) ∧ w.cell? ⟨g, 3, none⟩ = some (.int .i64 i.b) ∧ w.cell? ⟨g, 4, none⟩ = some (.int .i64 i.s) ∧ w.cell? ⟨g, 5, none⟩ = some (.int .i64 i.c) ∧ w.cell? ⟨g, 6, none⟩ = some (.int .i64 i.n)) ∧ (∀ o, w.frozen? ⟨g, o, none⟩ = false) ∧ SD w0 p q r f W w ∧ g ≠ p ∧ g ≠ q ∧ g ≠ r ∧ w0.heap.size ≤ g
theorem mid_new {w0 w : World} {p q r : Nat} {f : Fm} {W : BitVec 32} (h : SD w0 p q r f W w) (i : In) : Mid w0 p q r f W i w.heap.size (w.alloc (.cells #[.int .i64 i.kind, .int .i64 i.d, .int .i64 i.a, .int .i64 i.b, .int .i64 i.s, .int .i64 i.c, .int .i64 i.n] 45)) := by
  obtain ⟨h1, h2, h3⟩ := SD.lt h
  exact ⟨⟨by simp, by simp, by simp, by simp, by simp, by simp, by simp⟩, fun o => by simp, SD.keep h (below_al _ _), by omega, by omega, by omega, h.2.size⟩
theorem mid_set {w0 w : World} {p q r g : Nat} {f : Fm} {W : BitVec 32} (h : SD w0 p q r f W w) (hn : Nx w0 p q r g w) (i : In) : Mid w0 p q r f W i g (World.setCell (World.setCell (World.setCell (World.setCell (World.setCell (World.setCell (World.setCell w ⟨g, 0, none⟩ (.int .i64 i.kind)) ⟨g, 1, none⟩ (.int .i64 i.d)) ⟨g, 2, none⟩ (.int .i64 i.a)) ⟨g, 3, none⟩ (.int .i64 i.b)) ⟨g, 4, none⟩ (.int .i64 i.s)) ⟨g, 5, none⟩ (.int .i64 i.c)) ⟨g, 6, none⟩ (.int .i64 i.n)) := by
  obtain ⟨⟨n0, n1, n2, n3, n4, n5, n6⟩, n7⟩ := hn.cells
  refine ⟨?_, fun o => by simp only [World.frozen?_setCell]; exact n7 o, ?_, hn.ne1, hn.ne2, hn.ne3, hn.le⟩
  · refine ⟨?_, ?_, ?_, ?_, ?_, ?_, ?_⟩ <;> simp [World.cell?_setCell_same', World.cell?_setCell_other, n0, n1, n2, n3, n4, n5, n6]
  · exact ((((((h.set hn.ne1 hn.ne2 hn.ne3 hn.le).set hn.ne1 hn.ne2 hn.ne3 hn.le).set hn.ne1 hn.ne2 hn.ne3 hn.le).set hn.ne1 hn.ne2 hn.ne3 hn.le).set hn.ne1 hn.ne2 hn.ne3 hn.le).set hn.ne1 hn.ne2 hn.ne3 hn.le).set hn.ne1 hn.ne2 hn.ne3 hn.le

set_option maxRecDepth 20000 in
set_option maxHeartbeats 6400000 in
theorem decF_any (f : Fm) (k : Int) (W : BitVec 32) (w : World) (hg : good f = true) :
    Calls Try.prog 92 #[.agg (fmL f).toArray, .int .i64 k, .int .u32 (W.toNat : Int)] w fun e w' => e = .returned (.agg (insL (decF f k W)).toArray) ∧ Below w.heap.size w w' := by
  simp only [good, inside, Bool.and_eq_true, decide_eq_true_eq] at hg
  obtain ⟨⟨⟨⟨⟨⟨⟨⟨⟨⟨⟨l1, l2⟩, l3⟩, l4⟩, l5⟩, l6⟩, _⟩, _⟩, _⟩, _⟩, _⟩, _⟩ := hg
  have L1 := Lib.hid l1
  have L2 := Lib.hid l2
  have L3 := Lib.hid l3
  have L4 := Lib.hid l4
  have L5 := Lib.hid l5
  have L6 := Lib.hid l6
  have ps : ∀ w, Calls Try.prog 107 #[.int .u32 (W.toNat : Int), .int .i64 (f.n.1 : Int), .int .i64 (f.n.2 : Int)] w fun e w' => e = .returned (.int .i64 (sgn (get W f.n.1 f.n.2).toNat f.n.2)) ∧ ∃ n, w' = w.drewN n := fun w => by
    have := signed_any (W.toNat : Int) W (f.n.1 : Int) (f.n.2 : Int) w rfl (by omega) (by omega) (by omega) (by omega)
    rwa [ca_nat (by omega), cn_nat l5] at this
  have PS := Lib.hid ps
  have S0 := Lib.hid (SD.init w f W 150 55)
  have hd : decF f k W = ⟨k, getF W f.d, getF W f.a, getF W f.b, getF W f.s, (if f.turned then bits .xor .i64 (getF W f.c) 1 else getF W f.c), (if f.signed then sgn (get W f.n.1 f.n.2).toNat f.n.2 else getF W f.n)⟩ := rfl
  have HD := Lib.hid hd
  clear hd l1 l2 l3 l4 l5 l6 ps
  unfold fmL
  go_enter Try.func92, Try.ntmps92
  go_wp2_with fail
  unfold fmL at S0
  generalize hwb : (World.alloc (World.alloc (World.alloc w _) _) _) = wb at *
  clear hwb
  generalize hr : w.heap.size + 1 + 1 = r at *
  generalize hq : w.heap.size + 1 = q at *
  generalize hp : w.heap.size = p at *
  have hwp : w.heap.size ≤ p := by omega
  have hwr : w.heap.size ≤ r := by omega
  clear hp hq hr
  have SB := Lib.hid (SD.keep S0.out ((Below.refl _ _).drew))
  clear S0
  go_cut [8] (fun s8 wx => ∃ g : Nat, s8 = .pointer (some ⟨g, 0, none⟩) ∧ Mid w p q r f W ⟨k, getF W f.d, getF W f.a, getF W f.b, getF W f.s, getF W f.c, getF W f.n⟩ g wx)
  case first =>
    go_region_held3 (fun w' => (w'.cell? ⟨p, 0, none⟩ = some (.int .u32 (f.word.toNat : Int)) ∧ w'.cell? ⟨p, 1, none⟩ = some (.int .i64 (f.d.1 : Nat)) ∧ w'.cell? ⟨p, 2, none⟩ = some (.int .i64 (f.d.2 : Nat)) ∧ w'.cell? ⟨p, 3, none⟩ = some (.int .i64 (f.a.1 : Nat)) ∧ w'.cell? ⟨p, 4, none⟩ = some (.int .i64 (f.a.2 : Nat)) ∧ w'.cell? ⟨p, 5, none⟩ = some (.int .i64 (f.b.1 : Nat)) ∧ w'.cell? ⟨p, 6, none⟩ = some (.int .i64 (f.b.2 : Nat)) ∧ w'.cell? ⟨p, 7, none⟩ = some (.int .i64 (f.s.1 : Nat)) ∧ w'.cell? ⟨p, 8, none⟩ = some (.int .i64 (f.s.2 : Nat)) ∧ w'.cell? ⟨p, 9, none⟩ = some (.int .i64 (f.n.1 : Nat)) ∧ w'.cell? ⟨p, 10, none⟩ = some (.int .i64 (f.n.2 : Nat)) ∧ w'.cell? ⟨p, 11, none⟩ = some (.int .i64 (f.c.1 : Nat)) ∧ w'.cell? ⟨p, 12, none⟩ = some (.int .i64 (f.c.2 : Nat)) ∧ w'.cell? ⟨p, 13, none⟩ = some (.bool f.signed) ∧ w'.cell? ⟨p, 14, none⟩ = some (.bool f.turned) ∧ w'.cell? ⟨q, 0, none⟩ = some (.int .u32 (W.toNat : Int)) ∧ Nw r w') ∧ Below w.heap.size w w') (first | (have HN' := HN; (repeat (with_reducible refine SD.set ?_ HN.ne1 HN.ne2 HN.ne3 HN.le)); exact SC) | with_reducible assumption | (with_reducible exact SB.out) | (with_reducible exact SD.keep SC (below_al _ _)) | (with_reducible exact SD.keep SB.out (below_al _ _)))
      (first
        | (go_at_call 105; with_reducible refine (get_S w p q r f W f.d _ L1.out (by assumption)).mono ?_; (first | have SP := SC | have SP := SB.out); rintro e wx ⟨rfl, SC, hb⟩; try (first | (with_reducible have HN := Nx.first SP hb) | (with_reducible have HN := Nx.firstD SP hb) | (with_reducible have HN := Nx.keep HN hb)); clear SP; try (obtain ⟨⟨n0, n1, n2, n3, n4, n5, n6⟩, n7⟩ := HN.cells); clear hb)
        | (go_at_call 105; with_reducible refine (get_S w p q r f W f.a _ L2.out (by assumption)).mono ?_; (first | have SP := SC | have SP := SB.out); rintro e wx ⟨rfl, SC, hb⟩; try (first | (with_reducible have HN := Nx.first SP hb) | (with_reducible have HN := Nx.firstD SP hb) | (with_reducible have HN := Nx.keep HN hb)); clear SP; try (obtain ⟨⟨n0, n1, n2, n3, n4, n5, n6⟩, n7⟩ := HN.cells); clear hb)
        | (go_at_call 105; with_reducible refine (get_S w p q r f W f.b _ L3.out (by assumption)).mono ?_; (first | have SP := SC | have SP := SB.out); rintro e wx ⟨rfl, SC, hb⟩; try (first | (with_reducible have HN := Nx.first SP hb) | (with_reducible have HN := Nx.firstD SP hb) | (with_reducible have HN := Nx.keep HN hb)); clear SP; try (obtain ⟨⟨n0, n1, n2, n3, n4, n5, n6⟩, n7⟩ := HN.cells); clear hb)
        | (go_at_call 105; with_reducible refine (get_S w p q r f W f.s _ L4.out (by assumption)).mono ?_; (first | have SP := SC | have SP := SB.out); rintro e wx ⟨rfl, SC, hb⟩; try (first | (with_reducible have HN := Nx.first SP hb) | (with_reducible have HN := Nx.firstD SP hb) | (with_reducible have HN := Nx.keep HN hb)); clear SP; try (obtain ⟨⟨n0, n1, n2, n3, n4, n5, n6⟩, n7⟩ := HN.cells); clear hb)
        | (go_at_call 105; with_reducible refine (get_S w p q r f W f.n _ L5.out (by assumption)).mono ?_; (first | have SP := SC | have SP := SB.out); rintro e wx ⟨rfl, SC, hb⟩; try (first | (with_reducible have HN := Nx.first SP hb) | (with_reducible have HN := Nx.firstD SP hb) | (with_reducible have HN := Nx.keep HN hb)); clear SP; try (obtain ⟨⟨n0, n1, n2, n3, n4, n5, n6⟩, n7⟩ := HN.cells); clear hb)
        | (go_at_call 105; with_reducible refine (get_S w p q r f W f.c _ L6.out (by assumption)).mono ?_; (first | have SP := SC | have SP := SB.out); rintro e wx ⟨rfl, SC, hb⟩; try (first | (with_reducible have HN := Nx.first SP hb) | (with_reducible have HN := Nx.firstD SP hb) | (with_reducible have HN := Nx.keep HN hb)); clear SP; try (obtain ⟨⟨n0, n1, n2, n3, n4, n5, n6⟩, n7⟩ := HN.cells); clear hb))
    all_goals (go_wp2_with fail; go_meet; first | exact ⟨_, rfl, mid_set SC HN ⟨k, getF W f.d, getF W f.a, getF W f.b, getF W f.s, getF W f.c, getF W f.n⟩⟩ | exact ⟨_, rfl, mid_new SC ⟨k, getF W f.d, getF W f.a, getF W f.b, getF W f.s, getF W f.c, getF W f.n⟩⟩)
  case rest =>
    obtain ⟨g, rfl, hm⟩ := hcut
    obtain ⟨⟨v0, v1, v2, v3, v4, v5, v6⟩, vf, sd, e1, e2, e3, e4⟩ := hm
    have HS := Lib.hid sd
    obtain ⟨⟨h0, h1, h2, h3, h4, h5, h6, h7, h8, h9, h10, h11, h12, h13, h14, h15, hn⟩, hz⟩ := sd
    obtain ⟨⟨z0, z1, z2, z3, z4, z5, z6⟩, z7⟩ := hn.cells
    clear SB hz hn
    have e1' := Ne.symm e1
    have e2' := Ne.symm e2
    have e3' := Ne.symm e3
    have hbel := Lib.hid HS.out.2
    cases hsg : f.signed <;> cases htn : f.turned
    all_goals
      rw [hsg, htn] at HD
      rw [hsg] at h13
      rw [htn] at h14
      simp only [if_true, if_false, Bool.false_eq_true] at HD
      go_wp2_with (go_at_call 107; refine (PS.out _).mono ?_; rintro e w' ⟨rfl, m, rfl⟩)
      refine bodyPost_ret (v := .agg (insL (decF f k W)).toArray) (by rw [HD.out]; simp [insL, results, Try.results92, go_sem, z0, z1, z2, z3, z4, z5, z6, v0, v1, v2, v3, v4, v5, v6]) rfl ⟨rfl, ?_⟩
      repeat (first | (with_reducible refine Below.setCell ?_ (by first | exact hwr | exact e4) _) | (with_reducible exact hbel.out) | (with_reducible exact below_drewN hbel.out _))
end Go.Proofs.Ytkohichiojmakaa.A64D
