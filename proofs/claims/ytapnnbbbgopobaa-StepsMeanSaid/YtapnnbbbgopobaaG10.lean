/-
  The reference's reader: a statement under way.
-/
import Derived.Test.YtapnnbbbgopobaaRdD
set_option linter.unusedVariables false
set_option linter.unusedSimpArgs false
namespace Go.Proofs.Ytapnnbbbgopobaa.Rr
open Go.RowKit Cm Mm Ow Me Ml Lg Lx
theorem eo_any : ∀ (k : Nat) (d : Int), 0 ≤ d → d + k = 30 → Eo d
  | 0, d, h0, h => expr_of d (part_of d ⟨h0, by omega⟩ (fun h1 => by omega))
  | k + 1, d, h0, h => expr_of d (part_of d ⟨h0, by omega⟩ (fun h1 => eo_any k (d + 1) (by omega) (by omega)))
theorem eo0 : Eo 0 := eo_any 30 0 (by omega) (by omega)
theorem only_set {G : List Nat} {w0 w : World} (h : Only G w0 w) {g : Nat} (hg : w0.heap.size ≤ g) (k : Nat) (v : Value) : Only G w0 (w.setCell ⟨g, k, none⟩ v) := h.trans (F' := [g]) (only_q w g k v) (fun x hx => by simp at hx; subst hx; exact .inr hg)
theorem rd_set {w : World} {q : Nat} {f : Fx} {at_ : Nat} {er bad : Int} (h : Rd w q f at_ er bad) {g : Nat} (hg : q < g) (k : Nat) (v : Value) : Rd (w.setCell ⟨g, k, none⟩ v) q f at_ er bad := h.only (only_q w g k v) (fun x hx => by simp at hx; subst hx; exact hg)
theorem exV_set {B : Nat} {w : World} {x : Ex} {vs : List Value} (h : exV B w x vs) {g : Nat} (hg : g < B) (k : Nat) (v : Value) : exV B (w.setCell ⟨g, k, none⟩ v) x vs := exV_only (only_q w g k v) (fun y hy => by simp at hy; subst hy; exact hg) h
theorem bd_set {B : Nat} {w : World} {b : Bd} {A : Option Addr} {n c : Nat} (h : IsBd B w b A n c) {g : Nat} (hg : g < B) (k : Nat) (v : Value) : IsBd B (w.setCell ⟨g, k, none⟩ v) b A n c := h.only (only_q w g k v) (fun y hy => by simp at hy; subst hy; exact hg)
def stW (k a : Int) (nm cl : ByteArray) (vi vx vy : List Value) (BA : Option Addr) (bn bc : Nat) (EA : Option Addr) (en ec : Nat) : List Value := [.int .i64 k, .int .i64 a, .string nm, .string cl] ++ (vi ++ (vx ++ (vy ++ [.slice BA bn bc, .slice EA en ec])))
def StOk (g : Nat) (W : World) (N : Nat) (vi vx vy : List Value) (BA : Option Addr) (bn bc : Nat) (EA : Option Addr) (en ec : Nat) : Prop := ∃ i x y b b2, exV (g + 1) W i vi ∧ exV (g + 1) W x vx ∧ exV (g + 1) W y vy ∧ IsBd (g + 1) W b BA bn bc ∧ IsBd (g + 1) W b2 EA en ec ∧ lv i + lv x + lv y + bsz b + bsz b2 ≤ N
section
variable {g N : Nat} {W W' : World} {vi vx vy : List Value} {BA EA : Option Addr} {bn bc en ec : Nat}
theorem StOk.set (h : StOk g W N vi vx vy BA bn bc EA en ec) (k : Nat) (v : Value) : StOk g (W.setCell ⟨g, k, none⟩ v) N vi vx vy BA bn bc EA en ec := by
  obtain ⟨i, x, y, b, b2, hi, hx, hy, hb, hb2, hw⟩ := h
  exact ⟨i, x, y, b, b2, exV_set hi (by omega) _ _, exV_set hx (by omega) _ _, exV_set hy (by omega) _ _, bd_set hb (by omega) _ _, bd_set hb2 (by omega) _ _, hw⟩
theorem StOk.only (h : StOk g W N vi vx vy BA bn bc EA en ec) {G : List Nat} (ho : Only G W W') (hG : ∀ x ∈ G, x < g + 1) : StOk g W' N vi vx vy BA bn bc EA en ec := by
  obtain ⟨i, x, y, b, b2, hi, hx, hy, hb, hb2, hw⟩ := h
  exact ⟨i, x, y, b, b2, exV_only ho hG hi, exV_only ho hG hx, exV_only ho hG hy, hb.only ho hG, hb2.only ho hG, hw⟩
end
structure SV (w0 : World) (q g : Nat) (f : Fx) (e0 : Int) (W : World) (at_ : Nat) (e bad : Int) (N : Nat) (k a : Int) (nm cl : ByteArray) (vi vx vy : List Value) (BA : Option Addr) (bn bc : Nat) (EA : Option Addr) (en ec : Nat) : Prop where
  rd : Rd W q f at_ e bad
  on : Only [q] w0 W
  hq : q < w0.heap.size
  hg : w0.heap.size ≤ g
  cs : W.heap[g]? = some (.cells (stW k a nm cl vi vx vy BA bn bc EA en ec).toArray 122 (0, 0))
  si : ExSh vi
  sx : ExSh vx
  sy : ExSh vy
  ns : nm.size ≤ maxLen
  ls : cl.size ≤ maxLen
  ok : e = 0 → e0 = 0 ∧ StOk g W N vi vx vy BA bn bc EA en ec
def SI (w0 : World) (q g : Nat) (f : Fx) (e0 : Int) (W : World) (at_ : Nat) (e bad : Int) (N : Nat) : Prop := ∃ k a nm cl vi vx vy BA bn bc EA en ec, SV w0 q g f e0 W at_ e bad N k a nm cl vi vx vy BA bn bc EA en ec
section
variable {w0 W W' : World} {q g : Nat} {f : Fx} {e0 : Int} {at_ at2 N : Nat} {e bad e2 bad2 : Int}
theorem SI.rd (h : SI w0 q g f e0 W at_ e bad N) : Rd W q f at_ e bad := by obtain ⟨k, a, nm, cl, vi, vx, vy, BA, bn, bc, EA, en, ec, h⟩ := h; exact h.rd
theorem SI.on (h : SI w0 q g f e0 W at_ e bad N) : Only [q] w0 W := by obtain ⟨k, a, nm, cl, vi, vx, vy, BA, bn, bc, EA, en, ec, h⟩ := h; exact h.on
theorem SI.hqg (h : SI w0 q g f e0 W at_ e bad N) : q < w0.heap.size ∧ w0.heap.size ≤ g := by obtain ⟨k, a, nm, cl, vi, vx, vy, BA, bn, bc, EA, en, ec, h⟩ := h; exact ⟨h.hq, h.hg⟩
theorem SI.lt (h : SI w0 q g f e0 W at_ e bad N) : g < W.heap.size := by obtain ⟨k, a, nm, cl, vi, vx, vy, BA, bn, bc, EA, en, ec, h⟩ := h; exact (Array.getElem?_eq_some_iff.1 h.cs).1
theorem SI.free (h : SI w0 q g f e0 W at_ e bad N) (j : Nat) : W.frozen? ⟨g, j, none⟩ = false := by obtain ⟨k, a, nm, cl, vi, vx, vy, BA, bn, bc, EA, en, ec, h⟩ := h; simp only [World.frozen?, h.cs]; simp
theorem SI.cell (h : SI w0 q g f e0 W at_ e bad N) (j : Nat) (hj : j < 21) : ∃ v, W.cell? ⟨g, j, none⟩ = some v := by
  obtain ⟨k, a, nm, cl, vi, vx, vy, BA, bn, bc, EA, en, ec, h⟩ := h
  have hl : (stW k a nm cl vi vx vy BA bn bc EA en ec).length = 21 := by simp [stW, h.si.len, h.sx.len, h.sy.len]
  refine ⟨(stW k a nm cl vi vx vy BA bn bc EA en ec)[j]'(by omega), ?_⟩
  simp only [World.cell?, h.cs]
  simp
theorem SI.call (h : SI w0 q g f e0 W at_ e bad N) (hr : Rd W' q f at2 e2 bad2) (ho : Only [q] W W') (he : e2 = 0 → e = 0) : SI w0 q g f e0 W' at2 e2 bad2 N := by
  have hlt := h.lt
  obtain ⟨k, a, nm, cl, vi, vx, vy, BA, bn, bc, EA, en, ec, h⟩ := h
  have h1 := h.hq
  have h2 := h.hg
  exact ⟨k, a, nm, cl, vi, vx, vy, BA, bn, bc, EA, en, ec, ⟨hr, h.on.seq ho, h.hq, h.hg, (ho.block _ hlt (by simp; omega)).trans h.cs, h.si, h.sx, h.sy, h.ns, h.ls, fun h0 => ⟨(h.ok (he h0)).1, (h.ok (he h0)).2.only ho (fun x hx => by simp at hx; omega)⟩⟩⟩
theorem SI.kind (h : SI w0 q g f e0 W at_ e bad N) (z : Int) : SI w0 q g f e0 (W.setCell ⟨g, 0, none⟩ (.int .i64 z)) at_ e bad N := by
  obtain ⟨k, a, nm, cl, vi, vx, vy, BA, bn, bc, EA, en, ec, h⟩ := h
  have hqg : q < g := Nat.lt_of_lt_of_le h.hq h.hg
  obtain ⟨i1, i2, i3, i4, iA, im, ic, rfl⟩ := h.si
  obtain ⟨x1, x2, x3, x4, xA, xm, xc, rfl⟩ := h.sx
  obtain ⟨y1, y2, y3, y4, yA, ym, yc, rfl⟩ := h.sy
  exact ⟨z, _, _, _, _, _, _, _, _, _, _, _, _, ⟨(rd_set h.rd hqg 0 (.int .i64 z)), (only_set h.on h.hg 0 (.int .i64 z)), h.hq, h.hg, (blk_set h.cs (.int .i64 z)), h.si, h.sx, h.sy, h.ns, h.ls, fun h0 => ⟨(h.ok h0).1, by
    have hk := ((h.ok h0).2.set 0 (.int .i64 z))
    exact hk⟩⟩⟩
theorem SI.name (h : SI w0 q g f e0 W at_ e bad N) (s : ByteArray) (hs : s.size ≤ maxLen) : SI w0 q g f e0 (W.setCell ⟨g, 2, none⟩ (.string s)) at_ e bad N := by
  obtain ⟨k, a, nm, cl, vi, vx, vy, BA, bn, bc, EA, en, ec, h⟩ := h
  have hqg : q < g := Nat.lt_of_lt_of_le h.hq h.hg
  obtain ⟨i1, i2, i3, i4, iA, im, ic, rfl⟩ := h.si
  obtain ⟨x1, x2, x3, x4, xA, xm, xc, rfl⟩ := h.sx
  obtain ⟨y1, y2, y3, y4, yA, ym, yc, rfl⟩ := h.sy
  exact ⟨_, _, s, _, _, _, _, _, _, _, _, _, _, ⟨(rd_set h.rd hqg 2 (.string s)), (only_set h.on h.hg 2 (.string s)), h.hq, h.hg, (blk_set h.cs (.string s)), h.si, h.sx, h.sy, hs, h.ls, fun h0 => ⟨(h.ok h0).1, by
    have hk := ((h.ok h0).2.set 2 (.string s))
    exact hk⟩⟩⟩
theorem SI.place (h : SI w0 q g f e0 W at_ e bad N) (s : ByteArray) (hs : s.size ≤ maxLen) : SI w0 q g f e0 (W.setCell ⟨g, 3, none⟩ (.string s)) at_ e bad N := by
  obtain ⟨k, a, nm, cl, vi, vx, vy, BA, bn, bc, EA, en, ec, h⟩ := h
  have hqg : q < g := Nat.lt_of_lt_of_le h.hq h.hg
  obtain ⟨i1, i2, i3, i4, iA, im, ic, rfl⟩ := h.si
  obtain ⟨x1, x2, x3, x4, xA, xm, xc, rfl⟩ := h.sx
  obtain ⟨y1, y2, y3, y4, yA, ym, yc, rfl⟩ := h.sy
  exact ⟨_, _, _, s, _, _, _, _, _, _, _, _, _, ⟨(rd_set h.rd hqg 3 (.string s)), (only_set h.on h.hg 3 (.string s)), h.hq, h.hg, (blk_set h.cs (.string s)), h.si, h.sx, h.sy, h.ns, hs, fun h0 => ⟨(h.ok h0).1, by
    have hk := ((h.ok h0).2.set 3 (.string s))
    exact hk⟩⟩⟩
theorem SI.setI (h : SI w0 q g f e0 W at_ e bad N) (v0 v1 v2 : Int) (v3 : ByteArray) (vA : Option Addr) (vm vc : Nat) (k : Nat) (hx0 : e = 0 → ∃ x, exV (g + 1) W x [.int .i64 v0, .int .u64 v1, .int .u8 v2, .string v3, .slice vA vm vc] ∧ lv x ≤ k) : SI w0 q g f e0 (((((W.setCell ⟨g, 4, none⟩ (.int .i64 v0)).setCell ⟨g, 5, none⟩ (.int .u64 v1)).setCell ⟨g, 6, none⟩ (.int .u8 v2)).setCell ⟨g, 7, none⟩ (.string v3)).setCell ⟨g, 8, none⟩ (.slice vA vm vc)) at_ e bad (N + k) := by
  obtain ⟨k, a, nm, cl, vi, vx, vy, BA, bn, bc, EA, en, ec, h⟩ := h
  have hqg : q < g := Nat.lt_of_lt_of_le h.hq h.hg
  obtain ⟨i1, i2, i3, i4, iA, im, ic, rfl⟩ := h.si
  obtain ⟨x1, x2, x3, x4, xA, xm, xc, rfl⟩ := h.sx
  obtain ⟨y1, y2, y3, y4, yA, ym, yc, rfl⟩ := h.sy
  exact ⟨_, _, _, _, [.int .i64 v0, .int .u64 v1, .int .u8 v2, .string v3, .slice vA vm vc], _, _, _, _, _, _, _, _, ⟨(rd_set (rd_set (rd_set (rd_set (rd_set h.rd hqg 4 (.int .i64 v0)) hqg 5 (.int .u64 v1)) hqg 6 (.int .u8 v2)) hqg 7 (.string v3)) hqg 8 (.slice vA vm vc)), (only_set (only_set (only_set (only_set (only_set h.on h.hg 4 (.int .i64 v0)) h.hg 5 (.int .u64 v1)) h.hg 6 (.int .u8 v2)) h.hg 7 (.string v3)) h.hg 8 (.slice vA vm vc)), h.hq, h.hg, (blk_set (blk_set (blk_set (blk_set (blk_set h.cs (.int .i64 v0)) (.int .u64 v1)) (.int .u8 v2)) (.string v3)) (.slice vA vm vc)), ExSh.mk _ _ _ _ _ _ _, h.sx, h.sy, h.ns, h.ls, fun h0 => ⟨(h.ok h0).1, by
    have hk := ((((((h.ok h0).2.set 4 (.int .i64 v0)).set 5 (.int .u64 v1)).set 6 (.int .u8 v2)).set 7 (.string v3)).set 8 (.slice vA vm vc))
    exact (by obtain ⟨x, hx, hlx⟩ := hx0 h0; obtain ⟨i0, x0, y0, b0, b1, hi1, hx1, hy1, hb1, hb2, hw⟩ := hk; exact ⟨x, x0, y0, b0, b1, (exV_set (exV_set (exV_set (exV_set (exV_set hx (Nat.lt_succ_self g) 4 (.int .i64 v0)) (Nat.lt_succ_self g) 5 (.int .u64 v1)) (Nat.lt_succ_self g) 6 (.int .u8 v2)) (Nat.lt_succ_self g) 7 (.string v3)) (Nat.lt_succ_self g) 8 (.slice vA vm vc)), hx1, hy1, hb1, hb2, by omega⟩)⟩⟩⟩
theorem SI.setX (h : SI w0 q g f e0 W at_ e bad N) (v0 v1 v2 : Int) (v3 : ByteArray) (vA : Option Addr) (vm vc : Nat) (k : Nat) (hx0 : e = 0 → ∃ x, exV (g + 1) W x [.int .i64 v0, .int .u64 v1, .int .u8 v2, .string v3, .slice vA vm vc] ∧ lv x ≤ k) : SI w0 q g f e0 (((((W.setCell ⟨g, 9, none⟩ (.int .i64 v0)).setCell ⟨g, 10, none⟩ (.int .u64 v1)).setCell ⟨g, 11, none⟩ (.int .u8 v2)).setCell ⟨g, 12, none⟩ (.string v3)).setCell ⟨g, 13, none⟩ (.slice vA vm vc)) at_ e bad (N + k) := by
  obtain ⟨k, a, nm, cl, vi, vx, vy, BA, bn, bc, EA, en, ec, h⟩ := h
  have hqg : q < g := Nat.lt_of_lt_of_le h.hq h.hg
  obtain ⟨i1, i2, i3, i4, iA, im, ic, rfl⟩ := h.si
  obtain ⟨x1, x2, x3, x4, xA, xm, xc, rfl⟩ := h.sx
  obtain ⟨y1, y2, y3, y4, yA, ym, yc, rfl⟩ := h.sy
  exact ⟨_, _, _, _, _, [.int .i64 v0, .int .u64 v1, .int .u8 v2, .string v3, .slice vA vm vc], _, _, _, _, _, _, _, ⟨(rd_set (rd_set (rd_set (rd_set (rd_set h.rd hqg 9 (.int .i64 v0)) hqg 10 (.int .u64 v1)) hqg 11 (.int .u8 v2)) hqg 12 (.string v3)) hqg 13 (.slice vA vm vc)), (only_set (only_set (only_set (only_set (only_set h.on h.hg 9 (.int .i64 v0)) h.hg 10 (.int .u64 v1)) h.hg 11 (.int .u8 v2)) h.hg 12 (.string v3)) h.hg 13 (.slice vA vm vc)), h.hq, h.hg, (blk_set (blk_set (blk_set (blk_set (blk_set h.cs (.int .i64 v0)) (.int .u64 v1)) (.int .u8 v2)) (.string v3)) (.slice vA vm vc)), h.si, ExSh.mk _ _ _ _ _ _ _, h.sy, h.ns, h.ls, fun h0 => ⟨(h.ok h0).1, by
    have hk := ((((((h.ok h0).2.set 9 (.int .i64 v0)).set 10 (.int .u64 v1)).set 11 (.int .u8 v2)).set 12 (.string v3)).set 13 (.slice vA vm vc))
    exact (by obtain ⟨x, hx, hlx⟩ := hx0 h0; obtain ⟨i0, x0, y0, b0, b1, hi1, hx1, hy1, hb1, hb2, hw⟩ := hk; exact ⟨i0, x, y0, b0, b1, hi1, (exV_set (exV_set (exV_set (exV_set (exV_set hx (Nat.lt_succ_self g) 9 (.int .i64 v0)) (Nat.lt_succ_self g) 10 (.int .u64 v1)) (Nat.lt_succ_self g) 11 (.int .u8 v2)) (Nat.lt_succ_self g) 12 (.string v3)) (Nat.lt_succ_self g) 13 (.slice vA vm vc)), hy1, hb1, hb2, by omega⟩)⟩⟩⟩
theorem SI.setY (h : SI w0 q g f e0 W at_ e bad N) (v0 v1 v2 : Int) (v3 : ByteArray) (vA : Option Addr) (vm vc : Nat) (k : Nat) (hx0 : e = 0 → ∃ x, exV (g + 1) W x [.int .i64 v0, .int .u64 v1, .int .u8 v2, .string v3, .slice vA vm vc] ∧ lv x ≤ k) : SI w0 q g f e0 (((((W.setCell ⟨g, 14, none⟩ (.int .i64 v0)).setCell ⟨g, 15, none⟩ (.int .u64 v1)).setCell ⟨g, 16, none⟩ (.int .u8 v2)).setCell ⟨g, 17, none⟩ (.string v3)).setCell ⟨g, 18, none⟩ (.slice vA vm vc)) at_ e bad (N + k) := by
  obtain ⟨k, a, nm, cl, vi, vx, vy, BA, bn, bc, EA, en, ec, h⟩ := h
  have hqg : q < g := Nat.lt_of_lt_of_le h.hq h.hg
  obtain ⟨i1, i2, i3, i4, iA, im, ic, rfl⟩ := h.si
  obtain ⟨x1, x2, x3, x4, xA, xm, xc, rfl⟩ := h.sx
  obtain ⟨y1, y2, y3, y4, yA, ym, yc, rfl⟩ := h.sy
  exact ⟨_, _, _, _, _, _, [.int .i64 v0, .int .u64 v1, .int .u8 v2, .string v3, .slice vA vm vc], _, _, _, _, _, _, ⟨(rd_set (rd_set (rd_set (rd_set (rd_set h.rd hqg 14 (.int .i64 v0)) hqg 15 (.int .u64 v1)) hqg 16 (.int .u8 v2)) hqg 17 (.string v3)) hqg 18 (.slice vA vm vc)), (only_set (only_set (only_set (only_set (only_set h.on h.hg 14 (.int .i64 v0)) h.hg 15 (.int .u64 v1)) h.hg 16 (.int .u8 v2)) h.hg 17 (.string v3)) h.hg 18 (.slice vA vm vc)), h.hq, h.hg, (blk_set (blk_set (blk_set (blk_set (blk_set h.cs (.int .i64 v0)) (.int .u64 v1)) (.int .u8 v2)) (.string v3)) (.slice vA vm vc)), h.si, h.sx, ExSh.mk _ _ _ _ _ _ _, h.ns, h.ls, fun h0 => ⟨(h.ok h0).1, by
    have hk := ((((((h.ok h0).2.set 14 (.int .i64 v0)).set 15 (.int .u64 v1)).set 16 (.int .u8 v2)).set 17 (.string v3)).set 18 (.slice vA vm vc))
    exact (by obtain ⟨x, hx, hlx⟩ := hx0 h0; obtain ⟨i0, x0, y0, b0, b1, hi1, hx1, hy1, hb1, hb2, hw⟩ := hk; exact ⟨i0, x0, x, b0, b1, hi1, hx1, (exV_set (exV_set (exV_set (exV_set (exV_set hx (Nat.lt_succ_self g) 14 (.int .i64 v0)) (Nat.lt_succ_self g) 15 (.int .u64 v1)) (Nat.lt_succ_self g) 16 (.int .u8 v2)) (Nat.lt_succ_self g) 17 (.string v3)) (Nat.lt_succ_self g) 18 (.slice vA vm vc)), hb1, hb2, by omega⟩)⟩⟩⟩
theorem SI.setB (h : SI w0 q g f e0 W at_ e bad N) (A : Option Addr) (n c : Nat) (k : Nat) (hb0 : e = 0 → ∃ b, IsBd (g + 1) W b A n c ∧ bsz b ≤ k) : SI w0 q g f e0 (W.setCell ⟨g, 19, none⟩ (.slice A n c)) at_ e bad (N + k) := by
  obtain ⟨k, a, nm, cl, vi, vx, vy, BA, bn, bc, EA, en, ec, h⟩ := h
  have hqg : q < g := Nat.lt_of_lt_of_le h.hq h.hg
  obtain ⟨i1, i2, i3, i4, iA, im, ic, rfl⟩ := h.si
  obtain ⟨x1, x2, x3, x4, xA, xm, xc, rfl⟩ := h.sx
  obtain ⟨y1, y2, y3, y4, yA, ym, yc, rfl⟩ := h.sy
  exact ⟨_, _, _, _, _, _, _, A, n, c, _, _, _, ⟨(rd_set h.rd hqg 19 (.slice A n c)), (only_set h.on h.hg 19 (.slice A n c)), h.hq, h.hg, (blk_set h.cs (.slice A n c)), h.si, h.sx, h.sy, h.ns, h.ls, fun h0 => ⟨(h.ok h0).1, by
    have hk := ((h.ok h0).2.set 19 (.slice A n c))
    exact (by obtain ⟨b, hb, hlb⟩ := hb0 h0; obtain ⟨i0, x0, y0, b0, b1, hi1, hx1, hy1, hb1, hb2, hw⟩ := hk; exact ⟨i0, x0, y0, b, b1, hi1, hx1, hy1, bd_set hb (Nat.lt_succ_self g) 19 (.slice A n c), hb2, by omega⟩)⟩⟩⟩
theorem SI.setE (h : SI w0 q g f e0 W at_ e bad N) (A : Option Addr) (n c : Nat) (k : Nat) (hb0 : e = 0 → ∃ b, IsBd (g + 1) W b A n c ∧ bsz b ≤ k) : SI w0 q g f e0 (W.setCell ⟨g, 20, none⟩ (.slice A n c)) at_ e bad (N + k) := by
  obtain ⟨k, a, nm, cl, vi, vx, vy, BA, bn, bc, EA, en, ec, h⟩ := h
  have hqg : q < g := Nat.lt_of_lt_of_le h.hq h.hg
  obtain ⟨i1, i2, i3, i4, iA, im, ic, rfl⟩ := h.si
  obtain ⟨x1, x2, x3, x4, xA, xm, xc, rfl⟩ := h.sx
  obtain ⟨y1, y2, y3, y4, yA, ym, yc, rfl⟩ := h.sy
  exact ⟨_, _, _, _, _, _, _, _, _, _, A, n, c, ⟨(rd_set h.rd hqg 20 (.slice A n c)), (only_set h.on h.hg 20 (.slice A n c)), h.hq, h.hg, (blk_set h.cs (.slice A n c)), h.si, h.sx, h.sy, h.ns, h.ls, fun h0 => ⟨(h.ok h0).1, by
    have hk := ((h.ok h0).2.set 20 (.slice A n c))
    exact (by obtain ⟨b, hb, hlb⟩ := hb0 h0; obtain ⟨i0, x0, y0, b0, b1, hi1, hx1, hy1, hb1, hb2, hw⟩ := hk; exact ⟨i0, x0, y0, b0, b, hi1, hx1, hy1, hb1, bd_set hb (Nat.lt_succ_self g) 20 (.slice A n c), by omega⟩)⟩⟩⟩
end
end Go.Proofs.Ytapnnbbbgopobaa.Rr
namespace Go.Proofs.Ytapnnbbbgopobaa.Rr
open Go.RowKit Cm Mm Ow Me Ml Lg Lx
theorem ix91 (W : World) : (Instr.index 9 (.string ⟨#[91]⟩) (.int .i64 0)).run Try.prog W = .ok (.int .u8 91) W := by kernel_rfl
theorem ix93 (W : World) : (Instr.index 9 (.string ⟨#[93]⟩) (.int .i64 0)).run Try.prog W = .ok (.int .u8 93) W := by kernel_rfl
set_option maxRecDepth 20000 in
set_option maxHeartbeats 6400000 in
theorem place_any {w0 W : World} {q g : Nat} {f : Fx} {e0 : Int} {at_ : Nat} {e bad : Int} {N : Nat} (h : SI w0 q g f e0 W at_ e bad N) (hn : f.n ≤ 20000) : Calls Try.prog 83 #[.pointer (some ⟨q, 0, none⟩), .pointer (some ⟨g, 0, none⟩)] W (fun en W' => en = .returned (.tuple #[]) ∧ ∃ at2 e2 bad2 N2, SI w0 q g f e0 W' at2 e2 bad2 N2 ∧ at_ ≤ at2 ∧ (e2 = 0 → e = 0) ∧ N2 ≤ N + (at2 - at_)) := by
  have H := Lib.hid h
  clear h
  go_enter Try.func83, Try.ntmps83
  go_wp2_with fail
  refine (name_any H.out.rd hn).mono ?_
  rintro en w1 ⟨s, at1, e1, bad1, rfl, h1, ho1, hat1, hok1, hs⟩
  have hqg := H.out.hqg
  have h2 := H.out.call h1 ho1 (fun h0 => (hok1 h0).1)
  have H2 := Lib.hid h2
  have he1 : Hid (e1 = 0 → e = 0) := Lib.hid (fun h0 => (hok1 h0).1)
  obtain ⟨c0, hc0⟩ := h2.cell 3 (by omega)
  have hf0 := h2.free
  have H3 := Lib.hid (h2.place s hs)
  clear h1 ho1 hok1 h2 H
  go_upto_region 1 with fail
  obtain ⟨W3, hW⟩ : ∃ W3, w1.setCell ⟨g, 3, none⟩ (.string s) = W3 := ⟨_, rfl⟩
  rw [hW] at H3
  try rw [hW]
  clear hW hf0 hc0 H2 hs
  go_wp2_with fail
  refine (take_any H3.out.rd hn ⟨#[91]⟩ 91 ix91).mono ?_
  rintro en w4 ⟨bb, at4, rfl, h4, ho4, ht4, hf4⟩
  have H4 := Lib.hid (H3.out.call h4 ho4 id)
  have hat4 : at1 ≤ at4 := by
    cases bb
    · exact Nat.le_of_eq (hf4 rfl).symm
    · have := (ht4 rfl).2; omega
  clear h4 ho4 H3 ht4 hf4
  cases bb
  · go_wp2_with fail
    go_end0
    exact ⟨rfl, at4, e1, bad1, N, H4.out, by omega, he1.out, by omega⟩
  · go_wp2_with fail
    refine (eo0.go H4.out.rd hn).mono ?_
    rintro en w5 ⟨vs, at5, e5, bad5, rfl, ⟨v0, v1, v2, v3, vA, vm, vc, rfl⟩, h5, ho5, hat5, hok5⟩
    have hlt4 := H4.out.lt
    have h6 := H4.out.call h5 ho5 (fun h0 => (hok5 h0).1)
    have he5 : Hid (e5 = 0 → e = 0) := Lib.hid (fun h0 => he1.out (hok5 h0).1)
    obtain ⟨c4, hc4⟩ := h6.cell 4 (by omega)
    obtain ⟨c5, hc5⟩ := h6.cell 5 (by omega)
    obtain ⟨c6, hc6⟩ := h6.cell 6 (by omega)
    obtain ⟨c7, hc7⟩ := h6.cell 7 (by omega)
    obtain ⟨c8, hc8⟩ := h6.cell 8 (by omega)
    have hf6 := h6.free
    have H7 := Lib.hid (h6.setI v0 v1 v2 v3 vA vm vc (at5 - at4) (fun h0 => by
      obtain ⟨-, -, x, hx, hlx⟩ := hok5 h0
      exact ⟨x, exV_low (by omega) hx, by omega⟩))
    clear h5 ho5 hok5 h6 H4
    go_upto_region 3 with fail
    obtain ⟨W7, hW⟩ : ∃ W7, ((((w5.setCell ⟨g, 4, none⟩ (.int .i64 v0)).setCell ⟨g, 5, none⟩ (.int .u64 v1)).setCell ⟨g, 6, none⟩ (.int .u8 v2)).setCell ⟨g, 7, none⟩ (.string v3)).setCell ⟨g, 8, none⟩ (.slice vA vm vc) = W7 := ⟨_, rfl⟩
    rw [hW] at H7
    try rw [hW]
    clear hW hf6 hc4 hc5 hc6 hc7 hc8
    go_wp2_with fail
    refine (want_any H7.out.rd hn ⟨#[93]⟩ 93 ix93).mono ?_
    rintro en w8 ⟨rfl, at8, e8, bad8, h8, ho8, hat8, hok8⟩
    have H8 := Lib.hid (H7.out.call h8 ho8 (fun h0 => (hok8 h0).1))
    have he8 : Hid (e8 = 0 → e = 0) := Lib.hid (fun h0 => he5.out (hok8 h0).1)
    clear h8 ho8 hok8 H7
    go_wp2_with fail
    go_end0
    exact ⟨rfl, at8, e8, bad8, _, H8.out, by omega, he8.out, by omega⟩
end Go.Proofs.Ytapnnbbbgopobaa.Rr
namespace Go.Proofs.Ytapnnbbbgopobaa.Rr
open Go.RowKit Cm Mm Ow Me Ml Lg Lx
def StmtA (w : World) (q : Nat) (f : Fx) (at_ : Nat) (e : Int) (en : Ending) (w' : World) : Prop :=
  ∃ (k a : Int) (nm cl : ByteArray) (vi vx vy : List Value) (BA : Option Addr) (bn bc : Nat) (EA : Option Addr) (en' ec : Nat) (at2 : Nat) (e2 bad2 : Int), en = .returned (.agg (stW k a nm cl vi vx vy BA bn bc EA en' ec).toArray) ∧ ExSh vi ∧ ExSh vx ∧ ExSh vy ∧ Rd w' q f at2 e2 bad2 ∧ Only [q] w w' ∧ at_ ≤ at2 ∧ (e2 = 0 → e = 0 ∧ at_ < at2 ∧ ∃ h b1 b2, wtS h b1 b2 + 4 * at_ ≤ 4 * at2 ∧ StV w.heap.size w' h b1 b2 (stW k a nm cl vi vx vy BA bn bc EA en' ec))
def BodyA (w : World) (q : Nat) (f : Fx) (at_ : Nat) (e : Int) (en : Ending) (w' : World) : Prop :=
  ∃ (A : Option Addr) (n c at2 : Nat) (e2 bad2 : Int), en = .returned (.slice A n c) ∧ Rd w' q f at2 e2 bad2 ∧ Only [q] w w' ∧ at_ ≤ at2 ∧ (e2 = 0 → e = 0 ∧ ∃ b, IsBd w.heap.size w' b A n c ∧ bsz b + 4 * at_ ≤ 4 * at2)
theorem one21 {v0 v1 v2 v3 v4 v5 v6 v7 v8 v9 v10 v11 v12 v13 v14 v15 v16 v17 v18 v19 v20 : Value} (h0 : v0.oneCell' = true) (h1 : v1.oneCell' = true) (h2 : v2.oneCell' = true) (h3 : v3.oneCell' = true) (h4 : v4.oneCell' = true) (h5 : v5.oneCell' = true) (h6 : v6.oneCell' = true) (h7 : v7.oneCell' = true) (h8 : v8.oneCell' = true) (h9 : v9.oneCell' = true) (h10 : v10.oneCell' = true) (h11 : v11.oneCell' = true) (h12 : v12.oneCell' = true) (h13 : v13.oneCell' = true) (h14 : v14.oneCell' = true) (h15 : v15.oneCell' = true) (h16 : v16.oneCell' = true) (h17 : v17.oneCell' = true) (h18 : v18.oneCell' = true) (h19 : v19.oneCell' = true) (h20 : v20.oneCell' = true) : (#[v0, v1, v2, v3, v4, v5, v6, v7, v8, v9, v10, v11, v12, v13, v14, v15, v16, v17, v18, v19, v20] : Array Value).all (·.oneCell') = true := by
  simp [h0, h1, h2, h3, h4, h5, h6, h7, h8, h9, h10, h11, h12, h13, h14, h15, h16, h17, h18, h19, h20]
theorem stmt_ret {w w' : World} {q : Nat} {f : Fx} {at_ : Nat} {e : Int} {tmps : Array Value} {g : Nat} {v0 v1 v2 v3 v4 v5 v6 v7 v8 v9 v10 v11 v12 v13 v14 v15 v16 v17 v18 v19 v20 : Value} (h4 : tmps[4]?.getD undef = .pointer (some ⟨g, 0, none⟩)) (hX : w'.heap[g]? = some (.cells #[v0, v1, v2, v3, v4, v5, v6, v7, v8, v9, v10, v11, v12, v13, v14, v15, v16, v17, v18, v19, v20] 122 (0, 0))) (hA : StmtA w q f at_ e (.returned (.agg #[v0, v1, v2, v3, v4, v5, v6, v7, v8, v9, v10, v11, v12, v13, v14, v15, v16, v17, v18, v19, v20])) w') : bodyPost Try.prog Try.f69 (StmtA w q f at_ e) Exit.ret { tmps := tmps, defers := [] } w' := by
  exact bodyPost_ret (v := .agg #[v0, v1, v2, v3, v4, v5, v6, v7, v8, v9, v10, v11, v12, v13, v14, v15, v16, v17, v18, v19, v20]) (results_cell_row Try.results69 tmps w' g _ _ (0, 0) _ (by simpa using h4) hX Try.underlying122 rfl (by kernel_rfl)) rfl hA
end Go.Proofs.Ytapnnbbbgopobaa.Rr
namespace Go.Proofs.Ytapnnbbbgopobaa.Rr
open Go.RowKit Cm Mm Ow Me Ml Lg Lx
theorem fd_any (kd : Int) (tx : ByteArray) (nn a2 : Int) (W : World) : (Instr.field 63 (.agg #[.int .i64 kd, .string tx, .int .u64 nn, .int .i64 a2]) 3).run Try.prog W = .ok (.int .i64 a2) W := by
  have hu := Try.underlying63
  simp [Instr.field, asAgg, go_sem, hu]
theorem stW_new (a : Int) : (stW 0 a ⟨#[]⟩ ⟨#[]⟩ [.int .i64 0, .int .u64 0, .int .u8 0, .string ⟨#[]⟩, .slice none 0 0] [.int .i64 0, .int .u64 0, .int .u8 0, .string ⟨#[]⟩, .slice none 0 0] [.int .i64 0, .int .u64 0, .int .u8 0, .string ⟨#[]⟩, .slice none 0 0] none 0 0 none 0 0).toArray = #[.int .i64 0, .int .i64 a, .string ⟨#[]⟩, .string ⟨#[]⟩, .int .i64 0, .int .u64 0, .int .u8 0, .string ⟨#[]⟩, .slice none 0 0, .int .i64 0, .int .u64 0, .int .u8 0, .string ⟨#[]⟩, .slice none 0 0, .int .i64 0, .int .u64 0, .int .u8 0, .string ⟨#[]⟩, .slice none 0 0, .slice none 0 0, .slice none 0 0] := by simp [stW]
theorem si_new {w0 W : World} {q g : Nat} {f : Fx} {at_ : Nat} {e bad : Int} {a : Int} (hr : Rd W q f at_ e bad) (ho : Only [q] w0 W) (hq : q < w0.heap.size) (hg : w0.heap.size ≤ g) (hx : W.heap[g]? = some (.cells #[.int .i64 0, .int .i64 a, .string ⟨#[]⟩, .string ⟨#[]⟩, .int .i64 0, .int .u64 0, .int .u8 0, .string ⟨#[]⟩, .slice none 0 0, .int .i64 0, .int .u64 0, .int .u8 0, .string ⟨#[]⟩, .slice none 0 0, .int .i64 0, .int .u64 0, .int .u8 0, .string ⟨#[]⟩, .slice none 0 0, .slice none 0 0, .slice none 0 0] 122 (0, 0))) : SI w0 q g f e W at_ e bad 3 :=
  ⟨0, a, ⟨#[]⟩, ⟨#[]⟩, [.int .i64 0, .int .u64 0, .int .u8 0, .string ⟨#[]⟩, .slice none 0 0], [.int .i64 0, .int .u64 0, .int .u8 0, .string ⟨#[]⟩, .slice none 0 0], [.int .i64 0, .int .u64 0, .int .u8 0, .string ⟨#[]⟩, .slice none 0 0], none, 0, 0, none, 0, 0, ⟨hr, ho, hq, hg, by rw [stW_new]; exact hx, ExSh.mk 0 0 0 ⟨#[]⟩ none 0 0, ExSh.mk 0 0 0 ⟨#[]⟩ none 0 0, ExSh.mk 0 0 0 ⟨#[]⟩ none 0 0, by decide, by decide, fun h0 => ⟨h0, .num 0, .num 0, .num 0, .nil, .nil, ⟨rfl, by decide, by decide⟩, ⟨rfl, by decide, by decide⟩, ⟨rfl, by decide, by decide⟩, IsBd.none _ _, IsBd.none _ _, Nat.le_refl 3⟩⟩⟩
end Go.Proofs.Ytapnnbbbgopobaa.Rr
