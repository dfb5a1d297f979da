/-
  WALK: image.Join.
-/
import Derived.Test.YtkohichiojmakaaImgJoin
namespace Go.Proofs.Ytkohichiojmakaa.ImW
set_option linter.unusedVariables false
set_option linter.unusedSimpArgs false
open Go.RowKit Cm Mm Ow Ow2 Ow3 A64 A64W A64P Pat InW PatW Img ImC ImR ImQ ImN ImA Jn ImJ

/-- the image in block p -/
structure Xm (w : World) (p : Nat) (x y : Int) (E C : Value) : Prop where
  c0 : w.cell? ⟨p, 0, none⟩ = some (.int .i64 x)
  c1 : w.cell? ⟨p, 1, none⟩ = some (.int .i64 y)
  c2 : w.cell? ⟨p, 2, none⟩ = some E
  c3 : w.cell? ⟨p, 3, none⟩ = some C
  fr : ∀ o, w.frozen? ⟨p, o, none⟩ = false
theorem Xm.same {w w' : World} {p : Nat} {x y : Int} {E C : Value} (h : Xm w p x y E C) (hb : w'.heap[p]? = w.heap[p]?) : Xm w' p x y E C := by
  obtain ⟨h1, h2⟩ := blk_same hb
  exact ⟨(h1 0).trans h.c0, (h1 1).trans h.c1, (h1 2).trans h.c2, (h1 3).trans h.c3, fun o => (h2 o).trans (h.fr o)⟩
theorem Xm.lt {w : World} {p : Nat} {x y : Int} {E C : Value} (h : Xm w p x y E C) : p < w.heap.size := World.block_lt_of_cell? w _ h.c0
theorem Xm.keep {w w' : World} {p : Nat} {x y : Int} {E C : Value} (h : Xm w p x y E C) (hb : Below w.heap.size w w') : Xm w' p x y E C := h.same (hb.block _ h.lt)
theorem Xm.set2 {w : World} {p : Nat} {x y : Int} {E C : Value} (h : Xm w p x y E C) (E' : Value) : Xm (w.setCell ⟨p, 2, none⟩ E') p x y E' C :=
  ⟨(World.cell?_setCell_other _ _ _ _ (by simp)).trans h.c0, (World.cell?_setCell_other _ _ _ _ (by simp)).trans h.c1, World.cell?_setCell_same _ _ _ h.c2, (World.cell?_setCell_other _ _ _ _ (by simp)).trans h.c3, fun o => by rw [World.frozen?_setCell]; exact h.fr o⟩
theorem Xm.set3 {w : World} {p : Nat} {x y : Int} {E C : Value} (h : Xm w p x y E C) (C' : Value) : Xm (w.setCell ⟨p, 3, none⟩ C') p x y E C' :=
  ⟨(World.cell?_setCell_other _ _ _ _ (by simp)).trans h.c0, (World.cell?_setCell_other _ _ _ _ (by simp)).trans h.c1, (World.cell?_setCell_other _ _ _ _ (by simp)).trans h.c2, World.cell?_setCell_same _ _ _ h.c3, fun o => by rw [World.frozen?_setCell]; exact h.fr o⟩
theorem Xm.set0 {w : World} {p : Nat} {x y : Int} {E C : Value} (h : Xm w p x y E C) (x' : Int) : Xm (w.setCell ⟨p, 0, none⟩ (.int .i64 x')) p x' y E C :=
  ⟨World.cell?_setCell_same _ _ _ h.c0, (World.cell?_setCell_other _ _ _ _ (by simp)).trans h.c1, (World.cell?_setCell_other _ _ _ _ (by simp)).trans h.c2, (World.cell?_setCell_other _ _ _ _ (by simp)).trans h.c3, fun o => by rw [World.frozen?_setCell]; exact h.fr o⟩
theorem Xm.set1 {w : World} {p : Nat} {x y : Int} {E C : Value} (h : Xm w p x y E C) (y' : Int) : Xm (w.setCell ⟨p, 1, none⟩ (.int .i64 y')) p x y' E C :=
  ⟨(World.cell?_setCell_other _ _ _ _ (by simp)).trans h.c0, World.cell?_setCell_same _ _ _ h.c1, (World.cell?_setCell_other _ _ _ _ (by simp)).trans h.c2, (World.cell?_setCell_other _ _ _ _ (by simp)).trans h.c3, fun o => by rw [World.frozen?_setCell]; exact h.fr o⟩
theorem xm_new (w : World) (x y : Int) (E C : Value) (p : Nat) (t : TypeId) (hp : w.heap.size = p) : Xm (w.alloc (.cells #[.int .i64 x, .int .i64 y, E, C] t)) p x y E C := by
  subst hp
  exact ⟨by simp, by simp, by simp, by simp, fun o => by simp⟩
theorem own_other {w : World} {base : Nat} {e : TypeId} {sz : Nat} {A : Option Addr} {n cap : Nat} {L : List (List Value)} (h : Own w base e sz A n cap L) {a : Addr} (ha : A.map (·.block) ≠ some a.block) (u : Value) : Own (w.setCell a u) base e sz A n cap L :=
  ⟨h.len, h.each, ownsRow_setCell_other h.row (by rw [ownBlock_eq]; exact ha) u⟩
theorem own_same {w w' : World} {base : Nat} {e : TypeId} {sz : Nat} {A : Option Addr} {n cap : Nat} {L : List (List Value)} (h : Own w base e sz A n cap L) (hs : ∀ g, A.map (·.block) = some g → w'.heap[g]? = w.heap[g]?) : Own w' base e sz A n cap L := by
  refine ⟨h.len, h.each, ?_⟩
  obtain ⟨h1, h2⟩ := h.row
  refine ⟨h1, ?_⟩
  rcases h2 with h2 | ⟨g, c, cur, e1, e2, e3, e4⟩
  · exact .inl h2
  · refine .inr ⟨g, c, cur, e1, e2, ?_, e4⟩
    rw [hs g (by injection e1 with e1; subst e1; rfl)]
    exact e3
theorem own_ne {w : World} {b1 b2 : Nat} {e1 e2 : TypeId} {s1 s2 : Nat} {A1 A2 : Option Addr} {n1 c1 n2 c2 : Nat} {L1 L2 : List (List Value)} (h1 : Own w b1 e1 s1 A1 n1 c1 L1) (h2 : Own w b2 e2 s2 A2 n2 c2 L2) (he : e1 ≠ e2) {g : Nat} (hg : A1.map (·.block) = some g) : A2.map (·.block) ≠ some g := fun hg2 => by
  obtain ⟨u1, k1⟩ := h1.type hg
  obtain ⟨u2, k2⟩ := h2.type hg2
  rw [k1] at k2
  injection k2 with k2
  injection k2 with _ k2
  exact he k2
/-- an image that was made -/
def GaveIm (w : World) (x : Im × Int) (e : Ending) (w' : World) : Prop :=
  ∃ E n ec C m cc, e = .returned (.tuple #[.agg #[.int .i64 x.1.words, .int .i64 x.1.start, .slice E n ec, .slice C m cc], .int .i64 x.2]) ∧ IsI w' E n ec x.1.entry ∧ IsWd w' C m cc x.1.code ∧ Below w.heap.size w w'
theorem ent_len (s : List (BitVec 32)) (t : List (List (BitVec 32))) (k : Nat) : (entK s t k).length = k := by unfold entK; simp

/-- behind k threads -/
structure JS (S p : Nat) (w wr : World) (x : Int) (s : List (BitVec 32)) (t : List (List (BitVec 32))) (k : Nat) (E : Option Addr) (ec : Nat) (C : Option Addr) (m cc : Nat) : Prop where
  X : Xm wr p x 0 (.slice E k ec) (.slice C m cc)
  OE : Own wr (p + 1) 3 1 E k ec ((entK s t k).map ivL)
  OC : Own wr (S + 1) 55 1 C m cc ((codeK s t k).map wvL)
  LC : ∀ g, C.map (·.block) = some g → S < g ∧ g ≠ p
  Z : Zi wr S
  B : Below S w wr
  hp : S < p
/-- .. its entry told -/
structure JM (S p : Nat) (w wr : World) (x : Int) (s : List (BitVec 32)) (t : List (List (BitVec 32))) (k : Nat) (E : Option Addr) (ec : Nat) (C : Option Addr) (m cc : Nat) : Prop where
  X : Xm wr p x 0 (.slice E (k + 1) ec) (.slice C m cc)
  OE : Own wr (p + 1) 3 1 E (k + 1) ec ((entK s t (k + 1)).map ivL)
  OC : Own wr (S + 1) 55 1 C m cc ((codeK s t k).map wvL)
  LC : ∀ g, C.map (·.block) = some g → S < g ∧ g ≠ p
  Z : Zi wr S
  B : Below S w wr
  hp : S < p
theorem step1 {S p : Nat} {w wr : World} {x : Int} {s : List (BitVec 32)} {t : List (List (BitVec 32))} {k : Nat} {E : Option Addr} {ec : Nat} {C : Option Addr} {m cc : Nat} (h : JS S p w wr x s t k E ec C m cc)
    {w4 : World} {A4 : Option Addr} {c4 : Nat} (hown : Own w4 (p + 1) 3 1 A4 (k + 1) c4 ((entK s t k).map ivL ++ [ivL (m : Int)])) (hbel : Below (p + 1) wr w4) (hkp : ∀ b, b < wr.heap.size → E.map (·.block) ≠ some b → w4.heap[b]? = wr.heap[b]?) :
    Xm w4 p x 0 (.slice E k ec) (.slice C m cc) ∧ JM S p w (w4.setCell ⟨p, 2, none⟩ (.slice A4 (k + 1) c4)) x s t k A4 c4 C m cc := by
  have hlen : (codeK s t k).length = m := by simpa using h.OC.len
  have hE : ∀ b, E.map (·.block) = some b → p < b := fun b hb => by have := (h.OE.lt b hb).1; omega
  have hpE : E.map (·.block) ≠ some p := fun e => by have := hE p e; omega
  have hSE : E.map (·.block) ≠ some S := fun e => by have := hE S e; have := h.hp; omega
  have X4 := h.X.same (hkp p h.X.lt hpE)
  have hS : S < wr.heap.size := by have := h.X.lt; have := h.hp; omega
  have OC4 : Own w4 (S + 1) 55 1 C m cc ((codeK s t k).map wvL) := own_same h.OC fun g hg => hkp g (h.OC.lt g hg).2 (own_ne h.OC h.OE (by decide) hg)
  have hA4 : A4.map (·.block) ≠ some p := fun e => by have := (hown.lt p e).1; omega
  have hC : C.map (·.block) ≠ some p := fun e => (h.LC p e).2 rfl
  refine ⟨X4, X4.set2 _, ?_, own_other OC4 hC _, h.LC, (h.Z.same (hkp S hS hSE)).same (Below.heap_setCell _ _ _ _ (by have := h.hp; show S ≠ p; omega)), ?_, h.hp⟩
  · rw [entK_succ, List.map_append, hlen]
    exact own_other hown hA4 _
  · exact (h.B.trans (hbel.mono (by have := h.hp; omega))).setCell (p := ⟨p, 2, none⟩) (by have := h.hp; show S ≤ p; omega) _
theorem step2 {S p : Nat} {w wr : World} {x : Int} {s : List (BitVec 32)} {t : List (List (BitVec 32))} {k : Nat} {E : Option Addr} {ec : Nat} {C : Option Addr} {m cc : Nat} (h : JM S p w wr x s t k E ec C m cc) (hk : k < t.length)
    {w6 : World} {A6 : Option Addr} {c6 n : Nat} (hown : Own w6 (S + 1) 55 1 A6 (m + n) c6 ((codeK s t k).map wvL ++ (t.getD k []).map wvL)) (hg : wr.grownBy w6 (C.map (·.block))) (hat : A6.map (·.block) = C.map (·.block) ∨ A6.map (·.block) = some wr.heap.size) :
    Xm w6 p x 0 (.slice E (k + 1) ec) (.slice C m cc) ∧ JS S p w (w6.setCell ⟨p, 3, none⟩ (.slice A6 (m + n) c6)) x s t (k + 1) E ec A6 (m + n) c6 := by
  have hC : C.map (·.block) ≠ some p := fun e => (h.LC p e).2 rfl
  have hCS : C.map (·.block) ≠ some S := fun e => by have := (h.LC S e).1; omega
  have X6 := h.X.same (hg.block p h.X.lt (fun e => hC e.symm))
  have hS : S < wr.heap.size := by have := h.X.lt; have := h.hp; omega
  have OE6 : Own w6 (p + 1) 3 1 E (k + 1) ec ((entK s t (k + 1)).map ivL) := own_same h.OE fun g hgE => hg.block g (h.OE.lt g hgE).2 (fun e => own_ne h.OE h.OC (by decide) hgE e.symm)
  have hLA : ∀ g, A6.map (·.block) = some g → S < g ∧ g ≠ p := fun g hg6 => by
    rcases hat with e | e
    · rw [e] at hg6; exact h.LC g hg6
    · rw [e] at hg6
      obtain rfl : wr.heap.size = g := by simpa using hg6
      have := h.X.lt; omega
  have hA6 : A6.map (·.block) ≠ some p := fun e => (hLA p e).2 rfl
  have hpE : E.map (·.block) ≠ some p := fun e => by have := (h.OE.lt p e).1; omega
  refine ⟨X6, X6.set3 _, own_other OE6 hpE _, ?_, hLA, (h.Z.same (hg.block S hS (fun e => hCS e.symm))).same (Below.heap_setCell _ _ _ _ (by have := h.hp; show S ≠ p; omega)), ?_, h.hp⟩
  · rw [codeK_succ hk, List.map_append]
    exact own_other hown hA6 _
  · exact (h.B.grown hg (by omega) (fun j hj => by have := h.LC j hj; omega)).setCell (p := ⟨p, 3, none⟩) (by have := h.hp; show S ≤ p; omega) _

set_option maxRecDepth 20000 in
set_option maxHeartbeats 6400000 in
theorem join_any (A T : Option Addr) (n cap tn tc : Nat) (s : List (BitVec 32)) (rs : List Row) (x : Int) (w : World) (h : IsWd w A n cap s) (hT : IsRows w T tn tc rs) (hn : n ≤ 100) (htn : tn ≤ 8) (hrs : ∀ j, j < tn → (rs.getD j zeroRow).l.length ≤ 100) :
    Calls Try.prog 14 #[.slice A n cap, .slice T tn tc, .int .i64 x] w (GaveIm w (join s (ths rs) x)) := by
  have hs := Lib.hid h.1
  have hr := Lib.hid hT.1
  have htl : Hid ((ths rs).length = tn) := Lib.hid (by unfold ths; rw [List.length_map]; exact hr.out)
  have hcl : Hid (∀ k, k ≤ tn → (codeK s (ths rs) k).length ≤ 900) := Lib.hid (fun k hk => by
    have := codeK_len (s := s) (t := ths rs) (by rw [hs.out]; exact hn) (fun j hj => by rw [ths_get]; exact hrs j (by rw [htl.out] at hj; exact hj)) k (by rw [htl.out]; exact hk)
    omega)
  have HRS := Lib.hid hrs
  have HZ0 := Lib.hid (zi_new w w.heap.size 27 rfl)
  have HB0 : Hid (Below w.heap.size w (w.alloc (.cells #[.int .i64 0, .int .i64 0, .slice none 0 0, .slice none 0 0] 27))) := Lib.hid (below_al _ _)
  have HI := Lib.hid (h.keep HB0.out)
  have HT := Lib.hid (hT.keep HB0.out)
  have hT0 := hT
  clear h hT hrs
  go_enter Try.func14, Try.ntmps14
  go_wp2_with fail
  have hz0 : (w.alloc (.cells #[.int .i64 0, .int .i64 0, .slice none 0 0, .slice none 0 0] 27)).heap.size = w.heap.size + 1 := by simp
  generalize w.alloc (.cells #[.int .i64 0, .int .i64 0, .slice none 0 0, .slice none 0 0] 27) = W at *
  refine (clone_any A n cap s W HI.out (by omega)).mono ?_
  rintro e w2 ⟨A2, c2, rfl, hown2, hb2⟩
  rw [hz0] at hown2
  have hp2 := hb2.size
  obtain ⟨W3, hW3⟩ : ∃ W3, w2.alloc (.cells #[.int .i64 x, .int .i64 0, .slice none 0 0, .slice A2 n c2] 27) = W3 := ⟨_, rfl⟩
  have B3 : Below w2.heap.size w2 W3 := by rw [← hW3]; exact below_al _ _
  have X3 : Hid (Xm W3 w2.heap.size x 0 (.slice none 0 0) (.slice A2 n c2)) := Lib.hid (by rw [← hW3]; exact xm_new _ _ _ _ _ _ _ rfl)
  have O3 := Lib.hid (hown2.keep B3)
  have B03 := Lib.hid (HB0.out.trans ((hb2.trans (B3.mono hp2)).mono (by omega)))
  have Z3 := Lib.hid ((HZ0.out.same (hb2.block _ (by omega))).same (B3.block _ (by omega)))
  have L3 : Hid (∀ g, A2.map (·.block) = some g → w.heap.size < g ∧ g ≠ w2.heap.size) := Lib.hid (fun g hg => by have := hown2.lt g hg; omega)
  have T3 := Lib.hid ((HT.out.keep hb2).keep B3)
  have hp : w.heap.size < w2.heap.size := by omega
  have HW3 := Lib.hid hW3
  clear hown2 hb2 B3 hW3
  go_wp2_with fail
  rw [HW3.out]
  generalize w2.heap.size = p at *
  have hTw := Lib.hid hT0
  have HJ : Hid (JS w.heap.size p w W3 x s (ths rs) 0 none 0 A2 n c2) := Lib.hid ⟨X3.out, Own.nil _ _ _ _, by rw [codeK_zero]; exact O3.out, L3.out, Z3.out, B03.out, hp⟩
  go_loopw [17] (fun i wr => ∃ (k ec m cc : Nat) (E C : Option Addr), k ≤ tn ∧ i = .int .i64 k ∧ JS w.heap.size p w wr x s (ths rs) k E ec C m cc) (fun i _ => tn - (intOf i).toNat)
  case atStart => exact ⟨0, 0, n, c2, none, A2, by omega, rfl, HJ.out⟩
  case round =>
    obtain ⟨k, ec, m, cc, E, C, hk, rfl, hJ⟩ := hrel
    have HJ := Lib.hid hJ
    have hml : m ≤ 900 := by
      have h1 : (codeK s (ths rs) k).length = m := by simpa using hJ.OC.len
      have := hcl.out k hk
      omega
    obtain ⟨x0, x1, x2, x3, xf⟩ := hJ.X
    clear xf hJ
    by_cases hkn : k < tn
    · obtain ⟨tb, to_, rfl, htb, ht0⟩ := (hTw.out.keep HJ.out.B).cell (k := k) hkn
      have hrow : Hid (IsWd w (rs.getD k zeroRow).A (rs.getD k zeroRow).n (rs.getD k zeroRow).c (rs.getD k zeroRow).l) := Lib.hid (hTw.out.2.2 k hkn)
      have hrl := Lib.hid (HRS.out k hkn)
      have hth := Lib.hid (ths_get rs k)
      have hkt : Hid (k < (ths rs).length) := Lib.hid (by rw [htl.out]; exact hkn)
      generalize rs.getD k zeroRow = r at *
      obtain ⟨rA, rn, rc, rl⟩ := r
      dsimp only at ht0 hrow hrl hth
      have hrn : rn ≤ 100 := by have := hrow.out.1; have := hrl.out; omega
      have hwr := Lib.hid (wv_range rl rn hrow.out.1)
      go_wp2_with (at_builtin; first | (refine Ow2.wpList_appN _ rfl _ _ rfl elI (p + 1) E k ec 1 wr.heap.size _ [ivL (m : Int)] rfl rfl HJ.out.OE rfl rfl (fun y hy => by simp at hy; subst hy; rfl) (fun y hy u hu => by simp at hy; subst hy; simp [ivL] at hu; subst hu; rfl) (by unfold maxLen; omega) (by omega) HJ.out.X.lt _ rfl ?_; intro A4 c4 w4 hown4 hbel4 hkp4 hat4; have S1 := Lib.hid (step1 HJ.out hown4 hbel4 hkp4); obtain ⟨y0, y1, y2, y3, yf⟩ := S1.out.1; have yf2 := yf 2; obtain ⟨z0, z1, z2, z3, zf⟩ := S1.out.2.X; clear yf zf hown4 hbel4 hkp4 hat4) | (refine wpList_app _ rfl _ _ rfl elWd (w.heap.size + 1) C m cc _ rfl S1.out.2.OC rA rn rc (fun i => wvL (rl.getD i 0)) rfl (hrow.out.keep S1.out.2.B).2 (fun _ _ => rfl) (fun i _ => by intro u hu; simp [wvL] at hu; subst hu; rfl) (by unfold maxLen; omega) (by omega) (by have := S1.out.2.X.lt; omega) ?_; intro A6 c6 w6 hown6 hg6 hat6; rw [hwr.out, ← hth.out] at hown6; have S2 := Lib.hid (step2 S1.out.2 hkt.out hown6 hg6 hat6); obtain ⟨v0, v1, v2, v3, vf⟩ := S2.out.1; have vf3 := vf 3; clear vf hown6 hg6 hat6))
      go_roundw
      case rel => exact ⟨k + 1, c4, m + rn, c6, A4, A6, by omega, by go_num, S2.out.2⟩
      case measure => simp [intOf]; omega
    · obtain rfl : k = tn := by omega
      have hj : joined s (ths rs) x = ⟨x, 0, entK s (ths rs) k, codeK s (ths rs) k⟩ := by unfold joined; rw [htl.out]
      have jg := Lib.hid (join_good (s := s) (t := ths rs) (x := x))
      have jb := Lib.hid (join_bad (s := s) (t := ths rs) (x := x))
      rw [hj] at jg jb
      have JG := Lib.hid jg.out
      have JB := Lib.hid jb.out
      have IE := Lib.hid (isI_own HJ.out.OE)
      have IC := Lib.hid (isWd_own HJ.out.OC)
      clear hj jg jb
      go_wp2_with fail
      refine (right_any x 0 E C k ec m cc (entK s (ths rs) k) (codeK s (ths rs) k) wr IE.out IC.out).mono ?_
      rintro e w7 ⟨rfl, hb7⟩
      have B7 := Lib.hid (HJ.out.B.trans (hb7.mono HJ.out.B.size))
      have X7 := Lib.hid (HJ.out.X.keep hb7)
      have E7 := Lib.hid (HJ.out.OE.keep hb7)
      have C7 := Lib.hid (HJ.out.OC.keep hb7)
      have hz7 := HJ.out.Z.same (hb7.block w.heap.size (by have := HJ.out.X.lt; have := HJ.out.hp; omega))
      have Z7 : Hid (Xm w7 w.heap.size 0 0 (.slice none 0 0) (.slice none 0 0)) := Lib.hid ⟨hz7.c0, hz7.c1, hz7.c2, hz7.c3, hz7.fr⟩
      obtain ⟨y0, y1, y2, y3, yf⟩ := hz7
      have yf0 := yf 0; have yf1 := yf 1; have yf2 := yf 2; have yf3 := yf 3
      obtain ⟨u0, u1, u2, u3, uf⟩ := X7.out
      have hne : w.heap.size ≠ p := by have := HJ.out.hp; omega
      have hES : E.map (·.block) ≠ some w.heap.size := fun e => by have := (HJ.out.OE.lt _ e).1; have := HJ.out.hp; omega
      have hCS : C.map (·.block) ≠ some w.heap.size := fun e => by have := (HJ.out.LC _ e).1; omega
      have HES := Lib.hid hES
      have HCS := Lib.hid hCS
      clear yf uf hb7 hES hCS
      cases hrt : right' ⟨x, 0, entK s (ths rs) k, codeK s (ths rs) k⟩
      · have JB := Lib.hid (JB.out hrt)
        go_wp2_with fail
        have hfin := (((Z7.out.set0 0).set1 0).set2 (.slice none 0 0)).set3 (.slice none 0 0)
        have hbel := (((B7.out.setCell (p := ⟨w.heap.size, 0, none⟩) (Nat.le_refl _) (.int .i64 0)).setCell (p := ⟨w.heap.size, 1, none⟩) (Nat.le_refl _) (.int .i64 0)).setCell (p := ⟨w.heap.size, 2, none⟩) (Nat.le_refl _) (.slice none 0 0)).setCell (p := ⟨w.heap.size, 3, none⟩) (Nat.le_refl _) (.slice none 0 0)
        obtain ⟨k0, k1, k2, k3, _⟩ := hfin
        refine bodyPost_ret (v := .tuple #[.agg #[.int .i64 0, .int .i64 0, .slice none 0 0, .slice none 0 0], .int .i64 1]) ?_ rfl ⟨none, 0, 0, none, 0, 0, by rw [JB.out], by rw [JB.out]; exact isI_nil _, by rw [JB.out]; exact isWd_nil _, hbel⟩
        simp [results, Try.f14, go_sem, k0, k1, k2, k3]
      · have JG := Lib.hid (JG.out hrt)
        go_wp2_with fail
        have hfin := (((Z7.out.set0 x).set1 0).set2 (.slice E k ec)).set3 (.slice C m cc)
        have hbel := (((B7.out.setCell (p := ⟨w.heap.size, 0, none⟩) (Nat.le_refl _) (.int .i64 x)).setCell (p := ⟨w.heap.size, 1, none⟩) (Nat.le_refl _) (.int .i64 0)).setCell (p := ⟨w.heap.size, 2, none⟩) (Nat.le_refl _) (.slice E k ec)).setCell (p := ⟨w.heap.size, 3, none⟩) (Nat.le_refl _) (.slice C m cc)
        have fE := isI_own (own_other (own_other (own_other (own_other E7.out (a := ⟨w.heap.size, 0, none⟩) HES.out (.int .i64 x)) (a := ⟨w.heap.size, 1, none⟩) HES.out (.int .i64 0)) (a := ⟨w.heap.size, 2, none⟩) HES.out (.slice E k ec)) (a := ⟨w.heap.size, 3, none⟩) HES.out (.slice C m cc))
        have fC := isWd_own (own_other (own_other (own_other (own_other C7.out (a := ⟨w.heap.size, 0, none⟩) HCS.out (.int .i64 x)) (a := ⟨w.heap.size, 1, none⟩) HCS.out (.int .i64 0)) (a := ⟨w.heap.size, 2, none⟩) HCS.out (.slice E k ec)) (a := ⟨w.heap.size, 3, none⟩) HCS.out (.slice C m cc))
        obtain ⟨k0, k1, k2, k3, _⟩ := hfin
        refine bodyPost_ret (v := .tuple #[.agg #[.int .i64 x, .int .i64 0, .slice E k ec, .slice C m cc], .int .i64 0]) ?_ rfl ⟨E, k, ec, C, m, cc, by rw [JG.out], by rw [JG.out]; exact fE, by rw [JG.out]; exact fC, hbel⟩
        simp [results, Try.f14, go_sem, k0, k1, k2, k3]
end Go.Proofs.Ytkohichiojmakaa.ImW
