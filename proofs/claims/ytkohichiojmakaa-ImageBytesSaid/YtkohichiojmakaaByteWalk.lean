/-
  WALKS: a reader of bytes: take, number, word, words.
-/
import Derived.Test.YtkohichiojmakaaByteFull
import Derived.Test.YtkohichiojmakaaImgJoinW
namespace Go.Proofs.Ytkohichiojmakaa.ByW
set_option linter.unusedVariables false
set_option linter.unusedSimpArgs false
open Go.RowKit Cm Mm Ow Ow2 Ow3 A64 A64W Pat InW PatW Img ImC ImR ImN ImW Byt

def bvL (x : BitVec 8) : List Value := [.int .u8 (x.toNat : Int)]
/-- the slice that holds bytes -/
def IsB (w : World) (A : Option Addr) (n cap : Nat) (l : List (BitVec 8)) : Prop := l.length = n ∧ Sl w A n cap 1 (fun i => bvL (l.getD i 0))
theorem IsB.keep {w w' : World} {A : Option Addr} {n cap : Nat} {l : List (BitVec 8)} (h : IsB w A n cap l) (hb : Below w.heap.size w w') : IsB w' A n cap l := ⟨h.1, h.2.keep hb⟩
theorem IsB.cell {w : World} {A : Option Addr} {n cap : Nat} {l : List (BitVec 8)} (h : IsB w A n cap l) {k : Nat} (hk : k < n) : ∃ b o, A = some ⟨b, o, none⟩ ∧ b < w.heap.size ∧ w.cell? ⟨b, o + k, none⟩ = some (.int .u8 ((l.getD k 0).toNat : Int)) := by
  obtain ⟨b, o, e, hb, hc⟩ := h.2.at_ (by omega)
  exact ⟨b, o, e, hb, by simpa [bvL] using hc k hk 0 (by omega)⟩
theorem isB_nil (w : World) : IsB w none 0 0 [] := ⟨rfl, Sl.nil _ _ _⟩
theorem IsB.take {w : World} {A : Option Addr} {n cap k : Nat} {l : List (BitVec 8)} (h : IsB w A n cap l) (hk : k ≤ n) : IsB w A k cap (l.take k) :=
  ⟨by rw [List.length_take, h.1]; omega, (h.2.take hk).ext fun i hi => by
    congr 1
    simp only [List.getD, List.getElem?_take, if_pos hi]⟩
theorem IsB.drop {w : World} {b o n cap k : Nat} {l : List (BitVec 8)} (h : IsB w (some ⟨b, o, none⟩) n cap l) (hk : k ≤ n) : IsB w (some ⟨b, o + k, none⟩) (n - k) (cap - k) (l.drop k) :=
  ⟨by rw [List.length_drop, h.1], by
    have := (h.2.drop hk).ext (E' := fun i => bvL ((l.drop k).getD i 0)) (fun i _ => by simp [List.getD, List.getElem?_drop])
    rwa [Nat.mul_one] at this⟩
theorem isB_none {w : World} {n c : Nat} {l : List (BitVec 8)} (h : IsB w none n c l) : n = 0 ∧ l = [] := by
  have : n = 0 := by
    by_cases hn : n = 0
    · exact hn
    · obtain ⟨b, o, e, _⟩ := h.cell (k := 0) (by omega); cases e
  subst this
  exact ⟨rfl, List.length_eq_zero_iff.1 h.1⟩
/-- bytes that lie beside block r: kept by what turns block r alone -/
theorem isB_al {w w' : World} {r : Nat} {A : Option Addr} {n cap : Nat} {l : List (BitVec 8)} (h : IsB w A n cap l) (ha : Al w w' r) (hne : 0 < n → A.map (·.block) ≠ some r) : IsB w' A n cap l := by
  refine ⟨h.1, h.2.le, h.2.cap_le, fun h0 => ?_⟩
  obtain ⟨b, o, e, hb, hc⟩ := h.2.at_ h0
  refine ⟨b, o, e, by rw [ha.size]; exact hb, fun i hi j hj => ?_⟩
  have hbr : b ≠ r := fun e' => hne h0 (by rw [e, e']; rfl)
  exact ((ha.cell hbr).1).trans (hc i hi j hj)
/-- the reader in block r has these left -/
structure RB (w : World) (r : Nat) (q : Rs) (A : Option Addr) (n cap : Nat) : Prop where
  b : w.cell? ⟨r, 0, none⟩ = some (.slice A n cap)
  s : w.cell? ⟨r, 1, none⟩ = some (.bool q.s)
  fr : ∀ o, w.frozen? ⟨r, o, none⟩ = false
  l : IsB w A n cap q.l
  ne : 0 < n → A.map (·.block) ≠ some r
theorem al_set {w : World} {r o : Nat} (u : Value) : Al w (w.setCell ⟨r, o, none⟩ u) r :=
  ⟨by simp [World.setCell], fun b hb => Below.heap_setCell _ ⟨r, o, none⟩ _ b (by simpa using hb), fun B hB => (Below.refl B w).setCell (p := ⟨r, o, none⟩) hB _⟩

def Took (w : World) (r : Nat) (A : Option Addr) (x : List (BitVec 8) × Rs) (n : Nat) (e : Ending) (w' : World) : Prop :=
  ∃ A1 n1 c1 A2 n2 c2, e = .returned (.slice A1 n1 c1) ∧ IsB w' A1 n1 c1 x.1 ∧ RB w' r x.2 A2 n2 c2 ∧ n2 ≤ n ∧ (0 < n1 → A1.map (·.block) ≠ some r) ∧ Al w w' r ∧ (∀ g, A2.map (·.block) = some g → A.map (·.block) = some g) ∧ (n1 = 0 → A1 = none)
theorem rb_after {w : World} {r b o n cap k : Nat} {q : Rs} {A' : Option Addr} {n' c' : Nat} (h1 : w.cell? ⟨r, 0, none⟩ = some (.slice (some ⟨b, o, none⟩) n cap)) (h2 : w.cell? ⟨r, 1, none⟩ = some (.bool q.s)) (hf : ∀ o, w.frozen? ⟨r, o, none⟩ = false)
    (hI : IsB w (some ⟨b, o, none⟩) n cap q.l) (hne : b ≠ r) (hk : k ≤ n) (hk1 : 1 ≤ k) (hA : IsB w A' n' c' (q.l.drop k)) (hb : A' = some ⟨b, o, none⟩ ∨ A' = some ⟨b, o + k, none⟩) (hn : n' ≤ n) (ht : tk q k = (q.l.take k, ⟨q.l.drop k, q.s⟩)) :
    Took w r (some ⟨b, o, none⟩) (tk q k) n (.returned (.slice (some ⟨b, o, none⟩) k cap)) (w.setCell ⟨r, 0, none⟩ (.slice A' n' c')) := by
  have ha : Al w (w.setCell ⟨r, 0, none⟩ (.slice A' n' c')) r := al_set _
  have hA' : A'.map (·.block) ≠ some r := by rcases hb with rfl | rfl <;> · simp; exact hne
  rw [ht]
  exact ⟨_, _, _, A', n', c', rfl, isB_al (hI.take hk) ha (fun _ => by simp; exact hne), ⟨World.cell?_setCell_same _ _ _ h1, (World.cell?_setCell_other _ _ _ _ (by simp)).trans h2, fun o => by rw [World.frozen?_setCell]; exact hf o, isB_al hA ha (fun _ => hA'), fun _ => hA'⟩, hn, fun _ => by simp; exact hne, ha, fun g hg => by rcases hb with rfl | rfl <;> exact hg, fun h => by omega⟩

set_option maxRecDepth 20000 in
set_option maxHeartbeats 3200000 in
theorem take_any (r k : Nat) (q : Rs) (A : Option Addr) (n cap : Nat) (w : World) (h : RB w r q A n cap) (hk : 1 ≤ k) (hk2 : k ≤ 65536) (hn : n ≤ 65536) :
    Calls Try.prog 46 #[.pointer (some ⟨r, 0, none⟩), .int .i64 (k : Int)] w (Took w r A (tk q k) n) := by
  obtain ⟨h1, h2, h3, h4, h5⟩ := h
  have f0 := h3 0
  have f1 := h3 1
  have hln := h4.1
  have HF := Lib.hid h3
  have HI := Lib.hid h4
  have HN := Lib.hid h5
  clear h3 h4 h5
  by_cases hle : k ≤ n
  · have e : Hid (tk q k = (q.l.take k, ⟨q.l.drop k, q.s⟩)) := Lib.hid (by unfold tk; rw [if_pos (by omega)])
    obtain ⟨b, o, rfl, hb, _⟩ := HI.out.cell (k := 0) (by omega)
    have hcp := HI.out.2.le
    have hcm := HI.out.2.cap_le
    have g1 : ¬ (n : Int) < k := by omega
    have g2 : (k : Int) ≤ n := by omega
    have g3 : k ≤ cap := by omega
    have g4 : (k : Int) ≤ (cap : Int) := by omega
    have g5 : (n : Int) ≤ (cap : Int) := by omega
    have g6 : ¬ cap = 0 := by omega
    have g7 : (0 : Int) ≤ (k : Int) := by omega
    have hbr : b ≠ r := fun e' => HN.out (by omega) (by rw [e']; rfl)
    have HBR := Lib.hid hbr
    have hc1 := Lib.hid h1
    clear hln hbr
    by_cases hck : cap = k
    · subst hck
      have hnk : n = cap := by omega
      subst hnk
      have hd : Hid (q.l.drop n = []) := Lib.hid (List.drop_eq_nil_of_le (by rw [HI.out.1]; exact Nat.le_refl _))
      go_enter Try.func46, Try.ntmps46
      go_wp2_with fail
      go_ret
      exact rb_after hc1.out h2 HF.out HI.out HBR.out (Nat.le_refl _) hk (by rw [hd.out]; exact ⟨rfl, by omega, by unfold maxLen; omega, fun h => absurd h (by omega)⟩) (.inl rfl) (by omega) e.out
    · go_enter Try.func46, Try.ntmps46
      go_wp2_with fail
      go_ret
      exact rb_after hc1.out h2 HF.out HI.out HBR.out hle hk (HI.out.drop hle) (.inr rfl) (by omega) e.out
  · have e : Hid (tk q k = ([], ⟨[], true⟩)) := Lib.hid (by unfold tk; rw [if_neg (by omega)])
    have g1 : (n : Int) < k := by omega
    have s1 := (al_set (w := w) (r := r) (o := 1) (.bool true)).trans (al_set (r := r) (o := 0) (.slice none 0 0))
    have HS := Lib.hid s1
    clear hln
    go_enter Try.func46, Try.ntmps46
    go_wp2_with fail
    go_ret
    refine ⟨none, 0, 0, none, 0, 0, rfl, by rw [e.out]; exact isB_nil _, ?_, by omega, fun h => absurd h (by omega), HS.out, (fun g hg => by cases hg), fun _ => rfl⟩
    rw [e.out]
    exact ⟨World.cell?_setCell_same _ _ _ ((World.cell?_setCell_other _ _ _ _ (by simp)).trans h1), (World.cell?_setCell_other _ _ _ _ (by simp)).trans (World.cell?_setCell_same _ _ _ h2), fun o => by rw [World.frozen?_setCell, World.frozen?_setCell]; exact HF.out o, isB_nil _, fun h => absurd h (by omega)⟩

theorem tk_len (q : Rs) (k : Nat) : (tk q k).1.length ≤ k := by
  unfold tk; split
  · simp; omega
  · simp
def Numb (w : World) (r : Nat) (A : Option Addr) (x : BitVec 32 × Rs) (n : Nat) (e : Ending) (w' : World) : Prop :=
  ∃ A2 n2 c2, e = .returned (.int .u32 (x.1.toNat : Int)) ∧ RB w' r x.2 A2 n2 c2 ∧ n2 ≤ n ∧ Al w w' r ∧ ∀ g, A2.map (·.block) = some g → A.map (·.block) = some g

set_option maxRecDepth 20000 in
set_option maxHeartbeats 3200000 in
theorem number_any (r k : Nat) (q : Rs) (A : Option Addr) (n cap : Nat) (w : World) (h : RB w r q A n cap) (hk : 1 ≤ k) (hk2 : k ≤ 4) (hn : n ≤ 65536) :
    Calls Try.prog 47 #[.pointer (some ⟨r, 0, none⟩), .int .i64 (k : Int)] w (Numb w r A (nb q k) n) := by
  have T := Lib.hid (take_any r k q A n cap w h hk (by omega) hn)
  have hlen := Lib.hid (tk_len q k)
  clear h
  go_enter Try.func47, Try.ntmps47
  go_wp2_with fail
  refine T.out.mono ?_
  rintro e w2 ⟨A1, n1, c1, A2, n2, c2, rfl, hI, hR, hn2, hne, hal, hsub, _⟩
  have HSB := Lib.hid hsub
  obtain ⟨t, ht⟩ : ∃ t, (tk q k).1 = t := ⟨_, rfl⟩
  rw [ht] at hI hlen
  have HTT := Lib.hid ht
  have HI := Lib.hid hI
  have HR := Lib.hid hR
  have HA := Lib.hid hal
  have h4 : n1 ≤ 4 := by have := hI.1; have := hlen.out; omega
  have HN2 := Lib.hid hn2
  clear hI hR hal hne hn2 T ht hsub
  go_wp2_with fail
  go_loop [5, 12] (fun a i => ∃ (j : Nat), j ≤ n1 ∧ i = .int .i64 j ∧ a = .int .u32 ((numTo t j).toNat : Int)) (fun a i => n1 - (intOf i).toNat)
  case atStart => exact ⟨0, by omega, rfl, rfl⟩
  case round =>
    obtain ⟨j, hj, rfl, rfl⟩ := hrel
    by_cases hjn : j < n1
    · obtain ⟨b, o, rfl, hb, s0⟩ := HI.out.cell (k := j) hjn
      have hs := Lib.hid (numTo_succ t j)
      generalize t.getD j 0 = y at *
      generalize numTo t j = v at *
      have k1 : (j : Int) < n1 := by omega
      have k2 : (j : Int) ≤ 4 := by omega
      go_wp2_with fail
      go_round
      case rel =>
        refine ⟨j + 1, by omega, by go_num, ?_⟩
        rw [hs.out, show (y.toNat : Int) = ((y.setWidth 32).toNat : Int) by rw [BitVec.toNat_setWidth]; have := y.isLt; omega, w32_shl, w32_or]
      case measure => simp [intOf]; omega
    · obtain rfl : j = n1 := by omega
      have e : Hid (num t = numTo t j) := Lib.hid (by unfold num; rw [HI.out.1])
      go_wp2_with fail
      go_ret
      exact ⟨A2, n2, c2, by rw [show (nb q k).1 = num t from by show num (tk q k).1 = _; rw [HTT.out], e.out]; rfl, HR.out, HN2.out, HA.out, HSB.out⟩
theorem word_any (r : Nat) (q : Rs) (A : Option Addr) (n cap : Nat) (w : World) (h : RB w r q A n cap) (hn : n ≤ 65536) :
    Calls Try.prog 48 #[.pointer (some ⟨r, 0, none⟩)] w (Numb w r A (nb q 4) n) := by
  have T := Lib.hid (number_any r 4 q A n cap w h (by omega) (by omega) hn)
  clear h
  go_enter Try.func48, Try.ntmps48
  go_wp2_with fail
  refine T.out.mono ?_
  rintro e w2 ⟨A2, n2, c2, rfl, hR, hn2, hal, hsub⟩
  have HG : Hid (Numb w r A (nb q 4) n (.returned (.int .u32 ((nb q 4).1.toNat : Int))) w2) := Lib.hid ⟨A2, n2, c2, rfl, hR, hn2, hal, hsub⟩
  clear hR hal T hsub
  go_wp2_with fail
  go_ret
  exact HG.out

/-- what lay keeps lying but for block r; new blocks come -/
structure Be (w w' : World) (r : Nat) : Prop where
  size : w.heap.size ≤ w'.heap.size
  same : ∀ b, b < w.heap.size → b ≠ r → w'.heap[b]? = w.heap[b]?
  below : ∀ B, B ≤ r → Below B w w'
theorem Be.refl (w : World) (r : Nat) : Be w w r := ⟨Nat.le_refl _, fun _ _ _ => rfl, fun B _ => Below.refl B w⟩
theorem Be.trans {w w' w'' : World} {r : Nat} (h : Be w w' r) (h' : Be w' w'' r) : Be w w'' r :=
  ⟨Nat.le_trans h.size h'.size, fun b hb hr => (h'.same b (Nat.lt_of_lt_of_le hb h.size) hr).trans (h.same b hb hr), fun B hB => (h.below B hB).trans (h'.below B hB)⟩
theorem al_be {w w' : World} {r : Nat} (h : Al w w' r) : Be w w' r := ⟨by rw [h.size]; exact Nat.le_refl _, fun b _ hr => h.same b hr, h.below⟩
theorem isB_blk {w w' : World} {A : Option Addr} {n cap : Nat} {l : List (BitVec 8)} (h : IsB w A n cap l) (hz : w.heap.size ≤ w'.heap.size) (hs : 0 < n → ∀ g, A.map (·.block) = some g → w'.heap[g]? = w.heap[g]?) : IsB w' A n cap l := by
  refine ⟨h.1, h.2.le, h.2.cap_le, fun h0 => ?_⟩
  obtain ⟨b, o, e, hb, hc⟩ := h.2.at_ h0
  have h1 := (blk_same (hs h0 b (by rw [e]; rfl))).1
  exact ⟨b, o, e, Nat.lt_of_lt_of_le hb hz, fun i hi j hj => (h1 _).trans (hc i hi j hj)⟩
theorem rb_blk {w w' : World} {r : Nat} {q : Rs} {A : Option Addr} {n cap : Nat} (h : RB w r q A n cap) (hz : w.heap.size ≤ w'.heap.size) (hr : w'.heap[r]? = w.heap[r]?) (hs : 0 < n → ∀ g, A.map (·.block) = some g → w'.heap[g]? = w.heap[g]?) : RB w' r q A n cap := by
  obtain ⟨h1, h2⟩ := blk_same hr
  exact ⟨(h1 0).trans h.b, (h1 1).trans h.s, fun o => (h2 o).trans (h.fr o), isB_blk h.l hz hs, h.ne⟩
theorem RB.lt {w : World} {r : Nat} {q : Rs} {A : Option Addr} {n cap : Nat} (h : RB w r q A n cap) : r < w.heap.size := World.block_lt_of_cell? w _ h.b
theorem RB.blk {w : World} {r : Nat} {q : Rs} {A : Option Addr} {n cap : Nat} (h : RB w r q A n cap) (h0 : 0 < n) {g : Nat} (hg : A.map (·.block) = some g) : g < w.heap.size := by
  obtain ⟨b, o, e, hb, _⟩ := h.l.2.at_ h0
  rw [e] at hg
  obtain rfl : b = g := by simpa using hg
  exact hb
def Wrds (w : World) (r : Nat) (A : Option Addr) (x : List (BitVec 32) × Rs) (n : Nat) (e : Ending) (w' : World) : Prop :=
  ∃ A1 c1 A2 n2 c2, e = .returned (.slice A1 x.1.length c1) ∧ Own w' w.heap.size 55 1 A1 x.1.length c1 (x.1.map wvL) ∧ RB w' r x.2 A2 n2 c2 ∧ n2 ≤ n ∧ Be w w' r ∧ ∀ g, A2.map (·.block) = some g → A.map (·.block) = some g
theorem wdsTo_len (q : Rs) : ∀ k, (wdsTo q k).1.length = k
  | 0 => rfl
  | k + 1 => by show (_ ++ [_]).length = _; rw [List.length_append, wdsTo_len q k]; rfl

theorem sized {w w' : World} {base : Nat} {A : Option Addr} {n c : Nat} {L : List (List Value)} {e : TypeId} {sz : Nat} (h : Below base w w') : w.heap.size ≤ w'.heap.size := h.size
theorem after_app {w w2 w4 : World} {r : Nat} {q : Rs} {A1 A3 : Option Addr} {j c1 n3 c3 : Nat} {L : List (List Value)} (hz0 : w.heap.size ≤ w2.heap.size ∨ True) (hO : Own w2 w.heap.size 55 1 A1 j c1 L) (hb : Below w.heap.size w2 w4) (hk : ∀ b, b < w2.heap.size → A1.map (·.block) ≠ some b → w4.heap[b]? = w2.heap[b]?)
    (hR : RB w2 r q A3 n3 c3) (hlt : r < w.heap.size) (hg : 0 < n3 → ∀ g, A3.map (·.block) = some g → g < w.heap.size) : RB w4 r q A3 n3 c3 :=
  rb_blk hR hb.size (hk r hR.lt (fun e => by have := (hO.lt r e).1; omega)) (fun h0 g hg' => hk g (hR.blk h0 hg') (fun e => by have := (hO.lt g e).1; have := hg h0 g hg'; omega))
theorem after_be {w w2 w4 : World} {A1 : Option Addr} {j c1 : Nat} {L : List (List Value)} (hz : w.heap.size ≤ w2.heap.size) (hO : Own w2 w.heap.size 55 1 A1 j c1 L) (hb : Below w.heap.size w2 w4) (hk : ∀ b, b < w2.heap.size → A1.map (·.block) ≠ some b → w4.heap[b]? = w2.heap[b]?) (r : Nat) (hr : r < w.heap.size) :
    (w2.heap.size ≤ w4.heap.size) ∧ (∀ b, b < w.heap.size → w4.heap[b]? = w2.heap[b]?) ∧ (∀ B, B ≤ r → Below B w2 w4) :=
  ⟨hb.size, fun b hb' => hk b (by omega) (fun e => by have := (hO.lt b e).1; omega), fun B hB => hb.mono (by omega)⟩
theorem Be.app {w w2 w4 : World} {r : Nat} (h : Be w w2 r) (h' : (w2.heap.size ≤ w4.heap.size) ∧ (∀ b, b < w.heap.size → w4.heap[b]? = w2.heap[b]?) ∧ (∀ B, B ≤ r → Below B w2 w4)) : Be w w4 r :=
  ⟨Nat.le_trans h.size h'.1, fun b hb hr => (h'.2.1 b hb).trans (h.same b hb hr), fun B hB => (h.below B hB).trans (h'.2.2 B hB)⟩

set_option maxRecDepth 20000 in
set_option maxHeartbeats 3200000 in
theorem words_any (r k : Nat) (q : Rs) (A : Option Addr) (n cap : Nat) (w : World) (h : RB w r q A n cap) (hn : n ≤ 65536) :
    Calls Try.prog 49 #[.pointer (some ⟨r, 0, none⟩), .int .i64 (k : Int)] w (Wrds w r A (wds q k) n) := by
  have hln := h.l.1
  have HR := Lib.hid h
  have f0 := h.fr 0
  have f1 := h.fr 1
  have h1 := h.b
  have h2 := h.s
  have hlt := h.lt
  clear h
  by_cases hle : k ≤ n / 4
  · have e : Hid (wds q k = wdsTo q k) := Lib.hid (by unfold wds; rw [hln, if_pos hle])
    have g1 : ¬ ((n : Int) / 4 < (k : Int)) := by omega
    have g2 : (k : Int) ≤ 20000 := by omega
    go_enter Try.func49, Try.ntmps49
    go_wp2_with fail
    clear f0 f1 h1 h2
    go_loopw [5, 21] (fun v i wr => ∃ (j c1 n2 c2 : Nat) (A1 A2 : Option Addr), j ≤ k ∧ i = .int .i64 j ∧ v = .slice A1 j c1 ∧ Own wr w.heap.size 55 1 A1 j c1 ((wdsTo q j).1.map wvL) ∧ RB wr r (wdsTo q j).2 A2 n2 c2 ∧ n2 ≤ n ∧ Be w wr r ∧ (∀ g, A2.map (·.block) = some g → A.map (·.block) = some g)) (fun _ i _ => k - (intOf i).toNat)
    case atStart => exact ⟨0, 0, n, cap, none, A, by omega, rfl, rfl, Own.nil _ _ _ _, HR.out, Nat.le_refl _, Be.refl _ _, fun g hg => hg⟩
    case round =>
      obtain ⟨j, c1, n2, c2, A1, A2, hj, rfl, rfl, hO, hRj, hn2, hbe, hsub⟩ := hrel
      have HO := Lib.hid hO
      have HRj := Lib.hid hRj
      have HBe := Lib.hid hbe
      have HSub := Lib.hid hsub
      clear hO hRj hbe hsub
      by_cases hjk : j < k
      · have k1 : (j : Int) < k := by omega
        go_wp2_with fail
        refine (word_any r (wdsTo q j).2 A2 n2 c2 wr HRj.out (by omega)).mono ?_
        rintro e2 w2 ⟨A3, n3, c3, rfl, hR3, hn3, hal, hsub3⟩
        have hwd : Hid ((wdsTo q (j + 1)).1 = (wdsTo q j).1 ++ [(nb (wdsTo q j).2 4).1]) := Lib.hid rfl
        have hwd2 : Hid ((wdsTo q (j + 1)).2 = (nb (wdsTo q j).2 4).2) := Lib.hid rfl
        have O2 : Hid (Own w2 w.heap.size 55 1 A1 j c1 ((wdsTo q j).1.map wvL)) := Lib.hid (own_same HO.out fun g hg => hal.same g (by have := (HO.out.lt g hg).1; omega))
        have R3 := Lib.hid hR3
        have BE2 := Lib.hid (HBe.out.trans (al_be hal))
        have S3 := Lib.hid (fun g hg => HSub.out g (hsub3 g hg))
        have N3 : Hid (n3 ≤ n) := Lib.hid (by omega)
        have hz2 := BE2.out.size
        generalize (nb (wdsTo q j).2 4).1 = ww at *
        clear hR3 hal hsub3 hn3
        go_wp2_with (at_builtin; refine Ow2.wpList_appN _ rfl _ _ rfl elWd w.heap.size A1 j c1 1 w2.heap.size _ [wvL ww] rfl rfl O2.out rfl rfl (fun y hy => by simp at hy; subst hy; rfl) (fun y hy u hu => by simp at hy; subst hy; simp [wvL] at hu; subst hu; rfl) (by unfold maxLen; omega) (by omega) hz2 _ rfl ?_; intro A4 c4 w4 hown4 hbel4 hkp4 hat4; have O4 : Hid (Own w4 w.heap.size 55 1 A4 (j + 1) c4 ((wdsTo q (j + 1)).1.map wvL)) := Lib.hid (by rw [hwd.out, List.map_append]; exact hown4); have R4 := Lib.hid (after_app (.inr trivial) O2.out hbel4 hkp4 R3.out hlt (fun h0 g hg => HR.out.blk (by have := N3.out; omega) (S3.out g hg))); have BE4 := Lib.hid (BE2.out.app (after_be hz2 O2.out hbel4 hkp4 r hlt)); clear hown4 hbel4 hkp4 hat4)
        go_roundw
        case rel => exact ⟨j + 1, c4, n3, c3, A4, A3, by omega, by go_num, rfl, O4.out, by rw [hwd2.out]; exact R4.out, N3.out, BE4.out, S3.out⟩
        case measure => simp [intOf]; omega
      · obtain rfl : j = k := by omega
        go_wp2_with fail
        go_ret
        exact ⟨A1, c1, A2, n2, c2, by rw [e.out, wdsTo_len]; rfl, by rw [e.out, wdsTo_len]; exact HO.out, by rw [e.out]; exact HRj.out, hn2, HBe.out, HSub.out⟩
  · have e : Hid (wds q k = ([], ⟨[], true⟩)) := Lib.hid (by unfold wds; rw [hln, if_neg hle])
    have g1 : (n : Int) / 4 < (k : Int) := by omega
    have s1 := (al_set (w := w) (r := r) (o := 1) (.bool true)).trans (al_set (r := r) (o := 0) (.slice none 0 0))
    have HS := Lib.hid s1
    have h1' := Lib.hid h1
    have h2' := Lib.hid h2
    clear s1
    go_enter Try.func49, Try.ntmps49
    go_wp2_with fail
    go_ret
    refine ⟨none, 0, none, 0, 0, by rw [e.out]; rfl, by rw [e.out]; exact Own.nil _ _ _ _, ?_, by omega, al_be HS.out, fun g hg => by cases hg⟩
    rw [e.out]
    exact ⟨World.cell?_setCell_same _ _ _ ((World.cell?_setCell_other _ _ _ _ (by simp)).trans h1'.out), (World.cell?_setCell_other _ _ _ _ (by simp)).trans (World.cell?_setCell_same _ _ _ h2'.out), fun o => by rw [World.frozen?_setCell, World.frozen?_setCell]; exact HR.out.fr o, isB_nil _, fun h => absurd h (by omega)⟩
end Go.Proofs.Ytkohichiojmakaa.ByW
