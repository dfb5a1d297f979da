/-
  WALKS: slices.Grow of nil, slices.Concat of slices of ints, image.word.
-/
import Derived.Test.YtkohichiojmakaaByteRB
import Derived.Lib.AppendZeros
namespace Go.Proofs.Ytkohichiojmakaa.ByC
set_option linter.unusedVariables false
set_option linter.unusedSimpArgs false
open Go.RowKit Cm Mm Ow Ow2 Ow3 A64 A64W Pat InW PatW Img ImC ImR ImN ImW Byt ByW ByR ByF ByI

set_option maxRecDepth 20000 in
set_option maxHeartbeats 1600000 in
theorem grow_any (k : Nat) (w : World) (hk : 1 ≤ k) (hk2 : k ≤ 100) :
    Calls Try.prog 67 #[.slice none 0 0, .int .i64 (k : Int)] w fun e w' => ∃ c, e = .returned (.slice (some ⟨w.heap.size, 0, none⟩) 0 c) ∧ Own w' w.heap.size 3 1 (some ⟨w.heap.size, 0, none⟩) 0 c [] ∧ Below w.heap.size w w' := by
  obtain ⟨i0, hi, hz0, hz1, hz2⟩ := info_parts (P := Try.prog) (e := 3) (z := .int .i64 0) (size := 1) (bytes := 8) (by kernel_rfl)
  have hg1 := grownCap_ge w k 0 3
  have hg2 := grownCap_le_maxLen w k 0 3 (by unfold maxLen; omega)
  have hg3 : (k : Int) ≤ (grownCap w k 0 3 : Int) := by omega
  have hrow : Own (w.drew.alloc (.cells (Builtin.zeroCells (Value.int .i64 0).cells k ++ Builtin.zeroCells (Value.int .i64 0).cells (grownCap w k 0 3 - k)) 3)) w.heap.size 3 1 (some ⟨w.heap.size, 0, none⟩) 0 (grownCap w k 0 3) [] :=
    ⟨rfl, fun y hy => by simp at hy, World.ownsRow_made w.drew _ _ (Nat.le_refl _) hg2 (by simp only [Array.size_append, size_zeroCells]; show k * 1 + _ * 1 = _; omega)⟩
  have HR := Lib.hid hrow
  have HB : Hid (Below w.heap.size w (w.drew.alloc (.cells (Builtin.zeroCells (Value.int .i64 0).cells k ++ Builtin.zeroCells (Value.int .i64 0).cells (grownCap w k 0 3 - k)) 3))) := Lib.hid ((Below.refl _ w).drew.alloc (Nat.le_refl _) _)
  clear hrow
  have k0 : (0 : Int) < (k : Int) := by omega
  have k1 : ¬ (k : Int) < 0 := by omega
  have k2 : ¬ grownCap w k 0 3 = 0 := by omega
  go_enter Try.func67, Try.ntmps67
  go_wp2_with (at_builtin; refine Lib.wpList_append_run _ rfl _ _ _ _ rfl _ _ rfl rfl _ _ (Lib.run_append_nil_zeros w 25 3 _ 3 i0 (.int .i64 0) .i64 .i64 Try.underlying25 Try.underlying3 hi hz0 k (by omega) (by omega) (by omega) (by rw [hz2]; omega)) ?_)
  go_ret
  exact ⟨_, rfl, HR.out, HB.out⟩

structure RowI where
  A : Option Addr
  n : Nat
  c : Nat
  l : List Int
def zeroRowI : RowI := ⟨none, 0, 0, []⟩
/-- the slice that holds slices of ints -/
def IsRowsI (w : World) (T : Option Addr) (n cap : Nat) (rs : List RowI) : Prop := rs.length = n ∧ Sl w T n cap 1 (fun i => [.slice (rs.getD i zeroRowI).A (rs.getD i zeroRowI).n (rs.getD i zeroRowI).c]) ∧ ∀ i, i < n → IsI w (rs.getD i zeroRowI).A (rs.getD i zeroRowI).n (rs.getD i zeroRowI).c (rs.getD i zeroRowI).l
theorem IsRowsI.keep {w w' : World} {A : Option Addr} {n cap : Nat} {l : List RowI} (h : IsRowsI w A n cap l) (hb : Below w.heap.size w w') : IsRowsI w' A n cap l := ⟨h.1, h.2.1.keep hb, fun i hi => (h.2.2 i hi).keep hb⟩
theorem IsRowsI.cell {w : World} {A : Option Addr} {n cap : Nat} {l : List RowI} (h : IsRowsI w A n cap l) {k : Nat} (hk : k < n) : ∃ b o, A = some ⟨b, o, none⟩ ∧ b < w.heap.size ∧ w.cell? ⟨b, o + k, none⟩ = some (.slice (l.getD k zeroRowI).A (l.getD k zeroRowI).n (l.getD k zeroRowI).c) := by
  obtain ⟨b, o, e, hb, hc⟩ := h.2.1.at_ (by omega)
  exact ⟨b, o, e, hb, by simpa using hc k hk 0 (by omega)⟩
def catK (rs : List RowI) (k : Nat) : List Int := ((rs.take k).map (·.l)).flatten
theorem catK_succ {rs : List RowI} {k : Nat} (h : k < rs.length) : catK rs (k + 1) = catK rs k ++ (rs.getD k zeroRowI).l := by
  unfold catK
  rw [List.take_succ_eq_append_getElem h, List.map_append, List.flatten_append]
  simp [List.getD, h]
theorem iv_range (l : List Int) (n : Nat) (hl : l.length = n) : (List.range n).map (fun i => [Value.int .i64 (l.getD i 0)]) = l.map ivL := by
  subst hl
  refine List.ext_getElem (by simp) (fun i h1 h2 => ?_)
  simp only [List.length_map] at h2
  simp [List.getD, h2, ivL]

set_option maxRecDepth 20000 in
set_option maxHeartbeats 3200000 in
theorem concat_any (T : Option Addr) (tn tc N : Nat) (rs : List RowI) (w : World) (h : IsRowsI w T tn tc rs) (htn : tn ≤ 8) (hN : ∀ k, k ≤ tn → (catK rs k).length ≤ 100) (hpos : 1 ≤ (catK rs tn).length) :
    Calls Try.prog 42 #[.slice T tn tc] w fun e w' => ∃ A' c', e = .returned (.slice A' (catK rs tn).length c') ∧ Own w' w.heap.size 3 1 A' (catK rs tn).length c' ((catK rs tn).map ivL) ∧ Below w.heap.size w w' := by
  have hr := Lib.hid h.1
  have HT := Lib.hid h
  have HN := Lib.hid hN
  have t3 : (tn : Int) ≤ 8 := by omega
  have hp := Lib.hid hpos
  clear h hN hpos
  go_enter Try.func42, Try.ntmps42
  go_wp2_with fail
  go_loop [3, 11] (fun a i => ∃ (k : Nat), k ≤ tn ∧ i = .int .i64 k ∧ a = .int .i64 ((catK rs k).length : Nat)) (fun a i => tn - (intOf i).toNat)
  case atStart => exact ⟨0, by omega, rfl, rfl⟩
  case round =>
    obtain ⟨k, hk, rfl, rfl⟩ := hrel
    by_cases hkn : k < tn
    · obtain ⟨b, o, rfl, hb, v0⟩ := HT.out.cell (k := k) hkn
      have hrow := HT.out.2.2 k hkn
      have hsucc : Hid ((catK rs (k + 1)).length = (catK rs k).length + (rs.getD k zeroRowI).n) := Lib.hid (by rw [catK_succ (by rw [hr.out]; exact hkn), List.length_append, hrow.1])
      have hm1 : (catK rs k).length + (rs.getD k zeroRowI).n ≤ 100 := by rw [← hsucc.out]; exact HN.out (k + 1) (by omega)
      generalize rs.getD k zeroRowI = r at *
      obtain ⟨rA, rn, rc, rl⟩ := r
      dsimp only at v0 hrow hsucc hm1
      generalize hx : (catK rs k).length = x at *
      have k1 : (k : Int) < tn := by omega
      have x1 : ((x : Int) + (rn : Int)) ≤ 100 := by omega
      have x2 : ¬ ((x : Int) + (rn : Int)) < 0 := by omega
      clear hx hrow
      go_wp2_with fail
      go_round
      case rel => exact ⟨k + 1, by omega, by go_num, by rw [hsucc.out]; go_num⟩
      case measure => simp [intOf]; omega
    · obtain rfl : k = tn := by omega
      have hm1 := HN.out k (Nat.le_refl _)
      have hp1 := hp.out
      obtain ⟨x, hx⟩ : ∃ x, (catK rs k).length = x := ⟨_, rfl⟩
      rw [hx] at hm1 hp1
      rw [hx]
      have G := Lib.hid (grow_any x w hp1 hm1)
      have HX := Lib.hid hx
      clear hx
      go_wp2_with fail
      refine G.out.mono ?_
      rintro e w2 ⟨c2, rfl, hown2, hb2⟩
      have O2 := Lib.hid hown2
      have B2 := Lib.hid hb2
      clear hown2 hb2
      go_wp2_with fail
      go_loopw [6, 27] (fun v i wr => ∃ (j c : Nat) (A : Option Addr), j ≤ k ∧ i = .int .i64 j ∧ v = .slice A (catK rs j).length c ∧ Own wr w.heap.size 3 1 A (catK rs j).length c ((catK rs j).map ivL) ∧ Below w.heap.size w wr) (fun _ i _ => k - (intOf i).toNat)
      case atStart => exact ⟨0, c2, _, by omega, rfl, rfl, O2.out, B2.out⟩
      case round =>
        obtain ⟨j, c, A, hj, rfl, rfl, hO, hbel⟩ := hrel
        have HO := Lib.hid hO
        have HB := Lib.hid hbel
        clear hO hbel
        by_cases hjk : j < k
        · obtain ⟨b, o, rfl, hb, v0⟩ := (HT.out.keep HB.out).cell (k := j) hjk
          have hrow : Hid (IsI w (rs.getD j zeroRowI).A (rs.getD j zeroRowI).n (rs.getD j zeroRowI).c (rs.getD j zeroRowI).l) := Lib.hid (HT.out.2.2 j hjk)
          have hsucc := Lib.hid (catK_succ (rs := rs) (k := j) (by rw [hr.out]; exact hjk))
          have hm3 : (catK rs j).length + (rs.getD j zeroRowI).n ≤ 100 := by
            have := HN.out (j + 1) (by omega)
            rw [hsucc.out, List.length_append, hrow.out.1] at this
            exact this
          generalize rs.getD j zeroRowI = r at *
          obtain ⟨rA, rn, rc, rl⟩ := r
          dsimp only at v0 hrow hsucc hm3
          have hiv := Lib.hid (iv_range rl rn hrow.out.1)
          have k1 : (j : Int) < k := by omega
          go_wp2_with (at_builtin; refine wpList_app _ rfl _ _ rfl elI w.heap.size A _ c _ rfl HO.out rA rn rc (fun i => [Value.int .i64 (rl.getD i 0)]) rfl (hrow.out.keep HB.out).2 (fun _ _ => rfl) (fun i _ => by intro u hu; simp at hu; subst hu; rfl) (by unfold maxLen; omega) (by omega) HB.out.size ?_; intro A9 c9 w9 hown9 hg9 hat9; rw [hiv.out] at hown9; have B9 := Lib.hid (HB.out.grown hg9 HB.out.size (fun k hk => (HO.out.lt k hk).1)); have O9 := Lib.hid hown9; clear hown9 hg9 hat9)
          go_roundw
          case rel => exact ⟨j + 1, c9, A9, by omega, by go_num, by rw [hsucc.out, List.length_append, hrow.out.1], by rw [hsucc.out, List.length_append, hrow.out.1, List.map_append]; exact O9.out, B9.out⟩
          case measure => simp [intOf]; omega
        · obtain rfl : j = k := by omega
          go_wp2_with fail
          go_ret
          exact ⟨A, c, rfl, HO.out, HB.out⟩

/-- nothing but the row is turned, and it stays or is new -/
def Kp (w w' : World) (A A' : Option Addr) : Prop := (∀ b, b < w.heap.size → A.map (·.block) ≠ some b → w'.heap[b]? = w.heap[b]?) ∧ (∀ b, A'.map (·.block) = some b → A.map (·.block) = some b ∨ w.heap.size ≤ b)
theorem fo_cs (n : BitVec 32) : #[Value.int .u8 ((n.toNat : Int) % 256), .int .u8 ((n.toNat : Int) / 256 % 256), .int .u8 ((n.toNat : Int) / 65536 % 256), .int .u8 ((n.toNat : Int) / 16777216)] = ((four n).map bvL).flatten.toArray := by
  have e : ∀ x : BitVec 32, ((x.setWidth 8).toNat : Int) = (x.toNat : Int) % 256 := fun x => by rw [BitVec.toNat_setWidth]; omega
  have h0 := e n
  have h1 := e (n >>> 8)
  have h2 := e (n >>> 16)
  have h3 := e (n >>> 24)
  rw [shr_nat] at h1 h2 h3
  have hn := n.isLt
  have h3' : (((n >>> 24).setWidth 8).toNat : Int) = (n.toNat : Int) / 16777216 := by omega
  show _ = #[Value.int .u8 ((n.setWidth 8).toNat : Int), .int .u8 (((n >>> 8).setWidth 8).toNat : Int), .int .u8 (((n >>> 16).setWidth 8).toNat : Int), .int .u8 (((n >>> 24).setWidth 8).toNat : Int)]
  rw [h0, h1, h2, h3']
  rfl

set_option maxRecDepth 20000 in
set_option maxHeartbeats 1600000 in
theorem word_any (n : BitVec 32) (w0 w : World) (l : List (BitVec 8)) (A : Option Addr) (m c : Nat) (h : Tl w0 w l A m c) (hm : m ≤ 200000) :
    Calls Try.prog 43 #[.slice A m c, .int .u32 (n.toNat : Int)] w fun e w' => ∃ A' c', e = .returned (.slice A' (m + 4) c') ∧ Tl w0 w' (l ++ four n) A' (m + 4) c' ∧ Kp w w' A A' := by
  have HT := Lib.hid h
  clear h
  have hcs := Lib.hid (fo_cs n)
  go_enter Try.func43, Try.ntmps43
  go_wp2_with (at_builtin; refine Ow2.wpList_appN _ rfl _ _ rfl elB w0.heap.size A m c 4 w.heap.size _ ((four n).map bvL) rfl rfl HT.out.O rfl rfl (fun y hy => by obtain ⟨u, _, rfl⟩ := List.mem_map.1 hy; rfl) (fun y hy u hu => by obtain ⟨z, _, rfl⟩ := List.mem_map.1 hy; simp [bvL] at hu; subst hu; rfl) (by unfold maxLen; omega) (by omega) HT.out.B.size _ hcs.out ?_; intro A9 c9 w9 hown9 hbel9 hkp9 hat9; have T9 : Hid (Tl w0 w9 (l ++ four n) A9 (m + 4) c9) := Lib.hid ⟨by rw [List.map_append]; exact hown9, HT.out.B.trans hbel9⟩; have K9 := Lib.hid hkp9; have N9 : Hid (∀ b, A9.map (·.block) = some b → A.map (·.block) = some b ∨ w.heap.size ≤ b) := Lib.hid (by intro b hb; rcases hat9 with h | h; (left; rw [← h]; exact hb); (right; exact h b hb)); clear hown9 hbel9 hkp9 hat9)
  go_ret
  exact ⟨_, _, rfl, T9.out, K9.out, N9.out⟩
theorem word_at {z : Int} (hz : 0 ≤ z ∧ z ≤ 20000) (w0 w : World) (l : List (BitVec 8)) (A : Option Addr) (m c : Nat) (h : Tl w0 w l A m c) (hm : m ≤ 200000) :
    Calls Try.prog 43 #[.slice A m c, .int .u32 z] w fun e w' => ∃ A' c', e = .returned (.slice A' (m + 4) c') ∧ Tl w0 w' (l ++ four (BitVec.ofInt 32 z)) A' (m + 4) c' ∧ Kp w w' A A' := by
  have := word_any (BitVec.ofInt 32 z) w0 w l A m c h hm
  have e : ((BitVec.ofInt 32 z).toNat : Int) = z := by rw [BitVec.toNat_ofInt]; omega
  rwa [e] at this
/-- the words that go ahead of the code -/
def hdL (x : Im) (L : List Int) (k : Nat) : List (BitVec 8) := hd0 x ++ ((L.take k).map (BitVec.ofInt 32)).flatMap four
theorem hdL_zero (x : Im) (L : List Int) : hdL x L 0 = hd0 x := by unfold hdL; simp
theorem hdL_succ {x : Im} {L : List Int} {k : Nat} (h : k < L.length) : hdL x L (k + 1) = hdL x L k ++ four (BitVec.ofInt 32 (L.getD k 0)) := by
  unfold hdL; rw [List.take_succ_eq_append_getElem h, List.map_append, List.flatMap_append]; simp [List.getD, h, List.append_assoc]
theorem hdL_all (x : Im) {L : List Int} {k : Nat} (hk : L.length = k) (hL : L = x.start :: (x.entry ++ [(x.code.length : Int)])) : hdL x L k = hd2 x 0 := by
  rw [hd2_zero]
  unfold hdL hd1
  rw [← hk, List.take_length, List.take_length, hL]
  simp only [List.map_cons, List.map_append, List.map_nil, List.flatMap_cons, List.flatMap_append, List.flatMap_nil, List.append_nil, List.append_assoc, BitVec.ofInt_natCast]
theorem cat3 {A C E : Option Addr} {n a c e : Nat} {y z : Int} {en : List Int} : catK [⟨A, 1, a, [y]⟩, ⟨E, n, e, en⟩, ⟨C, 1, c, [z]⟩] 3 = y :: (en ++ [z]) := by
  unfold catK; simp
theorem cat3_len {A C E : Option Addr} {n a c e : Nat} {y z : Int} {en : List Int} (k : Nat) : (catK [⟨A, 1, a, [y]⟩, ⟨E, n, e, en⟩, ⟨C, 1, c, [z]⟩] k).length ≤ en.length + 2 := by
  match k with
  | 0 => simp [catK]
  | 1 => simp [catK]
  | 2 => simp [catK]
  | k + 3 => simp [catK]
end Go.Proofs.Ytkohichiojmakaa.ByC
