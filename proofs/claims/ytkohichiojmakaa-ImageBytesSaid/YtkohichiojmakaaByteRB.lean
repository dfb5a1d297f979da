/-
  WALK: the document's ImageBytes.
-/
import Derived.Test.YtkohichiojmakaaByteFour
import Derived.Test.YtkohichiojmakaaImgRefRight
import Derived.Lib.SlBytesConst
import Derived.ArgAppend
namespace Go.Proofs.Ytkohichiojmakaa.ByI
set_option linter.unusedVariables false
set_option linter.unusedSimpArgs false
open Go.RowKit Cm Mm Ow Ow2 Ow3 A64 A64W Pat InW PatW Img ImC ImR ImQ ImN ImW Byt ByW ByR ByF

def rbytes (x : Im) : List (BitVec 8) × Int := if right' x then (bytesI x, 0) else ([], 1)
def GaveB (w : World) (x : List (BitVec 8) × Int) (e : Ending) (w' : World) : Prop :=
  ∃ A m c, e = .returned (.tuple #[.slice A m c, .int .i64 x.2]) ∧ Own w' w.heap.size 5 1 A m c (x.1.map bvL) ∧ Below w.heap.size w w'
def hd0 (x : Im) : List (BitVec 8) := magic ++ [BitVec.ofInt 8 x.words, BitVec.ofNat 8 x.entry.length]
def hd1 (x : Im) (k : Nat) : List (BitVec 8) := hd0 x ++ four (BitVec.ofInt 32 x.start) ++ ((x.entry.take k).map (BitVec.ofInt 32)).flatMap four
def hd2 (x : Im) (k : Nat) : List (BitVec 8) := hd1 x x.entry.length ++ four (BitVec.ofNat 32 x.code.length) ++ (x.code.take k).flatMap four
theorem hd1_zero (x : Im) : hd1 x 0 = hd0 x ++ four (BitVec.ofInt 32 x.start) := by unfold hd1; simp
theorem hd1_succ {x : Im} {k : Nat} (h : k < x.entry.length) : hd1 x (k + 1) = hd1 x k ++ four (BitVec.ofInt 32 (x.entry.getD k 0)) := by
  unfold hd1; rw [List.take_succ_eq_append_getElem h, List.map_append, List.flatMap_append]; simp [List.getD, h, List.append_assoc]
theorem hd2_zero (x : Im) : hd2 x 0 = hd1 x x.entry.length ++ four (BitVec.ofNat 32 x.code.length) := by unfold hd2; simp
theorem hd2_succ {x : Im} {k : Nat} (h : k < x.code.length) : hd2 x (k + 1) = hd2 x k ++ four (x.code.getD k 0) := by
  unfold hd2; rw [List.take_succ_eq_append_getElem h, List.flatMap_append]; simp [List.getD, h, List.append_assoc]
theorem hd2_all (x : Im) : hd2 x x.code.length = bytesI x := by
  unfold hd2 hd1 hd0 bytesI; rw [List.take_length, List.take_length]; simp only [List.append_assoc]
theorem hd1_len {x : Im} {k : Nat} (h : k ≤ x.entry.length) : (hd1 x k).length = 9 + 4 * k := by
  unfold hd1 hd0; simp only [List.length_append, four_len, List.length_map, List.length_take, magic, four, List.length_cons, List.length_nil]; omega
theorem hd2_len {x : Im} {k : Nat} (h : k ≤ x.code.length) : (hd2 x k).length = 13 + 4 * x.entry.length + 4 * k := by
  unfold hd2; simp only [List.length_append, hd1_len (Nat.le_refl _), four_len, List.length_take, four, List.length_cons, List.length_nil]; omega
theorem conv_cfd (w : World) : (convert 37 37 (.slice (some ⟨w.heap.size, 0, none⟩) 3 3)).run Try.prog (w.alloc (.cells #[.int .u8 67, .int .u8 70, .int .u8 68] 5)) = .ok (.slice (some ⟨w.heap.size, 0, none⟩) 3 3) (w.alloc (.cells #[.int .u8 67, .int .u8 70, .int .u8 68] 5 (3, 4))) :=
  Go.Lib.run_convert_bytes_const w 37 5 _ 3 3 Try.underlying37 Try.underlying5
attribute [local go_sem] conv_cfd
theorem ofI8 (x : Int) : (((BitVec.ofInt 8 x).toNat : Nat) : Int) = x % 256 := by rw [BitVec.toNat_ofInt]; omega
theorem ofN8 (n : Nat) : (((BitVec.ofNat 8 n).toNat : Nat) : Int) = (n : Int) % 256 := by rw [BitVec.toNat_ofNat]; omega
theorem own_hd {w : World} {base : Nat} {v : Value} {x y : Int} {en : List Int} {co : List (BitVec 32)} {n : Nat} (hn : en.length = n) (hx : 0 ≤ x ∧ x ≤ 64) (hn4 : n ≤ 4) (h : w.ownsRow base 5 1 v 5 ([.int .u8 67, .int .u8 70, .int .u8 68] ++ [.int .u8 x, .int .u8 (n : Int)])) :
    ∃ g c, v = .slice (some ⟨g, 0, none⟩) 5 c ∧ Own w base 5 1 (some ⟨g, 0, none⟩) 5 c ((hd0 ⟨x, y, en, co⟩).map bvL) := by
  rcases h.2 with ⟨_, h0⟩ | ⟨g, c, cur, rfl, _⟩
  · omega
  · refine ⟨g, c, rfl, rfl, fun z hz => by obtain ⟨u, _, rfl⟩ := List.mem_map.1 hz; rfl, ?_⟩
    have e : ((hd0 ⟨x, y, en, co⟩).map bvL).flatten = [.int .u8 67, .int .u8 70, .int .u8 68] ++ [.int .u8 x, .int .u8 (n : Int)] := by
      subst hn
      show [Value.int .u8 67, .int .u8 70, .int .u8 68, .int .u8 ((BitVec.ofInt 8 x).toNat : Int), .int .u8 ((BitVec.ofNat 8 en.length).toNat : Int)] = _
      rw [ofI8, ofN8, show x % 256 = x by omega, show (en.length : Int) % 256 = en.length by omega]
      rfl
    rw [e]; exact h
theorem cfd_cells (w : World) (j : Nat) (u : Value) (hj : ([.int .u8 67, .int .u8 70, .int .u8 68] : List Value)[j]? = some u) : (w.alloc (.cells #[.int .u8 67, .int .u8 70, .int .u8 68] 5 (3, 4))).cell? ⟨w.heap.size, 0 + j, none⟩ = some u := by
  have e : (w.alloc (.cells #[.int .u8 67, .int .u8 70, .int .u8 68] 5 (3, 4))).heap[w.heap.size]? = some (.cells #[.int .u8 67, .int .u8 70, .int .u8 68] 5 (3, 4)) := heap_alloc_new w _
  unfold World.cell?
  rw [e, Nat.zero_add]
  show (#[Value.int .u8 67, .int .u8 70, .int .u8 68] : Array Value)[j]? = some u
  simpa using hj

theorem bv_range (l : List (BitVec 8)) (n : Nat) (hl : l.length = n) : (List.range n).map (fun i => bvL (l.getD i 0)) = l.map bvL := by
  subst hl
  refine List.ext_getElem (by simp) (fun i h1 h2 => ?_)
  simp only [List.length_map] at h2
  simp [List.getD, h2]
theorem four4 (n : BitVec 32) : (List.range 4).map (fun i => bvL ((four n).getD i 0)) = (four n).map bvL := bv_range (four n) 4 rfl
/-- bytes that are told, in a row of the call's own -/
structure Tl (w0 wr : World) (l : List (BitVec 8)) (A : Option Addr) (m c : Nat) : Prop where
  O : Own wr w0.heap.size 5 1 A m c (l.map bvL)
  B : Below w0.heap.size w0 wr
theorem Tl.alloc {w0 wr : World} {l : List (BitVec 8)} {A : Option Addr} {m c : Nat} (h : Tl w0 wr l A m c) (o : Obj) : Tl w0 (wr.alloc o) l A m c :=
  ⟨h.O.keep (below_al _ _), h.B.alloc h.B.size _⟩
theorem Tl.app {w0 wr w' : World} {l t : List (BitVec 8)} {A A' : Option Addr} {m c m' c' : Nat} (h : Tl w0 wr l A m c) (hO : Own w' w0.heap.size 5 1 A' m' c' (l.map bvL ++ t.map bvL)) (hg : wr.grownBy w' (A.map (·.block))) : Tl w0 w' (l ++ t) A' m' c' :=
  ⟨by rw [List.map_append]; exact hO, h.B.grown hg h.B.size (fun k hk => (h.O.lt k hk).1)⟩
theorem four_at {y : Int} {N : Nat} (h : 0 ≤ y ∧ y < N) (hN : N ≤ 20000) (w : World) : Calls Try.prog 44 #[.int .u32 y] w fun e w' => e = .returned (.slice (some ⟨w.heap.size, 0, none⟩) 4 4) ∧ w' = w.alloc (.cells (foA (BitVec.ofInt 32 y)) 5) := by
  have := four_any (BitVec.ofInt 32 y) w
  rwa [to32 h hN] at this
theorem four_n {N : Nat} (hN : N ≤ 20000) (w : World) : Calls Try.prog 44 #[.int .u32 (N : Int)] w fun e w' => e = .returned (.slice (some ⟨w.heap.size, 0, none⟩) 4 4) ∧ w' = w.alloc (.cells (foA (BitVec.ofNat 32 N)) 5) := by
  have := four_any (BitVec.ofNat 32 N) w
  rwa [show (BitVec.ofNat 32 N).toNat = N by rw [BitVec.toNat_ofNat]; omega] at this

set_option maxRecDepth 20000 in
set_option maxHeartbeats 6400000 in
theorem rbytes_any (x y : Int) (E C : Option Addr) (n ec m cc : Nat) (en : List Int) (co : List (BitVec 32)) (w : World) (hE : IsI w E n ec en) (hC : IsWd w C m cc co) :
    Calls Try.prog 20 #[.agg #[.int .i64 x, .int .i64 y, .slice E n ec, .slice C m cc]] w (GaveB w (rbytes ⟨x, y, en, co⟩)) := by
  have hle := Lib.hid hE.1
  have hlc := Lib.hid hC.1
  obtain ⟨W, hW⟩ : ∃ W, W = w.alloc (.cells #[.int .i64 x, .int .i64 y, .slice E n ec, .slice C m cc] 27) := ⟨_, rfl⟩
  have hB : Below w.heap.size w W := by rw [hW]; exact (Below.refl _ _).alloc (Nat.le_refl _) _
  have HX : Hid (Xm W w.heap.size x y (.slice E n ec) (.slice C m cc)) := Lib.hid (by rw [hW]; exact xm_new _ _ _ _ _ _ _ rfl)
  have HE := Lib.hid (hE.keep hB)
  have HC := Lib.hid (hC.keep hB)
  have HW := Lib.hid hW
  have HB := Lib.hid hB
  clear hW hB hE hC
  obtain ⟨q0, q1, q2, q3, qf⟩ := HX.out
  clear qf
  go_enter Try.func20, Try.ntmps20
  go_upto_region 1 with (fail)
  rw [← HW.out]
  go_wp2_with fail
  refine (rright_any x y E C n ec m cc en co W HE.out HC.out).mono ?_
  rintro e w2 ⟨rfl, hb2⟩
  have B2 := Lib.hid (HB.out.trans (hb2.mono HB.out.size))
  have X2 := Lib.hid (HX.out.keep hb2)
  have E2 := Lib.hid (HE.out.keep hb2)
  have C2 := Lib.hid (HC.out.keep hb2)
  clear hb2 q0 q1 q2 q3
  obtain ⟨q0, q1, q2, q3, qf⟩ := X2.out
  clear qf
  cases hrt : right' ⟨x, y, en, co⟩
  · have heq : Hid (rbytes ⟨x, y, en, co⟩ = ([], 1)) := Lib.hid (by unfold rbytes; rw [hrt]; rfl)
    go_wp2_with fail
    go_ret2
    exact ⟨none, 0, 0, by rw [heq.out]; rfl, by rw [heq.out]; exact Own.nil _ _ _ _, B2.out⟩
  · have heq : Hid (rbytes ⟨x, y, en, co⟩ = (bytesI ⟨x, y, en, co⟩, 0)) := Lib.hid (by unfold rbytes; rw [hrt]; rfl)
    have hri := right_in hrt
    have hsz := hri.1
    unfold sizes at hsz
    simp only [Bool.and_eq_true, decide_eq_true_eq] at hsz
    obtain ⟨⟨⟨⟨s1, s2⟩, s3⟩, s4⟩, s5⟩ := hsz
    rw [hle.out] at s3 s4
    rw [hlc.out] at s5
    have hin : Hid (∀ z ∈ y :: en, 0 ≤ z ∧ z < m) := Lib.hid (fun z hz => by have := hri.2 z hz; rwa [show (⟨x, y, en, co⟩ : Im).code.length = m from hlc.out] at this)
    have y0 := hin.out y (by simp)
    have y1 := y0.1
    have y2 := y0.2
    clear hri y0
    have BA : Below w2.heap.size w2 (w2.alloc (.cells #[.int .u8 67, .int .u8 70, .int .u8 68] 5 (3, 4))) := (Below.refl _ _).alloc (Nat.le_refl _) _
    have X3 := Lib.hid (X2.out.keep BA)
    have B3 := Lib.hid (B2.out.trans (BA.mono B2.out.size))
    obtain ⟨r0, r1, r2, r3, rf⟩ := X3.out
    have E3 := Lib.hid (E2.out.keep BA)
    have C3 := Lib.hid (C2.out.keep BA)
    have HC3 := Lib.hid (cfd_cells w2)
    have hsz3 : (w2.alloc (.cells #[.int .u8 67, .int .u8 70, .int .u8 68] 5 (3, 4))).heap.size = w2.heap.size + 1 := by simp
    have HSX := Lib.hid (⟨s1, s2⟩ : 0 ≤ x ∧ x ≤ 64)
    clear rf BA
    obtain ⟨i0, hi, hz0, hz1, hz2⟩ := info_parts (P := Try.prog) (e := 5) (z := .int .u8 0) (size := 1) (bytes := 1) (by kernel_rfl)
    go_wp2_with (at_builtin; refine wpList_append_arg _ rfl _ _ 37 rfl 5 i0 (.int .u8 0) 1 1 Try.underlying37 hi hz0 hz1 hz2 rfl (by decide) w2.heap.size 0 3 3 [.int .u8 67, .int .u8 70, .int .u8 68] rfl rfl (fun j u hj => (World.cell?_alloc_lt _ _ _ (by simp)).trans (HC3.out j u hj)) ⟨w2.heap.size + 1, 0, none⟩ 2 2 [.int .u8 x, .int .u8 (n : Int)] rfl rfl ?c1 ?c2 (fun h => absurd h (by omega)) (by unfold maxLen; omega) (by omega) (fun h => absurd h (by omega)) (fun _ => ?_))
    case c1 =>
      intro j u hj
      rw [Addr.add_lit, Nat.zero_add, ← hsz3]
      have := World.cell?_alloc_new (w2.alloc (.cells #[.int .u8 67, .int .u8 70, .int .u8 68] 5 (3, 4))) #[.int .u8 x, .int .u8 (n : Int)] 5 j
      rw [this]
      simpa using hj
    case c2 =>
      intro u hu
      simp at hu
      rcases hu with rfl | rfl <;> rfl
    intro v4 w4 hrow hg4
    obtain ⟨g4, c4, rfl, hown4⟩ := own_hd (y := y) (co := co) hle.out HSX.out s4 hrow
    have B24 : Below w2.heap.size w2 w4 := (((Below.refl _ w2).alloc (Nat.le_refl _) _).alloc (by simp) _).grown hg4 (by simp; omega) (fun k hk => by cases hk)
    have T4 : Hid (Tl w2 w4 (hd0 ⟨x, y, en, co⟩) (some ⟨g4, 0, none⟩) 5 c4) := Lib.hid ⟨hown4.low (by first | omega | (simp; omega)), B24⟩
    have T4a := Lib.hid (T4.out.alloc (.cells (foA (BitVec.ofInt 32 y)) 5))
    have X4 := Lib.hid (X2.out.keep B24)
    have Y4 := Lib.hid (X2.out.keep T4a.out.B)
    clear q0 q1 q2 q3 r0 r1 r2 r3 hown4 hg4 hrow hsz3 B24
    obtain ⟨q0, q1, q2, q3, qf⟩ := X4.out
    obtain ⟨r0, r1, r2, r3, rf⟩ := Y4.out
    clear qf rf
    have hy : Hid (0 ≤ y ∧ y < m) := Lib.hid ⟨y1, y2⟩
    go_wp2_with fail
    refine (four_at hy.out s5 w4).mono ?_
    rintro e w5 ⟨rfl, rfl⟩
    go_wp2_with (at_builtin; refine wpList_app _ rfl _ _ rfl elB w2.heap.size (some ⟨g4, 0, none⟩) 5 c4 _ rfl T4a.out.O (some ⟨w4.heap.size, 0, none⟩) 4 4 (fun i => bvL ((four (BitVec.ofInt 32 y)).getD i 0)) rfl (isB_four (BitVec.ofInt 32 y) w4).2 (fun _ _ => rfl) (fun i _ => by intro u hu; simp [bvL] at hu; subst hu; rfl) (by unfold maxLen; omega) (by omega) T4a.out.B.size ?_; intro A9 c9 w9 hown9 hg9 hat9; rw [four4] at hown9; have T9 := Lib.hid (T4a.out.app hown9 hg9); clear hown9 hg9 hat9)
    have T5 : Hid (Tl w2 w9 (hd1 ⟨x, y, en, co⟩ 0) A9 9 c9) := Lib.hid (by rw [hd1_zero]; exact T9.out)
    have hlen : Hid ((⟨x, y, en, co⟩ : Im).entry.length = n) := Lib.hid hle.out
    have hlen2 : Hid ((⟨x, y, en, co⟩ : Im).code.length = m) := Lib.hid hlc.out
    clear q0 q1 q2 q3 r0 r1 r2 r3 T9
    obtain ⟨w5, hw5⟩ : ∃ w5, w9 = w5 := ⟨_, rfl⟩
    subst hw5
    go_loopw [4, 5] (fun v i wr => ∃ (k c : Nat) (A : Option Addr), k ≤ n ∧ i = .int .i64 k ∧ v = .slice A (9 + 4 * k) c ∧ Tl w2 wr (hd1 ⟨x, y, en, co⟩ k) A (9 + 4 * k) c) (fun _ i _ => n - (intOf i).toNat)
    case atStart => exact ⟨0, c9, A9, by omega, rfl, rfl, T5.out⟩
    case round =>
      obtain ⟨k, c, A, hk, rfl, rfl, hT⟩ := hrel
      have HT := Lib.hid hT
      clear hT
      have Xr := Lib.hid (X2.out.keep HT.out.B)
      obtain ⟨q0, q1, q2, q3, qf⟩ := Xr.out
      clear qf
      by_cases hkn : k < n
      · obtain ⟨b, o, rfl, hb, v0⟩ := (E2.out.keep HT.out.B).cell (k := k) hkn
        have hz : Hid (0 ≤ en.getD k 0 ∧ en.getD k 0 < m) := Lib.hid (hin.out _ (by
          have : k < en.length := by rw [hle.out]; exact hkn
          simp only [List.getD, List.getElem?_eq_getElem this, Option.getD_some]
          exact List.mem_cons_of_mem _ (List.getElem_mem this)))
        have hsucc := Lib.hid (hd1_succ (x := ⟨x, y, en, co⟩) (k := k) (by rw [hlen.out]; exact hkn))
        have hsucc : Hid (hd1 ⟨x, y, en, co⟩ (k + 1) = hd1 ⟨x, y, en, co⟩ k ++ four (BitVec.ofInt 32 (en.getD k 0))) := hsucc
        generalize en.getD k 0 = z at *
        have z1 := hz.out.1
        have z2 := hz.out.2
        have k1 : (k : Int) < n := by omega
        have k2 : (k : Int) ≤ 4 := by omega
        go_wp2_with fail
        refine (four_at hz.out s5 wr).mono ?_
        rintro e w6 ⟨rfl, rfl⟩
        have Ta := Lib.hid (HT.out.alloc (.cells (foA (BitVec.ofInt 32 z)) 5))
        go_wp2_with (at_builtin; refine wpList_app _ rfl _ _ rfl elB w2.heap.size A (9 + 4 * k) c _ rfl Ta.out.O (some ⟨wr.heap.size, 0, none⟩) 4 4 (fun i => bvL ((four (BitVec.ofInt 32 z)).getD i 0)) rfl (isB_four (BitVec.ofInt 32 z) wr).2 (fun _ _ => rfl) (fun i _ => by intro u hu; simp [bvL] at hu; subst hu; rfl) (by unfold maxLen; omega) (by omega) Ta.out.B.size ?_; intro A9 c9 w9 hown9 hg9 hat9; rw [four4] at hown9; have T9 := Lib.hid (Ta.out.app hown9 hg9); clear hown9 hg9 hat9)
        have hk9 : 9 + 4 * k + 4 = 9 + 4 * (k + 1) := by omega
        have T10 : Hid (Tl w2 w9 (hd1 ⟨x, y, en, co⟩ (k + 1)) A9 (9 + 4 * (k + 1)) c9) := Lib.hid (by rw [hsucc.out, ← hk9]; exact T9.out)
        go_roundw
        case rel => exact ⟨k + 1, c9, A9, by omega, by go_num, by rw [hk9], T10.out⟩
        case measure => simp [intOf]; omega
      · obtain rfl : k = n := by omega
        have Ta := Lib.hid (HT.out.alloc (.cells (foA (BitVec.ofNat 32 m)) 5))
        go_wp2_with fail
        refine (four_n s5 wr).mono ?_
        rintro e w6 ⟨rfl, rfl⟩
        go_wp2_with (at_builtin; refine wpList_app _ rfl _ _ rfl elB w2.heap.size A (9 + 4 * k) c _ rfl Ta.out.O (some ⟨wr.heap.size, 0, none⟩) 4 4 (fun i => bvL ((four (BitVec.ofNat 32 m)).getD i 0)) rfl (isB_four (BitVec.ofNat 32 m) wr).2 (fun _ _ => rfl) (fun i _ => by intro u hu; simp [bvL] at hu; subst hu; rfl) (by unfold maxLen; omega) (by omega) Ta.out.B.size ?_; intro A9 c9 w9 hown9 hg9 hat9; rw [four4] at hown9; have T9 := Lib.hid (Ta.out.app hown9 hg9); clear hown9 hg9 hat9)
        have hk9 : 9 + 4 * k + 4 = 13 + 4 * k := by omega
        have T6 : Hid (Tl w2 w9 (hd2 ⟨x, y, en, co⟩ 0) A9 (13 + 4 * k) c9) := Lib.hid (by rw [hd2_zero, hlen.out, hlen2.out, ← hk9]; exact T9.out)
        rw [hk9]
        clear q0 q1 q2 q3 T9
        go_loopw [4, 6] (fun v i wr => ∃ (j c : Nat) (A : Option Addr), j ≤ m ∧ i = .int .i64 j ∧ v = .slice A (13 + 4 * k + 4 * j) c ∧ Tl w2 wr (hd2 ⟨x, y, en, co⟩ j) A (13 + 4 * k + 4 * j) c) (fun _ i _ => m - (intOf i).toNat)
        case atStart => exact ⟨0, c9, A9, by omega, rfl, rfl, T6.out⟩
        case round =>
          obtain ⟨j, c, A, hj, rfl, rfl, hT⟩ := hrel
          have HT := Lib.hid hT
          clear hT
          have Xr := Lib.hid (X2.out.keep HT.out.B)
          obtain ⟨q0, q1, q2, q3, qf⟩ := Xr.out
          clear qf
          by_cases hjm : j < m
          · obtain ⟨b, o, rfl, hb, v0⟩ := (C2.out.keep HT.out.B).cell (k := j) hjm
            have hsucc : Hid (hd2 ⟨x, y, en, co⟩ (j + 1) = hd2 ⟨x, y, en, co⟩ j ++ four (co.getD j 0)) := Lib.hid (hd2_succ (x := ⟨x, y, en, co⟩) (k := j) (by rw [hlen2.out]; exact hjm))
            generalize co.getD j 0 = z at *
            have k1 : (j : Int) < m := by omega
            have k2 : (j : Int) ≤ 20000 := by omega
            go_wp2_with fail
            refine (four_any z wr).mono ?_
            rintro e w6 ⟨rfl, rfl⟩
            have Ta := Lib.hid (HT.out.alloc (.cells (foA z) 5))
            go_wp2_with (at_builtin; refine wpList_app _ rfl _ _ rfl elB w2.heap.size A (13 + 4 * k + 4 * j) c _ rfl Ta.out.O (some ⟨wr.heap.size, 0, none⟩) 4 4 (fun i => bvL ((four (z)).getD i 0)) rfl (isB_four (z) wr).2 (fun _ _ => rfl) (fun i _ => by intro u hu; simp [bvL] at hu; subst hu; rfl) (by unfold maxLen; omega) (by omega) Ta.out.B.size ?_; intro A9 c9 w9 hown9 hg9 hat9; rw [four4] at hown9; have T9 := Lib.hid (Ta.out.app hown9 hg9); clear hown9 hg9 hat9)
            have hk9 : 13 + 4 * k + 4 * j + 4 = 13 + 4 * k + 4 * (j + 1) := by omega
            have T10 : Hid (Tl w2 w9 (hd2 ⟨x, y, en, co⟩ (j + 1)) A9 (13 + 4 * k + 4 * (j + 1)) c9) := Lib.hid (by rw [hsucc.out, ← hk9]; exact T9.out)
            go_roundw
            case rel => exact ⟨j + 1, c9, A9, by omega, by go_num, by rw [hk9], T10.out⟩
            case measure => simp [intOf]; omega
          · obtain rfl : j = m := by omega
            have hall : Hid (hd2 ⟨x, y, en, co⟩ j = bytesI ⟨x, y, en, co⟩) := Lib.hid (by rw [← hd2_all, hlen2.out])
            go_wp2_with fail
            go_ret2
            exact ⟨A, _, c, by rw [heq.out]; rfl, by rw [heq.out, ← hall.out]; exact HT.out.O.low B2.out.size, B2.out.trans (HT.out.B.mono B2.out.size)⟩
end Go.Proofs.Ytkohichiojmakaa.ByI
