/-
  WALKS: queues: slices.Delete of one element.
-/
import Derived.Test.YtdhihmeknoofoaaProg
import Derived.Test.YtdhihmeknoofoaaDel
import Derived.StillTailTactics
import Derived.IntWalk
import Derived.Deep.MidRow
namespace Go.Proofs.Ytdhihmeknoofoaa.Qu
set_option linter.unusedVariables false
set_option linter.unusedSimpArgs false
open Go.RowKit Cm Mm Ow Ow2 Del

theorem sel : El Try.prog 41 9 1 16 := by
  obtain ⟨i, h1, h2, h3, h4⟩ := info_parts (P := Try.prog) (e := 9) (z := .string ⟨#[]⟩) (size := 1) (bytes := 16) (by kernel_rfl)
  exact ⟨Try.underlying41, ⟨i, _, h1, h2, h3, h4, rfl⟩, by decide⟩
theorem szero (w : World) : (zeroValue 9).run Try.prog w = .ok (.string ⟨#[]⟩) w := by
  obtain ⟨i, h1, h2, h3, h4⟩ := info_parts (P := Try.prog) (e := 9) (z := .string ⟨#[]⟩) (size := 1) (bytes := 16) (by kernel_rfl)
  simp [zeroValue, typeInfo, h1, h2]
set_option maxRecDepth 20000 in
set_option maxHeartbeats 1600000 in
theorem sdel_any (B g i m c : Nat) (L : List Value) (w : World) (h : Own w B 9 1 (some ⟨g, 0, none⟩) (i + m + 1) c (L.map fun v => [v])) (hn : i + m ≤ 65536) (h1 : ∀ u ∈ L, u.oneCell' = true) :
    Calls Try.prog 61 #[.slice (some ⟨g, 0, none⟩) (i + m + 1) c, .int .i64 (i : Int), .int .i64 ((i : Int) + 1)] w fun e w' => e = .returned (.slice (some ⟨g, 0, none⟩) (i + m) c) ∧ ∃ q, w' = (((w.drewN q).setCells g i (L.drop (i + 1))).setCells g (i + m) [.string ⟨#[]⟩]) := by
  have hle := h.sl.le
  have hln : L.length = i + m + 1 := by simpa using h.len
  have hcell := fun k hk => own_cell h (k := k) hk
  have HC := Lib.hid hcell
  have HL := Lib.hid hln
  have H1 := Lib.hid h1
  clear hcell hln h1 h
  have hck : ((w.drew.setCells g i (L.drop (i + 1))).cell? ⟨g, i + m, none⟩).isSome = true := World.isSome_setCells g _ _ _ _ (by show (w.cell? _).isSome = true; rw [(HC.out (i + m) (by omega)).1]; rfl)
  have hfk : (w.drew.setCells g i (L.drop (i + 1))).frozen? ⟨g, i + m, none⟩ = false := by rw [World.frozen?_setCells]; exact (HC.out (i + m) (by omega)).2
  have hzz : ((.string ⟨#[]⟩ : Value)).cells = #[.string ⟨#[]⟩] := rfl
  have hcl : ∀ ty, (Builtin.clear_ #[41] ty #[.slice (some ⟨g, i + m, none⟩) 1 (c - (i + m))]).run Try.prog (w.drew.setCells g i (L.drop (i + 1))) = .ok (.tuple #[]) ((w.drew.setCells g i (L.drop (i + 1))).setCells g (i + m) [.string ⟨#[]⟩]) := fun ty =>
    Lib.run_clear_slice _ 41 9 ty (.string ⟨#[]⟩) Try.underlying41 szero hzz rfl g (i + m) 1 _ (by omega) (fun j hj => by rw [show j = 0 by omega]; exact hck) (fun j hj => by rw [show j = 0 by omega]; exact hfk)
  have HCL := Lib.hid hcl
  clear hck hfk hzz hcl
  by_cases hcj : c = i + 1
  · obtain rfl : m = 0 := by omega
    subst hcj
    have f1 : ((i : Int) == (i : Int) + 1) = false := by rw [beq_eq_false_iff_ne]; omega
    have f2 : ((i : Int) + 1).toNat = i + 1 := by omega
    have f3 : (0 : Int) ≤ (i : Int) + 1 := by omega
    go_enter Try.func61, Try.ntmps61
    go_wp2
    have g1 : (i : Int) ≤ (i : Int) + 1 := by omega
    have g2 : (0 : Int) ≤ (i : Int) := by omega
    go_still_tail 6, (by kernel_rfl)
    have hd : L.drop (i + 1) = [] := by rw [List.drop_eq_nil_of_le]; rw [HL.out]; omega
    have hcl := HCL.out
    rw [hd] at hcl
    simp only [Nat.add_zero, show i + 1 - i = 1 by omega] at hcl
    have HD := Lib.hid hd; clear hd
    go_wp2_with (refine wpList_del _ rfl _ _ rfl sel g i (i + 1) rfl ⟨g, 0, none⟩ 0 0 [] rfl rfl (fun j u hu => by simp at hu) (fun u hu => by simp at hu) (by omega) (fun j hj => absurd hj (by omega)) (fun j hj => absurd hj (by omega)) ?_)
    go_ret
    exact ⟨rfl, 1, by rw [HD.out]; rfl⟩
  · have e0 : ¬ c ≤ i := by omega
    have f1 : ((i : Int) == (i : Int) + 1) = false := by rw [beq_eq_false_iff_ne]; omega
    have f2 : ((i : Int) + 1).toNat = i + 1 := by omega
    have f3 : (0 : Int) ≤ (i : Int) + 1 := by omega
    go_enter Try.func61, Try.ntmps61
    go_wp2
    have g1 : (i : Int) ≤ (c : Int) := by omega
    have g2 : (0 : Int) ≤ (i : Int) := by omega
    have g3 : (i : Int) + 1 ≤ (i : Int) + m + 1 := by omega
    have g4 : ¬ c = i + 1 := hcj
    have g5 : ((i + m + 1 : Nat) : Int) = (i : Int) + m + 1 := by omega
    have g6 : i + m + 1 - (i + 1) = m := by omega
    clear g5
    go_still_tail 6, (by kernel_rfl)
    have hnews : (L.drop (i + 1)).length = m := by rw [List.length_drop, HL.out]; omega
    have NW := Lib.hid hnews
    have N1 : Hid (∀ u ∈ L.drop (i + 1), u.oneCell' = true) := fun u hu => H1.out u (List.mem_of_mem_drop hu)
    have NC : Hid (∀ j u, (L.drop (i + 1))[j]? = some u → w.cell? ((⟨g, i + 1, none⟩ : Addr).add j) = some u) := fun j u hu => by
      have hj : j < m := by rw [← hnews]; exact (List.getElem?_eq_some_iff.1 hu).1
      have e : (⟨g, i + 1, none⟩ : Addr).add j = ⟨g, i + 1 + j, none⟩ := by
        unfold Addr.add
        split
        · rename_i h0; subst h0; rfl
        · rfl
      rw [e, (HC.out (i + 1 + j) (by omega)).1, ← hu, List.getElem?_drop]
      simp [List.getD, show i + 1 + j < L.length by rw [HL.out]; omega]
    clear hnews
    have hcl := HCL.out
    go_wp2_with (refine wpList_del _ rfl _ _ rfl sel g i c rfl ⟨g, i + 1, none⟩ m (c - (i + 1)) (L.drop (i + 1)) rfl NW.out NC.out N1.out (by omega) (fun j hj => by show (w.cell? _).isSome = true; rw [(HC.out (i + j) (by omega)).1]; rfl) (fun j hj => (HC.out (i + j) (by omega)).2) ?_)
    go_ret
    exact ⟨rfl, 1, rfl⟩
theorem iel : El Try.prog 33 3 1 8 := by
  obtain ⟨i, h1, h2, h3, h4⟩ := info_parts (P := Try.prog) (e := 3) (z := .int .i64 0) (size := 1) (bytes := 8) (by kernel_rfl)
  exact ⟨Try.underlying33, ⟨i, _, h1, h2, h3, h4, rfl⟩, by decide⟩
theorem izero (w : World) : (zeroValue 3).run Try.prog w = .ok (.int .i64 0) w := by
  obtain ⟨i, h1, h2, h3, h4⟩ := info_parts (P := Try.prog) (e := 3) (z := .int .i64 0) (size := 1) (bytes := 8) (by kernel_rfl)
  simp [zeroValue, typeInfo, h1, h2]
set_option maxRecDepth 20000 in
set_option maxHeartbeats 1600000 in
theorem idel_any (B g i m c : Nat) (L : List Value) (w : World) (h : Own w B 3 1 (some ⟨g, 0, none⟩) (i + m + 1) c (L.map fun v => [v])) (hn : i + m ≤ 65536) (h1 : ∀ u ∈ L, u.oneCell' = true) :
    Calls Try.prog 66 #[.slice (some ⟨g, 0, none⟩) (i + m + 1) c, .int .i64 (i : Int), .int .i64 ((i : Int) + 1)] w fun e w' => e = .returned (.slice (some ⟨g, 0, none⟩) (i + m) c) ∧ ∃ q, w' = (((w.drewN q).setCells g i (L.drop (i + 1))).setCells g (i + m) [.int .i64 0]) := by
  have hle := h.sl.le
  have hln : L.length = i + m + 1 := by simpa using h.len
  have hcell := fun k hk => own_cell h (k := k) hk
  have HC := Lib.hid hcell
  have HL := Lib.hid hln
  have H1 := Lib.hid h1
  clear hcell hln h1 h
  have hck : ((w.drew.setCells g i (L.drop (i + 1))).cell? ⟨g, i + m, none⟩).isSome = true := World.isSome_setCells g _ _ _ _ (by show (w.cell? _).isSome = true; rw [(HC.out (i + m) (by omega)).1]; rfl)
  have hfk : (w.drew.setCells g i (L.drop (i + 1))).frozen? ⟨g, i + m, none⟩ = false := by rw [World.frozen?_setCells]; exact (HC.out (i + m) (by omega)).2
  have hzz : ((.int .i64 0 : Value)).cells = #[.int .i64 0] := rfl
  have hcl : ∀ ty, (Builtin.clear_ #[33] ty #[.slice (some ⟨g, i + m, none⟩) 1 (c - (i + m))]).run Try.prog (w.drew.setCells g i (L.drop (i + 1))) = .ok (.tuple #[]) ((w.drew.setCells g i (L.drop (i + 1))).setCells g (i + m) [.int .i64 0]) := fun ty =>
    Lib.run_clear_slice _ 33 3 ty (.int .i64 0) Try.underlying33 izero hzz rfl g (i + m) 1 _ (by omega) (fun j hj => by rw [show j = 0 by omega]; exact hck) (fun j hj => by rw [show j = 0 by omega]; exact hfk)
  have HCL := Lib.hid hcl
  clear hck hfk hzz hcl
  by_cases hcj : c = i + 1
  · obtain rfl : m = 0 := by omega
    subst hcj
    have f1 : ((i : Int) == (i : Int) + 1) = false := by rw [beq_eq_false_iff_ne]; omega
    have f2 : ((i : Int) + 1).toNat = i + 1 := by omega
    have f3 : (0 : Int) ≤ (i : Int) + 1 := by omega
    go_enter Try.func66, Try.ntmps66
    go_wp2
    have g1 : (i : Int) ≤ (i : Int) + 1 := by omega
    have g2 : (0 : Int) ≤ (i : Int) := by omega
    go_still_tail 6, (by kernel_rfl)
    have hd : L.drop (i + 1) = [] := by rw [List.drop_eq_nil_of_le]; rw [HL.out]; omega
    have hcl := HCL.out
    rw [hd] at hcl
    simp only [Nat.add_zero, show i + 1 - i = 1 by omega] at hcl
    have HD := Lib.hid hd; clear hd
    go_wp2_with (refine wpList_del _ rfl _ _ rfl iel g i (i + 1) rfl ⟨g, 0, none⟩ 0 0 [] rfl rfl (fun j u hu => by simp at hu) (fun u hu => by simp at hu) (by omega) (fun j hj => absurd hj (by omega)) (fun j hj => absurd hj (by omega)) ?_)
    go_ret
    exact ⟨rfl, 1, by rw [HD.out]; rfl⟩
  · have e0 : ¬ c ≤ i := by omega
    have f1 : ((i : Int) == (i : Int) + 1) = false := by rw [beq_eq_false_iff_ne]; omega
    have f2 : ((i : Int) + 1).toNat = i + 1 := by omega
    have f3 : (0 : Int) ≤ (i : Int) + 1 := by omega
    go_enter Try.func66, Try.ntmps66
    go_wp2
    have g1 : (i : Int) ≤ (c : Int) := by omega
    have g2 : (0 : Int) ≤ (i : Int) := by omega
    have g3 : (i : Int) + 1 ≤ (i : Int) + m + 1 := by omega
    have g4 : ¬ c = i + 1 := hcj
    have g5 : ((i + m + 1 : Nat) : Int) = (i : Int) + m + 1 := by omega
    have g6 : i + m + 1 - (i + 1) = m := by omega
    clear g5
    go_still_tail 6, (by kernel_rfl)
    have hnews : (L.drop (i + 1)).length = m := by rw [List.length_drop, HL.out]; omega
    have NW := Lib.hid hnews
    have N1 : Hid (∀ u ∈ L.drop (i + 1), u.oneCell' = true) := fun u hu => H1.out u (List.mem_of_mem_drop hu)
    have NC : Hid (∀ j u, (L.drop (i + 1))[j]? = some u → w.cell? ((⟨g, i + 1, none⟩ : Addr).add j) = some u) := fun j u hu => by
      have hj : j < m := by rw [← hnews]; exact (List.getElem?_eq_some_iff.1 hu).1
      have e : (⟨g, i + 1, none⟩ : Addr).add j = ⟨g, i + 1 + j, none⟩ := by
        unfold Addr.add
        split
        · rename_i h0; subst h0; rfl
        · rfl
      rw [e, (HC.out (i + 1 + j) (by omega)).1, ← hu, List.getElem?_drop]
      simp [List.getD, show i + 1 + j < L.length by rw [HL.out]; omega]
    clear hnews
    have hcl := HCL.out
    go_wp2_with (refine wpList_del _ rfl _ _ rfl iel g i c rfl ⟨g, i + 1, none⟩ m (c - (i + 1)) (L.drop (i + 1)) rfl NW.out NC.out N1.out (by omega) (fun j hj => by show (w.cell? _).isSome = true; rw [(HC.out (i + j) (by omega)).1]; rfl) (fun j hj => (HC.out (i + j) (by omega)).2) ?_)
    go_ret
    exact ⟨rfl, 1, rfl⟩
theorem sdel_own (B g i m c : Nat) (L : List Value) (w : World) (h : Own w B 9 1 (some ⟨g, 0, none⟩) (i + m + 1) c (L.map fun v => [v])) (hn : i + m ≤ 65536) (h1 : ∀ u ∈ L, u.oneCell' = true) :
    Calls Try.prog 61 #[.slice (some ⟨g, 0, none⟩) (i + m + 1) c, .int .i64 (i : Int), .int .i64 ((i : Int) + 1)] w fun e w' => e = .returned (.slice (some ⟨g, 0, none⟩) (i + m) c) ∧ Own w' B 9 1 (some ⟨g, 0, none⟩) (i + m) c ((L.eraseIdx i).map fun v => [v]) ∧ w.grownBy w' (some g) := by
  refine (sdel_any B g i m c L w h hn h1).mono ?_
  rintro e w' ⟨rfl, k, rfl⟩
  obtain ⟨h2, h3⟩ := own_delete (h.keep (below_drawn w k)) (show i < i + m + 1 by omega) (.string ⟨#[]⟩)
  exact ⟨rfl, h2, ⟨h3.os, h3.tape, h3.output, h3.size, h3.block⟩⟩
/-- the queue that lies in the block q has these -/
def sQ (w : World) (q : Nat) (L : List Value) : Prop := ∃ A n c, w.cell? ⟨q, 0, none⟩ = some (.slice A n c) ∧ w.frozen? ⟨q, 0, none⟩ = false ∧ Own w (q + 1) 9 1 A n c (L.map fun v => [v])
set_option maxHeartbeats 1600000 in
theorem sadd_any (q : Nat) (L : List Value) (s : ByteArray) (w : World) (h : sQ w q L) (hn : L.length ≤ 65536) :
    Calls Try.prog 30 #[.pointer (some ⟨q, 0, none⟩), .string s] w fun e w' => e = .returned (.tuple #[]) ∧ sQ w' q (L ++ [.string s]) ∧ Below q w w' := by
  obtain ⟨A, n, c, h1, h2, h3⟩ := h
  have hl : L.length = n := by simpa using h3.len
  have hq : q < w.heap.size := World.block_lt_of_cell? w _ h1
  have HR := Lib.hid h3.lt
  have HO := Lib.hid h3
  have C1 := Lib.hid h1
  have F1 := Lib.hid h2
  have hn' : n ≤ 65536 := by omega
  clear hl h3
  go_enter Try.func30, Try.ntmps30
  go_wp2_with (at_builtin; refine Ow2.wpList_appN _ rfl _ _ rfl sel (q + 1) A n c 1 w.heap.size _ [[.string s]] rfl rfl HO.out rfl rfl (fun y hy => by simp at hy; subst hy; rfl) (fun y hy u hu => by simp at hy; subst hy; simp at hu; subst hu; rfl) (by unfold maxLen; omega) (by omega) (by omega) _ rfl ?_; intro A2 c2 w2 hown2 hbel2 hkp2 hat2; have hb2 := Ow2.blk_same (hkp2 q hq (fun e => by have := (HR.out _ e).1; omega)); have x1 := (hb2.1 0).trans C1.out; have x2 := (hb2.2 0).trans F1.out; have HO2 := Lib.hid hown2; clear hown2 hkp2 hat2 hb2)
  go_end0
  exact ⟨rfl, ⟨A2, n + 1, c2, World.cell?_setCell_same _ _ _ x1, by rw [World.frozen?_setCell]; exact x2, by rw [List.map_append]; exact Ow2.own_set HO2.out (by show q < q + 1; omega) _⟩, (hbel2.mono (show q ≤ q + 1 by omega)).setCell (p := ⟨q, 0, none⟩) (Nat.le_refl _) _⟩
theorem slen_any (q : Nat) (L : List Value) (w : World) (h : sQ w q L) :
    Calls Try.prog 32 #[.pointer (some ⟨q, 0, none⟩)] w fun e w' => e = .returned (.int .i64 (L.length : Nat)) ∧ w = w' := by
  obtain ⟨A, n, c, h1, h2, h3⟩ := h
  have hl : L.length = n := by simpa using h3.len
  rw [hl]
  clear hl h3 h2
  go_enter Try.func32, Try.ntmps32
  go_wp2
  go_ret
  exact ⟨rfl, rfl⟩
set_option maxHeartbeats 1600000 in
theorem scut_out (q : Nat) (i : Int) (L : List Value) (w : World) (h : sQ w q L) (hi : i < 0 ∨ (L.length : Int) ≤ i) :
    Calls Try.prog 31 #[.pointer (some ⟨q, 0, none⟩), .int .i64 i] w fun e w' => e = .returned (.tuple #[.string ⟨#[]⟩, .bool false]) ∧ w = w' := by
  obtain ⟨A, n, c, h1, h2, h3⟩ := h
  have hl : L.length = n := by simpa using h3.len
  rw [hl] at hi
  clear hl h3 h2
  obtain h0 | ⟨h0, h0'⟩ : i < 0 ∨ (0 ≤ i ∧ (n : Int) ≤ i) := by omega
  all_goals
    clear hi
    go_enter Try.func31, Try.ntmps31
    go_wp2
    go_ret2
    exact ⟨rfl, rfl⟩
theorem idel_own (B g i m c : Nat) (L : List Value) (w : World) (h : Own w B 3 1 (some ⟨g, 0, none⟩) (i + m + 1) c (L.map fun v => [v])) (hn : i + m ≤ 65536) (h1 : ∀ u ∈ L, u.oneCell' = true) :
    Calls Try.prog 66 #[.slice (some ⟨g, 0, none⟩) (i + m + 1) c, .int .i64 (i : Int), .int .i64 ((i : Int) + 1)] w fun e w' => e = .returned (.slice (some ⟨g, 0, none⟩) (i + m) c) ∧ Own w' B 3 1 (some ⟨g, 0, none⟩) (i + m) c ((L.eraseIdx i).map fun v => [v]) ∧ w.grownBy w' (some g) := by
  refine (idel_any B g i m c L w h hn h1).mono ?_
  rintro e w' ⟨rfl, k, rfl⟩
  obtain ⟨h2, h3⟩ := own_delete (h.keep (below_drawn w k)) (show i < i + m + 1 by omega) (.int .i64 0)
  exact ⟨rfl, h2, ⟨h3.os, h3.tape, h3.output, h3.size, h3.block⟩⟩
/-- the queue that lies in the block q has these -/
def iQ (w : World) (q : Nat) (L : List Value) : Prop := ∃ A n c, w.cell? ⟨q, 0, none⟩ = some (.slice A n c) ∧ w.frozen? ⟨q, 0, none⟩ = false ∧ Own w (q + 1) 3 1 A n c (L.map fun v => [v])
set_option maxHeartbeats 1600000 in
theorem iadd_any (q : Nat) (L : List Value) (s : Int) (w : World) (h : iQ w q L) (hn : L.length ≤ 65536) :
    Calls Try.prog 41 #[.pointer (some ⟨q, 0, none⟩), .int .i64 s] w fun e w' => e = .returned (.tuple #[]) ∧ iQ w' q (L ++ [.int .i64 s]) ∧ Below q w w' := by
  obtain ⟨A, n, c, h1, h2, h3⟩ := h
  have hl : L.length = n := by simpa using h3.len
  have hq : q < w.heap.size := World.block_lt_of_cell? w _ h1
  have HR := Lib.hid h3.lt
  have HO := Lib.hid h3
  have C1 := Lib.hid h1
  have F1 := Lib.hid h2
  have hn' : n ≤ 65536 := by omega
  clear hl h3
  go_enter Try.func41, Try.ntmps41
  go_wp2_with (at_builtin; refine Ow2.wpList_appN _ rfl _ _ rfl iel (q + 1) A n c 1 w.heap.size _ [[.int .i64 s]] rfl rfl HO.out rfl rfl (fun y hy => by simp at hy; subst hy; rfl) (fun y hy u hu => by simp at hy; subst hy; simp at hu; subst hu; rfl) (by unfold maxLen; omega) (by omega) (by omega) _ rfl ?_; intro A2 c2 w2 hown2 hbel2 hkp2 hat2; have hb2 := Ow2.blk_same (hkp2 q hq (fun e => by have := (HR.out _ e).1; omega)); have x1 := (hb2.1 0).trans C1.out; have x2 := (hb2.2 0).trans F1.out; have HO2 := Lib.hid hown2; clear hown2 hkp2 hat2 hb2)
  go_end0
  exact ⟨rfl, ⟨A2, n + 1, c2, World.cell?_setCell_same _ _ _ x1, by rw [World.frozen?_setCell]; exact x2, by rw [List.map_append]; exact Ow2.own_set HO2.out (by show q < q + 1; omega) _⟩, (hbel2.mono (show q ≤ q + 1 by omega)).setCell (p := ⟨q, 0, none⟩) (Nat.le_refl _) _⟩
theorem ilen_any (q : Nat) (L : List Value) (w : World) (h : iQ w q L) :
    Calls Try.prog 43 #[.pointer (some ⟨q, 0, none⟩)] w fun e w' => e = .returned (.int .i64 (L.length : Nat)) ∧ w = w' := by
  obtain ⟨A, n, c, h1, h2, h3⟩ := h
  have hl : L.length = n := by simpa using h3.len
  rw [hl]
  clear hl h3 h2
  go_enter Try.func43, Try.ntmps43
  go_wp2
  go_ret
  exact ⟨rfl, rfl⟩
set_option maxHeartbeats 1600000 in
theorem icut_out (q : Nat) (i : Int) (L : List Value) (w : World) (h : iQ w q L) (hi : i < 0 ∨ (L.length : Int) ≤ i) :
    Calls Try.prog 42 #[.pointer (some ⟨q, 0, none⟩), .int .i64 i] w fun e w' => e = .returned (.tuple #[.int .i64 0, .bool false]) ∧ w = w' := by
  obtain ⟨A, n, c, h1, h2, h3⟩ := h
  have hl : L.length = n := by simpa using h3.len
  rw [hl] at hi
  clear hl h3 h2
  obtain h0 | ⟨h0, h0'⟩ : i < 0 ∨ (0 ≤ i ∧ (n : Int) ≤ i) := by omega
  all_goals
    clear hi
    go_enter Try.func42, Try.ntmps42
    go_wp2
    go_ret2
    exact ⟨rfl, rfl⟩
end Go.Proofs.Ytdhihmeknoofoaa.Qu
