/-
  WALKS: queues: Cut within range.
-/
import Derived.Test.YtdhihmeknoofoaaQueue
namespace Go.Proofs.Ytdhihmeknoofoaa.Qu
set_option linter.unusedVariables false
set_option linter.unusedSimpArgs false
open Go.RowKit Cm Mm Ow Ow2 Del

set_option maxRecDepth 20000 in
set_option maxHeartbeats 1600000 in
theorem scut_any (q i : Nat) (L : List Value) (w : World) (h : sQ w q L) (hn : L.length ≤ 65536) (h1 : ∀ u ∈ L, u.oneCell' = true) (hi : i < L.length) :
    Calls Try.prog 31 #[.pointer (some ⟨q, 0, none⟩), .int .i64 (i : Int)] w fun e w' => e = .returned (.tuple #[L.getD i undef, .bool true]) ∧ sQ w' q (L.eraseIdx i) ∧ Below q w w' := by
  obtain ⟨A, n, c, c1, c2, h3⟩ := h
  have hl : L.length = n := by simpa using h3.len
  obtain ⟨m, rfl⟩ : ∃ m, n = i + m + 1 := ⟨n - i - 1, by omega⟩
  have hA : ∃ g, A = some ⟨g, 0, none⟩ := by
    rcases h3.row.2 with ⟨h1, h2⟩ | ⟨g, c, cur, h1, _⟩
    · omega
    · injection h1 with e1; exact ⟨g, e1⟩
  obtain ⟨g, rfl⟩ := hA
  have hq : q < w.heap.size := World.block_lt_of_cell? w _ c1
  have hg : q + 1 ≤ g := (h3.lt g rfl).1
  have f6 : (i : Int) + m + 1 ≤ 65536 := by omega
  have R := sdel_own (q + 1) g i m c L w h3 (by omega) h1
  have k1 := (own_cell h3 (k := i) (by omega)).1
  have C1 := Lib.hid c1
  have C2 := Lib.hid c2
  have HR := Lib.hid R
  have HQ := Lib.hid hq
  have HG := Lib.hid hg
  clear R hl h3 hn h1 hi hq hg
  generalize L.getD i undef = V at k1 ⊢
  have c1' := C1.out
  have f1 : (0 : Int) ≤ (i : Int) := by omega
  have f2 : ¬ ((i : Int) < 0) := by omega
  have f3 : ¬ ((i : Int) + m + 1 ≤ (i : Int)) := by omega
  have f4 : (i : Int) < (i : Int) + m + 1 := by omega
  have f5 : i < i + m + 1 := by omega
  go_enter Try.func31, Try.ntmps31
  go_wp2_with fail
  refine HR.out.mono ?_
  rintro e w' ⟨rfl, ho, hgr⟩
  have hb := Ow2.blk_same (hgr.block q HQ.out (fun e => by injection e with e; have := HG.out; omega))
  have x1 := (hb.1 0).trans C1.out
  have x2 := (hb.2 0).trans C2.out
  have HO := Lib.hid ho
  have HB : Hid (Below q w w') := (Below.refl q w).grown hgr (by have := HQ.out; omega) (fun k hk => by injection hk with hk; have := HG.out; omega)
  clear ho hgr hb
  go_wp2_with fail
  go_ret2
  exact ⟨rfl, ⟨some ⟨g, 0, none⟩, i + m, c, World.cell?_setCell_same _ _ _ x1, by rw [World.frozen?_setCell]; exact x2, Ow2.own_set HO.out (by show q < q + 1; omega) _⟩, HB.out.setCell (p := ⟨q, 0, none⟩) (Nat.le_refl _) _⟩
set_option maxRecDepth 20000 in
set_option maxHeartbeats 1600000 in
theorem icut_any (q i : Nat) (L : List Value) (w : World) (h : iQ w q L) (hn : L.length ≤ 65536) (h1 : ∀ u ∈ L, u.oneCell' = true) (hi : i < L.length) :
    Calls Try.prog 42 #[.pointer (some ⟨q, 0, none⟩), .int .i64 (i : Int)] w fun e w' => e = .returned (.tuple #[L.getD i undef, .bool true]) ∧ iQ w' q (L.eraseIdx i) ∧ Below q w w' := by
  obtain ⟨A, n, c, c1, c2, h3⟩ := h
  have hl : L.length = n := by simpa using h3.len
  obtain ⟨m, rfl⟩ : ∃ m, n = i + m + 1 := ⟨n - i - 1, by omega⟩
  have hA : ∃ g, A = some ⟨g, 0, none⟩ := by
    rcases h3.row.2 with ⟨h1, h2⟩ | ⟨g, c, cur, h1, _⟩
    · omega
    · injection h1 with e1; exact ⟨g, e1⟩
  obtain ⟨g, rfl⟩ := hA
  have hq : q < w.heap.size := World.block_lt_of_cell? w _ c1
  have hg : q + 1 ≤ g := (h3.lt g rfl).1
  have f6 : (i : Int) + m + 1 ≤ 65536 := by omega
  have R := idel_own (q + 1) g i m c L w h3 (by omega) h1
  have k1 := (own_cell h3 (k := i) (by omega)).1
  have C1 := Lib.hid c1
  have C2 := Lib.hid c2
  have HR := Lib.hid R
  have HQ := Lib.hid hq
  have HG := Lib.hid hg
  clear R hl h3 hn h1 hi hq hg
  generalize L.getD i undef = V at k1 ⊢
  have c1' := C1.out
  have f1 : (0 : Int) ≤ (i : Int) := by omega
  have f2 : ¬ ((i : Int) < 0) := by omega
  have f3 : ¬ ((i : Int) + m + 1 ≤ (i : Int)) := by omega
  have f4 : (i : Int) < (i : Int) + m + 1 := by omega
  have f5 : i < i + m + 1 := by omega
  go_enter Try.func42, Try.ntmps42
  go_wp2_with fail
  refine HR.out.mono ?_
  rintro e w' ⟨rfl, ho, hgr⟩
  have hb := Ow2.blk_same (hgr.block q HQ.out (fun e => by injection e with e; have := HG.out; omega))
  have x1 := (hb.1 0).trans C1.out
  have x2 := (hb.2 0).trans C2.out
  have HO := Lib.hid ho
  have HB : Hid (Below q w w') := (Below.refl q w).grown hgr (by have := HQ.out; omega) (fun k hk => by injection hk with hk; have := HG.out; omega)
  clear ho hgr hb
  go_wp2_with fail
  go_ret2
  exact ⟨rfl, ⟨some ⟨g, 0, none⟩, i + m, c, World.cell?_setCell_same _ _ _ x1, by rw [World.frozen?_setCell]; exact x2, Ow2.own_set HO.out (by show q < q + 1; omega) _⟩, HB.out.setCell (p := ⟨q, 0, none⟩) (Nat.le_refl _) _⟩
end Go.Proofs.Ytdhihmeknoofoaa.Qu
