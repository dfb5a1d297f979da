/-
  WALKS: what a queue of ints does, with all that stays as it was; two queues and a slice beside them.
-/
import Derived.Test.YtdhihmeknoofoaaQueueAll
namespace Go.Proofs.Ytdhihmeknoofoaa.QuB
set_option linter.unusedVariables false
set_option linter.unusedSimpArgs false
open Go.RowKit Cm Mm Ow Ow2 Del Qu

def vq (L : List Int) : List Value := L.map fun x => .int .i64 x
theorem vq_len (L : List Int) : (vq L).length = L.length := by unfold vq; simp
theorem vq_one (L : List Int) : ∀ u ∈ vq L, u.oneCell' = true := fun u hu => by
  obtain ⟨x, _, rfl⟩ := List.mem_map.1 hu; rfl
theorem vq_snoc (L : List Int) (x : Int) : vq (L ++ [x]) = vq L ++ [.int .i64 x] := by unfold vq; rw [List.map_append]; rfl
theorem vq_get (L : List Int) (i : Nat) (h : i < L.length) : (vq L).getD i undef = .int .i64 (L.getD i 0) := by unfold vq; simp [List.getD, h]
/-- the cell of a queue -/
def Qv (w : World) (q : Nat) (A : Option Addr) (n c : Nat) : Prop := w.cell? ⟨q, 0, none⟩ = some (.slice A n c) ∧ w.frozen? ⟨q, 0, none⟩ = false
theorem Qv.same {w w' : World} {q : Nat} {A : Option Addr} {n c : Nat} (h : Qv w q A n c) (hb : w'.heap[q]? = w.heap[q]?) : Qv w' q A n c := by
  obtain ⟨h1, h2⟩ := blk_same hb
  exact ⟨(h1 0).trans h.1, (h2 0).trans h.2⟩
theorem Qv.lt {w : World} {q : Nat} {A : Option Addr} {n c : Nat} (h : Qv w q A n c) : q < w.heap.size := World.block_lt_of_cell? w _ h.1
/-- a row of ints -/
def Ro (w : World) (B : Nat) (A : Option Addr) (n c : Nat) (L : List Int) : Prop := Ow.Own w B 3 1 A n c ((vq L).map fun v => [v])
theorem own_same {w w' : World} {base : Nat} {e : TypeId} {sz : Nat} {A : Option Addr} {n cap : Nat} {L : List (List Value)} (h : Ow.Own w base e sz A n cap L) (hs : ∀ g, A.map (·.block) = some g → w'.heap[g]? = w.heap[g]?) : Ow.Own w' base e sz A n cap L := by
  refine ⟨h.len, h.each, ?_⟩
  obtain ⟨h1, h2⟩ := h.row
  refine ⟨h1, ?_⟩
  rcases h2 with h2 | ⟨g, c, cur, e1, e2, e3, e4⟩
  · exact .inl h2
  · refine .inr ⟨g, c, cur, e1, e2, ?_, e4⟩
    rw [hs g (by injection e1 with e1; subst e1; rfl)]
    exact e3
/-- what a call on a queue leaves: the queue's cell and row are new, no other block turns -/
structure Acted (w w' : World) (q B : Nat) (A : Option Addr) (A' : Option Addr) (n' c' : Nat) (L' : List Int) : Prop where
  Q : Qv w' q A' n' c'
  R : Ro w' B A' n' c' L'
  same : ∀ b, b < w.heap.size → b ≠ q → A.map (·.block) ≠ some b → w'.heap[b]? = w.heap[b]?
  row : A'.map (·.block) = A.map (·.block) ∨ ∀ b, A'.map (·.block) = some b → w.heap.size ≤ b
  below : Below q w w'

set_option maxHeartbeats 3200000 in
theorem add_any (q B : Nat) (A : Option Addr) (n c : Nat) (L : List Int) (s : Int) (w : World) (hQ : Qv w q A n c) (hR : Ro w B A n c L) (hq : q < B) (hB : B ≤ w.heap.size) (hn : n ≤ 65536) :
    Calls Try.prog 41 #[.pointer (some ⟨q, 0, none⟩), .int .i64 s] w fun e w' => e = .returned (.tuple #[]) ∧ ∃ A' c', Acted w w' q B A A' (n + 1) c' (L ++ [s]) := by
  obtain ⟨h1, h2⟩ := hQ
  have HO : Hid (Ow.Own w B 3 1 A n c ((vq L).map fun v => [v])) := Lib.hid hR
  have HR := Lib.hid HO.out.lt
  have C1 := Lib.hid h1
  have F1 := Lib.hid h2
  have hqw : q < w.heap.size := by omega
  have hqA : Hid (A.map (·.block) ≠ some q) := Lib.hid (fun e => by have := (HR.out _ e).1; omega)
  clear hR
  go_enter Try.func41, Try.ntmps41
  go_wp2_with (at_builtin; refine Ow2.wpList_appN _ rfl _ _ rfl iel B A n c 1 w.heap.size _ [[.int .i64 s]] rfl rfl HO.out rfl rfl (fun y hy => by simp at hy; subst hy; rfl) (fun y hy u hu => by simp at hy; subst hy; simp at hu; subst hu; rfl) (by unfold maxLen; omega) (by omega) (by omega) _ rfl ?_; intro A2 c2 w2 hown2 hbel2 hkp2 hat2; have hb2 := Ow2.blk_same (hkp2 q hqw hqA.out); have x1 := (hb2.1 0).trans C1.out; have x2 := (hb2.2 0).trans F1.out; have HO2 := Lib.hid hown2; have HK2 := Lib.hid hkp2; have HB2 := Lib.hid hbel2; have HA2 := Lib.hid hat2; clear hown2 hb2 hkp2 hbel2 hat2)
  go_end0
  refine ⟨rfl, A2, c2, ⟨⟨World.cell?_setCell_same _ _ _ x1, by rw [World.frozen?_setCell]; exact x2⟩, ?_, fun b hb hbq hbA => (Below.heap_setCell _ ⟨q, 0, none⟩ _ b (by simpa using hbq)).trans (HK2.out b hb hbA), HA2.out, (HB2.out.mono (show q ≤ B by omega)).setCell (p := ⟨q, 0, none⟩) (Nat.le_refl _) _⟩⟩
  show Ow.Own _ _ _ _ _ _ _ _
  rw [vq_snoc, List.map_append]
  exact Ow2.own_set HO2.out (by show q < B; omega) _

set_option maxRecDepth 20000 in
set_option maxHeartbeats 3200000 in
theorem cut_any (q B i : Nat) (A : Option Addr) (n c : Nat) (L : List Int) (w : World) (hQ : Qv w q A n c) (hR : Ro w B A n c L) (hq : q < B) (hB : B ≤ w.heap.size) (hn : n ≤ 65536) (hi : i < n) :
    Calls Try.prog 42 #[.pointer (some ⟨q, 0, none⟩), .int .i64 (i : Int)] w fun e w' => e = .returned (.tuple #[.int .i64 (L.getD i 0), .bool true]) ∧ ∃ c', Acted w w' q B A A (n - 1) c' (L.eraseIdx i) := by
  obtain ⟨c1, c2⟩ := hQ
  have h3 : Ow.Own w B 3 1 A n c ((vq L).map fun v => [v]) := hR
  have hl : L.length = n := by simpa [vq_len] using h3.len
  obtain ⟨m, rfl⟩ : ∃ m, n = i + m + 1 := ⟨n - i - 1, by omega⟩
  have hA : ∃ g, A = some ⟨g, 0, none⟩ := by
    rcases h3.row.2 with ⟨h1, h2⟩ | ⟨g, c, cur, h1, _⟩
    · omega
    · injection h1 with e1; exact ⟨g, e1⟩
  obtain ⟨g, rfl⟩ := hA
  have hqw : q < w.heap.size := World.block_lt_of_cell? w _ c1
  have hg : B ≤ g := (h3.lt g rfl).1
  have f6 : (i : Int) + m + 1 ≤ 65536 := by omega
  have R := idel_own B g i m c (vq L) w h3 (by omega) (vq_one L)
  have k1 := (own_cell h3 (k := i) (by omega)).1
  rw [vq_get L i (by omega)] at k1
  have he : Hid ((vq L).eraseIdx i = vq (L.eraseIdx i)) := Lib.hid (by unfold vq; rw [List.eraseIdx_eq_take_drop_succ, List.eraseIdx_eq_take_drop_succ, List.map_append, List.map_take, List.map_drop])
  have C1 := Lib.hid c1
  have C2 := Lib.hid c2
  have HR := Lib.hid R
  have HQ := Lib.hid hqw
  have HG := Lib.hid hg
  clear R hl h3 hn hi hqw hg hR
  generalize L.getD i 0 = V at k1 ⊢
  have c1' := C1.out
  have f1 : (0 : Int) ≤ (i : Int) := by omega
  have f2 : ¬ ((i : Int) < 0) := by omega
  have f3 : ¬ ((i : Int) + m + 1 ≤ (i : Int)) := by omega
  have f4 : (i : Int) < (i : Int) + m + 1 := by omega
  have f5 : i < i + m + 1 := by omega
  go_enter Try.func42, Try.ntmps42
  go_wp2_with fail
  refine HR.out.mono ?_
  rintro e w' ⟨rfl, ho, hgr⟩
  have hb := Ow2.blk_same (hgr.block q HQ.out (fun e => by injection e with e; have := HG.out; omega))
  have x1 := (hb.1 0).trans C1.out
  have x2 := (hb.2 0).trans C2.out
  rw [he.out] at ho
  have HO := Lib.hid ho
  have HGR := Lib.hid hgr
  have HB : Hid (Below q w w') := (Below.refl q w).grown hgr (by have := HQ.out; omega) (fun k hk => by injection hk with hk; have := HG.out; omega)
  clear ho hgr hb
  go_wp2_with fail
  go_ret2
  refine ⟨rfl, c, ⟨⟨World.cell?_setCell_same _ _ _ x1, by rw [World.frozen?_setCell]; exact x2⟩, Ow2.own_set HO.out (by show q < B; omega) _, fun b hb hbq hbA => (Below.heap_setCell _ ⟨q, 0, none⟩ _ b (by simpa using hbq)).trans (HGR.out.block b hb (fun e => hbA (by injection e with e; rw [e]; rfl))), .inl rfl, HB.out.setCell (p := ⟨q, 0, none⟩) (Nat.le_refl _) _⟩⟩
end Go.Proofs.Ytdhihmeknoofoaa.QuB
