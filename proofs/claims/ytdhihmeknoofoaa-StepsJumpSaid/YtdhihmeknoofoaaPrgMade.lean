/-
  WALKS: the program's run of steps: codes cloned; a code begun; the whole run in the heap; one of it goes on.
-/
import Derived.Test.YtdhihmeknoofoaaPrgRun
import Derived.Shelf.Slices.Clone
namespace Go.Proofs.Ytdhihmeknoofoaa.Pm
set_option linter.unusedVariables false
set_option linter.unusedSimpArgs false
open Go.RowKit Cm Mm Ow Ow2 Me Stp StW Rm Sp Sd Sx Sr Pn Pa Pq Pr
open ElM (Cd zeroCd cdL okCd IsCd)

theorem elems_of (l : List Int) : List.map (fun i => [uw (l.getD i 0)]) (List.range l.length) = (l.map uw).map fun v => [v] := by
  refine List.ext_getElem (by simp) (fun i h1 h2 => ?_)
  simp at h1
  simp [List.getD, h1]
theorem uclone_any (A : Option Addr) (n c : Nat) (l : List Int) (w : World) (h : IsU w A n c l) (hn : n ≤ 1000000) :
    Calls Try.prog 72 #[.slice A n c] w (GaveU w l) := by
  have hsl := Lib.hid h.2
  have hl := h.1
  have HG := Lib.hid (show ∀ (A : Option Addr) (c : Nat) (w' : World), Own w' w.heap.size 29 1 A n c (List.map (fun i => [uw (l.getD i 0)]) (List.range n)) → Below w.heap.size w w' → GaveU w l (.returned (.slice A n c)) w' from fun A c w' ho hb => ⟨A, n, c, rfl, row_of_own (by rw [← hl, elems_of] at ho; rw [hl] at ho; exact ho), hb⟩)
  have he := fun wx => Lib.run_eql_slice_nil (P := Try.prog) wx 38 29 A n c 0 0 Try.underlying38
  cases A with
  | none =>
    have h0 : n = 0 := by
      rcases Nat.eq_zero_or_pos n with h0 | h0
      · exact h0
      · obtain ⟨b, o, e, _⟩ := h.2.at_ h0
        cases e
    subst h0
    obtain rfl : l = [] := List.eq_nil_of_length_eq_zero hl
    clear hsl hl HG h
    go_enter Try.func72, Try.ntmps72
    go_wp2_with fail
    go_ret
    exact ⟨none, 0, 0, rfl, World.ownsRow_nil _ _ _ _, Below.refl _ _⟩
  | some ad =>
    clear hl h
    have hO : Own (w.alloc (.cells #[] 29)) w.heap.size 29 1 (some ⟨w.heap.size, 0, none⟩) 0 0 [] :=
      ⟨rfl, fun x h => by simp at h, World.ownsRow_made w #[] 0 (Nat.le_refl _) (by unfold maxLen; omega) rfl⟩
    have HO := Lib.hid hO; clear hO
    have hB : Below w.heap.size w (w.alloc (.cells #[] 29)) := (Below.refl _ _).alloc (Nat.le_refl _) _
    have hs2 := Lib.hid (hsl.out.keep hB)
    go_enter Try.func72, Try.ntmps72
    go_wp2_with (at_builtin; refine wpList_app _ rfl _ _ rfl elU w.heap.size (some ⟨w.heap.size, 0, none⟩) 0 0 [] rfl HO.out (some ad) n c _ rfl hs2.out (fun _ _ => rfl) (fun _ _ u hu => by simp at hu; subst hu; rfl) (by unfold maxLen; omega) (by omega) (by simp) ?_; intro A2' c2' w2 hown hg hat)
    simp only [Nat.zero_add, List.nil_append] at hown
    go_ret
    exact HG.out _ _ _ (by simpa using hown) (hB.trans ((Below.refl _ _).grown hg (by simp) (fun k hk => by simp at hk; omega)))
/-- new steps, as those were -/
def GaveSt (w : World) (l : List St) (n : Nat) (e : Ending) (w' : World) : Prop := ∃ A' c', e = .returned (.slice A' n c') ∧ Own w' w.heap.size 31 9 A' n c' (l.map stL) ∧ Below w.heap.size w w'
theorem st_range (l : List St) (n : Nat) (h : l.length = n) : List.map (fun i => stL (l.getD i zeroSt)) (List.range n) = l.map stL := by
  subst h
  refine List.ext_getElem (by simp) (fun i h1 h2 => ?_)
  simp at h1
  simp [List.getD, h1]
theorem sclone_any (A : Option Addr) (n c : Nat) (l : List St) (w : World) (h : IsSt w A n c l) (hn : n ≤ 65536) :
    Calls Try.prog 84 #[.slice A n c] w (GaveSt w l n) := by
  have hsl := Lib.hid h.2
  have hl := h.1
  have HR := Lib.hid (st_range l n hl)
  have he := fun wx => Lib.run_eql_slice_nil (P := Try.prog) wx 22 31 A n c 0 0 Try.underlying22
  cases A with
  | none =>
    have h0 : n = 0 := by
      rcases Nat.eq_zero_or_pos n with h0 | h0
      · exact h0
      · obtain ⟨b, o, e, _⟩ := h.2.at_ h0
        cases e
    subst h0
    obtain rfl : l = [] := List.eq_nil_of_length_eq_zero hl
    clear hsl hl HR h
    go_enter Try.func84, Try.ntmps84
    go_wp2_with fail
    go_ret
    exact ⟨none, 0, rfl, Own.nil _ _ _ _, Below.refl _ _⟩
  | some ad =>
    clear hl h
    have hO : Own (w.alloc (.cells #[] 31)) w.heap.size 31 9 (some ⟨w.heap.size, 0, none⟩) 0 0 [] :=
      ⟨rfl, fun x h => by simp at h, World.ownsRow_made w #[] 0 (Nat.le_refl _) (by unfold maxLen; omega) rfl⟩
    have HO := Lib.hid hO; clear hO
    have hB : Below w.heap.size w (w.alloc (.cells #[] 31)) := (Below.refl _ _).alloc (Nat.le_refl _) _
    have hs2 := Lib.hid (hsl.out.keep hB)
    go_enter Try.func84, Try.ntmps84
    go_wp2_with (at_builtin; refine wpList_app _ rfl _ _ rfl elSt w.heap.size (some ⟨w.heap.size, 0, none⟩) 0 0 [] rfl HO.out (some ad) n c _ rfl hs2.out (fun _ _ => rfl) (fun _ _ => st_one _) (by unfold maxLen; omega) (by omega) (by simp) ?_; intro A2' c2' w2 hown hg hat)
    simp only [Nat.zero_add, List.nil_append] at hown
    rw [HR.out] at hown
    go_ret
    exact ⟨A2', c2', by simp, hown, hB.trans ((Below.refl _ _).grown hg (by simp) (fun k hk => by simp at hk; omega))⟩
/-- a code, cloned -/
def GaveCd (w : World) (x y : Int) (l : List St) (n : Nat) (e : Ending) (w' : World) : Prop := ∃ A' c', e = .returned (.agg #[.int .i64 x, .int .i64 y, .slice A' n c']) ∧ Own w' w.heap.size 31 9 A' n c' (l.map stL) ∧ Below w.heap.size w w'
set_option maxHeartbeats 1600000 in
theorem cclone_any (x y : Int) (A : Option Addr) (n c : Nat) (l : List St) (w : World) (h : IsSt w A n c l) (hn : n ≤ 65536) :
    Calls Try.prog 69 #[.agg #[.int .i64 x, .int .i64 y, .slice A n c]] w (GaveCd w x y l n) := by
  obtain ⟨W, hW⟩ : ∃ W, W = (w.alloc (.cells #[.int .i64 x, .int .i64 y, .slice A n c] 24)).alloc (.cells #[.int .i64 0, .int .i64 0, .slice none 0 0] 24) := ⟨_, rfl⟩
  have hB : Below w.heap.size w W := by rw [hW]; go_grown
  have hWs : W.heap.size = w.heap.size + 1 + 1 := by rw [hW]; simp
  have HW := Lib.hid hW
  have HWs := Lib.hid hWs
  have hS := Lib.hid (h.keep hB)
  clear hWs hW h
  go_enter Try.func69, Try.ntmps69
  go_wp2_with fail
  rw [← HW.out]
  refine (sclone_any A n c l W hS.out hn).mono ?_
  rintro e wr ⟨A', c', rfl, HO, hbel⟩
  have hc1 : ∀ o, wr.cell? ⟨w.heap.size, o, none⟩ = W.cell? ⟨w.heap.size, o, none⟩ := fun o => hbel.cell (p := ⟨w.heap.size, o, none⟩) (by show w.heap.size < _; have := HWs.out; omega)
  have hc2 : ∀ o, wr.cell? ⟨w.heap.size + 1, o, none⟩ = W.cell? ⟨w.heap.size + 1, o, none⟩ := fun o => hbel.cell (p := ⟨w.heap.size + 1, o, none⟩) (by show w.heap.size + 1 < _; have := HWs.out; omega)
  have hf1 : ∀ o, wr.frozen? ⟨w.heap.size, o, none⟩ = W.frozen? ⟨w.heap.size, o, none⟩ := fun o => hbel.frozen (p := ⟨w.heap.size, o, none⟩) (by show w.heap.size < _; have := HWs.out; omega)
  have hf2 : ∀ o, wr.frozen? ⟨w.heap.size + 1, o, none⟩ = W.frozen? ⟨w.heap.size + 1, o, none⟩ := fun o => hbel.frozen (p := ⟨w.heap.size + 1, o, none⟩) (by show w.heap.size + 1 < _; have := HWs.out; omega)
  have hsz := hbel.size
  have hws := HWs.out
  simp only [HW.out] at hc1 hc2 hf1 hf2
  simp at hf1 hf2
  have HO2 := Lib.hid HO
  have HB2 := Lib.hid hbel
  have HB1 := Lib.hid hB
  clear HO hbel hB
  go_wp2_with fail
  refine bodyPost_ret (v := .agg #[.int .i64 x, .int .i64 y, .slice A' n c']) (by simp [results, Try.results69, go_sem, hc1, hc2]) rfl ?_
  exact ⟨A', c', rfl, (Ow2.own_set (Ow2.own_set (Ow2.own_set (Ow2.own_set HO2.out (by show w.heap.size < W.heap.size; omega) _) (by show w.heap.size + 1 < W.heap.size; omega) _) (by show w.heap.size + 1 < W.heap.size; omega) _) (by show w.heap.size + 1 < W.heap.size; omega) _).low (by omega), ((((HB1.out.trans (HB2.out.mono (by omega))).setCell (by simp) _).setCell (by simp) _).setCell (by simp) _).setCell (by simp) _⟩
end Go.Proofs.Ytdhihmeknoofoaa.Pm
