/-
  WALK: flush.Code: accesses made durable.
-/
import Derived.Test.YtdhihmeknoofoaaStWalks
namespace Go.Proofs.Ytdhihmeknoofoaa.StC
set_option linter.unusedVariables false
set_option linter.unusedSimpArgs false
open Go.RowKit Cm Mm Ow Stp StW

set_option maxHeartbeats 1600000 in
theorem fcode_any (x y : Int) (A : Option Addr) (n cap : Nat) (l : List St) (w : World) (h : IsSt w A n cap l) (hn : n ≤ 65536) :
    Calls Try.prog 17 #[.agg #[.int .i64 x, .int .i64 y, .slice A n cap]] w (GaveC w x y (flush l)) := by
  have hl := Lib.hid h.1
  obtain ⟨W, hW⟩ : ∃ W, W = (w.alloc (.cells #[.int .i64 x, .int .i64 y, .slice A n cap] 24)).alloc (.cells #[.int .i64 0, .int .i64 0, .slice none 0 0] 24) := ⟨_, rfl⟩
  have hB : Below w.heap.size w W := by rw [hW]; go_grown
  have hWs : W.heap.size = w.heap.size + 1 + 1 := by rw [hW]; simp
  have hWl : w.heap.size + 1 < W.heap.size := by omega
  have q0 : ∀ o, W.cell? ⟨w.heap.size, o, none⟩ = ((w.alloc (.cells #[.int .i64 x, .int .i64 y, .slice A n cap] 24)).alloc (.cells #[.int .i64 0, .int .i64 0, .slice none 0 0] 24)).cell? ⟨w.heap.size, o, none⟩ := fun o => by rw [hW]
  have HW := Lib.hid hW
  have HWs := Lib.hid hWs
  have hS := Lib.hid (h.keep hB)
  clear hWs hW q0 h
  go_enter Try.func17, Try.ntmps17
  go_wp2
  go_loopw [3, 9] (fun v i wr => ∃ (k m c : Nat) (A' : Option Addr), k ≤ n ∧ i = .int .i64 k ∧ v = .slice A' m c ∧ Own wr W.heap.size 31 9 A' m c ((flush (l.take k)).map stL) ∧ Below W.heap.size W wr) (fun _ i _ => n - (intOf i).toNat)
  case atStart => exact ⟨0, 0, 0, none, by omega, rfl, rfl, Own.nil _ _ _ _, by rw [HW.out]; exact Below.refl _ _⟩
  case round =>
    obtain ⟨k, m, c, A', hk, rfl, rfl, hown, hbel⟩ := hrel
    have hsz := hbel.size
    have hm : m ≤ 3 * k := by have := flush_len_take l k; have := hown.len; simp at this; omega
    by_cases hkn : k < n
    · have hfs := Lib.hid (flush_snoc l k (by have := hl.out; omega))
      obtain ⟨b, o, rfl, hb, s0, s1, s2, s3, s4, s5, s6, s7, s8⟩ := (hS.out.keep hbel).cell (k := k) (by omega)
      generalize hc : l.getD k zeroSt = s at *
      clear hc
      have hrow := hown.lt
      have HO := Lib.hid hown; clear hown
      have HR := Lib.hid hrow; clear hrow
      cases hacc : access s
      all_goals
        go_wp2_with (at_builtin; refine Ow2.wpList_appN _ rfl _ _ rfl elSt W.heap.size A' m c 1 (wr.heap.size + 1) _ [stL s] (by simp) rfl (HO.out.keep ((Below.refl _ _).alloc (Nat.le_refl _) _)) rfl rfl (st_each [s]) (st_ones [s]) (by unfold maxLen; omega) (by omega) (by simp; omega) _ rfl ?_; intro A2 c2 w2 hown2 hbel2 hkp2 hat2; have hq2 := (Ow2.blk_same (hkp2 wr.heap.size (by simp) (fun e => by have := (HR.out _ e).2; omega))).1; have hz2 := hbel2.size; simp at hz2; have HO2 := Lib.hid hown2; clear hown2 hkp2 hat2)
        refine (access_bel s _).mono ?_
        rintro e w3 ⟨rfl, hb3⟩
        have hq3 : ∀ o, w3.cell? ⟨wr.heap.size, o, none⟩ = w2.cell? ⟨wr.heap.size, o, none⟩ := fun o => hb3.cell (p := ⟨wr.heap.size, o, none⟩) (by show wr.heap.size < w2.heap.size; omega)
        have hz3 := hb3.size
        have HO3 := Lib.hid (HO2.out.keep hb3)
        have hbel3 := (hbel.alloc (by omega) _).trans (hbel2.trans (hb3.mono (by omega)))
        rw [hacc]
      · go_wp2_with fail
        go_roundw
        case rel => exact ⟨k + 1, m + 1, c2, A2, by omega, by go_num, rfl, by rw [hfs.out, List.map_append]; unfold flush1; rw [hacc]; exact HO3.out, hbel3⟩
        case measure => simp [intOf]; omega
      · go_wp2_with (at_builtin; refine Ow2.wpList_appN _ rfl _ _ rfl elSt W.heap.size A2 (m + 1) c2 2 w3.heap.size _ [stL (fl s), stL sy] rfl rfl HO3.out rfl rfl (st_each [fl s, sy]) (st_ones [fl s, sy]) (by unfold maxLen; omega) (by omega) (by omega) _ rfl ?_; intro A4 c4 w4 hown4 hbel4 hkp4 hat4; have hz4 := hbel4.size; have HO4 := Lib.hid hown4; clear hown4 hkp4 hat4)
        go_roundw
        case rel => exact ⟨k + 1, m + 1 + 2, c4, A4, by omega, by go_num, rfl, by rw [hfs.out, List.map_append]; unfold flush1; rw [hacc]; simpa using HO4.out, hbel3.trans hbel4⟩
        case measure => simp [intOf]; omega
    · obtain rfl : k = n := by omega
      have e : l.take k = l := by rw [← hl.out]; exact List.take_length
      rw [e] at hown
      have HO := Lib.hid hown; clear hown
      have hc1 : ∀ o, wr.cell? ⟨w.heap.size, o, none⟩ = W.cell? ⟨w.heap.size, o, none⟩ := fun o => hbel.cell (p := ⟨w.heap.size, o, none⟩) (by show w.heap.size < _; omega)
      have hc2 : ∀ o, wr.cell? ⟨w.heap.size + 1, o, none⟩ = W.cell? ⟨w.heap.size + 1, o, none⟩ := fun o => hbel.cell (p := ⟨w.heap.size + 1, o, none⟩) (by show w.heap.size + 1 < _; omega)
      have hf1 : ∀ o, wr.frozen? ⟨w.heap.size, o, none⟩ = W.frozen? ⟨w.heap.size, o, none⟩ := fun o => hbel.frozen (p := ⟨w.heap.size, o, none⟩) (by show w.heap.size < _; omega)
      have hf2 : ∀ o, wr.frozen? ⟨w.heap.size + 1, o, none⟩ = W.frozen? ⟨w.heap.size + 1, o, none⟩ := fun o => hbel.frozen (p := ⟨w.heap.size + 1, o, none⟩) (by show w.heap.size + 1 < _; omega)
      simp only [HW.out] at hc1 hc2 hf1 hf2
      simp at hf1 hf2
      clear e
      go_wp2
      refine bodyPost_ret (v := .agg #[.int .i64 x, .int .i64 y, .slice A' m c]) (by simp [results, Try.results17, go_sem, hc1, hc2]) rfl ?_
      exact ⟨A', m, c, rfl, (Ow2.own_set (Ow2.own_set (Ow2.own_set (Ow2.own_set HO.out (by show w.heap.size < W.heap.size; omega) _) (by show w.heap.size + 1 < W.heap.size; omega) _) (by show w.heap.size + 1 < W.heap.size; omega) _) (by show w.heap.size + 1 < W.heap.size; omega) _).low (by omega), ((((hB.trans (hbel.mono (by omega))).setCell (by simp) _).setCell (by simp) _).setCell (by simp) _).setCell (by simp) _⟩
end Go.Proofs.Ytdhihmeknoofoaa.StC
