/-
  WALKS: package emit: none.
-/
import Derived.Test.YtkohichiojmakaaEmitRows
import Derived.Test.YtkohichiojmakaaMemory
import Derived.Test.YtkohichiojmakaaGAlu
namespace Go.Proofs.Ytkohichiojmakaa.EmN
set_option linter.unusedVariables false
set_option linter.unusedSimpArgs false
open Go.RowKit Cm Mm Ow Me A64 Stp Em EmW

def isLb (s : St) : Bool := decide (s.kind = 9) && (decide (0 ≤ s.to) && decide (s.to ≤ 400))
/-- how many labels the first k steps want -/
def mostN (l : List St) : Nat → Int
  | 0 => 0
  | k + 1 => if isLb (l.getD k zeroSt) then max (mostN l k) ((l.getD k zeroSt).to + 1) else mostN l k
theorem mostN_le (l : List St) : ∀ k, 0 ≤ mostN l k ∧ mostN l k ≤ 401
  | 0 => ⟨Int.le_refl _, by unfold mostN; omega⟩
  | k + 1 => by
    have := mostN_le l k
    unfold mostN
    split
    · rename_i h
      simp only [isLb, Bool.and_eq_true, decide_eq_true_eq] at h
      omega
    · exact this
/-- the first k are -1 -/
def half (m k : Nat) : List Int := List.replicate k (-1) ++ List.replicate (m - k) 0
theorem half_len {m k : Nat} (h : k ≤ m) : (half m k).length = m := by simp [half]; omega
theorem half_zero (m : Nat) : lbA (half m 0) = madeCells #[.int .i64 0] m := by
  apply Array.ext'
  rw [toList_madeCells_one]
  simp [lbA, half]
theorem half_all (m : Nat) : half m m = List.replicate m (-1) := by simp [half]
theorem half_set {m k : Nat} (h : k < m) : (lbA (half m k)).setIfInBounds k (.int .i64 (-1)) = lbA (half m (k + 1)) := by
  unfold lbA half
  rw [List.setIfInBounds_toArray]
  congr 1
  obtain ⟨j, hj⟩ : ∃ j, m - k = j + 1 := ⟨m - k - 1, by omega⟩
  rw [hj, show m - (k + 1) = j by omega, List.replicate_succ, List.replicate_succ' (n := k), List.map_append, List.map_append, List.map_append, List.set_append_right _ _ (by simp)]
  simp
theorem half_get {m k : Nat} (h : k < m) : (lbA (half m k))[k]? = some (.int .i64 0) := by
  unfold lbA half
  rw [List.getElem?_toArray, List.getElem?_map, List.getElem?_append_right (by simp)]
  simp [List.getElem?_replicate]
  omega
set_option maxHeartbeats 1600000 in
theorem none_any (SA : Option Addr) (sn sc : Nat) (v0 v1 : Int) (l : List St) (w : World) (h : IsSt w SA sn sc l) (hn : sn ≤ 1000) (m : Nat) (hm : mostN l sn = (m : Int)) :
    Calls Try.prog 54 #[.agg #[.int .i64 v0, .int .i64 v1, .slice SA sn sc]] w fun e w' => ∃ g, e = .returned (.slice (some ⟨g, 0, none⟩) m m) ∧ w.heap.size ≤ g ∧ g < w'.heap.size ∧ w'.heap[g]? = some (.cells (lbA (List.replicate m (-1))) 3 (0, 0)) ∧ Below w.heap.size w w' := by
  have hm4 : m ≤ 401 := by have := mostN_le l sn; omega
  have hmk := run_make_i m (by omega)
  have HS := Lib.hid (h.keep (below_al w (.cells #[.int .i64 v0, .int .i64 v1, .slice SA sn sc] 65)))
  have HM := Lib.hid hm
  clear h hm
  go_enter Try.func54, Try.ntmps54
  obtain ⟨W, hW⟩ : ∃ W, w.alloc (.cells #[.int .i64 v0, .int .i64 v1, .slice SA sn sc] 65) = W := ⟨_, rfl⟩
  have BW := Lib.hid (show Below w.heap.size w W by rw [← hW]; exact below_al w _)
  have hbx := heap_alloc_new w (.cells #[.int .i64 v0, .int .i64 v1, .slice SA sn sc] 65)
  rw [hW] at hbx
  have x2 : W.cell? ⟨w.heap.size, 2, none⟩ = some (.slice SA sn sc) := by simp only [World.cell?, hbx]; simp
  clear hbx
  rw [hW] at HS
  go_wp2_with fail
  try rw [hW]
  clear hW
  go_loopw [3, 11] (fun v i wr => ∃ k : Nat, k ≤ sn ∧ i = .int .i64 k ∧ v = .int .i64 (mostN l k) ∧ Below W.heap.size W wr) (fun _ i _ => sn - (intOf i).toNat)
  case atStart => exact ⟨0, by omega, rfl, rfl, Below.refl _ _⟩
  case round =>
    obtain ⟨k, hk, rfl, rfl, hb⟩ := hrel
    have HB := Lib.hid hb
    clear hb
    by_cases hkn : k < sn
    · have d0 : decide ((k : Int) < (sn : Int)) = true := decide_eq_true (by omega)
      obtain ⟨b, o, rfl, hbl, s0, s1, s2, s3, s4, s5, s6, s7, s8⟩ := (HS.out.keep HB.out).cell hkn
      have hmo := mostN_le l k
      have hsu : mostN l (k + 1) = if isLb (l.getD k zeroSt) then max (mostN l k) ((l.getD k zeroSt).to + 1) else mostN l k := rfl
      have HSU := Lib.hid hsu
      clear hsu
      obtain ⟨y, hy⟩ : ∃ y, mostN l k = y := ⟨_, rfl⟩
      rw [hy] at hmo HSU ⊢
      generalize l.getD k zeroSt = s at *
      obtain ⟨kd, sd, sa, sb, sc', st, sce, sn', so⟩ := s
      dsimp only [isLb] at *
      have bb : ∀ o, Below W.heap.size W (wr.alloc o) := fun o => HB.out.trans ((below_al wr o).mono HB.out.size)
      have BB := Lib.hid bb
      clear bb
      by_cases hk9 : kd = 9
      · subst hk9
        by_cases h0 : 0 ≤ st
        · have d1 : decide (0 ≤ st) = true := decide_eq_true h0
          by_cases h4 : st ≤ 400
          · have d2 : decide (st ≤ 400) = true := decide_eq_true h4
            have i1 : IntKind.i64.wrap (st + 1) = st + 1 := IntWalk.i64_in _ ⟨by omega, by omega⟩
            go_wp2_with fail
            go_roundw
            case rel => exact ⟨k + 1, by omega, by go_num, by rw [HSU.out]; simp [d1, d2]; split <;> omega, BB.out _⟩
            case measure => simp [intOf]; omega
          · have d2 : decide (st ≤ 400) = false := decide_eq_false h4
            go_wp2_with fail
            go_roundw
            case rel => exact ⟨k + 1, by omega, by go_num, by rw [HSU.out]; simp [d1, d2], BB.out _⟩
            case measure => simp [intOf]; omega
        · have d1 : decide (0 ≤ st) = false := decide_eq_false h0
          go_wp2_with fail
          go_roundw
          case rel => exact ⟨k + 1, by omega, by go_num, by rw [HSU.out]; simp [d1], BB.out _⟩
          case measure => simp [intOf]; omega
      · have d1 : (kd == 9) = false := by simpa using hk9
        go_wp2_with fail
        go_roundw
        case rel => exact ⟨k + 1, by omega, by go_num, by rw [HSU.out]; simp [hk9], BB.out _⟩
        case measure => simp [intOf]; omega
    · obtain rfl : k = sn := by omega
      rw [HM.out]
      have bb : Below w.heap.size w wr := BW.out.trans (HB.out.mono BW.out.size)
      have BB := Lib.hid bb
      clear bb
      generalize wr = wA at *
      have NW := Lib.hid (show (wA.alloc (.cells (madeCells #[.int .i64 0] m) 3)).heap[wA.heap.size]? = some (.cells (lbA (half m 0)) 3 (0, 0)) by rw [half_zero]; exact heap_alloc_new _ _)
      go_wp2_with fail
      go_loopw [38] (fun i wq => ∃ j : Nat, j ≤ m ∧ i = .int .i64 j ∧ wq.heap[wA.heap.size]? = some (.cells (lbA (half m j)) 3 (0, 0)) ∧ Below wA.heap.size wA wq) (fun i _ => m - (intOf i).toNat)
      case atStart => exact ⟨0, by omega, rfl, NW.out, below_al _ _⟩
      case round =>
        obtain ⟨j, hj, rfl, hg, hb⟩ := hrel
        have HG := Lib.hid hg
        have HB2 := Lib.hid hb
        by_cases hjm : j < m
        · have d0 : decide ((j : Int) < (m : Int)) = true := decide_eq_true (by omega)
          have z0 : wr.cell? ⟨wA.heap.size, j, none⟩ = some (.int .i64 0) := by simp only [World.cell?, hg]; simpa using half_get hjm
          have z1 : wr.frozen? ⟨wA.heap.size, j, none⟩ = false := by simp only [World.frozen?, hg]; simp
          clear hg hb
          go_wp2_with fail
          go_roundw
          case rel => exact ⟨j + 1, by omega, by go_num, by have := AluG.block_set (i := j) HG.out (.int .i64 (-1)); rwa [half_set hjm] at this, HB2.out.setCell (Nat.le_refl _) _⟩
          case measure => simp [intOf]; omega
        · obtain rfl : j = m := by omega
          clear hg hb
          go_wp2_with fail
          go_ret
          exact ⟨wA.heap.size, rfl, BB.out.size, (Array.getElem?_eq_some_iff.1 HG.out).1, by rw [← half_all]; exact HG.out, BB.out.trans (HB2.out.mono BB.out.size)⟩
end Go.Proofs.Ytkohichiojmakaa.EmN
