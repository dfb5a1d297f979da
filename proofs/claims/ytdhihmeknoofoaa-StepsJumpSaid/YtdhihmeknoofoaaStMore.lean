/-
  WALKS: what is durable, and whether two codes are one.
-/
import Derived.Test.YtdhihmeknoofoaaStWalks
namespace Go.Proofs.Ytdhihmeknoofoaa.StM
set_option linter.unusedVariables false
set_option linter.unusedSimpArgs false
open Go.RowKit Cm Mm Ow Stp StW

set_option maxHeartbeats 1600000 in
theorem same_any (x y : Int) (A1 A2 : Option Addr) (n c1 c2 : Nat) (l : List St) (w : World) (h1 : IsSt w A1 n c1 l) (h2 : IsSt w A2 n c2 l) (hn : n ≤ 200000) :
    Calls Try.prog 18 #[.agg #[.int .i64 x, .int .i64 y, .slice A1 n c1], .agg #[.int .i64 x, .int .i64 y, .slice A2 n c2]] w fun e w' => e = .returned (.bool true) ∧ Below w.heap.size w w' := by
  obtain ⟨W, hW⟩ : ∃ W, W = (w.alloc (.cells #[.int .i64 x, .int .i64 y, .slice A1 n c1] 24)).alloc (.cells #[.int .i64 x, .int .i64 y, .slice A2 n c2] 24) := ⟨_, rfl⟩
  have hB : Below w.heap.size w W := by rw [hW]; go_grown
  have hWs : W.heap.size = w.heap.size + 1 + 1 := by rw [hW]; simp
  have hWl : w.heap.size + 1 < W.heap.size := by omega
  have HW := Lib.hid hW
  have H1 := Lib.hid (h1.keep hB)
  have H2 := Lib.hid (h2.keep hB)
  clear hWs hW h1 h2
  go_enter Try.func18, Try.ntmps18
  go_wp2
  go_loopw [5] (fun i wr => ∃ (k : Nat), k ≤ n ∧ i = .int .i64 k ∧ Below W.heap.size W wr) (fun i _ => n - (intOf i).toNat)
  case atStart => exact ⟨0, by omega, rfl, by rw [HW.out]; exact Below.refl _ _⟩
  case round =>
    obtain ⟨k, hk, rfl, hbel⟩ := hrel
    have hsz := hbel.size
    have hc1 : ∀ o, wr.cell? ⟨w.heap.size, o, none⟩ = W.cell? ⟨w.heap.size, o, none⟩ := fun o => hbel.cell (p := ⟨w.heap.size, o, none⟩) (by show w.heap.size < W.heap.size; omega)
    have hc2 : ∀ o, wr.cell? ⟨w.heap.size + 1, o, none⟩ = W.cell? ⟨w.heap.size + 1, o, none⟩ := fun o => hbel.cell (p := ⟨w.heap.size + 1, o, none⟩) (by show w.heap.size + 1 < W.heap.size; omega)
    have q1 : wr.cell? ⟨w.heap.size, 2, none⟩ = some (.slice A1 n c1) := by rw [hc1, HW.out]; simp
    have q2 : wr.cell? ⟨w.heap.size + 1, 2, none⟩ = some (.slice A2 n c2) := by rw [hc2, HW.out]; simp
    clear hc1 hc2
    by_cases hkn : k < n
    · obtain ⟨b, o, rfl, hb, s0, s1, s2, s3, s4, s5, s6, s7, s8⟩ := (H1.out.keep hbel).cell (k := k) (by omega)
      obtain ⟨b', o', rfl, hb', f0, f1, f2, f3, f4, f5, f6, f7, f8⟩ := (H2.out.keep hbel).cell (k := k) (by omega)
      generalize hc : l.getD k zeroSt = s at *
      clear hc
      have i1 : (k : Int) < n := by omega
      go_wp2
      go_quiet (fail)
      go_wp2
      go_roundw
      case rel => exact ⟨k + 1, by omega, by go_num, below_drewN hbel _⟩
      case measure => simp [intOf]; omega
    · obtain rfl : k = n := by omega
      go_wp2
      go_ret
      exact ⟨rfl, hB.trans (hbel.mono (by omega))⟩

theorem dur_next {l : List St} {k : Nat} (h : k < l.length) (H : durT (l.drop k) = durT l) (hs : access (l.getD k zeroSt) = false ∨ flw l k = true) : durT (l.drop (k + 1)) = durT l := by
  rw [← H, durT_step h]
  rcases hs with hs | hs <;> simp only [hs] <;> simp
theorem dur_stop {l : List St} {k : Nat} (h : k < l.length) (H : durT (l.drop k) = durT l) (h1 : access (l.getD k zeroSt) = true) (h2 : flw l k = false) : durT l = false := by
  rw [← H, durT_step h, h1, h2]; rfl

set_option maxHeartbeats 1600000 in
theorem durable_any (x y : Int) (A : Option Addr) (n cap : Nat) (l : List St) (w : World) (h : IsSt w A n cap l) (hn : n ≤ 65536) :
    Calls Try.prog 20 #[.agg #[.int .i64 x, .int .i64 y, .slice A n cap]] w fun e w' => e = .returned (.bool (durT l)) ∧ Below w.heap.size w w' := by
  have hl := Lib.hid h.1
  obtain ⟨W, hW⟩ : ∃ W, W = w.alloc (.cells #[.int .i64 x, .int .i64 y, .slice A n cap] 24) := ⟨_, rfl⟩
  have hB : Below w.heap.size w W := by rw [hW]; go_grown
  have hWs : W.heap.size = w.heap.size + 1 := by rw [hW]; simp
  have hWl : w.heap.size < W.heap.size := by omega
  have HW := Lib.hid hW
  have hS := Lib.hid (h.keep hB)
  clear hWs hW h
  go_enter Try.func20, Try.ntmps20
  go_wp2
  go_loopw [8] (fun i wr => ∃ (k : Nat), k ≤ n ∧ i = .int .i64 k ∧ Hid (durT (l.drop k) = durT l) ∧ Below W.heap.size W wr) (fun i _ => n - (intOf i).toNat)
  case atStart => exact ⟨0, by omega, rfl, rfl, by rw [HW.out]; exact Below.refl _ _⟩
  case round =>
    obtain ⟨k, hk, rfl, HD, hbel⟩ := hrel
    have hsz := hbel.size
    have hS1 := Lib.hid (hS.out.keep hbel)
    by_cases hkn : k < n
    · obtain ⟨b, o, rfl, hb, s0, s1, s2, s3, s4, s5, s6, s7, s8⟩ := hS1.out.cell (k := k) (by omega)
      have q1 : wr.cell? ⟨w.heap.size, 2, none⟩ = some (.slice (some ⟨b, o, none⟩) n cap) := by rw [hbel.cell (p := ⟨w.heap.size, 2, none⟩) (by show w.heap.size < W.heap.size; omega), HW.out]; simp
      have q1' := Lib.hid q1
      have hnx := Lib.hid (dur_next (l := l) (k := k) (by have := hl.out; omega) HD.out)
      have hst := Lib.hid (dur_stop (l := l) (k := k) (by have := hl.out; omega) HD.out)
      generalize hc : l.getD k zeroSt = s at *
      clear hc
      have i1 : (k : Int) < n := by omega
      cases hacc : access s
      · go_wp2_with fail
        refine (access_bel s _).mono ?_
        rintro e w3 ⟨rfl, hb3⟩
        have hb4 : Below wr.heap.size wr w3 := ((Below.refl _ _).alloc (Nat.le_refl _) _).trans (hb3.mono (by simp))
        rw [hacc]
        go_wp2_with fail
        go_roundw
        case rel => exact ⟨k + 1, by omega, by go_num, hnx.out (.inl hacc), hbel.trans (hb4.mono hsz)⟩
        case measure => simp [intOf]; omega
      · cases hfl : flw l k
        all_goals
          go_wp2_with fail
          refine (access_bel s _).mono ?_
          rintro e w3 ⟨rfl, hb3⟩
          have hb4 : Below wr.heap.size wr w3 := ((Below.refl _ _).alloc (Nat.le_refl _) _).trans (hb3.mono (by simp))
          have q3 : w3.cell? ⟨w.heap.size, 2, none⟩ = some (.slice (some ⟨b, o, none⟩) n cap) := (hb4.cell (p := ⟨w.heap.size, 2, none⟩) (by show w.heap.size < wr.heap.size; omega)).trans q1'.out
          have hsz3 := hb4.size
          rw [hacc]
          go_wp2_with fail
          refine (follows_any _ n cap k l _ (hS1.out.keep hb4) hn (by omega)).mono ?_
          rintro e w4 ⟨rfl, hb5⟩
          rw [hfl]
          go_wp2_with fail
        · go_ret
          exact ⟨retb (hst.out hacc hfl).symm, hB.trans (((hbel.trans (hb4.mono hsz)).trans (hb5.mono (by omega))).mono (by omega))⟩
        · go_roundw
          case rel => exact ⟨k + 1, by omega, by go_num, hnx.out (.inr hfl), (hbel.trans (hb4.mono hsz)).trans (hb5.mono (by omega))⟩
          case measure => simp [intOf]; omega
    · obtain rfl : k = n := by omega
      have e : l.drop k = [] := by rw [List.drop_eq_nil_of_le]; have := hl.out; omega
      rw [e] at HD
      go_wp2
      go_ret
      exact ⟨retb HD.out, hB.trans (hbel.mono (by omega))⟩

theorem acc_kind (s : St) : (s.kind == 3 || s.kind == 4 || s.kind == 5) = access s := rfl
set_option maxHeartbeats 1600000 in
theorem rdurable_any (x y : Int) (A : Option Addr) (n cap : Nat) (l : List St) (w : World) (h : IsSt w A n cap l) (hn : n ≤ 65536) :
    Calls Try.prog 21 #[.agg #[.int .i64 x, .int .i64 y, .slice A n cap]] w fun e w' => e = .returned (.bool (durT l)) ∧ Below w.heap.size w w' := by
  have hl := Lib.hid h.1
  obtain ⟨W, hW⟩ : ∃ W, W = w.alloc (.cells #[.int .i64 x, .int .i64 y, .slice A n cap] 24) := ⟨_, rfl⟩
  have hB : Below w.heap.size w W := by rw [hW]; go_grown
  have hWs : W.heap.size = w.heap.size + 1 := by rw [hW]; simp
  have hWl : w.heap.size < W.heap.size := by omega
  have HW := Lib.hid hW
  have hS := Lib.hid (h.keep hB)
  clear hWs hW h
  go_enter Try.func21, Try.ntmps21
  go_wp2
  go_loopw [3] (fun i wr => ∃ (k : Nat), k ≤ n ∧ i = .int .i64 k ∧ Hid (durT (l.drop k) = durT l) ∧ Below W.heap.size W wr) (fun i _ => n - (intOf i).toNat)
  case atStart => exact ⟨0, by omega, rfl, rfl, by rw [HW.out]; exact Below.refl _ _⟩
  case round =>
    obtain ⟨k, hk, rfl, HD, hbel⟩ := hrel
    have hsz := hbel.size
    have hS1 := Lib.hid (hS.out.keep hbel)
    have q1 : wr.cell? ⟨w.heap.size, 2, none⟩ = some (.slice A n cap) := by rw [hbel.cell (p := ⟨w.heap.size, 2, none⟩) (by show w.heap.size < W.heap.size; omega), HW.out]; simp
    by_cases hkn : k < n
    · obtain ⟨b, o, rfl, hb, s0, s1, s2, s3, s4, s5, s6, s7, s8⟩ := hS1.out.cell (k := k) (by omega)
      have hnx := Lib.hid (dur_next (l := l) (k := k) (by have := hl.out; omega) HD.out)
      have hst := Lib.hid (dur_stop (l := l) (k := k) (by have := hl.out; omega) HD.out)
      generalize hc : l.getD k zeroSt = s at *
      clear hc
      have i1 : (k : Int) < n := by omega
      cases hacc : access s
      · go_wp2_with fail
        refine (raccess_any s.kind _).mono ?_
        rintro e w3 ⟨rfl, rfl⟩
        rw [acc_kind, hacc]
        go_wp2_with fail
        go_roundw
        case rel => exact ⟨k + 1, by omega, by go_num, hnx.out (.inl hacc), hbel⟩
        case measure => simp [intOf]; omega
      · cases hfl : flw l k
        all_goals
          go_wp2_with fail
          refine (raccess_any s.kind _).mono ?_
          rintro e w3 ⟨rfl, rfl⟩
          rw [acc_kind, hacc]
          go_wp2_with fail
          refine (flushed_any _ n cap k l _ hS1.out hn (by omega)).mono ?_
          rintro e w4 ⟨rfl, hb5⟩
          rw [hfl]
          go_wp2_with fail
        · go_ret
          exact ⟨retb (hst.out hacc hfl).symm, hB.trans ((hbel.trans (hb5.mono hsz)).mono (by omega))⟩
        · go_roundw
          case rel => exact ⟨k + 1, by omega, by go_num, hnx.out (.inr hfl), hbel.trans (hb5.mono hsz)⟩
          case measure => simp [intOf]; omega
    · obtain rfl : k = n := by omega
      have e : l.drop k = [] := by rw [List.drop_eq_nil_of_le]; have := hl.out; omega
      rw [e] at HD
      go_wp2
      go_ret
      exact ⟨retb HD.out, hB.trans (hbel.mono (by omega))⟩
end Go.Proofs.Ytdhihmeknoofoaa.StM
