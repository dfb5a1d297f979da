/-
  WALKS: the reference's memory (chapter 4), each function once.
-/
import Derived.Test.YtkohichiojmakaaMemory
import Derived.RegionTactic
import Derived.StillTailTactics
namespace Go.Proofs.Ytkohichiojmakaa.Rm
set_option linter.unusedVariables false
set_option linter.unusedSimpArgs false
open Go.RowKit Cm Mm Ow Me

/-- the place of a word -/
def plc (n : Nat) (a : Int) : Option Nat := if 4096 ≤ a ∧ (a - 4096) % 8 = 0 ∧ (a - 4096) / 8 < n then some ((a - 4096) / 8).toNat else none
def plcI (n : Nat) (a : Int) : Int := match plc n a with | some i => (i : Int) | none => -1
theorem plc_some {n : Nat} {a : Int} {i : Nat} (h : plc n a = some i) : 4096 ≤ a ∧ (a - 4096) % 8 = 0 ∧ (a - 4096) / 8 = (i : Int) ∧ i < n := by
  unfold plc at h
  split at h
  · injection h with h
    omega
  · cases h
theorem plc_none {n : Nat} {a : Int} (h : plc n a = none) : a < 4096 ∨ (4096 ≤ a ∧ (a - 4096) % 8 ≠ 0) ∨ (4096 ≤ a ∧ (a - 4096) % 8 = 0 ∧ (n : Int) ≤ (a - 4096) / 8) := by
  unfold plc at h
  split at h
  · cases h
  · omega

theorem rplace_any (p n : Nat) (a : Int) (A1 : Option Addr) (c1 : Nat) (w : World) (h1 : -9223372036854775808 ≤ a) (h2 : a ≤ 9223372036854775807) (hn : n ≤ 64)
    (hc : w.cell? ⟨p, 0, none⟩ = some (.slice A1 n c1)) :
    Calls Try.prog 62 #[.pointer (some ⟨p, 0, none⟩), .int .i64 a] w fun e w' => e = .returned (.int .i64 (plcI n a)) ∧ w = w' := by
  cases ho : plc n a with
  | none =>
    have hp : plcI n a = -1 := by unfold plcI; rw [ho]
    have HP := Lib.hid hp; clear hp
    obtain h | ⟨h, h'⟩ | ⟨h, h', h''⟩ := plc_none ho
    · go_enter Try.func62, Try.ntmps62
      go_wp2
      go_ret
      exact ⟨ret1 HP.out.symm, rfl⟩
    · have hb : ((a - 4096) % 8 != 0) = true := by rw [bne_iff_ne]; exact h'
      clear h' ho
      go_enter Try.func62, Try.ntmps62
      go_wp2
      go_ret
      exact ⟨ret1 HP.out.symm, rfl⟩
    · have hb : ((a - 4096) % 8 != 0) = false := by rw [h']; rfl
      clear h' ho
      go_enter Try.func62, Try.ntmps62
      go_wp2
      go_ret
      exact ⟨ret1 HP.out.symm, rfl⟩
  | some i =>
    have hp : plcI n a = i := by unfold plcI; rw [ho]
    obtain ⟨k1, k2, k3, k4⟩ := plc_some ho
    have hb : ((a - 4096) % 8 != 0) = false := by rw [k2]; rfl
    rw [← k3] at hp
    have HP := Lib.hid hp; clear hp
    have k5 : (a - 4096) / 8 < n := by omega
    clear k2 k3 ho
    go_enter Try.func62, Try.ntmps62
    go_wp2
    go_ret
    exact ⟨ret1 HP.out.symm, rfl⟩

def rd (l : List Int) (o : Option Nat) : Int := match o with | some i => l.getD i 0 | none => 0
def put (l : List Int) (o : Option Nat) (v : Int) : List Int := match o with | some i => l.set i v | none => l
def tick (l : List Int) (o : Option Nat) : List Int := match o with | some i => l.set i (wrap64 (l.getD i 0 + 1)) | none => l

theorem rread_any (p n : Nat) (a : Int) (F : List Nat) (now kept ver : List Int) (w : World) (h1 : -9223372036854775808 ≤ a) (h2 : a ≤ 9223372036854775807) (h : Mem w 129 p F n now kept ver) :
    Calls Try.prog 36 #[.pointer (some ⟨p, 0, none⟩), .int .i64 a] w fun e w' => e = .returned (.tuple #[.int .u64 (rd now (plc n a)), .bool (plc n a).isSome]) ∧ w = w' := by
  obtain ⟨A1, A2, A3, c1, c2, c3, h⟩ := h
  obtain ⟨g1, g2, g3⟩ := h.cells
  have hs := h.small
  cases ho : plc n a with
  | none =>
    have hp : plcI n a = -1 := by unfold plcI; rw [ho]
    have HP := Lib.hid hp; clear hp ho
    go_enter Try.func36, Try.ntmps36
    go_wp2_with fail
    refine (rplace_any _ _ _ _ _ _ h1 h2 hs g1).mono ?_
    rintro e w' ⟨rfl, rfl⟩
    rw [HP.out]
    go_wp2_with fail
    go_ret2
    exact ⟨rfl, rfl⟩
  | some i =>
    have hp : plcI n a = i := by unfold plcI; rw [ho]
    obtain ⟨k1, k2, k3, k4⟩ := plc_some ho
    have HP := Lib.hid hp; clear hp ho k2 k3
    obtain ⟨b1, b2, b3, rfl, rfl, rfl⟩ := h.some_ (by omega)
    obtain ⟨e1, e2⟩ := cell_now h rfl k4
    have hi : (i : Int) < n := by omega
    have hx : rd now (some i) = now.getD i 0 := rfl
    have HX := Lib.hid hx; clear hx
    generalize now.getD i 0 = x at *
    go_enter Try.func36, Try.ntmps36
    go_wp2_with fail
    refine (rplace_any _ _ _ _ _ _ h1 h2 hs g1).mono ?_
    rintro e w' ⟨rfl, rfl⟩
    rw [HP.out]
    go_wp2_with fail
    go_ret2
    rw [HX.out]
    exact ⟨rfl, rfl⟩

theorem rversion_any (p n : Nat) (a : Int) (F : List Nat) (now kept ver : List Int) (w : World) (h1 : -9223372036854775808 ≤ a) (h2 : a ≤ 9223372036854775807) (h : Mem w 129 p F n now kept ver) :
    Calls Try.prog 90 #[.pointer (some ⟨p, 0, none⟩), .int .i64 a] w fun e w' => e = .returned (.int .i64 (rd ver (plc n a))) ∧ w = w' := by
  obtain ⟨A1, A2, A3, c1, c2, c3, h⟩ := h
  obtain ⟨g1, g2, g3⟩ := h.cells
  have hs := h.small
  cases ho : plc n a with
  | none =>
    have hp : plcI n a = -1 := by unfold plcI; rw [ho]
    have HP := Lib.hid hp; clear hp ho
    go_enter Try.func90, Try.ntmps90
    go_wp2_with fail
    refine (rplace_any _ _ _ _ _ _ h1 h2 hs g1).mono ?_
    rintro e w' ⟨rfl, rfl⟩
    rw [HP.out]
    go_wp2_with fail
    go_ret
    exact ⟨rfl, rfl⟩
  | some i =>
    have hp : plcI n a = i := by unfold plcI; rw [ho]
    obtain ⟨k1, k2, k3, k4⟩ := plc_some ho
    have HP := Lib.hid hp; clear hp ho k2 k3
    obtain ⟨b1, b2, b3, rfl, rfl, rfl⟩ := h.some_ (by omega)
    obtain ⟨e1, e2⟩ := cell_ver h rfl k4
    have hi : (i : Int) < n := by omega
    have hx : rd ver (some i) = ver.getD i 0 := rfl
    have HX := Lib.hid hx; clear hx
    generalize ver.getD i 0 = x at *
    go_enter Try.func90, Try.ntmps90
    go_wp2_with fail
    refine (rplace_any _ _ _ _ _ _ h1 h2 hs g1).mono ?_
    rintro e w' ⟨rfl, rfl⟩
    rw [HP.out]
    go_wp2_with fail
    go_ret
    rw [HX.out]
    exact ⟨rfl, rfl⟩

theorem rwrite_any (p n : Nat) (a v : Int) (F : List Nat) (now kept ver : List Int) (w : World) (h1 : -9223372036854775808 ≤ a) (h2 : a ≤ 9223372036854775807) (h : Mem w 129 p F n now kept ver) :
    Calls Try.prog 35 #[.pointer (some ⟨p, 0, none⟩), .int .i64 a, .int .u64 v] w fun e w' => e = .returned (.bool (plc n a).isSome) ∧ Mem w' 129 p F n (put now (plc n a) v) kept (tick ver (plc n a)) ∧ Only F w w' := by
  have hM := h
  obtain ⟨A1, A2, A3, c1, c2, c3, h⟩ := h
  obtain ⟨g1, g2, g3⟩ := h.cells
  have hs := h.small
  cases ho : plc n a with
  | none =>
    have hp : plcI n a = -1 := by unfold plcI; rw [ho]
    have HP := Lib.hid hp; clear hp ho
    have HM := Lib.hid hM; clear hM
    go_enter Try.func35, Try.ntmps35
    go_wp2_with fail
    refine (rplace_any _ _ _ _ _ _ h1 h2 hs g1).mono ?_
    rintro e w' ⟨rfl, rfl⟩
    rw [HP.out]
    go_wp2_with fail
    go_ret
    exact ⟨rfl, HM.out, Only.refl _ _⟩
  | some i =>
    have hp : plcI n a = i := by unfold plcI; rw [ho]
    obtain ⟨k1, k2, k3, k4⟩ := plc_some ho
    have HP := Lib.hid hp; clear hp ho k2 k3 hM
    obtain ⟨b1, b2, b3, rfl, rfl, rfl⟩ := h.some_ (by omega)
    obtain ⟨e1, e2⟩ := cell_now h rfl k4
    have hi : (i : Int) < n := by omega
    obtain ⟨S1, O1⟩ := h.set_now (by decide) i v
    have S1' := S1
    obtain ⟨g1', g2', g3'⟩ := S1.cells
    obtain ⟨e3, e4⟩ := cell_ver S1 rfl k4
    have S2 := S1'.set_ver (by decide) i (wrap64 (ver.getD i 0 + 1))
    have HS := Lib.hid S2; clear S2 S1 S1'
    have HO := Lib.hid O1; clear O1
    have hx : tick ver (some i) = ver.set i (wrap64 (ver.getD i 0 + 1)) := rfl
    have HX := Lib.hid hx; clear hx
    generalize ver.getD i 0 = x at *
    go_enter Try.func35, Try.ntmps35
    go_wp2_with fail
    refine (rplace_any _ _ _ _ _ _ h1 h2 hs g1).mono ?_
    rintro e w' ⟨rfl, rfl⟩
    rw [HP.out]
    go_wp2_with fail
    go_ret
    exact ⟨rfl, HX.out ▸ ⟨_, _, _, _, _, _, HS.out.1⟩, HO.out.seq HS.out.2⟩

def zeros (n : Nat) : List Int := List.replicate n 0
def words (a : Int) : Nat := (max 0 (min a 64)).toNat
theorem words_int (a : Int) : max 0 (min a 64) = (words a : Int) := by unfold words; omega
theorem words_le (a : Int) : words a ≤ 64 := by unfold words; omega

set_option maxHeartbeats 800000 in
theorem rnew_any (a : Int) (w : World) (hcut : ∀ w : World, Calls Try.prog 61 #[.int .i64 a, .int .i64 0, .int .i64 64] w fun e w' => e = .returned (.int .i64 (words a)) ∧ w = w') :
    Calls Try.prog 34 #[.int .i64 a] w fun e w' => ∃ p F, e = .returned (.pointer (some ⟨p, 0, none⟩)) ∧ Mem w' 129 p F (words a) (zeros (words a)) (zeros (words a)) (zeros (words a)) ∧ (∀ k ∈ F, w.heap.size ≤ k) ∧ Below w.heap.size w w' := by
  have hn := words_le a
  have hC := Lib.hid hcut; clear hcut
  generalize words a = n at *
  have m1 := run_make_u n (by omega)
  have m2 := run_make_i n (by omega)
  go_enter Try.func34, Try.ntmps34
  go_wp2_with (go_at_call 61; refine (hC.out _).mono ?_; rintro e w' ⟨rfl, rfl⟩)
  go_region
  all_goals go_wp2
  all_goals go_ret
  all_goals refine ⟨_, _, rfl, mem_made hn (at3 w _ _ _ _) ?_ ?_ ?_ (by omega), ?_, ?_⟩
  all_goals first
    | exact at0 w _ _ _ _
    | exact at1 w _ _ _ _
    | exact at2 w _ _ _ _
    | (intro k hk; simp at hk; omega)
    | (go_grown; done)
end Go.Proofs.Ytkohichiojmakaa.Rm
