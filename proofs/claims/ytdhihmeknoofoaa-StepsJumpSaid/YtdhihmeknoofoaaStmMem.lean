/-
  WALKS: the reference's memory (chapter 4), what the run of steps uses of it.
-/
import Derived.Test.YtdhihmeknoofoaaMemory
import Derived.RegionTactic
import Derived.StillTailTactics
namespace Go.Proofs.Ytdhihmeknoofoaa.Rm
set_option linter.unusedVariables false
set_option linter.unusedSimpArgs false
open Go.RowKit Cm Mm Ow Me

/-- the place of a word -/
def plc (n : Nat) (a : Int) : Option Nat := if 4096 ≤ a ∧ (a - 4096) % 8 = 0 ∧ (a - 4096) / 8 < n then some ((a - 4096) / 8).toNat else none
def plcI (n : Nat) (a : Int) : Int := match plc n a with | some i => (i : Int) | none => -1
theorem plc_some {n : Nat} {a : Int} {i : Nat} (h : plc n a = some i) : 4096 ≤ a ∧ (a - 4096) % 8 = 0 ∧ (a - 4096) / 8 = (i : Int) ∧ i < n := by
  unfold plc at h
  split at h
  · injection h with h
    omega
  · cases h
theorem plc_none {n : Nat} {a : Int} (h : plc n a = none) : a < 4096 ∨ (4096 ≤ a ∧ (a - 4096) % 8 ≠ 0) ∨ (4096 ≤ a ∧ (a - 4096) % 8 = 0 ∧ (n : Int) ≤ (a - 4096) / 8) := by
  unfold plc at h
  split at h
  · cases h
  · omega

theorem rplace_any (p n : Nat) (a : Int) (A1 : Option Addr) (c1 : Nat) (w : World) (h1 : -9223372036854775808 ≤ a) (h2 : a ≤ 9223372036854775807) (hn : n ≤ 64)
    (hc : w.cell? ⟨p, 0, none⟩ = some (.slice A1 n c1)) :
    Calls Try.prog 99 #[.pointer (some ⟨p, 0, none⟩), .int .i64 a] w fun e w' => e = .returned (.int .i64 (plcI n a)) ∧ w = w' := by
  cases ho : plc n a with
  | none =>
    have hp : plcI n a = -1 := by unfold plcI; rw [ho]
    have HP := Lib.hid hp; clear hp
    obtain h | ⟨h, h'⟩ | ⟨h, h', h''⟩ := plc_none ho
    · go_enter Try.func99, Try.ntmps99
      go_wp2
      go_ret
      exact ⟨ret1 HP.out.symm, rfl⟩
    · have hb : ((a - 4096) % 8 != 0) = true := by rw [bne_iff_ne]; exact h'
      clear h' ho
      go_enter Try.func99, Try.ntmps99
      go_wp2
      go_ret
      exact ⟨ret1 HP.out.symm, rfl⟩
    · have hb : ((a - 4096) % 8 != 0) = false := by rw [h']; rfl
      clear h' ho
      go_enter Try.func99, Try.ntmps99
      go_wp2
      go_ret
      exact ⟨ret1 HP.out.symm, rfl⟩
  | some i =>
    have hp : plcI n a = i := by unfold plcI; rw [ho]
    obtain ⟨k1, k2, k3, k4⟩ := plc_some ho
    have hb : ((a - 4096) % 8 != 0) = false := by rw [k2]; rfl
    rw [← k3] at hp
    have HP := Lib.hid hp; clear hp
    have k5 : (a - 4096) / 8 < n := by omega
    clear k2 k3 ho
    go_enter Try.func99, Try.ntmps99
    go_wp2
    go_ret
    exact ⟨ret1 HP.out.symm, rfl⟩

def rd (l : List Int) (o : Option Nat) : Int := match o with | some i => l.getD i 0 | none => 0
def put (l : List Int) (o : Option Nat) (v : Int) : List Int := match o with | some i => l.set i v | none => l
def tick (l : List Int) (o : Option Nat) : List Int := match o with | some i => l.set i (wrap64 (l.getD i 0 + 1)) | none => l

theorem rread_any (p n : Nat) (a : Int) (F : List Nat) (now kept ver : List Int) (w : World) (h1 : -9223372036854775808 ≤ a) (h2 : a ≤ 9223372036854775807) (h : Mem w 113 p F n now kept ver) :
    Calls Try.prog 91 #[.pointer (some ⟨p, 0, none⟩), .int .i64 a] w fun e w' => e = .returned (.tuple #[.int .u64 (rd now (plc n a)), .bool (plc n a).isSome]) ∧ w = w' := by
  obtain ⟨A1, A2, A3, c1, c2, c3, h⟩ := h
  obtain ⟨g1, g2, g3⟩ := h.cells
  have hs := h.small
  cases ho : plc n a with
  | none =>
    have hp : plcI n a = -1 := by unfold plcI; rw [ho]
    have HP := Lib.hid hp; clear hp ho
    go_enter Try.func91, Try.ntmps91
    go_wp2_with fail
    refine (rplace_any _ _ _ _ _ _ h1 h2 hs g1).mono ?_
    rintro e w' ⟨rfl, rfl⟩
    rw [HP.out]
    go_wp2_with fail
    go_ret2
    exact ⟨rfl, rfl⟩
  | some i =>
    have hp : plcI n a = i := by unfold plcI; rw [ho]
    obtain ⟨k1, k2, k3, k4⟩ := plc_some ho
    have HP := Lib.hid hp; clear hp ho k2 k3
    obtain ⟨b1, b2, b3, rfl, rfl, rfl⟩ := h.some_ (by omega)
    obtain ⟨e1, e2⟩ := cell_now h rfl k4
    have hi : (i : Int) < n := by omega
    have hx : rd now (some i) = now.getD i 0 := rfl
    have HX := Lib.hid hx; clear hx
    generalize now.getD i 0 = x at *
    go_enter Try.func91, Try.ntmps91
    go_wp2_with fail
    refine (rplace_any _ _ _ _ _ _ h1 h2 hs g1).mono ?_
    rintro e w' ⟨rfl, rfl⟩
    rw [HP.out]
    go_wp2_with fail
    go_ret2
    rw [HX.out]
    exact ⟨rfl, rfl⟩

theorem rwrite_any (p n : Nat) (a v : Int) (F : List Nat) (now kept ver : List Int) (w : World) (h1 : -9223372036854775808 ≤ a) (h2 : a ≤ 9223372036854775807) (h : Mem w 113 p F n now kept ver) :
    Calls Try.prog 92 #[.pointer (some ⟨p, 0, none⟩), .int .i64 a, .int .u64 v] w fun e w' => e = .returned (.bool (plc n a).isSome) ∧ Mem w' 113 p F n (put now (plc n a) v) kept (tick ver (plc n a)) ∧ Only F w w' := by
  have hM := h
  obtain ⟨A1, A2, A3, c1, c2, c3, h⟩ := h
  obtain ⟨g1, g2, g3⟩ := h.cells
  have hs := h.small
  cases ho : plc n a with
  | none =>
    have hp : plcI n a = -1 := by unfold plcI; rw [ho]
    have HP := Lib.hid hp; clear hp ho
    have HM := Lib.hid hM; clear hM
    go_enter Try.func92, Try.ntmps92
    go_wp2_with fail
    refine (rplace_any _ _ _ _ _ _ h1 h2 hs g1).mono ?_
    rintro e w' ⟨rfl, rfl⟩
    rw [HP.out]
    go_wp2_with fail
    go_ret
    exact ⟨rfl, HM.out, Only.refl _ _⟩
  | some i =>
    have hp : plcI n a = i := by unfold plcI; rw [ho]
    obtain ⟨k1, k2, k3, k4⟩ := plc_some ho
    have HP := Lib.hid hp; clear hp ho k2 k3 hM
    obtain ⟨b1, b2, b3, rfl, rfl, rfl⟩ := h.some_ (by omega)
    obtain ⟨e1, e2⟩ := cell_now h rfl k4
    have hi : (i : Int) < n := by omega
    obtain ⟨S1, O1⟩ := h.set_now (by decide) i v
    have S1' := S1
    obtain ⟨g1', g2', g3'⟩ := S1.cells
    obtain ⟨e3, e4⟩ := cell_ver S1 rfl k4
    have S2 := S1'.set_ver (by decide) i (wrap64 (ver.getD i 0 + 1))
    have HS := Lib.hid S2; clear S2 S1 S1'
    have HO := Lib.hid O1; clear O1
    have hx : tick ver (some i) = ver.set i (wrap64 (ver.getD i 0 + 1)) := rfl
    have HX := Lib.hid hx; clear hx
    generalize ver.getD i 0 = x at *
    go_enter Try.func92, Try.ntmps92
    go_wp2_with fail
    refine (rplace_any _ _ _ _ _ _ h1 h2 hs g1).mono ?_
    rintro e w' ⟨rfl, rfl⟩
    rw [HP.out]
    go_wp2_with fail
    go_ret
    exact ⟨rfl, HX.out ▸ ⟨_, _, _, _, _, _, HS.out.1⟩, HO.out.seq HS.out.2⟩

def zeros (n : Nat) : List Int := List.replicate n 0
def words (a : Int) : Nat := (max 0 (min a 64)).toNat
theorem words_int (a : Int) : max 0 (min a 64) = (words a : Int) := by unfold words; omega
theorem words_le (a : Int) : words a ≤ 64 := by unfold words; omega

set_option maxHeartbeats 800000 in
theorem rnew_any (a : Int) (w : World) (hcut : ∀ w : World, Calls Try.prog 65 #[.int .i64 a, .int .i64 0, .int .i64 64] w fun e w' => e = .returned (.int .i64 (words a)) ∧ w = w') :
    Calls Try.prog 57 #[.int .i64 a] w fun e w' => ∃ p F, e = .returned (.pointer (some ⟨p, 0, none⟩)) ∧ Mem w' 113 p F (words a) (zeros (words a)) (zeros (words a)) (zeros (words a)) ∧ (∀ k ∈ F, w.heap.size ≤ k) ∧ Below w.heap.size w w' := by
  have hn := words_le a
  have hC := Lib.hid hcut; clear hcut
  generalize words a = n at *
  have m1 := run_make_u n (by omega)
  have m2 := run_make_i n (by omega)
  go_enter Try.func57, Try.ntmps57
  go_wp2_with (go_at_call 65; refine (hC.out _).mono ?_; rintro e w' ⟨rfl, rfl⟩)
  go_region
  all_goals go_wp2
  all_goals go_ret
  all_goals refine ⟨_, _, rfl, mem_made hn (at3 w _ _ _ _) ?_ ?_ ?_ (by omega), ?_, ?_⟩
  all_goals first
    | exact at0 w _ _ _ _
    | exact at1 w _ _ _ _
    | exact at2 w _ _ _ _
    | (intro k hk; simp at hk; omega)
    | (go_grown; done)

theorem rnow_any (p n : Nat) (F : List Nat) (now kept ver : List Int) (w : World) (h : Mem w 113 p F n now kept ver) :
    Calls Try.prog 60 #[.pointer (some ⟨p, 0, none⟩)] w (GaveU w now) := by
  obtain ⟨A1, A2, A3, c1, c2, c3, h⟩ := h
  obtain ⟨g1, g2, g3⟩ := h.cells
  have hs := h.small
  have U := isU_of_row h.r1
  have HG := Lib.hid (show ∀ (A : Option Addr) (c : Nat) (w' : World), Own w' w.heap.size 29 1 A n c (List.map (fun i => [uw (now.getD i 0)]) (List.range n)) → Below w.heap.size w w' → GaveU w now (.returned (.slice A n c)) w' from fun A c w' ho hb => ⟨A, n, c, rfl, row_of_own (by
    have e : List.map (fun i => [uw (now.getD i 0)]) (List.range n) = (now.map uw).map fun v => [v] := by
      rw [← U.1]
      refine List.ext_getElem (by simp) (fun i h1 h2 => ?_)
      simp at h1
      simp [List.getD, h1]
    rwa [e] at ho), hb⟩)
  have hsl := Lib.hid U.2
  clear U
  go_enter Try.func60, Try.ntmps60
  go_wp2_with (at_builtin; refine wpList_app _ rfl _ _ rfl elU w.heap.size none 0 0 [] rfl (Own.nil _ _ _ _) A1 n c1 _ rfl hsl.out (fun _ _ => rfl) (fun _ _ u hu => by simp at hu; subst hu; rfl) (by unfold maxLen; omega) (by omega) (Nat.le_refl _) ?_; intro A2' c2' w2 hown hg hat)
  simp only [Nat.zero_add, List.nil_append] at hown
  go_ret
  exact HG.out _ _ _ (by simpa using hown) ((Below.refl _ _).grown hg (Nat.le_refl _) (fun k hk => by cases hk))

theorem samew_any (A A' : Option Addr) (n c n' c' : Nat) (l l' : List Int) (w : World) (h : IsU w A n c l) (h' : IsU w A' n' c' l') :
    Calls Try.prog 26 #[.slice A n c, .slice A' n' c'] w fun e w' => e = .returned (.bool (decide (l = l'))) ∧ ∃ m, w' = w.drewN m := by
  have hm : (n : Int) ≤ 9223372036854775807 := by have := h.2.le; have := h.2.cap_le; unfold maxLen at *; omega
  by_cases hn : n = n'
  · subst hn
    have hb : ((n : Int) != n) = false := by simp
    go_enter Try.func26, Try.ntmps26
    go_wp2
    go_loopw [5] (fun i wr => ∃ k m : Nat, k ≤ n ∧ i = .int .i64 k ∧ Hid (∀ j, j < k → l.getD j 0 = l'.getD j 0) ∧ wr = w.drewN m) (fun i _ => n - (intOf i).toNat)
    case atStart => exact ⟨0, 0, by omega, rfl, fun j hj => absurd hj (by omega), rfl⟩
    case round =>
      obtain ⟨k, m, hk, rfl, he, rfl⟩ := hrel
      by_cases hkn : (k : Int) < n
      · obtain ⟨b, o, rfl, _, x1⟩ := h.cell (k := k) (by omega)
        obtain ⟨b', o', rfl, _, x2⟩ := h'.cell (k := k) (by omega)
        have H1 := Lib.hid h.1
        have H2 := Lib.hid h'.1
        by_cases hx : l.getD k 0 = l'.getD k 0
        · have HN : Hid (∀ j, j < k + 1 → l.getD j 0 = l'.getD j 0) := fun j hj => by
            by_cases e : j = k
            · subst e; exact hx
            · exact he.out j (by omega)
          rw [← hx] at x2
          clear hx he
          obtain ⟨x, hxx⟩ : ∃ x, x = l.getD k 0 := ⟨_, rfl⟩
          rw [← hxx] at x1 x2
          clear hxx
          go_wp2
          go_quiet (fail)
          go_wp2
          go_roundw
          case rel => exact ⟨k + 1, _, by omega, by go_num, HN, rfl⟩
          case measure => simp [intOf]; omega
        · have hne : (l.getD k 0 != l'.getD k 0) = true := by rw [bne_iff_ne]; exact hx
          have HX := Lib.hid hx; clear hx
          have HF := Lib.hid (show decide (l = l') = false from decide_eq_false (fun e => HX.out (by rw [e])))
          generalize l.getD k 0 = x at *
          generalize l'.getD k 0 = x' at *
          go_wp2
          go_quiet (fail)
          go_wp2
          go_ret
          exact ⟨retb HF.out.symm, _, World.drewN_drewN _ _ _⟩
      · obtain rfl : k = n := by omega
        have HT := Lib.hid (show decide (l = l') = true from decide_eq_true (List.ext_getElem (by rw [h.1, h'.1]) (fun j h1 h2 => by
          have := he.out j (by rw [← h.1]; exact h1)
          simpa [List.getD, h1, h2] using this)))
        go_wp2
        go_ret
        exact ⟨retb HT.out.symm, _, rfl⟩
  · have hb : ((n : Int) != n') = true := by rw [bne_iff_ne]; omega
    have HF := Lib.hid (show decide (l = l') = false from decide_eq_false (fun e => hn (by rw [← h.1, ← h'.1, e])))
    go_enter Try.func26, Try.ntmps26
    go_wp2
    go_ret
    exact ⟨retb HF.out.symm, 0, rfl⟩
end Go.Proofs.Ytdhihmeknoofoaa.Rm
