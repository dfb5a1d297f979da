/-
  WALKS: chapter 12: where cells lie; the program's functions and the reference's, each once.
-/
import Derived.Test.YtgadjmojebhlgaaProg
import Derived.Test.YtgadjmojebhlgaaMem
namespace Go.Proofs.Ytgadjmojebhlgaa.Lay
set_option linter.unusedVariables false
set_option linter.unusedSimpArgs false
open Go.RowKit Cm Mm

/-- a cell: its name and its size -/
abbrev Cl := ByteArray × Int
def zero : Cl := (ByteArray.empty, 0)
def cells (c : Cl) : List Value := [.string c.1, .int .i64 c.2]
def okCl (c : Cl) : Prop := c.1.size ≤ maxLen ∧ -9223372036854775808 ≤ c.2 ∧ c.2 ≤ 9223372036854775807
def one (c : Cl) : Int := max 1 (min c.2 64)
def words (l : List Cl) : Int := (l.map one).sum
def place (l : List Cl) (i : Int) : Int := if 0 ≤ i ∧ i < l.length then 4096 + 8 * words (l.take i.toNat) else 4096
def find (l : List Cl) (s : List UInt8) : Int := match l.findIdx? (fun c => c.1.toList == s) with | some i => (i : Int) | none => -1
/-- the slice that holds them -/
def IsCl (w : World) (A : Option Addr) (n cap : Nat) (l : List Cl) : Prop := l.length = n ∧ Sl w A n cap 2 (fun i => cells (l.getD i zero)) ∧ ∀ i, i < n → okCl (l.getD i zero)

theorem one_bd (c : Cl) : 1 ≤ one c ∧ one c ≤ 64 := by unfold one; omega
theorem words_nil : words [] = 0 := rfl
theorem words_snoc (l : List Cl) (k : Nat) (h : k < l.length) : words (l.take (k + 1)) = words (l.take k) + one (l.getD k zero) := by
  have e : l.take (k + 1) = l.take k ++ [l.getD k zero] := by
    rw [List.take_succ_eq_append_getElem h]; simp [List.getD, h]
  unfold words
  rw [e]
  simp
theorem words_bd (l : List Cl) : 0 ≤ words l ∧ words l ≤ 64 * l.length := by
  induction l with
  | nil => simp [words]
  | cons c l ih =>
    have h1 := one_bd c
    have e : words (c :: l) = one c + words l := by simp [words]
    rw [e]
    simp only [List.length_cons]
    omega
theorem words_take_bd (l : List Cl) (k : Nat) (hk : k ≤ l.length) : 0 ≤ words (l.take k) ∧ words (l.take k) ≤ 64 * k := by
  have h := words_bd (l.take k)
  have e : (l.take k).length = k := by simp [hk]
  rw [e] at h
  exact h
theorem IsCl.keep {w w' : World} {A : Option Addr} {n cap : Nat} {l : List Cl} (h : IsCl w A n cap l) (hb : Below w.heap.size w w') : IsCl w' A n cap l := ⟨h.1, h.2.1.keep hb, h.2.2⟩
theorem IsCl.take {w : World} {A : Option Addr} {n cap k : Nat} {l : List Cl} (h : IsCl w A n cap l) (hk : k ≤ n) : IsCl w A k cap (l.take k) := by
  have hl := h.1
  have e : ∀ i, i < k → l.getD i zero = (l.take k).getD i zero := fun i hi => by simp [List.getD, List.getElem?_take, hi]
  exact ⟨by simp; omega, (h.2.1.take hk).ext fun i hi => by rw [e i hi], fun i hi => by rw [← e i hi]; exact h.2.2 i (by omega)⟩
theorem IsCl.cell {w : World} {A : Option Addr} {n cap : Nat} {l : List Cl} (h : IsCl w A n cap l) {k : Nat} (hk : k < n) :
    ∃ b o, A = some ⟨b, o, none⟩ ∧ b < w.heap.size ∧ w.cell? ⟨b, o + k * 2, none⟩ = some (.string (l.getD k zero).1) ∧ w.cell? ⟨b, o + k * 2 + 1, none⟩ = some (.int .i64 (l.getD k zero).2) ∧ okCl (l.getD k zero) := by
  obtain ⟨b, o, e, hb, hc⟩ := h.2.1.at_ (by omega)
  exact ⟨b, o, e, hb, by simpa [cells] using hc k hk 0 (by omega), by simpa [cells, Nat.add_assoc] using hc k hk 1 (by omega), h.2.2 k hk⟩

theorem rsize_any (s : Value) (z : Int) (w : World) (h1 : -9223372036854775808 ≤ z) (h2 : z ≤ 9223372036854775807) :
    Calls Try.prog 56 #[.agg #[s, .int .i64 z]] w fun e w' => e = .returned (.int .i64 (max 1 (min z 64))) ∧ Below w.heap.size w w' := by
  go_enter Try.func56, Try.ntmps56
  go_wp2
  all_goals go_ret
  all_goals exact ⟨ret1 (by omega), (Below.refl _ _).alloc (Nat.le_refl _) _⟩

theorem rwords_any (A : Option Addr) (n cap : Nat) (l : List Cl) (w : World) (h : IsCl w A n cap l) (hn : n ≤ 65536) :
    Calls Try.prog 24 #[.slice A n cap] w fun e w' => e = .returned (.int .i64 (words l)) ∧ Below w.heap.size w w' := by
  have hl := Lib.hid h.1
  go_enter Try.func24, Try.ntmps24
  go_wp2
  go_loopw [3, 4] (fun t i wr => ∃ (k : Nat), k ≤ n ∧ i = .int .i64 k ∧ t = .int .i64 (words (l.take k)) ∧ Below w.heap.size w wr) (fun _ i _ => n - (intOf i).toNat)
  case atStart => exact ⟨0, by omega, rfl, rfl, Below.refl _ _⟩
  case round =>
    obtain ⟨k, hk, rfl, rfl, hbel⟩ := hrel
    have wb := words_take_bd l k (by have := hl.out; omega)
    by_cases hkn : k < n
    · have ws := Lib.hid (words_snoc l k (by have := hl.out; omega))
      obtain ⟨b, o, rfl, hb, g0, g1, g2⟩ := (h.keep hbel).cell hkn
      obtain ⟨_, z1, z2⟩ := g2
      generalize hc : l.getD k zero = c at *
      have o1 : one c = max 1 (min c.2 64) := rfl
      have O1 := Lib.hid o1; clear o1
      clear hc
      obtain ⟨c1, c2⟩ := c
      generalize words (l.take k) = q at *
      go_wp2_with (go_at_call 56; refine (rsize_any _ _ _ (by assumption) (by assumption)).mono ?_; rintro e w' ⟨rfl, hb2⟩)
      go_roundw
      case rel => exact ⟨k + 1, by omega, by go_num, by rw [ws.out, O1.out], below_seq hbel (hb2.mono (by omega))⟩
      case measure => simp [intOf]; omega
    · obtain rfl : k = n := by omega
      have e : l.take k = l := by rw [← hl.out]; exact List.take_length
      rw [e] at *
      go_wp2_with fail
      go_ret
      exact ⟨rfl, hbel⟩

section
attribute [local go_sem] if_min if_max
theorem words_any (A : Option Addr) (n cap : Nat) (l : List Cl) (w : World) (h : IsCl w A n cap l) (hn : n ≤ 65536) :
    Calls Try.prog 20 #[.slice A n cap] w fun e w' => e = .returned (.int .i64 (words l)) ∧ Below w.heap.size w w' := by
  have hl := Lib.hid h.1
  go_enter Try.func20, Try.ntmps20
  go_wp2
  go_loopw [3, 8] (fun t i wr => ∃ (k : Nat), k ≤ n ∧ i = .int .i64 k ∧ t = .int .i64 (words (l.take k)) ∧ Below w.heap.size w wr) (fun _ i _ => n - (intOf i).toNat)
  case atStart => exact ⟨0, by omega, rfl, rfl, Below.refl _ _⟩
  case round =>
    obtain ⟨k, hk, rfl, rfl, hbel⟩ := hrel
    have hsz := hbel.size
    have wb := words_take_bd l k (by have := hl.out; omega)
    by_cases hkn : k < n
    · have ws := Lib.hid (words_snoc l k (by have := hl.out; omega))
      obtain ⟨b, o, rfl, hb, g0, g1, g2⟩ := (h.keep hbel).cell hkn
      obtain ⟨_, z1, z2⟩ := g2
      generalize hc : l.getD k zero = c at *
      have o1 : one c = max 1 (min c.2 64) := rfl
      have O1 := Lib.hid o1; clear o1
      clear hc
      obtain ⟨c1, c2⟩ := c
      generalize words (l.take k) = q at *
      go_wp2
      all_goals go_roundw
      all_goals first
        | exact ⟨k + 1, by omega, by go_num, by rw [ws.out, O1.out]; go_num, by go_grown⟩
        | (simp [intOf]; omega)
    · obtain rfl : k = n := by omega
      have e : l.take k = l := by rw [← hl.out]; exact List.take_length
      rw [e] at *
      go_wp2_with fail
      go_ret
      exact ⟨rfl, hbel⟩
end

theorem at_any (A : Option Addr) (n cap : Nat) (i : Int) (l : List Cl) (w : World) (h : IsCl w A n cap l) (hn : n ≤ 65536) :
    Calls Try.prog 19 #[.slice A n cap, .int .i64 i] w fun e w' => e = .returned (.int .i64 (place l i)) ∧ Below w.heap.size w w' := by
  have hl := h.1
  by_cases hi : 0 ≤ i ∧ i < n
  · obtain ⟨h0, hi⟩ := hi
    obtain ⟨k, rfl⟩ := Int.eq_ofNat_of_zero_le h0
    have hk : k ≤ n := by omega
    have hp : place l (k : Int) = 4096 + 8 * words (l.take k) := by unfold place; rw [if_pos ⟨h0, by omega⟩]; simp
    have wb := words_take_bd l k (by omega)
    have hcap := h.2.1.le
    have HP := Lib.hid hp; clear hp
    have HL := Lib.hid hl; clear hl
    obtain ⟨b, o, rfl, _, _, _, _⟩ := h.cell (k := 0) (by omega)
    go_enter Try.func19, Try.ntmps19
    go_wp2_with (go_at_call 20; refine (words_any _ _ _ _ _ (h.take hk) (by omega)).mono ?_; rintro e w' ⟨rfl, hb⟩)
    go_ret
    exact ⟨ret1 HP.out.symm, hb⟩
  · have hp : place l i = 4096 := by unfold place; rw [if_neg (by omega)]
    have HP := Lib.hid hp; clear hp hl
    obtain hi' | ⟨hi', hi''⟩ : i < 0 ∨ (0 ≤ i ∧ (n : Int) ≤ i) := by omega
    all_goals
      go_enter Try.func19, Try.ntmps19
      go_wp2_with fail
      go_ret
      exact ⟨ret1 HP.out.symm, Below.refl _ _⟩

theorem rat_any (A : Option Addr) (n cap : Nat) (i : Int) (l : List Cl) (w : World) (h : IsCl w A n cap l) (hn : n ≤ 65536) :
    Calls Try.prog 21 #[.slice A n cap, .int .i64 i] w fun e w' => e = .returned (.int .i64 (place l i)) ∧ Below w.heap.size w w' := by
  have hl := Lib.hid h.1
  by_cases hi : 0 ≤ i ∧ i < n
  · obtain ⟨h0, hi⟩ := hi
    obtain ⟨m, rfl⟩ := Int.eq_ofNat_of_zero_le h0
    have hp : place l (m : Int) = 4096 + 8 * words (l.take m) := by unfold place; have := hl.out; rw [if_pos ⟨h0, by omega⟩]; simp
    have HP := Lib.hid hp; clear hp
    go_enter Try.func21, Try.ntmps21
    go_wp2
    go_loopw [5, 6] (fun t i wr => ∃ (k : Nat), k ≤ m ∧ i = .int .i64 k ∧ t = .int .i64 (4096 + 8 * words (l.take k)) ∧ Below w.heap.size w wr) (fun _ i _ => m - (intOf i).toNat)
    case atStart => exact ⟨0, by omega, rfl, rfl, Below.refl _ _⟩
    case round =>
      obtain ⟨k, hk, rfl, rfl, hbel⟩ := hrel
      have wb := words_take_bd l k (by have := hl.out; omega)
      by_cases hkn : (k : Int) < m
      · have ws := Lib.hid (words_snoc l k (by have := hl.out; omega))
        obtain ⟨b, o, rfl, hb, g0, g1, g2⟩ := (h.keep hbel).cell (k := k) (by omega)
        obtain ⟨_, z1, z2⟩ := g2
        generalize hc : l.getD k zero = c at *
        have o1 : one c = max 1 (min c.2 64) := rfl
        have O1 := Lib.hid o1; clear o1
        clear hc
        obtain ⟨c1, c2⟩ := c
        generalize words (l.take k) = q at *
        go_wp2_with (go_at_call 56; refine (rsize_any _ _ _ (by assumption) (by assumption)).mono ?_; rintro e w' ⟨rfl, hb2⟩)
        go_roundw
        case rel => exact ⟨k + 1, by omega, by go_num, by rw [ws.out, O1.out]; go_num, below_seq hbel (hb2.mono (by omega))⟩
        case measure => simp [intOf]; omega
      · obtain rfl : k = m := by omega
        go_wp2_with fail
        go_ret
        exact ⟨ret1 HP.out.symm, hbel⟩
  · have hp : place l i = 4096 := by unfold place; have := hl.out; rw [if_neg (by omega)]
    have HP := Lib.hid hp; clear hp
    obtain hi' | ⟨hi', hi''⟩ : i ≤ 0 ∨ (0 < i ∧ (n : Int) ≤ i) := by omega
    all_goals
      go_enter Try.func21, Try.ntmps21
      go_wp2
      refine wp_loop_rounds 1 ?_
      rw [rounds_succ]
      go_wp2_with fail
      go_ret
      exact ⟨ret1 HP.out.symm, Below.refl _ _⟩

def lineOf (a : Int) : Int := if a < 4096 then -1 else (a - 4096) / 64
theorem lineOf_low {a : Int} (h : a < 4096) : lineOf a = -1 := by unfold lineOf; rw [if_pos h]
theorem lineOf_high {a : Int} (h : ¬ a < 4096) : lineOf a = (a - 4096) / 64 := by unfold lineOf; rw [if_neg h]
theorem cline_any (a : Int) (w : World) (h1 : -9223372036854775808 ≤ a) (h2 : a ≤ 9223372036854775807) :
    Calls Try.prog 39 #[.int .i64 a] w fun e w' => e = .returned (.int .i64 (lineOf a)) ∧ w = w' := by
  by_cases h : a < 4096
  · have H := Lib.hid (lineOf_low h)
    go_enter Try.func39, Try.ntmps39
    go_wp2
    go_ret
    exact ⟨ret1 H.out.symm, rfl⟩
  · have H := Lib.hid (lineOf_high h)
    go_enter Try.func39, Try.ntmps39
    go_wp2
    go_ret
    exact ⟨ret1 H.out.symm, rfl⟩

theorem place_bd (l : List Cl) (i : Int) : 4096 ≤ place l i ∧ place l i ≤ 4096 + 512 * l.length := by
  unfold place
  split
  · have h := words_bd (l.take i.toNat)
    have : (l.take i.toNat).length ≤ l.length := by simp; omega
    omega
  · omega

theorem line_any (A : Option Addr) (n cap : Nat) (i : Int) (l : List Cl) (w : World) (h : IsCl w A n cap l) (hn : n ≤ 65536) :
    Calls Try.prog 25 #[.slice A n cap, .int .i64 i] w fun e w' => e = .returned (.int .i64 ((place l i - 4096) / 64)) ∧ Below w.heap.size w w' := by
  have pb := place_bd l i
  have hl := h.1
  go_enter Try.func25, Try.ntmps25
  go_wp2_with (first
    | (go_at_call 19; refine (at_any _ _ _ _ _ _ h hn).mono ?_; rintro e w' ⟨rfl, hb⟩)
    | (go_at_call 39; refine (cline_any _ _ (by omega) (by omega)).mono ?_; rintro e w' ⟨rfl, rfl⟩))
  go_ret
  exact ⟨ret1 (lineOf_high (by omega)), hb⟩

/-! finding a name -/
theorem find_none (l : List Cl) (s : List UInt8) (h : ∀ i, i < l.length → ((l.getD i zero).1.toList == s) = false) : find l s = -1 := by
  unfold find
  have e : l.findIdx? (fun c => c.1.toList == s) = none := by
    rw [List.findIdx?_eq_none_iff]
    intro c hc
    obtain ⟨i, hi, rfl⟩ := List.getElem_of_mem hc
    have := h i hi
    simpa [List.getD, hi] using this
  rw [e]
theorem find_some (l : List Cl) (s : List UInt8) (k : Nat) (hk : k < l.length) (h : ∀ i, i < k → ((l.getD i zero).1.toList == s) = false) (hs : ((l.getD k zero).1.toList == s) = true) : find l s = (k : Int) := by
  unfold find
  have e : l.findIdx? (fun c => c.1.toList == s) = some k := by
    rw [List.findIdx?_eq_some_iff_getElem]
    refine ⟨hk, by simpa [List.getD, hk] using hs, fun j hj => ?_⟩
    have := h j hj
    simpa [List.getD, show j < l.length by omega] using this
  rw [e]

theorem clo_any (t s : ByteArray) (z : Int) (p : Nat) (w : World) (hp : w.cell? ⟨p, 0, none⟩ = some (.string s)) (hlt : p < w.heap.size) :
    Calls Try.prog 58 #[.agg #[.string t, .int .i64 z], .pointer (some ⟨p, 0, none⟩)] w fun e w' => e = .returned (.bool (t.toList == s.toList)) ∧ Below w.heap.size w w' := by
  go_enter Try.func58, Try.ntmps58
  go_wp2
  all_goals go_ret
  all_goals exact ⟨rfl, (Below.refl _ _).alloc (Nat.le_refl _) _⟩

theorem no_snoc {l : List Cl} {s : List UInt8} {k : Nat} {c : Cl} (hno : Hid (∀ i, i < k → ((l.getD i zero).1.toList == s) = false)) (hc : Hid (l.getD k zero = c)) (h : (c.1.toList == s) = false) :
    Hid (∀ i, i < k + 1 → ((l.getD i zero).1.toList == s) = false) := fun i hi => by
  by_cases e : i = k
  · subst e; rw [hc.out]; exact h
  · exact hno.out i (by omega)

theorem rfind_any (A : Option Addr) (n cap : Nat) (s : ByteArray) (l : List Cl) (w : World) (h : IsCl w A n cap l) (hn : n ≤ 65536) :
    Calls Try.prog 23 #[.slice A n cap, .string s] w fun e w' => e = .returned (.int .i64 (find l s.toList)) ∧ w = w' := by
  have hl := Lib.hid h.1
  go_enter Try.func23, Try.ntmps23
  go_wp2
  go_loop [5] (fun i => ∃ (k : Nat), k ≤ n ∧ i = .int .i64 k ∧ Hid (∀ i, i < k → ((l.getD i zero).1.toList == s.toList) = false)) (fun i => n - (intOf i).toNat)
  case atStart => exact ⟨0, by omega, rfl, fun i hi => absurd hi (by omega)⟩
  case round =>
    obtain ⟨k, hk, rfl, hno⟩ := hrel
    by_cases hkn : k < n
    · obtain ⟨b, o, rfl, hb, g0, g1, g2⟩ := h.cell hkn
      clear g2
      generalize hc : l.getD k zero = c at *
      have HC := Lib.hid hc; clear hc
      obtain ⟨c1, c2⟩ := c
      cases hs : (c1.toList == s.toList)
      · go_wp2
        go_round
        case rel => exact ⟨k + 1, by omega, by go_num, no_snoc hno HC hs⟩
        case measure => simp [intOf]; omega
      · go_wp2
        go_ret
        exact ⟨ret1 (find_some l _ k (by have := hl.out; omega) hno.out (by rw [HC.out]; exact hs)).symm, rfl⟩
    · obtain rfl : k = n := by omega
      go_wp2_with fail
      go_ret
      exact ⟨ret1 (find_none l _ (by rw [hl.out]; exact hno.out)).symm, rfl⟩

theorem idx_any (A : Option Addr) (n cap p : Nat) (s : ByteArray) (l : List Cl) (w : World) (h : IsCl w A n cap l) (hn : n ≤ 65536) (hp : w.cell? ⟨p, 0, none⟩ = some (.string s)) (hlt : p < w.heap.size) :
    Calls Try.prog 57 #[.slice A n cap, .func (.func 58) #[] #[.pointer (some ⟨p, 0, none⟩)]] w fun e w' => e = .returned (.int .i64 (find l s.toList)) ∧ Below w.heap.size w w' := by
  have hl := Lib.hid h.1
  have HP := Lib.hid hp; clear hp
  go_enter Try.func57, Try.ntmps57
  go_wp2
  go_loopw [8] (fun i wr => ∃ (k : Nat), k ≤ n ∧ i = .int .i64 k ∧ Hid (∀ i, i < k → ((l.getD i zero).1.toList == s.toList) = false) ∧ Below w.heap.size w wr) (fun i _ => n - (intOf i).toNat)
  case atStart => exact ⟨0, by omega, rfl, fun i hi => absurd hi (by omega), Below.refl _ _⟩
  case round =>
    obtain ⟨k, hk, rfl, hno, hbel⟩ := hrel
    have hsz := hbel.size
    have HPr := Lib.hid ((hbel.cell (p := ⟨p, 0, none⟩) hlt).trans HP.out)
    by_cases hkn : k < n
    · obtain ⟨b, o, rfl, hb, g0, g1, g2⟩ := (h.keep hbel).cell hkn
      clear g2
      generalize hc : l.getD k zero = c at *
      have HC := Lib.hid hc; clear hc
      obtain ⟨c1, c2⟩ := c
      cases hs : (c1.toList == s.toList)
      · go_wp2_with (go_at_call 58; refine (clo_any _ s _ _ _ HPr.out (by omega)).mono ?_; rintro e w' ⟨rfl, hb2⟩)
        go_roundw
        case rel => exact ⟨k + 1, by omega, by go_num, no_snoc hno HC hs, below_seq hbel (hb2.mono (by omega))⟩
        case measure => simp [intOf]; omega
      · go_wp2_with (go_at_call 58; refine (clo_any _ s _ _ _ HPr.out (by omega)).mono ?_; rintro e w' ⟨rfl, hb2⟩)
        go_ret
        exact ⟨ret1 (find_some l _ k (by have := hl.out; omega) hno.out (by rw [HC.out]; exact hs)).symm, below_seq hbel (hb2.mono (by omega))⟩
    · obtain rfl : k = n := by omega
      go_wp2_with fail
      go_ret
      exact ⟨ret1 (find_none l _ (by rw [hl.out]; exact hno.out)).symm, hbel⟩

theorem lfind_any (A : Option Addr) (n cap : Nat) (s : ByteArray) (l : List Cl) (w : World) (h : IsCl w A n cap l) (hn : n ≤ 65536) :
    Calls Try.prog 22 #[.slice A n cap, .string s] w fun e w' => e = .returned (.int .i64 (find l s.toList)) ∧ Below w.heap.size w w' := by
  have B : Below w.heap.size w (w.alloc (.cells #[.string s] 9)) := (Below.refl _ _).alloc (Nat.le_refl _) _
  have R := idx_any A n cap w.heap.size s l (w.alloc (.cells #[.string s] 9)) (h.keep B) hn (by simp) (by simp)
  have HR := Lib.hid R; clear R
  go_enter Try.func22, Try.ntmps22
  go_wp2_with fail
  refine HR.out.mono ?_
  rintro e w' ⟨rfl, hb⟩
  go_wp2_with fail
  go_ret
  exact ⟨rfl, below_seq B hb⟩
end Go.Proofs.Ytgadjmojebhlgaa.Lay
