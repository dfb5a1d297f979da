/-
  WALKS: packages flush and elide and the reference's functions of chapters 15 and 16, each once.
-/
import Derived.Test.YtapnnbbbgopobaaProg
import Derived.Test.YtapnnbbbgopobaaG01
import Derived.IntWalk
set_option linter.unusedVariables false
set_option linter.unusedSimpArgs false
namespace Go.Proofs.Ytapnnbbbgopobaa.StW
open Go.RowKit Cm Mm Ow Stp
def i64b (x : Int) : Prop := -9223372036854775808 ≤ x ∧ x ≤ 9223372036854775807
def stL (s : St) : List Value := [.int .i64 s.kind, .int .i64 s.d, .int .i64 s.a, .int .i64 s.b, .int .i64 s.c, .int .i64 s.to, .int .i64 s.cell, .int .u64 s.n, .int .u8 s.op]
def IsSt (w : World) (A : Option Addr) (n cap : Nat) (l : List St) : Prop := l.length = n ∧ Sl w A n cap 9 (fun i => stL (l.getD i zeroSt))
theorem IsSt.keep {w w' : World} {A : Option Addr} {n cap : Nat} {l : List St} (h : IsSt w A n cap l) (hb : Below w.heap.size w w') : IsSt w' A n cap l := ⟨h.1, h.2.keep hb⟩
theorem IsSt.cell {w : World} {A : Option Addr} {n cap : Nat} {l : List St} (h : IsSt w A n cap l) {k : Nat} (hk : k < n) :
    ∃ b o, A = some ⟨b, o, none⟩ ∧ b < w.heap.size ∧ w.cell? ⟨b, o + k * 9, none⟩ = some (.int .i64 (l.getD k zeroSt).kind) ∧ w.cell? ⟨b, o + k * 9 + 1, none⟩ = some (.int .i64 (l.getD k zeroSt).d) ∧ w.cell? ⟨b, o + k * 9 + 2, none⟩ = some (.int .i64 (l.getD k zeroSt).a) ∧
      w.cell? ⟨b, o + k * 9 + 3, none⟩ = some (.int .i64 (l.getD k zeroSt).b) ∧ w.cell? ⟨b, o + k * 9 + 4, none⟩ = some (.int .i64 (l.getD k zeroSt).c) ∧ w.cell? ⟨b, o + k * 9 + 5, none⟩ = some (.int .i64 (l.getD k zeroSt).to) ∧ w.cell? ⟨b, o + k * 9 + 6, none⟩ = some (.int .i64 (l.getD k zeroSt).cell) ∧
      w.cell? ⟨b, o + k * 9 + 7, none⟩ = some (.int .u64 (l.getD k zeroSt).n) ∧ w.cell? ⟨b, o + k * 9 + 8, none⟩ = some (.int .u8 (l.getD k zeroSt).op) := by
  obtain ⟨b, o, e, hb, hc⟩ := h.2.at_ (by omega)
  refine ⟨b, o, e, hb, ?_⟩
  exact ⟨by simpa [stL] using hc k hk 0 (by omega), by simpa [stL, Nat.add_assoc] using hc k hk 1 (by omega), by simpa [stL, Nat.add_assoc] using hc k hk 2 (by omega), by simpa [stL, Nat.add_assoc] using hc k hk 3 (by omega), by simpa [stL, Nat.add_assoc] using hc k hk 4 (by omega),
    by simpa [stL, Nat.add_assoc] using hc k hk 5 (by omega), by simpa [stL, Nat.add_assoc] using hc k hk 6 (by omega), by simpa [stL, Nat.add_assoc] using hc k hk 7 (by omega), by simpa [stL, Nat.add_assoc] using hc k hk 8 (by omega)⟩
theorem isSt_own {w : World} {B : Nat} {A : Option Addr} {n c : Nat} {l : List St} (h : Own w B 55 9 A n c (l.map stL)) : IsSt w A n c l := by
  have hl : l.length = n := by simpa using h.len
  refine ⟨hl, h.sl.ext fun i hi => ?_⟩
  simp [List.getD, show i < l.length by omega]
theorem elSt : El Try.prog 32 55 9 72 := by
  obtain ⟨i, h1, h2, h3, h4⟩ := info_parts (P := Try.prog) (e := 55) (z := .agg #[.int .i64 0, .int .i64 0, .int .i64 0, .int .i64 0, .int .i64 0, .int .i64 0, .int .i64 0, .int .u64 0, .int .u8 0]) (size := 9) (bytes := 72) (by kernel_rfl)
  exact ⟨Try.underlying32, ⟨i, _, h1, h2, h3, h4, rfl⟩, by decide⟩
theorem st_one (s : St) : ∀ u ∈ stL s, u.oneCell' = true := fun u hu => by
  simp only [stL, List.mem_cons, List.mem_nil_iff, or_false] at hu
  rcases hu with rfl | rfl | rfl | rfl | rfl | rfl | rfl | rfl | rfl <;> rfl
theorem raccess_any (k : Int) (w : World) : Calls Try.prog 31 #[.int .i64 k] w fun e w' => e = .returned (.bool (k == 3 || k == 4 || k == 5)) ∧ w = w' := by
  obtain h | h | h | ⟨h1, h2, h3⟩ : k = 3 ∨ k = 4 ∨ k = 5 ∨ (¬ k = 3 ∧ ¬ k = 4 ∧ ¬ k = 5) := by omega
  · subst h
    go_enter Try.func31, Try.ntmps31
    go_wp2
    go_ret
    exact ⟨rfl, rfl⟩
  · subst h
    go_enter Try.func31, Try.ntmps31
    go_wp2
    go_ret
    exact ⟨rfl, rfl⟩
  · subst h
    go_enter Try.func31, Try.ntmps31
    go_wp2
    go_ret
    exact ⟨rfl, rfl⟩
  · go_enter Try.func31, Try.ntmps31
    go_wp2
    go_ret
    exact ⟨retb (by simp [h1, h2, h3]), rfl⟩
set_option maxHeartbeats 1600000 in
theorem flushed_any (A : Option Addr) (n cap k : Nat) (l : List St) (w : World) (h : IsSt w A n cap l) (hn : n ≤ 65536) (hk : k < n) :
    Calls Try.prog 33 #[.slice A n cap, .int .i64 (k : Int)] w fun e w' => e = .returned (.bool (flw l k)) ∧ Below w.heap.size w w' := by
  have hl := h.1
  by_cases h2 : k + 2 < n
  · have e : flw l k = ((l.getD (k + 1) zeroSt).kind == 6 && (l.getD (k + 1) zeroSt).a == (l.getD k zeroSt).a && (l.getD (k + 1) zeroSt).cell == (l.getD k zeroSt).cell && (l.getD (k + 2) zeroSt).kind == 7) := by
      unfold flw flw3; rw [decide_eq_true (by omega)]; rfl
    have E := Lib.hid e; clear e hl
    obtain ⟨b, o, rfl, hb, s0, s1, s2, s3, s4, s5, s6, s7, s8⟩ := h.cell (k := k) (by omega)
    obtain ⟨b', o', e', _, f0, f1, f2, f3, f4, f5, f6, f7, f8⟩ := h.cell (k := k + 1) (by omega)
    obtain ⟨b'', o'', e'', _, y0, _⟩ := h.cell (k := k + 2) (by omega)
    simp only [Option.some.injEq, Addr.mk.injEq, and_true] at e' e''
    obtain ⟨rfl, rfl⟩ := e'
    obtain ⟨rfl, rfl⟩ := e''
    generalize l.getD k zeroSt = s at *
    generalize l.getD (k + 1) zeroSt = f at *
    generalize l.getD (k + 2) zeroSt = y at *
    clear h
    have i1 : (0 : Int) ≤ (k : Int) + 1 := by omega
    have i2 : ((k : Int) + 1).toNat = k + 1 := by omega
    have i3 : (0 : Int) ≤ (k : Int) + 2 := by omega
    have i4 : ((k : Int) + 2).toNat = k + 2 := by omega
    have i5 : (k : Int) + 1 < n := by omega
    have i6 : (k : Int) + 2 < n := by omega
    have j1 : IntKind.i64.wrap ((k : Int) + 1) = (k : Int) + 1 := IntWalk.i64_in _ ⟨by omega, by omega⟩
    have j2 : IntKind.i64.wrap ((k : Int) + 2) = (k : Int) + 2 := IntWalk.i64_in _ ⟨by omega, by omega⟩
    cases b1 : (f.kind == 6) <;> cases b2 : (f.a == s.a) <;> cases b3 : (f.cell == s.cell) <;> cases b4 : (y.kind == 7)
    all_goals
      rw [b1, b2, b3, b4] at E
      go_enter Try.func33, Try.ntmps33
      go_wp2
      go_quiet (fail)
      go_wp2
      go_ret
      exact ⟨by rw [E.out]; rfl, below_drawn _ _⟩
  · have e : flw l k = false := by unfold flw; rw [decide_eq_false (by omega)]; rfl
    have E := Lib.hid e; clear e
    have i3 : ¬ (k : Int) + 2 < n := by omega
    have j2 : IntKind.i64.wrap ((k : Int) + 2) = (k : Int) + 2 := IntWalk.i64_in _ ⟨by omega, by omega⟩
    have hd : decide ((k : Int) + 2 < n) = false := by simp; omega
    go_enter Try.func33, Try.ntmps33
    go_wp2
    go_quiet (fail)
    go_wp2
    go_ret
    exact ⟨by rw [E.out]; rfl, below_drawn _ _⟩
def GaveC (w : World) (x y : Int) (L : List St) (e : Ending) (w' : World) : Prop :=
  ∃ A m c, e = .returned (.agg #[.int .i64 x, .int .i64 y, .slice A m c]) ∧ Own w' w.heap.size 55 9 A m c (L.map stL) ∧ Below w.heap.size w w'
theorem st_each (l : List St) : ∀ y ∈ l.map stL, y.length = 9 := fun y hy => by
  obtain ⟨s, _, rfl⟩ := List.mem_map.1 hy; rfl
theorem st_ones (l : List St) : ∀ y ∈ l.map stL, ∀ u ∈ y, u.oneCell' = true := fun y hy => by
  obtain ⟨s, _, rfl⟩ := List.mem_map.1 hy; exact st_one s
end Go.Proofs.Ytapnnbbbgopobaa.StW
