/-
  WALKS: package a64: condition, put, and a form's right.
-/
import Derived.Test.YtkohichiojmakaaA64Walks
namespace Go.Proofs.Ytkohichiojmakaa.A64P
set_option linter.unusedVariables false
set_option linter.unusedSimpArgs false
open Go.RowKit Cm Mm A64 Fld FldW A64W

theorem condition_any (c : Int) (w : World) : Calls Try.prog 102 #[.int .i64 c] w fun e w' => e = .returned (.bool (cond c)) ∧ w = w' := by
  obtain h | h | h | h | ⟨h1, h2, h3, h4⟩ : c = 0 ∨ c = 1 ∨ c = 11 ∨ c = 10 ∨ (¬ c = 0 ∧ ¬ c = 1 ∧ ¬ c = 11 ∧ ¬ c = 10) := by omega
  · subst h
    go_enter Try.func102, Try.ntmps102
    go_wp2
    go_ret
    exact ⟨rfl, rfl⟩
  · subst h
    go_enter Try.func102, Try.ntmps102
    go_wp2
    go_ret
    exact ⟨rfl, rfl⟩
  · subst h
    go_enter Try.func102, Try.ntmps102
    go_wp2
    go_ret
    exact ⟨rfl, rfl⟩
  · subst h
    go_enter Try.func102, Try.ntmps102
    go_wp2
    go_ret
    exact ⟨rfl, rfl⟩
  · go_enter Try.func102, Try.ntmps102
    go_wp2
    go_ret
    exact ⟨rfl, rfl⟩

theorem putx_any (x : Int) (W : BitVec 32) (a n : Nat) (v : Int) (w : World) (hx : x = W.toNat) (h : a + n ≤ 32) :
    Calls Try.prog 103 #[.int .u32 x, .agg #[.int .i64 (a : Nat), .int .i64 (n : Nat)], .int .i64 v] w fun e w' => e = .returned (.int .u32 ((putF W (a, n) v).toNat : Int)) ∧ Below w.heap.size w w' := by
  subst hx
  by_cases h0 : n = 0
  · subst h0
    have e : putF W (a, 0) v = W := put_zero _ _ _
    have E := Lib.hid e; clear e
    go_enter Try.func103, Try.ntmps103
    go_wp2
    go_ret
    exact ⟨ret1 (by rw [E.out]), by go_grown⟩
  · have P : ∀ w, Calls Try.prog 109 #[.int .u32 (W.toNat : Int), .int .i64 (a : Int), .int .i64 (n : Int), .int .i64 v] w fun e w' => e = .returned (.int .u32 ((putF W (a, n) v).toNat : Int)) ∧ w = w' := fun w => by
      have := put_any (W.toNat : Int) W (a : Int) (n : Int) v w rfl (by omega) (by omega) (by omega) (by omega)
      rwa [ca_nat (by omega), cn_nat h] at this
    have HP := Lib.hid P; clear P
    go_enter Try.func103, Try.ntmps103
    go_wp2_with fail
    refine (HP.out _).mono ?_
    rintro e w' ⟨rfl, rfl⟩
    go_wp2_with fail
    go_ret
    exact ⟨rfl, by go_grown⟩

/-- an instruction's numbers are integers of 64 bits -/
def i64b (x : Int) : Prop := -9223372036854775808 ≤ x ∧ x ≤ 9223372036854775807
def okIn (i : In) : Prop := i64b i.kind ∧ i64b i.d ∧ i64b i.a ∧ i64b i.b ∧ i64b i.s ∧ i64b i.c ∧ i64b i.n

theorem pfits_any (v : Int) (n : Nat) (w : World) (hv : i64b v) (hn : n ≤ 32) : Calls Try.prog 100 #[.int .i64 v, .int .i64 (n : Int)] w fun e w' => e = .returned (.bool (fits v n)) ∧ w = w' := by
  have := fits_any v (n : Int) w hv.1 hv.2 (by omega) (by omega)
  rwa [show cn 0 (n : Int) = n by unfold cn; omega] at this
theorem pfitsS_any (v : Int) (n : Nat) (w : World) (hv : i64b v) (hn : n ≤ 32) : Calls Try.prog 101 #[.int .i64 v, .int .i64 (n : Int)] w fun e w' => e = .returned (.bool (fitsS v n)) ∧ w = w' := by
  have := fitsSigned_any v (n : Int) w hv.1 hv.2 (by omega) (by omega)
  rwa [show cn 0 (n : Int) = n by unfold cn; omega] at this

set_option maxRecDepth 20000 in
set_option maxHeartbeats 3200000 in
theorem rightF_any (f : Fm) (i : In) (w : World) (hi : okIn i) (hg : good f = true) :
    Calls Try.prog 70 #[.agg (fmL f).toArray, .agg (insL i).toArray] w fun e w' => e = .returned (.bool (rightF f i)) ∧ Below w.heap.size w w' := by
  simp only [good, inside, Bool.and_eq_true, decide_eq_true_eq] at hg
  obtain ⟨⟨⟨⟨⟨⟨⟨⟨⟨⟨⟨l1, l2⟩, l3⟩, l4⟩, l5⟩, l6⟩, _⟩, _⟩, _⟩, _⟩, _⟩, ht⟩ := hg
  obtain ⟨_, k1, k2, k3, k4, k5, k6⟩ := hi
  have F1 := Lib.hid fun w => pfits_any i.d f.d.2 w k1 (by omega)
  have F2 := Lib.hid fun w => pfits_any i.a f.a.2 w k2 (by omega)
  have F3 := Lib.hid fun w => pfits_any i.b f.b.2 w k3 (by omega)
  have F4 := Lib.hid fun w => pfits_any i.s f.s.2 w k4 (by omega)
  have F5 := Lib.hid fun w => pfits_any i.n f.n.2 w k6 (by omega)
  have F6 := Lib.hid fun w => pfitsS_any i.n f.n.2 w k6 (by omega)
  have C := Lib.hid fun w => condition_any i.c w
  have RD : rightF f i = (fits i.d f.d.2 && fits i.a f.a.2 && fits i.b f.b.2 && fits i.s f.s.2 && (if f.signed then fitsS i.n f.n.2 else fits i.n f.n.2) && (if f.c.2 = 0 then i.c == 0 else cond i.c)) := rfl
  have RD := Lib.hid RD
  clear k1 k2 k3 k4 k5 k6 l1 l2 l3 l4 l5 l6 ht
  unfold fmL insL
  generalize fits i.d f.d.2 = b1 at *
  generalize fits i.a f.a.2 = b2 at *
  generalize fits i.b f.b.2 = b3 at *
  generalize fits i.s f.s.2 = b4 at *
  generalize fits i.n f.n.2 = b5 at *
  generalize fitsS i.n f.n.2 = b6 at *
  generalize cond i.c = b7 at *
  go_enter Try.func70, Try.ntmps70
  go_wp2_with (first
    | (with_reducible (refine (F1.out _).mono ?_); rintro e w' ⟨rfl, rfl⟩)
    | (with_reducible (refine (F2.out _).mono ?_); rintro e w' ⟨rfl, rfl⟩)
    | (with_reducible (refine (F3.out _).mono ?_); rintro e w' ⟨rfl, rfl⟩)
    | (with_reducible (refine (F4.out _).mono ?_); rintro e w' ⟨rfl, rfl⟩)
    | (with_reducible (refine (F5.out _).mono ?_); rintro e w' ⟨rfl, rfl⟩)
    | (with_reducible (refine (F6.out _).mono ?_); rintro e w' ⟨rfl, rfl⟩)
    | (with_reducible (refine (C.out _).mono ?_); rintro e w' ⟨rfl, rfl⟩))
  all_goals go_ret
  all_goals refine ⟨retb ?_, by go_grown⟩
  all_goals rw [RD.out]
  all_goals clear RD F1 F2 F3 F4 F5 F6 C
  all_goals first | (simp_all; done) | (simp_all; omega)
end Go.Proofs.Ytkohichiojmakaa.A64P
