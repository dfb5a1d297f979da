/-
  WALKS: the document's Right and Encode.
-/
import Derived.Test.YtkohichiojmakaaGEnc
import Derived.Test.YtkohichiojmakaaGForm
import Derived.Test.YtkohichiojmakaaFieldRefs
namespace Go.Proofs.Ytkohichiojmakaa.A64Q
set_option linter.unusedVariables false
set_option linter.unusedSimpArgs false
open Go.RowKit Cm Mm Ow A64 Fld FldW FldR A64W A64P A64C A64T A64R A64E A64F

theorem rpfits_any (v : Int) (n : Nat) (w : World) (hv : i64b v) (hn : n ≤ 32) : Calls Try.prog 71 #[.int .i64 v, .int .i64 (n : Int)] w fun e w' => e = .returned (.bool (fits v n)) ∧ w = w' := by
  have := rfits_any v (n : Int) w hv.1 hv.2
  rwa [show cn 0 (n : Int) = n by unfold cn; omega] at this
theorem rpfitsS_any (v : Int) (n : Nat) (w : World) (hv : i64b v) (hn : n ≤ 32) : Calls Try.prog 72 #[.int .i64 v, .int .i64 (n : Int)] w fun e w' => e = .returned (.bool (fitsS v n)) ∧ w = w' := by
  have := rfitsSigned_any v (n : Int) w hv.1 hv.2
  rwa [show cn 0 (n : Int) = n by unfold cn; omega] at this
theorem formOf_at (f : Fm) (kd : Int) (k : Nat) (w : World) (h : k < 24) (hk : kd = k) (hf : form k = f) : Calls Try.prog 63 #[.int .i64 kd] w fun e w' => e = .returned (.tuple #[.agg #[.int .u32 (f.word.toNat : Int), .int .i64 (f.d.1 : Nat), .int .i64 (f.d.2 : Nat), .int .i64 (f.a.1 : Nat), .int .i64 (f.a.2 : Nat), .int .i64 (f.b.1 : Nat), .int .i64 (f.b.2 : Nat), .int .i64 (f.s.1 : Nat), .int .i64 (f.s.2 : Nat), .int .i64 (f.n.1 : Nat), .int .i64 (f.n.2 : Nat), .int .i64 (f.c.1 : Nat), .int .i64 (f.c.2 : Nat), .bool f.signed, .bool f.turned], .bool true]) ∧ Below w.heap.size w w' := by
  subst hk hf
  exact formOf_some k w h
theorem formOf_no (k : Int) (w : World) (h : ¬ (0 ≤ k ∧ k < 24)) : Calls Try.prog 63 #[.int .i64 k] w fun e w' => e = .returned (.tuple #[.agg #[.int .u32 0, .int .i64 0, .int .i64 0, .int .i64 0, .int .i64 0, .int .i64 0, .int .i64 0, .int .i64 0, .int .i64 0, .int .i64 0, .int .i64 0, .int .i64 0, .int .i64 0, .bool false, .bool false], .bool false]) ∧ Below w.heap.size w w' := formOf_none k w h

set_option maxRecDepth 20000 in
set_option maxHeartbeats 6400000 in
theorem rright_any (i : In) (w : World) (hi : okIn i) :
    Calls Try.prog 52 #[.agg #[.int .i64 i.kind, .int .i64 i.d, .int .i64 i.a, .int .i64 i.b, .int .i64 i.s, .int .i64 i.c, .int .i64 i.n]] w fun e w' => e = .returned (.bool (right i)) ∧ Below w.heap.size w w' := by
  obtain ⟨W, hW⟩ : ∃ W, W = w.alloc (.cells #[.int .i64 i.kind, .int .i64 i.d, .int .i64 i.a, .int .i64 i.b, .int .i64 i.s, .int .i64 i.c, .int .i64 i.n] 45) := ⟨_, rfl⟩
  have hB : Below w.heap.size w W := by rw [hW]; exact (Below.refl _ _).alloc (Nat.le_refl _) _
  have hV : Vi W w.heap.size i := by rw [hW]; exact vi_new _ _ _ _ rfl
  have HV := Lib.hid hV
  have HW := Lib.hid hW
  obtain ⟨q0, k1, k2, k3, k4, k5, k6⟩ := hi
  clear hV hW
  by_cases hk : 0 ≤ i.kind ∧ i.kind < 24
  · obtain ⟨k, hkk⟩ := Int.eq_ofNat_of_zero_le hk.1
    have hk24 : k < 24 := by omega
    have hr := right_of k i hk24 hkk
    have hg := good_all k hk24
    have FO := fun w => formOf_at (form k) i.kind k w hk24 hkk rfl
    generalize form k = f at *
    simp only [good, inside, Bool.and_eq_true, decide_eq_true_eq] at hg
    obtain ⟨⟨⟨⟨⟨⟨⟨⟨⟨⟨⟨l1, l2⟩, l3⟩, l4⟩, l5⟩, l6⟩, _⟩, _⟩, _⟩, _⟩, _⟩, ht⟩ := hg
    have F1 := Lib.hid fun w => rpfits_any i.d f.d.2 w k1 (by omega)
    have F2 := Lib.hid fun w => rpfits_any i.a f.a.2 w k2 (by omega)
    have F3 := Lib.hid fun w => rpfits_any i.b f.b.2 w k3 (by omega)
    have F4 := Lib.hid fun w => rpfits_any i.s f.s.2 w k4 (by omega)
    have F5 := Lib.hid fun w => rpfits_any i.n f.n.2 w k6 (by omega)
    have F6 := Lib.hid fun w => rpfitsS_any i.n f.n.2 w k6 (by omega)
    have RD : rightF f i = (fits i.d f.d.2 && fits i.a f.a.2 && fits i.b f.b.2 && fits i.s f.s.2 && (if f.signed then fitsS i.n f.n.2 else fits i.n f.n.2) && (if f.c.2 = 0 then i.c == 0 else cond i.c)) := rfl
    have RD := Lib.hid (hr.trans RD)
    have FO := Lib.hid FO
    clear k1 k2 k3 k4 k5 k6 l1 l2 l3 l4 l5 l6 ht hk hkk hr q0
    generalize fits i.d f.d.2 = b1 at *
    generalize fits i.a f.a.2 = b2 at *
    generalize fits i.b f.b.2 = b3 at *
    generalize fits i.s f.s.2 = b4 at *
    generalize fits i.n f.n.2 = b5 at *
    generalize fitsS i.n f.n.2 = b6 at *
    go_enter Try.func52, Try.ntmps52
    go_wp2_with fail
    rw [← HW.out]
    refine (FO.out _).mono ?_
    rintro e w2 ⟨rfl, hb2⟩
    obtain ⟨c0, c1, c2, c3, c4, c5, c6⟩ := (HV.out.keep hb2).cells
    have hlt := (HV.out.keep hb2).lt
    go_wp2_with (first
      | (with_reducible (refine (F1.out _).mono ?_); rintro e w' ⟨rfl, rfl⟩)
      | (with_reducible (refine (F2.out _).mono ?_); rintro e w' ⟨rfl, rfl⟩)
      | (with_reducible (refine (F3.out _).mono ?_); rintro e w' ⟨rfl, rfl⟩)
      | (with_reducible (refine (F4.out _).mono ?_); rintro e w' ⟨rfl, rfl⟩)
      | (with_reducible (refine (F5.out _).mono ?_); rintro e w' ⟨rfl, rfl⟩)
      | (with_reducible (refine (F6.out _).mono ?_); rintro e w' ⟨rfl, rfl⟩))
    all_goals go_ret
    all_goals refine ⟨retb ?_, (hB.trans (hb2.mono hB.size)).trans (((Below.refl _ _).alloc (Nat.le_refl _) _).mono (Nat.le_trans hB.size hb2.size))⟩
    all_goals rw [RD.out]
    all_goals clear RD F1 F2 F3 F4 F5 F6 FO HV HW
    all_goals first | (simp_all [A64.cond]; done) | (simp_all [A64.cond]; omega)
  · have hr : right i = false := by unfold right; rw [decide_eq_false hk]; rfl
    have hr := Lib.hid hr
    have FO := Lib.hid fun w => formOf_no i.kind w hk
    clear hk k1 k2 k3 k4 k5 k6 q0
    go_enter Try.func52, Try.ntmps52
    go_wp2_with fail
    rw [← HW.out]
    refine (FO.out _).mono ?_
    rintro e w2 ⟨rfl, hb2⟩
    go_wp2_with fail
    go_ret
    exact ⟨by rw [hr.out]; rfl, (hB.trans (hb2.mono hB.size)).trans (((Below.refl _ _).alloc (Nat.le_refl _) _).mono (Nat.le_trans hB.size hb2.size))⟩
end Go.Proofs.Ytkohichiojmakaa.A64Q
