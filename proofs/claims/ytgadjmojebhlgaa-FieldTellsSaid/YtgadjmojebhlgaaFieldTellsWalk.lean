/-
  WALK: the law FieldTells.
-/
import Derived.Test.YtgadjmojebhlgaaFieldLawWalks
namespace Go.Proofs.Ytgadjmojebhlgaa.FldTells
set_option linter.unusedVariables false
set_option linter.unusedSimpArgs false
open Go.RowKit Cm Fld FldW FldR FldL

set_option maxHeartbeats 800000 in
theorem walk (a0 a1 a2 a3 : Int) (w : World) (w0 : (Lit.int .u32 a0).wf = true) (w1 : (Lit.int .i64 a1).wf = true) (w2 : (Lit.int .i64 a2).wf = true) (w3 : (Lit.int .i64 a3).wf = true) :
    Calls Try.prog 7 #[.int .u32 a0, .int .i64 a1, .int .i64 a2, .int .i64 a3] w fun e w' => e = .returned (.bool true) ∧ Below w.heap.size w w' := by
  obtain ⟨W, rfl⟩ := w32_word w0
  obtain ⟨l1, u1⟩ := i64_bounds w1
  obtain ⟨l2, u2⟩ := i64_bounds w2
  obtain ⟨l3, u3⟩ := i64_bounds w3
  clear w0 w1 w2 w3
  go_enter Try.func7, Try.ntmps7
  go_wp2_with (first
    | (go_at_call 15; refine (alive_any _).mono ?_; rintro e w' ⟨rfl, m1, rfl⟩)
    | (go_at_call 17; refine (get_any _ W _ _ _ rfl l1 u1 l2 u2).mono ?_; rintro e w' ⟨rfl, m2, rfl⟩)
    | (go_at_call 26; refine (rget_any _ W _ _ _ rfl l1 u1 l2 u2).mono ?_; rintro e w' ⟨rfl, rfl⟩)
    | (go_at_call 27; refine (signed_any _ W _ _ _ rfl l1 u1 l2 u2).mono ?_; rintro e w' ⟨rfl, m3, rfl⟩)
    | (go_at_call 28; refine (rsigned_any _ W _ _ _ rfl l1 u1 l2 u2).mono ?_; rintro e w' ⟨rfl, rfl⟩)
    | (go_at_call 16; refine (put_any _ W _ _ _ _ rfl l1 u1 l2 u2).mono ?_; rintro e w' ⟨rfl, rfl⟩)
    | (go_at_call 29; refine (rput_any _ W _ _ _ _ rfl l1 u1 l2 u2).mono ?_; rintro e w' ⟨rfl, rfl⟩)
    | (go_at_call 30; refine (fits_any _ _ _ l3 u3 l2 u2).mono ?_; rintro e w' ⟨rfl, rfl⟩)
    | (go_at_call 31; refine (rfits_any _ _ _ l3 u3).mono ?_; rintro e w' ⟨rfl, rfl⟩)
    | (go_at_call 32; refine (fitsSigned_any _ _ _ l3 u3 l2 u2).mono ?_; rintro e w' ⟨rfl, rfl⟩)
    | (go_at_call 33; refine (rfitsSigned_any _ _ _ l3 u3).mono ?_; rintro e w' ⟨rfl, rfl⟩))
  go_ret
  exact ⟨rfl, below_drewN _ _⟩
end Go.Proofs.Ytgadjmojebhlgaa.FldTells
