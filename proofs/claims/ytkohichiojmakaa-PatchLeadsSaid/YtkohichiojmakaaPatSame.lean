/-
  WALKS: two lists of instructions compared, by the document (chapter 19).
-/
import Derived.Test.YtkohichiojmakaaInWalks
namespace Go.Proofs.Ytkohichiojmakaa.PatE
set_option linter.unusedVariables false
set_option linter.unusedSimpArgs false
open Go.RowKit Cm Mm Ow A64 A64W Pat InW

set_option maxHeartbeats 1600000 in
theorem same_any (A A' : Option Addr) (n c c' : Nat) (l : List In) (w : World) (h : IsIn w A n c l) (h' : IsIn w A' n c' l) (hn : n ≤ 65536) :
    Calls Try.prog 29 #[.slice A n c, .slice A' n c'] w fun e w' => e = .returned (.bool true) ∧ Below w.heap.size w w' := by
  have hS := Lib.hid h
  have hS' := Lib.hid h'
  clear h h'
  go_enter Try.func29, Try.ntmps29
  go_wp2
  go_loopw [5] (fun i wr => ∃ (k : Nat), k ≤ n ∧ i = .int .i64 k ∧ Below w.heap.size w wr) (fun i _ => n - (intOf i).toNat)
  case atStart => exact ⟨0, by omega, rfl, Below.refl _ _⟩
  case round =>
    obtain ⟨k, hk, rfl, hbel⟩ := hrel
    by_cases hkn : k < n
    · obtain ⟨b, o, rfl, hb, s0, s1, s2, s3, s4, s5, s6⟩ := (hS.out.keep hbel).cell (k := k) hkn
      obtain ⟨b', o', rfl, hb', r0, r1, r2, r3, r4, r5, r6⟩ := (hS'.out.keep hbel).cell (k := k) hkn
      generalize l.getD k zeroIn = s at *
      go_wp2
      go_quiet (fail)
      go_wp2
      go_roundw
      case rel => exact ⟨k + 1, by omega, by go_num, below_drewN hbel _⟩
      case measure => simp [intOf]; omega
    · obtain rfl : k = n := by omega
      go_wp2
      go_ret
      exact ⟨rfl, hbel⟩
theorem different_any (A A' : Option Addr) (n n' c c' : Nat) (w : World) (h : n ≠ n') :
    Calls Try.prog 29 #[.slice A n c, .slice A' n' c'] w fun e w' => e = .returned (.bool false) ∧ w = w' := by
  have h2 : ¬ (n : Int) = n' := by omega
  go_enter Try.func29, Try.ntmps29
  go_wp2
  go_ret
  exact ⟨rfl, rfl⟩
end Go.Proofs.Ytkohichiojmakaa.PatE
