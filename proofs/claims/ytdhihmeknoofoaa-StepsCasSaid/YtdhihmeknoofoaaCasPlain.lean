/-
  PLAIN: what the code of StepsCas does, step by step.
-/
import Derived.Test.YtdhihmeknoofoaaStepsAlive
namespace Go.Proofs.Ytdhihmeknoofoaa.Pz
set_option linter.unusedVariables false
set_option linter.unusedSimpArgs false
open Go.RowKit Stp Rm Sp Sd Sx Sr

def casC (ad was want to : Int) : List St := [⟨0, 1, 0, 0, 0, 0, 0, ad, 0⟩, ⟨0, 2, 0, 0, 0, 0, 0, was, 0⟩, ⟨0, 3, 0, 0, 0, 0, 0, want, 0⟩, ⟨0, 4, 0, 0, 0, 0, 0, to, 0⟩, ⟨4, 0, 1, 2, 0, 0, 0, 0, 0⟩, ⟨5, 5, 1, 3, 4, 0, 0, 0, 0⟩, ⟨8, 0, 5, 0, 0, 0, 0, 0, 0⟩, ⟨3, 5, 1, 0, 0, 0, 0, 0, 0⟩, ⟨8, 0, 5, 0, 0, 0, 0, 0, 0⟩]
def casB (ad was want to : Int) : List Ln := [⟨casC ad was want to, freshV 6, 0, false⟩]
def casM (ad was want to : Int) : Nat → Mch Ln
  | 0 => ⟨some ⟨[], freshV 0, 0, false⟩, [], zeros (words 3), []⟩
  | k + 1 => (stepM goL (casB ad was want to) (casM ad was want to k) 0).2
def casR (ad was want to : Int) (k : Nat) : Nat := (stepM goL (casB ad was want to) (casM ad was want to k) 0).1
set_option maxRecDepth 100000 in
theorem cas_r (n was want to : Int) (h : -3 ≤ n ∧ n ≤ 5) : casR (4096 + 8 * n) was want to 0 = 0 ∧ casR (4096 + 8 * n) was want to 1 = 0 ∧ casR (4096 + 8 * n) was want to 2 = 0 ∧ casR (4096 + 8 * n) was want to 3 = 0 ∧ casR (4096 + 8 * n) was want to 4 = 0 ∧ casR (4096 + 8 * n) was want to 5 = 1 := by
  obtain rfl | rfl | rfl | rfl | rfl | rfl | rfl | rfl | rfl : n = -3 ∨ n = -2 ∨ n = -1 ∨ n = 0 ∨ n = 1 ∨ n = 2 ∨ n = 3 ∨ n = 4 ∨ n = 5 := by omega
  all_goals exact ⟨by kernel_rfl, by kernel_rfl, by kernel_rfl, by kernel_rfl, by kernel_rfl, by kernel_rfl⟩
set_option maxRecDepth 100000 in
theorem cas_out (n was want to : Int) (h : -3 ≤ n ∧ n ≤ 5) : (casM (4096 + 8 * n) was want to 0).out.length = 0 ∧ (casM (4096 + 8 * n) was want to 1).out.length = 0 ∧ (casM (4096 + 8 * n) was want to 2).out.length = 0 ∧ (casM (4096 + 8 * n) was want to 3).out.length = 1 ∧ (casM (4096 + 8 * n) was want to 4).out.length = 1 := by
  obtain rfl | rfl | rfl | rfl | rfl | rfl | rfl | rfl | rfl : n = -3 ∨ n = -2 ∨ n = -1 ∨ n = 0 ∨ n = 1 ∨ n = 2 ∨ n = 3 ∨ n = 4 ∨ n = 5 := by omega
  all_goals exact ⟨by kernel_rfl, by kernel_rfl, by kernel_rfl, by kernel_rfl, by kernel_rfl⟩
set_option maxRecDepth 100000 in
theorem cas_far (n was want to : Int) (h : -3 ≤ n ∧ n ≤ 5) (h2 : n < 0 ∨ 2 < n) : (casM (4096 + 8 * n) was want to 5).out = [0, 0] := by
  obtain rfl | rfl | rfl | rfl | rfl | rfl : n = -3 ∨ n = -2 ∨ n = -1 ∨ n = 3 ∨ n = 4 ∨ n = 5 := by omega
  all_goals kernel_rfl
theorem cas_3 (ad was want to : Int) (m : Mch Ln) (h : casM ad was want to 2 = m) : casM ad was want to 5 = (stepM goL (casB ad was want to) (stepM goL (casB ad was want to) (stepM goL (casB ad was want to) m 0).2 0).2 0).2 := by rw [← h]; rfl
set_option maxRecDepth 100000 in
theorem cas_near (n was want to : Int) (h : 0 ≤ n ∧ n ≤ 2) : (casM (4096 + 8 * n) was want to 5).out = [bitV (was == want), if (was == want) = true then to else was] := by
  obtain rfl | rfl | rfl : n = 0 ∨ n = 1 ∨ n = 2 := by omega
  · have e := cas_3 (4096 + 8 * 0) was want to ⟨none, [⟨casC (4096 + 8 * 0) was want to, [0, 4096 + 8 * 0, was, want, to, bitV (was == want)], 6, false⟩], if (was == want) = true then [to, 0, 0] else [was, 0, 0], []⟩ (by kernel_rfl)
    rw [e]
    generalize (was == want) = b
    cases b
    · show _ = _
      kernel_rfl
    · show _ = _
      kernel_rfl
  · have e := cas_3 (4096 + 8 * 1) was want to ⟨none, [⟨casC (4096 + 8 * 1) was want to, [0, 4096 + 8 * 1, was, want, to, bitV (was == want)], 6, false⟩], if (was == want) = true then [0, to, 0] else [0, was, 0], []⟩ (by kernel_rfl)
    rw [e]
    generalize (was == want) = b
    cases b
    · show _ = _
      kernel_rfl
    · show _ = _
      kernel_rfl
  · have e := cas_3 (4096 + 8 * 2) was want to ⟨none, [⟨casC (4096 + 8 * 2) was want to, [0, 4096 + 8 * 2, was, want, to, bitV (was == want)], 6, false⟩], if (was == want) = true then [0, 0, to] else [0, 0, was], []⟩ (by kernel_rfl)
    rw [e]
    generalize (was == want) = b
    cases b
    · show _ = _
      kernel_rfl
    · show _ = _
      kernel_rfl
end Go.Proofs.Ytdhihmeknoofoaa.Pz
