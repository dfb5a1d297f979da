/-
  PLAIN: what the code of StepsJump does, for each of the few numbers that it may have.
-/
import Derived.Test.YtdhihmeknoofoaaStepsAlive
namespace Go.Proofs.Ytdhihmeknoofoaa.Pz
set_option linter.unusedVariables false
set_option linter.unusedSimpArgs false
open Go.RowKit Stp Rm Sp Sd Sx Sr

def jmpA (n : Nat) : List St := (List.range n).map fun (i : Nat) => ⟨0, (i : Int) + 1, 0, 0, 0, 0, 0, i, 0⟩
def jmpB (n : Nat) : List St := ((List.range n).map fun (i : Nat) => [(⟨9, 0, 0, 0, 0, i, 0, 0, 0⟩ : St), ⟨8, 0, (i : Int) + 1, 0, 0, 0, 0, 0, 0⟩]).flatten
def jmpS (k to : Int) : St := ⟨k, 0, 0, 0, 0, to, 0, 0, 0⟩
def jmpC (n : Nat) (k to : Int) : List St := jmpA n ++ [jmpS k to] ++ jmpB n
def jmpG (n : Nat) (k to : Int) : List Ln := [⟨jmpC n k to, freshV 30, 0, false⟩]
def jmpM (n : Nat) (k to : Int) : Nat → Mch Ln
  | 0 => ⟨some ⟨[], freshV 0, 0, false⟩, [], zeros (words 0), []⟩
  | j + 1 => (stepM goL (jmpG n k to) (jmpM n k to j) 0).2
def jmpWant (n to : Nat) : List Int := if n ≤ to then [] else (List.range (n - to)).map fun (i : Nat) => ((to + i : Nat) : Int)
/-- all at once, so that each state is reckoned once -/
def jmpRun (n : Nat) (k to : Int) : Nat → Mch Ln → Bool × Mch Ln
  | 0, m => (true, m)
  | j + 1, m => let r := stepM goL (jmpG n k to) m 0; if r.1 ≠ 2 ∧ r.2.out.length ≤ 21 ∧ r.2.l.length ≤ 1 then jmpRun n k to j r.2 else (false, m)
def jmpOk (n to : Nat) (k : Int) : Bool :=
  let r := jmpRun n k to (n + 1) (jmpM n k to 0)
  r.1 && (r.2.out == jmpWant n to) && r.2.rc.isNone && (r.2.l.all (·.en))
set_option maxRecDepth 100000 in
theorem jmp_all : ∀ n, n < 21 → ∀ to, to < 26 → n = 0 ∨ (jmpOk n to 10 = true ∧ jmpOk n to 11 = true) := by decide +kernel
/-- .. state by state -/
theorem jmpRun_M (n : Nat) (k to : Int) : ∀ (j i : Nat), (jmpRun n k to j (jmpM n k to i)).1 = true → (jmpRun n k to j (jmpM n k to i)).2 = jmpM n k to (i + j) ∧ ∀ e, e < j → (stepM goL (jmpG n k to) (jmpM n k to (i + e)) 0).1 ≠ 2 ∧ (jmpM n k to (i + e + 1)).out.length ≤ 21 ∧ (jmpM n k to (i + e + 1)).l.length ≤ 1
  | 0, i, _ => ⟨rfl, fun e he => absurd he (by omega)⟩
  | j + 1, i, h => by
    have e0 : jmpRun n k to (j + 1) (jmpM n k to i) = if (stepM goL (jmpG n k to) (jmpM n k to i) 0).1 ≠ 2 ∧ (jmpM n k to (i + 1)).out.length ≤ 21 ∧ (jmpM n k to (i + 1)).l.length ≤ 1 then jmpRun n k to j (jmpM n k to (i + 1)) else (false, jmpM n k to i) := rfl
    rw [e0] at h ⊢
    by_cases hc : (stepM goL (jmpG n k to) (jmpM n k to i) 0).1 ≠ 2 ∧ (jmpM n k to (i + 1)).out.length ≤ 21 ∧ (jmpM n k to (i + 1)).l.length ≤ 1
    · rw [if_pos hc] at h ⊢
      obtain ⟨i1, i2⟩ := jmpRun_M n k to j (i + 1) h
      refine ⟨by rw [i1]; congr 1; omega, fun e he => ?_⟩
      cases e with
      | zero => exact hc
      | succ e =>
        have := i2 e (by omega)
        rw [show i + 1 + e = i + (e + 1) by omega] at this
        exact this
    · rw [if_neg hc] at h; cases h
structure JmpSaid (n to : Nat) (k : Int) : Prop where
  ne : ∀ e, e < n + 1 → (stepM goL (jmpG n k to) (jmpM n k to e) 0).1 ≠ 2
  out : ∀ e, e ≤ n + 1 → (jmpM n k to e).out.length ≤ 21
  l : (jmpM n k to (n + 1)).l.length ≤ 1
  want : (jmpM n k to (n + 1)).out = jmpWant n to
  done : (jmpM n k to (n + 1)).rc.isNone = true ∧ ((jmpM n k to (n + 1)).l.all (·.en)) = true
theorem jmp_said {n to : Nat} {k : Int} (h1 : 1 ≤ n) (h2 : n ≤ 20) (h3 : to ≤ 25) (hk : k = 10 ∨ k = 11) : JmpSaid n to k := by
  have h : jmpOk n to k = true := by
    rcases jmp_all n (by omega) to (by omega) with e | e
    · omega
    · rcases hk with rfl | rfl
      · exact e.1
      · exact e.2
  unfold jmpOk at h
  simp only [Bool.and_eq_true, beq_iff_eq] at h
  obtain ⟨⟨⟨a1, a2⟩, a3⟩, a4⟩ := h
  obtain ⟨b1, b2⟩ := jmpRun_M n k to (n + 1) 0 a1
  rw [Nat.zero_add] at b1
  rw [b1] at a2 a3 a4
  refine ⟨fun e he => by have := (b2 e he).1; rwa [Nat.zero_add] at this, fun e he => ?_, ?_, a2, a3, a4⟩
  · cases e with
    | zero => show ([] : List Int).length ≤ 21; simp
    | succ e => have := (b2 e (by omega)).2.1; rwa [Nat.zero_add] at this
  · have := (b2 n (by omega)).2.2; rwa [Nat.zero_add] at this
end Go.Proofs.Ytdhihmeknoofoaa.Pz
