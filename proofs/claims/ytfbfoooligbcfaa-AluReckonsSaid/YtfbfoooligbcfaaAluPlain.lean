/-
  PLAIN: registers (chapter 3): what is read, what is written, which conditions hold, what an instruction comes to, where it goes on. No Go here.
-/
import Derived.Test.YtfbfoooligbcfaaA64Plain
namespace Go.Proofs.Ytfbfoooligbcfaa.Alu
set_option linter.unusedVariables false
set_option linter.unusedSimpArgs false
open A64

structure Rg where
  x : List (BitVec 64)
  l : BitVec 64
  r : BitVec 64
def okR (r : Rg) : Prop := r.x.length = 31
def zeroR : Rg := ⟨List.replicate 31 0, 0, 0⟩
def reg (r : Rg) (n : Int) : BitVec 64 := if 0 ≤ n ∧ n < 31 then r.x.getD n.toNat 0 else 0
def setReg (r : Rg) (n : Int) (v : BitVec 64) : Rg := if 0 ≤ n ∧ n < 31 then { r with x := r.x.set n.toNat v } else r
def holds (r : Rg) (c : Int) : Bool :=
  if c = 0 then decide (r.l = r.r) else if c = 1 then !decide (r.l = r.r) else if c = 11 then decide (r.l.toInt < r.r.toInt) else if c = 10 then decide (r.r.toInt ≤ r.l.toInt) else false
def part (i : In) : BitVec 64 := BitVec.ofInt 64 i.n <<< (16 * i.s.toNat)
def hole (i : In) : BitVec 64 := 65535#64 <<< (16 * i.s.toNat)
def reckon (r : Rg) (i : In) : BitVec 64 :=
  if i.kind = 0 then part i
  else if i.kind = 1 then (reg r i.d &&& ~~~ hole i) ||| part i
  else if i.kind = 2 then reg r i.a + reg r i.b
  else if i.kind = 3 then reg r i.a - reg r i.b
  else if i.kind = 4 then reg r i.a * reg r i.b
  else if i.kind = 5 then reg r i.a &&& reg r i.b
  else if holds r i.c then 1 else 0
def jumps (r : Rg) (i : In) : Bool :=
  if i.kind = 8 then true else if i.kind = 9 then holds r i.c else if i.kind = 10 then decide (reg r i.a = 0) else decide (i.kind = 11) && !decide (reg r i.a = 0)
def inAlu (i : In) : Bool := right i && decide (i.kind ≤ 11 ∨ i.kind = 21)
def step (r : Rg) (i : In) : Rg × Int × Bool :=
  if inAlu i = false then (r, 0, false)
  else if i.kind = 21 then (r, 1, true)
  else if jumps r i then (r, i.n, true)
  else if 8 ≤ i.kind then (r, 1, true)
  else if i.kind = 6 then ({ r with l := reg r i.a, r := reg r i.b }, 1, true)
  else (setReg r i.d (reckon r i), 1, true)

theorem setReg_ok {r : Rg} (h : okR r) (n : Int) (v : BitVec 64) : okR (setReg r n v) := by
  unfold setReg okR at *
  split <;> simp [h]
theorem step_ok {r : Rg} (h : okR r) (i : In) : okR (step r i).1 := by
  unfold step
  split
  · exact h
  split
  · exact h
  split
  · exact h
  split
  · exact h
  split
  · exact h
  · exact setReg_ok h _ _
theorem zero_ok : okR zeroR := by unfold okR zeroR; simp

/-! words of 64 bits -/
theorem ofInt64 (x : BitVec 64) : BitVec.ofInt 64 (x.toNat : Int) = x := by
  rw [BitVec.ofInt_natCast]; simp
theorem w64_of (v : Int) : v % 18446744073709551616 = ((BitVec.ofInt 64 v).toNat : Int) := by
  rw [BitVec.toNat_ofInt]
  have : 0 ≤ v % ((2 ^ 64 : Nat) : Int) := Int.emod_nonneg _ (by decide)
  omega
theorem w64_mod (x : BitVec 64) : (x.toNat : Int) % 18446744073709551616 = (x.toNat : Int) := by have := x.isLt; omega
theorem w64_add (x y : BitVec 64) : ((x.toNat : Int) + y.toNat) % 18446744073709551616 = ((x + y).toNat : Int) := by
  rw [w64_of, BitVec.ofInt_add, ofInt64, ofInt64]
theorem w64_sub (x y : BitVec 64) : ((x.toNat : Int) - y.toNat) % 18446744073709551616 = ((x - y).toNat : Int) := by
  rw [w64_of, Int.sub_eq_add_neg, BitVec.ofInt_add, BitVec.ofInt_neg, ofInt64, ofInt64, BitVec.sub_eq_add_neg]
theorem w64_mul (x y : BitVec 64) : ((x.toNat : Int) * y.toNat) % 18446744073709551616 = ((x * y).toNat : Int) := by
  rw [w64_of, BitVec.ofInt_mul, ofInt64, ofInt64]
theorem w64_shl (x : BitVec 64) (k : Nat) : (x.toNat : Int) * 2 ^ k % 18446744073709551616 = ((x <<< k).toNat : Int) := by
  rw [BitVec.toNat_shiftLeft, Nat.shiftLeft_eq]
  simp
theorem w64_shr (x : BitVec 64) (k : Nat) : (x.toNat : Int) / 2 ^ k = ((x >>> k).toNat : Int) := by
  rw [BitVec.toNat_ushiftRight, Nat.shiftRight_eq_div_pow]
  simp
theorem w64_bits (op : BinOp) (f : BitVec 64 → BitVec 64 → BitVec 64) (x y : BitVec 64) (h : bits op .u64 (x.toNat : Int) (y.toNat : Int) = IntKind.u64.wrap ((f (BitVec.ofInt 64 x.toNat) (BitVec.ofInt 64 y.toNat)).toNat : Int)) :
    bits op .u64 (x.toNat : Int) (y.toNat : Int) = ((f x y).toNat : Int) := by
  rw [h, ofInt64, ofInt64, IntKind.wrap_u64]
  exact w64_mod _
theorem w64_and (x y : BitVec 64) : bits .and .u64 (x.toNat : Int) (y.toNat : Int) = ((x &&& y).toNat : Int) := w64_bits _ (· &&& ·) x y rfl
theorem w64_or (x y : BitVec 64) : bits .or .u64 (x.toNat : Int) (y.toNat : Int) = ((x ||| y).toNat : Int) := w64_bits _ (· ||| ·) x y rfl
theorem w64_andNot (x y : BitVec 64) : bits .andNot .u64 (x.toNat : Int) (y.toNat : Int) = ((x &&& ~~~y).toNat : Int) := w64_bits _ (fun a b => a &&& ~~~b) x y rfl
theorem w64_eq (x y : BitVec 64) : ((x.toNat : Int) == (y.toNat : Int)) = decide (x = y) := by
  by_cases h : x = y
  · subst h; simp
  · have : ¬ ((x.toNat : Int) = (y.toNat : Int)) := fun e => h (BitVec.eq_of_toNat_eq (by omega))
    simp [h, this]
theorem w64_zero (x : BitVec 64) : ((x.toNat : Int) == 0) = decide (x = 0) := w64_eq x 0
/-- a word read with its sign -/
theorem w64_sgn (x : BitVec 64) : IntKind.i64.wrap (x.toNat : Int) = x.toInt := by
  rw [IntKind.wrap_i64]
  have := x.isLt
  rw [BitVec.toInt_eq_toNat_cond]
  split <;> omega
theorem w64_word {a : Int} (h : (Lit.int .u64 a).wf = true) : ∃ x : BitVec 64, a = (x.toNat : Int) := by
  have h : 0 ≤ a ∧ a ≤ 18446744073709551615 := by simpa [Lit.wf, IntKind.min, IntKind.max, IntKind.signed, IntKind.bits] using h
  refine ⟨BitVec.ofInt 64 a, ?_⟩
  rw [← w64_of]
  omega
end Go.Proofs.Ytfbfoooligbcfaa.Alu
