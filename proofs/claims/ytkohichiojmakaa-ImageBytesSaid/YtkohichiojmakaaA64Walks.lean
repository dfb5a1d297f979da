/-
  WALKS: package a64, each function once.
-/
import Derived.Test.YtkohichiojmakaaA64Plain
import Derived.Test.YtkohichiojmakaaOwn
import Derived.Deep.RegionHeld3
namespace Go.Proofs.Ytkohichiojmakaa.A64W
set_option linter.unusedVariables false
set_option linter.unusedSimpArgs false
open Go.RowKit Cm Mm Ow A64 FldW

/-- an instruction, a field and a form as values -/
def insL (i : In) : List Value := [.int .i64 i.kind, .int .i64 i.d, .int .i64 i.a, .int .i64 i.b, .int .i64 i.s, .int .i64 i.c, .int .i64 i.n]
def fmL (f : Fm) : List Value := [.int .u32 (f.word.toNat : Int), .int .i64 (f.d.1 : Nat), .int .i64 (f.d.2 : Nat), .int .i64 (f.a.1 : Nat), .int .i64 (f.a.2 : Nat), .int .i64 (f.b.1 : Nat), .int .i64 (f.b.2 : Nat), .int .i64 (f.s.1 : Nat), .int .i64 (f.s.2 : Nat),
  .int .i64 (f.n.1 : Nat), .int .i64 (f.n.2 : Nat), .int .i64 (f.c.1 : Nat), .int .i64 (f.c.2 : Nat), .bool f.signed, .bool f.turned]

theorem register_any (k : Int) (w : World) : Calls Try.prog 93 #[.int .i64 k] w fun e w' => e = .returned (.agg #[.int .i64 k, .int .i64 5]) ∧ w' = w.alloc (.cells #[.int .i64 k, .int .i64 5] 148) := by
  go_enter Try.func93, Try.ntmps93
  go_wp2
  go_returns
  exact ⟨rfl, rfl⟩

theorem alloc_cell {w : World} {a : Addr} {u : Value} (h : w.cell? a = some u) (o : Obj) : (w.alloc o).cell? a = some u := (World.cell?_alloc_some w a o (by rw [h]; rfl)).trans h
/-- a field of registers, in a variable -/
def Rg (w : World) (p : Nat) (k : Int) : Prop := w.cell? ⟨p, 0, none⟩ = some (.int .i64 k) ∧ w.cell? ⟨p, 1, none⟩ = some (.int .i64 5)

theorem half_any (x : Int) (p : Nat) (w : World) (hp : Rg w p 0) :
    Calls Try.prog 94 #[.int .u32 x, .pointer (some ⟨p, 0, none⟩)] w fun e w' => e = .returned (.agg #[.int .u32 x, .int .i64 0, .int .i64 5, .int .i64 0, .int .i64 0, .int .i64 0, .int .i64 0, .int .i64 21, .int .i64 2, .int .i64 5, .int .i64 16, .int .i64 0, .int .i64 0, .bool false, .bool false]) ∧ Below w.heap.size w w' := by
  obtain ⟨p0, p1⟩ := hp
  have p2 := alloc_cell p0
  have p3 := alloc_cell p1
  go_enter Try.func94, Try.ntmps94
  go_wp2
  go_returns
  exact ⟨rfl, by go_grown⟩

theorem three_any (x : Int) (p q r : Nat) (w : World) (hp : Rg w p 0) (hq : Rg w q 5) (hr : Rg w r 16) :
    Calls Try.prog 95 #[.int .u32 x, .pointer (some ⟨p, 0, none⟩), .pointer (some ⟨q, 0, none⟩), .pointer (some ⟨r, 0, none⟩)] w fun e w' => e = .returned (.agg #[.int .u32 x, .int .i64 0, .int .i64 5, .int .i64 5, .int .i64 5, .int .i64 16, .int .i64 5, .int .i64 0, .int .i64 0, .int .i64 0, .int .i64 0, .int .i64 0, .int .i64 0, .bool false, .bool false]) ∧ Below w.heap.size w w' := by
  obtain ⟨p0, p1⟩ := hp
  have p2 := alloc_cell p0
  have p3 := alloc_cell p1
  obtain ⟨q0, q1⟩ := hq
  have q2 := alloc_cell q0
  have q3 := alloc_cell q1
  obtain ⟨r0, r1⟩ := hr
  have r2 := alloc_cell r0
  have r3 := alloc_cell r1
  go_enter Try.func95, Try.ntmps95
  go_wp2
  go_returns
  exact ⟨rfl, by go_grown⟩

theorem zeroN_any (x : Int)  (w : World)  :
    Calls Try.prog 96 #[.int .u32 x] w fun e w' => e = .returned (.agg #[.int .u32 x, .int .i64 0, .int .i64 0, .int .i64 0, .int .i64 5, .int .i64 0, .int .i64 0, .int .i64 0, .int .i64 0, .int .i64 5, .int .i64 19, .int .i64 0, .int .i64 0, .bool true, .bool false]) ∧ Below w.heap.size w w' := by
  go_enter Try.func96, Try.ntmps96
  go_wp2_with fail
  refine (register_any 0 _).mono ?_
  rintro e w1 ⟨rfl, rfl⟩
  go_wp2_with fail
  go_returns
  exact ⟨rfl, by go_grown⟩

theorem far_any (x : Int) (p q : Nat) (w : World) (hp : Rg w p 0) (hq : Rg w q 5) :
    Calls Try.prog 97 #[.int .u32 x, .pointer (some ⟨p, 0, none⟩), .pointer (some ⟨q, 0, none⟩)] w fun e w' => e = .returned (.agg #[.int .u32 x, .int .i64 0, .int .i64 5, .int .i64 5, .int .i64 5, .int .i64 0, .int .i64 0, .int .i64 0, .int .i64 0, .int .i64 10, .int .i64 12, .int .i64 0, .int .i64 0, .bool false, .bool false]) ∧ Below w.heap.size w w' := by
  obtain ⟨p0, p1⟩ := hp
  have p2 := alloc_cell p0
  have p3 := alloc_cell p1
  obtain ⟨q0, q1⟩ := hq
  have q2 := alloc_cell q0
  have q3 := alloc_cell q1
  go_enter Try.func97, Try.ntmps97
  go_wp2
  go_returns
  exact ⟨rfl, by go_grown⟩

theorem two_any (x : Int) (p q : Nat) (w : World) (hp : Rg w p 0) (hq : Rg w q 5) :
    Calls Try.prog 98 #[.int .u32 x, .pointer (some ⟨p, 0, none⟩), .pointer (some ⟨q, 0, none⟩)] w fun e w' => e = .returned (.agg #[.int .u32 x, .int .i64 0, .int .i64 5, .int .i64 5, .int .i64 5, .int .i64 0, .int .i64 0, .int .i64 0, .int .i64 0, .int .i64 0, .int .i64 0, .int .i64 0, .int .i64 0, .bool false, .bool false]) ∧ Below w.heap.size w w' := by
  obtain ⟨p0, p1⟩ := hp
  have p2 := alloc_cell p0
  have p3 := alloc_cell p1
  obtain ⟨q0, q1⟩ := hq
  have q2 := alloc_cell q0
  have q3 := alloc_cell q1
  go_enter Try.func98, Try.ntmps98
  go_wp2
  go_returns
  exact ⟨rfl, by go_grown⟩

theorem bare_any (x : Int)  (w : World)  :
    Calls Try.prog 99 #[.int .u32 x] w fun e w' => e = .returned (.agg #[.int .u32 x, .int .i64 0, .int .i64 0, .int .i64 0, .int .i64 0, .int .i64 0, .int .i64 0, .int .i64 0, .int .i64 0, .int .i64 0, .int .i64 0, .int .i64 0, .int .i64 0, .bool false, .bool false]) ∧ Below w.heap.size w w' := by
  go_enter Try.func99, Try.ntmps99
  go_wp2
  go_returns
  exact ⟨rfl, by go_grown⟩

end Go.Proofs.Ytkohichiojmakaa.A64W
