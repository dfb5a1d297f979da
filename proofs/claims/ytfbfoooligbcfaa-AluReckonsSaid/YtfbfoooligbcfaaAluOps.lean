/-
  WALKS: registers read and written whole, as rules of the walk.
-/
import Derived.Test.YtfbfoooligbcfaaAluRegs
import Derived.Test.YtfbfoooligbcfaaA64Enc
import Derived.Deep.DrawnRows
namespace Go.Proofs.Ytfbfoooligbcfaa.AluO
set_option linter.unusedVariables false
set_option linter.unusedSimpArgs false
open Go.RowKit Cm Mm Ow A64 A64E Alu AluG

/-- registers lie where a pointer points to -/
def HasV (w : World) (v : Value) : Prop := ∃ b r, v = .pointer (some ⟨b, 0, none⟩) ∧ w.rangeAt b 0 (rgL r) ∧ okR r
def cellsV (w : World) (v : Value) : Array Value := match v with
  | .pointer (some a) => ((List.range 33).map fun j => (w.cell? ⟨a.block, j, none⟩).getD undef).toArray
  | _ => #[]
theorem cells_of {w : World} {b : Nat} {r : Rg} (h : w.rangeAt b 0 (rgL r)) (ok : okR r) : cellsV w (.pointer (some ⟨b, 0, none⟩)) = rgA r := by
  show (List.map (fun j => (w.cell? ⟨b, j, none⟩).getD undef) (List.range 33)).toArray = (rgL r).toArray
  congr 1
  apply List.ext_getElem
  · simp [rgL_len ok]
  · intro j h1 h2
    have := h j _ (List.getElem?_eq_getElem h2)
    rw [Nat.zero_add] at this
    simp [this]
def ThereV (w : World) (v : Value) : Prop := ∃ b, v = .pointer (some ⟨b, 0, none⟩) ∧ w.there b 0 33
def GoodV (u : Value) : Prop := ∃ r, u = .agg (rgA r) ∧ okR r
def putV (w : World) (v u : Value) : World := match v, u with
  | .pointer (some a), .agg cs => w.setCells a.block a.off cs.toList
  | _, _ => w
theorem good {r : Rg} (ok : okR r) : GoodV (.agg (rgA r)) := ⟨r, rfl, ok⟩
theorem exec_load_regs (ρ : Operand → Value) (dst : Option Tmp) (x : Operand) (ty : TypeId) (pos : String) (after : Array Edge) (guard : Option (Nat × Bool)) (w : World) (v : Value) (hv : ρ x = v) (h : HasV w v) :
    (execOp ρ { dst := dst, op := .load 46 x, type := ty, pos := pos, after := after, guard := guard }).run Try.prog w = .ok (.value (.agg (cellsV w v))) w := by
  obtain ⟨b, r, rfl, hr, ok⟩ := h
  rw [cells_of hr ok]
  unfold execOp
  simp only [hv, Instr.loadAt, Instr.sureAddr, Sem.run_bind, Sem.run_pure, Result.andThen_ok, run_loadVar_mid w b 0 _ (rgL r) _ hr Try.underlying46 rfl (size_regs ok)]
  rfl
theorem exec_store_regs (ρ : Operand → Value) (dst : Option Tmp) (x y : Operand) (ty : TypeId) (pos : String) (after : Array Edge) (guard : Option (Nat × Bool)) (w : World) (v u : Value) (hv : ρ x = v) (hu : ρ y = u) (h : ThereV w v) (hg : GoodV u) :
    (execOp ρ { dst := dst, op := .store 46 x y, type := ty, pos := pos, after := after, guard := guard }).run Try.prog w = .ok .skip (putV w v u) := by
  obtain ⟨b, rfl, ht⟩ := h
  obtain ⟨r, rfl, ok⟩ := hg
  unfold execOp
  simp only [hv, hu, Instr.storeAt, Instr.sureAddr, Sem.run_bind, Sem.run_pure, Result.andThen_ok, run_storeVar_mid w b 0 _ (rgA r) (by rw [rgA_size ok]; exact ht) (size_regsA ok) (one_regs r)]
  rfl
theorem RV.hasV {w : World} {b : Nat} {r : Rg} (h : RV w b r) (ok : okR r) : HasV w (.pointer (some ⟨b, 0, none⟩)) ∧ cellsV w (.pointer (some ⟨b, 0, none⟩)) = rgA r := ⟨⟨b, r, rfl, h.range, ok⟩, cells_of h.range ok⟩
theorem RV.thereV {w : World} {b : Nat} {r : Rg} (h : RV w b r) (ok : okR r) : ThereV w (.pointer (some ⟨b, 0, none⟩)) := ⟨b, rfl, h.there ok⟩
theorem putV_put {w : World} {b : Nat} {r0 r : Rg} (h : RV w b r0) (ok0 : okR r0) (ok : okR r) : Put w b r (putV w (.pointer (some ⟨b, 0, none⟩)) (.agg (rgA r))) := put_cells h ok0 ok
/-- as the walk keeps them: registers in a variable -/
structure LD (w : World) (b : Nat) (r : Rg) : Prop where
  has : HasV w (.pointer (some ⟨b, 0, none⟩))
  cells : cellsV w (.pointer (some ⟨b, 0, none⟩)) = rgA r
theorem RV.drew {w : World} {b : Nat} {r : Rg} (h : RV w b r) : RV w.drew b r := h
end Go.Proofs.Ytfbfoooligbcfaa.AluO
