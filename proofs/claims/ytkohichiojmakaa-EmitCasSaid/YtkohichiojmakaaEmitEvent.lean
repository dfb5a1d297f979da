/-
  WALKS: cofferdamref1's NewCore and event; the registers inside a core.
-/
import Derived.Test.YtkohichiojmakaaEmitCore
import Derived.Test.YtkohichiojmakaaGAlu
import Derived.Test.YtkohichiojmakaaFieldRefs
import Derived.Test.YtkohichiojmakaaGOwn
import Derived.Test.YtkohichiojmakaaEmitRows
namespace Go.Proofs.Ytkohichiojmakaa.EmX
set_option linter.unusedVariables false
set_option linter.unusedSimpArgs false
open Go.RowKit Cm Mm Ow Me Rm A64 Alu AluG Em EmM EmW

/-! registers at any offset -/
def HasV (w : World) (v : Value) : Prop := ∃ b o r, v = .pointer (some ⟨b, o, none⟩) ∧ w.rangeAt b o (rgL r) ∧ okR r
def cellsV (w : World) (v : Value) : Array Value := match v with
  | .pointer (some a) => ((List.range 33).map fun j => (w.cell? ⟨a.block, a.off + j, none⟩).getD undef).toArray
  | _ => #[]
theorem cells_of {w : World} {b o : Nat} {r : Rg} (h : w.rangeAt b o (rgL r)) (ok : okR r) : cellsV w (.pointer (some ⟨b, o, none⟩)) = rgA r := by
  show (List.map (fun j => (w.cell? ⟨b, o + j, none⟩).getD undef) (List.range 33)).toArray = (rgL r).toArray
  congr 1
  apply List.ext_getElem
  · simp [rgL_len ok]
  · intro j h1 h2
    have := h j _ (List.getElem?_eq_getElem h2)
    simp [this]
def ThereV (w : World) (v : Value) : Prop := ∃ b o, v = .pointer (some ⟨b, o, none⟩) ∧ w.there b o 33
def GoodV (u : Value) : Prop := ∃ r, u = .agg (rgA r) ∧ okR r
def putV (w : World) (v u : Value) : World := match v, u with
  | .pointer (some a), .agg cs => w.setCells a.block a.off cs.toList
  | _, _ => w
theorem good {r : Rg} (ok : okR r) : GoodV (.agg (rgA r)) := ⟨r, rfl, ok⟩
theorem exec_load_regs (ρ : Operand → Value) (dst : Option Tmp) (x : Operand) (ty : TypeId) (pos : String) (after : Array Edge) (guard : Option (Nat × Bool)) (w : World) (v : Value) (hv : ρ x = v) (h : HasV w v) :
    (execOp ρ { dst := dst, op := .load 75 x, type := ty, pos := pos, after := after, guard := guard }).run Try.prog w = .ok (.value (.agg (cellsV w v))) w := by
  obtain ⟨b, o, r, rfl, hr, ok⟩ := h
  rw [cells_of hr ok]
  unfold execOp
  simp only [hv, Instr.loadAt, Instr.sureAddr, Sem.run_bind, Sem.run_pure, Result.andThen_ok, run_loadVar_mid w b o _ (rgL r) _ hr Try.underlying75 rfl (size_regs ok)]
  rfl
theorem exec_store_regs (ρ : Operand → Value) (dst : Option Tmp) (x y : Operand) (ty : TypeId) (pos : String) (after : Array Edge) (guard : Option (Nat × Bool)) (w : World) (v u : Value) (hv : ρ x = v) (hu : ρ y = u) (h : ThereV w v) (hg : GoodV u) :
    (execOp ρ { dst := dst, op := .store 75 x y, type := ty, pos := pos, after := after, guard := guard }).run Try.prog w = .ok .skip (putV w v u) := by
  obtain ⟨b, o, rfl, ht⟩ := h
  obtain ⟨r, rfl, ok⟩ := hg
  unfold execOp
  simp only [hv, hu, Instr.storeAt, Instr.sureAddr, Sem.run_bind, Sem.run_pure, Result.andThen_ok, run_storeVar_mid w b o _ (rgA r) (by rw [rgA_size ok]; exact ht) (size_regsA ok) (one_regs r)]
  rfl
theorem RVhas {w : World} {b : Nat} {r : Rg} (h : RV w b r) (ok : okR r) : HasV w (.pointer (some ⟨b, 0, none⟩)) ∧ cellsV w (.pointer (some ⟨b, 0, none⟩)) = rgA r := ⟨⟨b, 0, r, rfl, h.range, ok⟩, cells_of h.range ok⟩
theorem RVthere {w : World} {b : Nat} {r : Rg} (h : RV w b r) (ok : okR r) : ThereV w (.pointer (some ⟨b, 0, none⟩)) := ⟨b, 0, rfl, h.there ok⟩
theorem RVput {w : World} {b : Nat} {r0 r : Rg} (h : RV w b r0) (ok0 : okR r0) (ok : okR r) : Put w b r (putV w (.pointer (some ⟨b, 0, none⟩)) (.agg (rgA r))) := put_cells h ok0 ok
theorem Cohas {w : World} {q mq : Nat} {F : List Nat} {s : Cr} (h : Co w q mq F s) : HasV w (.pointer (some ⟨q, 2, none⟩)) ∧ cellsV w (.pointer (some ⟨q, 2, none⟩)) = rgA s.r := ⟨⟨q, 2, s.r, rfl, h.range, h.ok⟩, cells_of h.range h.ok⟩
theorem Cothere {w : World} {q mq : Nat} {F : List Nat} {s : Cr} (h : Co w q mq F s) : ThereV w (.pointer (some ⟨q, 2, none⟩)) := ⟨q, 2, rfl, h.there⟩
theorem Coput {w : World} {q mq : Nat} {F : List Nat} {s : Cr} (h : Co w q mq F s) {r : Rg} (ok : okR r) : Co (putV w (.pointer (some ⟨q, 2, none⟩)) (.agg (rgA r))) q mq F { s with r := r } ∧ Only [q] w (putV w (.pointer (some ⟨q, 2, none⟩)) (.agg (rgA r))) :=
  ⟨h.setR ok, only_setCells q (by simp) (rgL r) 2 w w (Only.refl _ _)⟩

/-- one event -/
def evL (e : Ev) : List Value := [.int .i64 e.kind, .int .i64 0, .int .i64 e.at_, .int .u64 (e.v.toNat : Int)]
def zeroEv : Ev := ⟨0, 0, 0⟩
def IsEv (w : World) (A : Option Addr) (n cap : Nat) (l : List Ev) : Prop := l.length = n ∧ Sl w A n cap 4 (fun i => evL (l.getD i zeroEv))
theorem IsEv.keep {w w' : World} {A : Option Addr} {n cap : Nat} {l : List Ev} (h : IsEv w A n cap l) (hb : Below w.heap.size w w') : IsEv w' A n cap l := ⟨h.1, h.2.keep hb⟩
theorem isEv_nil (w : World) : IsEv w none 0 0 [] := ⟨rfl, Sl.nil _ _ _⟩
theorem isEv_one (w : World) (e : Ev) : IsEv (w.alloc (.cells (evL e).toArray 83)) (some ⟨w.heap.size, 0, none⟩) 1 1 [e] :=
  ⟨rfl, Sl.ext (n := 1) (sl_one w (evL e) 83) (fun i hi => by
    cases i with
    | zero => rfl
    | succ i => exact absurd hi (by omega))⟩
theorem event_any {w : World} {q mq : Nat} {F : List Nat} {s : Cr} (h : Co w q mq F s) (k a : Int) (v : BitVec 64) :
    Calls Try.prog 59 #[.pointer (some ⟨q, 0, none⟩), .int .i64 k, .int .i64 a, .int .u64 (v.toNat : Int)] w fun e w' => ∃ E, e = .returned (.slice E 1 1) ∧ IsEv w' E 1 1 [⟨k, a, v⟩] ∧ Below w.heap.size w w' := by
  have x1 := h.c1
  have hlt := h.lt
  have HN := Lib.hid (isEv_one w ⟨k, a, v⟩)
  clear h
  go_enter Try.func59, Try.ntmps59
  go_wp2_with fail
  go_ret
  exact ⟨_, rfl, HN.out, below_al _ _⟩
/-- a row of one's own, where what turns lies lower -/
theorem own_only {w w' : World} {base : Nat} {e : TypeId} {sz : Nat} {A : Option Addr} {n cap : Nat} {L : List (List Value)} {G : List Nat} (h : Own w base e sz A n cap L) (ho : Only G w w') (hG : ∀ g ∈ G, g < base) : Own w' base e sz A n cap L := by
  refine ⟨h.len, h.each, h.row.1, ?_⟩
  rcases h.row.2 with h1 | ⟨g, c, cur, h1, h2, h3, h4⟩
  · exact .inl h1
  · have hg : A.map (·.block) = some g := by injection h1 with h1; subst h1; rfl
    have hl := h.lt g hg
    exact .inr ⟨g, c, cur, h1, h2, (ho.block g hl.2 (fun e => by have := hG g e; omega)).trans h3, h4⟩
end Go.Proofs.Ytkohichiojmakaa.EmX
