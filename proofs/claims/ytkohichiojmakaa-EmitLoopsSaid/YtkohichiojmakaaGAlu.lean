/-
  WALKS: registers: Get, Put and Holds, the program's and the document's.
-/
import Derived.Test.YtkohichiojmakaaGPlain
import Derived.Test.YtkohichiojmakaaGOwn
import Derived.Deep.MidRow
import Derived.Deep.DeepCutAuto
import Derived.Test.YtkohichiojmakaaGEnc
import Derived.Deep.DrawnRows
import Derived.Deep.RegionWith
namespace Go.Proofs.Ytkohichiojmakaa.AluG
set_option linter.unusedVariables false
set_option linter.unusedSimpArgs false
open Go.RowKit Cm Mm Ow A64 Alu

/-- registers as a value -/
def rgL (r : Rg) : List Value := r.x.map (fun v => .int .u64 (v.toNat : Int)) ++ [.int .u64 (r.l.toNat : Int), .int .u64 (r.r.toNat : Int)]
def rgA (r : Rg) : Array Value := (rgL r).toArray
theorem rgL_len {r : Rg} (h : okR r) : (rgL r).length = 33 := by unfold rgL okR at *; simp [h]
theorem rgA_size {r : Rg} (h : okR r) : (rgA r).size = 33 := by unfold rgA; simp [rgL_len h]
theorem rgL_reg {r : Rg} (h : okR r) {k : Nat} (hk : k < 31) : (rgL r)[k]? = some (.int .u64 ((reg r k).toNat : Int)) := by
  unfold rgL okR reg at *
  rw [List.getElem?_append_left (by simp [h, hk]), if_pos (by omega)]
  simp [List.getD, List.getElem?_eq_getElem (show k < r.x.length by omega)]
theorem rgL_l {r : Rg} (h : okR r) : (rgL r)[31]? = some (.int .u64 (r.l.toNat : Int)) := by
  unfold rgL okR at *
  rw [List.getElem?_append_right (by simp [h])]
  simp [h]
theorem rgL_r {r : Rg} (h : okR r) : (rgL r)[32]? = some (.int .u64 (r.r.toNat : Int)) := by
  unfold rgL okR at *
  rw [List.getElem?_append_right (by simp [h])]
  simp [h]
theorem rgL_set {r : Rg} (h : okR r) {k : Nat} (hk : k < 31) (v : BitVec 64) : (rgL r).set k (.int .u64 (v.toNat : Int)) = rgL (setReg r k v) := by
  unfold rgL okR setReg at *
  rw [if_pos (by omega), List.set_append_left _ _ (by simp [h, hk])]
  simp [List.map_set]
theorem rgL_setl {r : Rg} (h : okR r) (v : BitVec 64) : (rgL r).set 31 (.int .u64 (v.toNat : Int)) = rgL { r with l := v } := by
  unfold rgL okR at *
  rw [List.set_append_right _ _ (by simp [h])]
  simp [h]
theorem rgL_setr {r : Rg} (h : okR r) (v : BitVec 64) : (rgL r).set 32 (.int .u64 (v.toNat : Int)) = rgL { r with r := v } := by
  unfold rgL okR at *
  rw [List.set_append_right _ _ (by simp [h])]
  simp [h]

/-- a variable that has registers -/
def RV (w : World) (b : Nat) (r : Rg) : Prop := w.heap[b]? = some (.cells (rgA r) 75 (0, 0))
theorem RV.new (w : World) (r : Rg) : RV (w.alloc (.cells (rgA r) 75)) w.heap.size r := heap_alloc_new _ _
theorem RV.keep {w w' : World} {b : Nat} {r : Rg} (h : RV w b r) (hb : Below w.heap.size w w') : RV w' b r := (hb.block _ (Array.getElem?_eq_some_iff.1 h).1).trans h
theorem RV.lt {w : World} {b : Nat} {r : Rg} (h : RV w b r) : b < w.heap.size := (Array.getElem?_eq_some_iff.1 h).1
theorem RV.cell {w : World} {b : Nat} {r : Rg} (h : RV w b r) (k : Nat) : w.cell? ⟨b, k, none⟩ = (rgL r)[k]? := by
  unfold RV at h; simp only [World.cell?, h, rgA]; simp
theorem RV.free {w : World} {b : Nat} {r : Rg} (h : RV w b r) (k : Nat) : w.frozen? ⟨b, k, none⟩ = false := by
  unfold RV at h; simp only [World.frozen?, h]; simp
theorem RV.range {w : World} {b : Nat} {r : Rg} (h : RV w b r) : w.rangeAt b 0 (rgL r) := fun j v hv => by rw [Nat.zero_add, h.cell, hv]
theorem RV.there {w : World} {b : Nat} {r : Rg} (h : RV w b r) (ok : okR r) : w.there b 0 33 := fun j hj => by
  rw [Nat.zero_add]
  refine ⟨?_, h.free j⟩
  rw [h.cell, List.getElem?_eq_getElem (by rw [rgL_len ok]; exact hj)]; rfl

theorem zeros_eq : #[Value.int .u64 0, Value.int .u64 0, Value.int .u64 0, Value.int .u64 0, Value.int .u64 0, Value.int .u64 0, Value.int .u64 0, Value.int .u64 0, Value.int .u64 0, Value.int .u64 0, Value.int .u64 0, Value.int .u64 0, Value.int .u64 0, Value.int .u64 0, Value.int .u64 0, Value.int .u64 0, Value.int .u64 0, Value.int .u64 0, Value.int .u64 0, Value.int .u64 0, Value.int .u64 0, Value.int .u64 0, Value.int .u64 0, Value.int .u64 0, Value.int .u64 0, Value.int .u64 0, Value.int .u64 0, Value.int .u64 0, Value.int .u64 0, Value.int .u64 0, Value.int .u64 0, Value.int .u64 0, Value.int .u64 0] = rgA zeroR := by rfl
theorem size_regs {r : Rg} (h : okR r) : (Try.prog.info? 75).map (·.size) = some (rgL r).length := by
  rw [rgL_len h]; kernel_rfl
theorem size_regsA {r : Rg} (h : okR r) : (Try.prog.info? 75).map (·.size) = some (rgA r).size := by
  rw [rgA_size h]; kernel_rfl
theorem one_regs (r : Rg) : (rgA r).all (·.oneCell') = true := all_oneCell_toArray (by
  intro v hv
  unfold rgL at hv
  simp only [List.mem_append, List.mem_map, List.mem_cons, List.not_mem_nil, or_false] at hv
  rcases hv with ⟨_, _, rfl⟩ | rfl | rfl <;> rfl)

theorem block_set {w : World} {g i : Nat} {cs : Array Value} {t : TypeId} (h : w.heap[g]? = some (.cells cs t (0, 0))) (v : Value) : (w.setCell ⟨g, i, none⟩ v).heap[g]? = some (.cells (cs.setIfInBounds i v) t (0, 0)) := by
  simp only [World.setCell, Array.getElem?_modify, h]
  simp
/-- cells of one block are stored: the others are as they were -/
theorem setCells_other (b : Nat) : ∀ (vs : List Value) (o : Nat) (w : World) (b' : Nat), b' ≠ b → (w.setCells b o vs).heap[b']? = w.heap[b']?
  | [], _, _, _, _ => rfl
  | v :: t, o, w, b', h => by
    rw [World.setCells, setCells_other b t (o + 1) _ b' h]
    exact Below.heap_setCell _ _ _ _ h
theorem setCells_below (b : Nat) {B : Nat} (hB : B ≤ b) : ∀ (vs : List Value) (o : Nat) (w w0 : World), Below B w0 w → Below B w0 (w.setCells b o vs)
  | [], _, _, _, h => h
  | v :: t, o, w, w0, h => by
    rw [World.setCells]
    exact setCells_below b hB t (o + 1) _ w0 (h.setCell hB _)
theorem setCells_size (b : Nat) : ∀ (vs : List Value) (o : Nat) (w : World), (w.setCells b o vs).heap.size = w.heap.size
  | [], _, _ => rfl
  | v :: t, o, w => by
    rw [World.setCells, setCells_size b t (o + 1)]
    simp
/-- registers are stored whole -/
structure Put (w : World) (b : Nat) (r : Rg) (w' : World) : Prop where
  has : RV w' b r
  other : ∀ b', b' ≠ b → w'.heap[b']? = w.heap[b']?
  size : w'.heap.size = w.heap.size
  below : ∀ B w0, B ≤ b → Below B w0 w → Below B w0 w'
theorem Put.keep {w w' : World} {b b' : Nat} {r r' : Rg} (h : Put w b r w') (hv : RV w b' r') (hne : b' ≠ b) : RV w' b' r' := (h.other b' hne).trans hv
theorem setCells_row (b : Nat) (T : TypeId) : ∀ (vs : List Value) (pre : List Value) (rest : List Value) (w : World), rest.length = vs.length → w.heap[b]? = some (.cells (pre ++ rest).toArray T (0, 0)) → (w.setCells b pre.length vs).heap[b]? = some (.cells (pre ++ vs).toArray T (0, 0))
  | [], pre, rest, w, hl, h => by
    have : rest = [] := List.length_eq_zero_iff.1 (by simpa using hl)
    subst this
    exact h
  | v :: t, pre, rest, w, hl, h => by
    match rest, hl with
    | u :: rest, hl =>
    rw [World.setCells]
    have h1 : (w.setCell ⟨b, pre.length, none⟩ v).heap[b]? = some (.cells ((pre ++ [v]) ++ rest).toArray T (0, 0)) := by
      rw [block_set h]
      simp
    have := setCells_row b T t (pre ++ [v]) rest _ (by simpa using hl) h1
    simpa using this
theorem put_cells {w : World} {b : Nat} {r0 r : Rg} (h : RV w b r0) (ok0 : okR r0) (ok : okR r) : Put w b r (w.setCells b 0 (rgL r)) := by
  refine ⟨?_, fun b' hb => setCells_other b _ _ _ _ hb, setCells_size _ _ _ _, fun B w0 hB hb => setCells_below b hB _ _ _ _ hb⟩
  have := setCells_row b 75 (rgL r) [] (rgL r0) w (by rw [rgL_len ok0, rgL_len ok]) h
  exact this

theorem wpList_load_rv {ops : Array Oper} {rest : List Oper} {op : Oper} {a : Act} {w : World} {Q : Exit → Act → World → Prop} (hgd : op.guard = none) (x : Operand) (ho : op.op = .load 75 x)
    (b : Nat) (hx : a.eval x = .pointer (some ⟨b, 0, none⟩)) (r : Rg) (ok : okR r) (hv : RV w b r)
    (h : wpList Try.prog ops Q rest (a.put op.dst (.agg (rgA r))) w) : wpList Try.prog ops Q (op :: rest) a w :=
  wpList_load_mid hgd _ x ho b 0 hx (rgL r) _ hv.range Try.underlying75 rfl (size_regs ok) h
theorem wpList_store_rv {ops : Array Oper} {rest : List Oper} {op : Oper} {a : Act} {w : World} {Q : Exit → Act → World → Prop} (hgd : op.guard = none) (x y : Operand) (ho : op.op = .store 75 x y)
    (b : Nat) (r0 r : Rg) (hx : a.eval x = .pointer (some ⟨b, 0, none⟩)) (hy : a.eval y = .agg (rgA r)) (ok0 : okR r0) (ok : okR r) (hv : RV w b r0)
    (h : ∀ w', Put w b r w' → wpList Try.prog ops Q rest (a.put op.dst undef) w') : wpList Try.prog ops Q (op :: rest) a w :=
  wpList_store_mid hgd _ x y ho b 0 (rgA r) hx hy (by rw [rgA_size ok]; exact hv.there ok0) (size_regsA ok) (one_regs r) (h _ (put_cells hv ok0 ok))
theorem load_rv {w : World} {b : Nat} {r : Rg} (hv : RV w b r) (ok : okR r) : (loadVar 75 ⟨b, 0, none⟩).run Try.prog w = .ok (.agg (rgA r)) w :=
  run_loadVar_mid w b 0 _ (rgL r) _ hv.range Try.underlying75 rfl (size_regs ok)
/-- one register is stored -/
theorem RV.set {w : World} {b k : Nat} {r : Rg} {v : Value} (h : RV w b r) (r' : Rg) (hr : (rgL r).set k v = rgL r') : RV (w.setCell ⟨b, k, none⟩ v) b r' := by
  unfold RV at *
  rw [block_set h]
  rw [← show (rgL r').toArray = rgA r' from rfl, ← hr]
  simp [rgA]

/-- the parameter's variable and the result's -/
def two (w : World) (r : Rg) : World := (w.alloc (.cells (rgA r) 75)).alloc (.cells (rgA zeroR) 75)
theorem two_has (w : World) (r : Rg) : RV (two w r) w.heap.size r ∧ RV (two w r) (w.heap.size + 1) zeroR ∧ Below w.heap.size w (two w r) := by
  have h := RV.new (w.alloc (.cells (rgA r) 75)) zeroR
  have e : (w.alloc (.cells (rgA r) 75)).heap.size = w.heap.size + 1 := by simp
  rw [e] at h
  exact ⟨(RV.new w r).keep ((Below.refl _ _).alloc (Nat.le_refl _) _), h, ((Below.refl _ _).alloc (Nat.le_refl _) _).alloc (by simp) _⟩

/-- a result that lies in memory -/
theorem results_cell {P : Program} {fn : Func} {tmps : Array Value} {i b : Nat} {T : TypeId} {v : Value} {w : World} (hr : fn.results = #[.cell i T]) (ht : tmps[i]?.getD undef = .pointer (some ⟨b, 0, none⟩))
    (hl : (loadVar T ⟨b, 0, none⟩).run P w = .ok v w) : (results fn tmps).run P w = .ok v w := by
  simp [results, hr, ht, Sem.run_bind, asAddr, hl]
theorem results_cell3 {P : Program} {fn : Func} {tmps : Array Value} {i b j k : Nat} {T : TypeId} {v x y : Value} {w : World} (hr : fn.results = #[.cell i T, .tmp j, .tmp k]) (ht : tmps[i]?.getD undef = .pointer (some ⟨b, 0, none⟩))
    (hl : (loadVar T ⟨b, 0, none⟩).run P w = .ok v w) (hx : tmps[j]?.getD undef = x) (hy : tmps[k]?.getD undef = y) : (results fn tmps).run P w = .ok (.tuple #[v, x, y]) w := by
  simp [results, hr, ht, Sem.run_bind, asAddr, hl, hx, hy]

/-- .. where a guard has let it through -/
theorem wpList_load_rvg {ops : Array Oper} {rest : List Oper} {op : Oper} {a : Act} {w : World} {Q : Exit → Act → World → Prop} (hw : Region.wanted op (yielded ops a.tmps) = true) (x : Operand) (ho : op.op = .load 75 x)
    (b : Nat) (hx : a.eval x = .pointer (some ⟨b, 0, none⟩)) (r : Rg) (ok : okR r) (hv : RV w b r)
    (h : wpList Try.prog ops Q rest (a.put op.dst (.agg (rgA r))) w) : wpList Try.prog ops Q (op :: rest) a w :=
  wpList_step fun K hK => by
    simp only [hw, if_true]
    exact wp_load_mid _ x ho b 0 hx (rgL r) _ hv.range Try.underlying75 rfl (size_regs ok) (hK _ _ h)

set_option maxHeartbeats 800000 in
theorem rget_any (r : Rg) (n : Int) (w : World) (ok : okR r) :
    Calls Try.prog 81 #[.agg (rgA r), .int .i64 n] w fun e w' => e = .returned (.int .u64 ((reg r n).toNat : Int)) ∧ Below w.heap.size w w' := by
  have hv := RV.new w r
  by_cases hn : 0 ≤ n ∧ n < 31
  · obtain ⟨k, rfl⟩ := Int.eq_ofNat_of_zero_le hn.1
    have hk : k < 31 := by omega
    have hg := hv.cell k
    rw [rgL_reg ok hk] at hg
    clear hv
    go_enter Try.func81, Try.ntmps81
    go_wp2
    go_ret
    exact ⟨rfl, by go_grown⟩
  · have hr : reg r n = 0 := by unfold reg; rw [if_neg hn]
    have HR := Lib.hid hr
    clear hr hv
    obtain h | ⟨h, h'⟩ : decide (n < 0) = true ∨ (decide (n < 0) = false ∧ decide (30 < n) = true) := by simp; omega
    all_goals
      go_enter Try.func81, Try.ntmps81
      go_wp2
      go_ret
      exact ⟨by rw [HR.out]; rfl, by go_grown⟩

set_option maxHeartbeats 1600000 in
theorem rput_any (r : Rg) (n : Int) (v : BitVec 64) (w : World) (ok : okR r) :
    Calls Try.prog 82 #[.agg (rgA r), .int .i64 n, .int .u64 (v.toNat : Int)] w fun e w' => e = .returned (.agg (rgA (setReg r n v))) ∧ Below w.heap.size w w' := by
  have ok1 := setReg_ok ok n v
  obtain ⟨h1, h2, hb⟩ := two_has w r
  by_cases hn : 0 ≤ n ∧ n < 31
  · obtain ⟨k, rfl⟩ := Int.eq_ofNat_of_zero_le hn.1
    have hk : k < 31 := by omega
    go_enter Try.func82, Try.ntmps82
    go_upto_region 1 with (fail)
    simp only [zeros_eq]
    rw [show World.alloc (World.alloc w _) _ = two w r from rfl]
    generalize two w r = W at *
    have hq : w.heap.size + 1 ≠ w.heap.size := by omega
    have hle : w.heap.size ≤ w.heap.size + 1 := by omega
    generalize w.heap.size + 1 = q at *
    have c1 := h1.cell k
    rw [rgL_reg ok hk] at c1
    have c2 := h1.free k
    have h3 := h1.set (setReg r k v) (k := k) (rgL_set ok hk v)
    have h4 : RV (W.setCell ⟨w.heap.size, k, none⟩ (.int .u64 (v.toNat : Int))) q zeroR := (Below.heap_setCell _ _ _ _ hq).trans h2
    have hb2 : Below w.heap.size w (W.setCell ⟨w.heap.size, k, none⟩ (.int .u64 (v.toNat : Int))) := hb.setCell (Nat.le_refl _) _
    go_wp2_with ((first | (with_reducible refine wpList_load_rv rfl _ rfl _ rfl _ ok1 h3 ?_) | (with_reducible refine wpList_store_rv rfl _ _ rfl _ zeroR (setReg r k v) rfl rfl zero_ok ok1 h4 ?_; intro w2 hp; have HP := Lib.hid hp; clear hp)))
    have hl := load_rv HP.out.has ok1
    exact bodyPost_ret (v := .agg (rgA (setReg r k v))) (results_cell Try.results82 rfl hl) rfl ⟨rfl, HP.out.below _ _ hle hb2⟩
  · have hr : setReg r n v = r := by unfold setReg; rw [if_neg hn]
    rw [hr] at ok1
    have HR := Lib.hid hr
    clear hr
    obtain h | ⟨h, h'⟩ : decide (0 ≤ n) = false ∨ (decide (0 ≤ n) = true ∧ decide (n ≤ 30) = false) := by simp; omega
    all_goals
      go_enter Try.func82, Try.ntmps82
      go_upto_region 1 with (fail)
      simp only [zeros_eq]
      rw [show World.alloc (World.alloc w _) _ = two w r from rfl]
      generalize two w r = W at *
      have hq : w.heap.size + 1 ≠ w.heap.size := by omega
      have hle : w.heap.size ≤ w.heap.size + 1 := by omega
      generalize w.heap.size + 1 = q at *
      go_wp2_with ((first | (with_reducible refine wpList_load_rv rfl _ rfl _ rfl _ ok h1 ?_) | (with_reducible refine wpList_store_rv rfl _ _ rfl _ zeroR r rfl rfl zero_ok ok h2 ?_; intro w2 hp; have HP := Lib.hid hp; clear hp)))
      have hl := load_rv HP.out.has ok
      exact bodyPost_ret (v := .agg (rgA r)) (results_cell Try.results82 rfl hl) rfl ⟨by rw [HR.out], HP.out.below _ _ hle hb⟩

set_option maxHeartbeats 1600000 in
theorem rholds_any (r : Rg) (c : Int) (w : World) (ok : okR r) :
    Calls Try.prog 84 #[.agg (rgA r), .int .i64 c] w fun e w' => e = .returned (.bool (holds r c)) ∧ Below w.heap.size w w' := by
  have hv := RV.new w r
  have c1 := hv.cell 31
  have c2 := hv.cell 32
  rw [rgL_l ok] at c1
  rw [rgL_r ok] at c2
  have e1 := w64_sgn r.l
  have e2 := w64_sgn r.r
  clear hv
  by_cases hc : c = 0 ∨ c = 1 ∨ c = 11 ∨ c = 10
  · rcases hc with rfl | rfl | rfl | rfl
    all_goals
      go_enter Try.func84, Try.ntmps84
      go_wp2
      go_ret
      exact ⟨retb (by simp [holds, w64_eq, bne]), by go_grown⟩
  · have hr : holds r c = false := by unfold holds; rw [if_neg (by omega), if_neg (by omega), if_neg (by omega), if_neg (by omega)]
    have HR := Lib.hid hr
    have d0 : (c == 0) = false := by simp; omega
    have d1 : (c == 1) = false := by simp; omega
    have d2 : (c == 11) = false := by simp; omega
    have d3 : (c == 10) = false := by simp; omega
    clear hr hc
    go_enter Try.func84, Try.ntmps84
    go_wp2
    go_ret
    exact ⟨by rw [HR.out]; rfl, by go_grown⟩

theorem bit_any (b : Bool) (w : World) : Calls Try.prog 83 #[.bool b] w fun e w' => e = .returned (.int .u64 ((if b then 1#64 else 0#64).toNat : Int)) ∧ w = w' := by
  cases b
  all_goals
    go_enter Try.func83, Try.ntmps83
    go_wp2
    go_ret
    exact ⟨rfl, rfl⟩
end Go.Proofs.Ytkohichiojmakaa.AluG
/-
  WALKS: registers read and written whole, as rules of the walk.
-/
namespace Go.Proofs.Ytkohichiojmakaa.AluO
set_option linter.unusedVariables false
set_option linter.unusedSimpArgs false
open Go.RowKit Cm Mm Ow A64 A64E Alu AluG

/-- registers lie where a pointer points to -/
def HasV (w : World) (v : Value) : Prop := ∃ b r, v = .pointer (some ⟨b, 0, none⟩) ∧ w.rangeAt b 0 (rgL r) ∧ okR r
def cellsV (w : World) (v : Value) : Array Value := match v with
  | .pointer (some a) => ((List.range 33).map fun j => (w.cell? ⟨a.block, j, none⟩).getD undef).toArray
  | _ => #[]
theorem cells_of {w : World} {b : Nat} {r : Rg} (h : w.rangeAt b 0 (rgL r)) (ok : okR r) : cellsV w (.pointer (some ⟨b, 0, none⟩)) = rgA r := by
  show (List.map (fun j => (w.cell? ⟨b, j, none⟩).getD undef) (List.range 33)).toArray = (rgL r).toArray
  congr 1
  apply List.ext_getElem
  · simp [rgL_len ok]
  · intro j h1 h2
    have := h j _ (List.getElem?_eq_getElem h2)
    rw [Nat.zero_add] at this
    simp [this]
def ThereV (w : World) (v : Value) : Prop := ∃ b, v = .pointer (some ⟨b, 0, none⟩) ∧ w.there b 0 33
def GoodV (u : Value) : Prop := ∃ r, u = .agg (rgA r) ∧ okR r
def putV (w : World) (v u : Value) : World := match v, u with
  | .pointer (some a), .agg cs => w.setCells a.block a.off cs.toList
  | _, _ => w
theorem good {r : Rg} (ok : okR r) : GoodV (.agg (rgA r)) := ⟨r, rfl, ok⟩
theorem exec_load_regs (ρ : Operand → Value) (dst : Option Tmp) (x : Operand) (ty : TypeId) (pos : String) (after : Array Edge) (guard : Option (Nat × Bool)) (w : World) (v : Value) (hv : ρ x = v) (h : HasV w v) :
    (execOp ρ { dst := dst, op := .load 75 x, type := ty, pos := pos, after := after, guard := guard }).run Try.prog w = .ok (.value (.agg (cellsV w v))) w := by
  obtain ⟨b, r, rfl, hr, ok⟩ := h
  rw [cells_of hr ok]
  unfold execOp
  simp only [hv, Instr.loadAt, Instr.sureAddr, Sem.run_bind, Sem.run_pure, Result.andThen_ok, run_loadVar_mid w b 0 _ (rgL r) _ hr Try.underlying75 rfl (size_regs ok)]
  rfl
theorem exec_store_regs (ρ : Operand → Value) (dst : Option Tmp) (x y : Operand) (ty : TypeId) (pos : String) (after : Array Edge) (guard : Option (Nat × Bool)) (w : World) (v u : Value) (hv : ρ x = v) (hu : ρ y = u) (h : ThereV w v) (hg : GoodV u) :
    (execOp ρ { dst := dst, op := .store 75 x y, type := ty, pos := pos, after := after, guard := guard }).run Try.prog w = .ok .skip (putV w v u) := by
  obtain ⟨b, rfl, ht⟩ := h
  obtain ⟨r, rfl, ok⟩ := hg
  unfold execOp
  simp only [hv, hu, Instr.storeAt, Instr.sureAddr, Sem.run_bind, Sem.run_pure, Result.andThen_ok, run_storeVar_mid w b 0 _ (rgA r) (by rw [rgA_size ok]; exact ht) (size_regsA ok) (one_regs r)]
  rfl
theorem RV.hasV {w : World} {b : Nat} {r : Rg} (h : RV w b r) (ok : okR r) : HasV w (.pointer (some ⟨b, 0, none⟩)) ∧ cellsV w (.pointer (some ⟨b, 0, none⟩)) = rgA r := ⟨⟨b, r, rfl, h.range, ok⟩, cells_of h.range ok⟩
theorem RV.thereV {w : World} {b : Nat} {r : Rg} (h : RV w b r) (ok : okR r) : ThereV w (.pointer (some ⟨b, 0, none⟩)) := ⟨b, rfl, h.there ok⟩
theorem putV_put {w : World} {b : Nat} {r0 r : Rg} (h : RV w b r0) (ok0 : okR r0) (ok : okR r) : Put w b r (putV w (.pointer (some ⟨b, 0, none⟩)) (.agg (rgA r))) := put_cells h ok0 ok
/-- as the walk keeps them: registers in a variable -/
structure LD (w : World) (b : Nat) (r : Rg) : Prop where
  has : HasV w (.pointer (some ⟨b, 0, none⟩))
  cells : cellsV w (.pointer (some ⟨b, 0, none⟩)) = rgA r
theorem RV.drew {w : World} {b : Nat} {r : Rg} (h : RV w b r) : RV w.drew b r := h
end Go.Proofs.Ytkohichiojmakaa.AluO
/-
  WALKS: package alu: jumps and reckon.
-/
namespace Go.Proofs.Ytkohichiojmakaa.AluS
set_option linter.unusedVariables false
set_option linter.unusedSimpArgs false
open Go.RowKit Cm Mm Ow A64 Fld FldW A64W A64P A64C A64T A64R A64E Alu AluG
attribute [local go_sem ↓] Go.wp_at_zero Go.wp_at_succ

/-- the variables of registers and of an instruction -/
def duo (w : World) (r : Rg) (i : In) : World := (w.alloc (.cells (rgA r) 75)).alloc (.cells #[.int .i64 i.kind, .int .i64 i.d, .int .i64 i.a, .int .i64 i.b, .int .i64 i.s, .int .i64 i.c, .int .i64 i.n] 45)
theorem duo_has (w : World) (r : Rg) (i : In) : RV (duo w r i) w.heap.size r ∧ Vi (duo w r i) (w.heap.size + 1) i ∧ Below w.heap.size w (duo w r i) := by
  have e : (w.alloc (.cells (rgA r) 75)).heap.size = w.heap.size + 1 := by simp
  exact ⟨(RV.new w r).keep ((Below.refl _ _).alloc (Nat.le_refl _) _), vi_new _ _ _ _ e, ((Below.refl _ _).alloc (Nat.le_refl _) _).alloc (by simp) _⟩

end Go.Proofs.Ytkohichiojmakaa.AluS
/-
  WALK: package alu: reckon.
-/
namespace Go.Proofs.Ytkohichiojmakaa.AluK
set_option linter.unusedVariables false
set_option linter.unusedSimpArgs false
open Go.RowKit Cm Mm Ow A64 Fld FldW A64W A64P A64C A64T A64R A64E Alu AluG AluS AluO
attribute [local go_sem ↓] Go.wp_at_zero Go.wp_at_succ exec_load_regs exec_store_regs

/-- the cells of registers and of an instruction; nothing elder has turned -/
abbrev SK (w0 : World) (p q : Nat) (r : Rg) (i : In) (w' : World) : Prop := (HasV w' (.pointer (some ⟨p, 0, none⟩)) ∧ cellsV w' (.pointer (some ⟨p, 0, none⟩)) = rgA r ∧ w'.cell? ⟨q, 0, none⟩ = some (.int .i64 i.kind) ∧ w'.cell? ⟨q, 1, none⟩ = some (.int .i64 i.d) ∧ w'.cell? ⟨q, 2, none⟩ = some (.int .i64 i.a) ∧ w'.cell? ⟨q, 3, none⟩ = some (.int .i64 i.b) ∧ w'.cell? ⟨q, 4, none⟩ = some (.int .i64 i.s) ∧ w'.cell? ⟨q, 5, none⟩ = some (.int .i64 i.c) ∧ w'.cell? ⟨q, 6, none⟩ = some (.int .i64 i.n)) ∧ RV w' p r ∧ Vi w' q i ∧ Below w0.heap.size w0 w'
theorem SK.init {w0 w : World} {p q : Nat} {r : Rg} {i : In} (ok : okR r) (h : RV w p r) (hv : Vi w q i) (hb : Below w0.heap.size w0 w) : SK w0 p q r i w := by
  obtain ⟨c0, c1, c2, c3, c4, c5, c6⟩ := hv.cells
  obtain ⟨l1, l2⟩ := RV.hasV h ok
  exact ⟨⟨l1, l2, c0, c1, c2, c3, c4, c5, c6⟩, h, hv, hb⟩
theorem SK.keep {w0 w w' : World} {p q : Nat} {r : Rg} {i : In} (ok : okR r) (h : SK w0 p q r i w) (hb : Below w.heap.size w w') : SK w0 p q r i w' := by
  obtain ⟨_, hr, hv, hz⟩ := h
  exact SK.init ok (hr.keep hb) (hv.keep hb) (hz.trans (hb.mono hz.size))
theorem mul_mod_left (a b m : Int) : a * b % m = a % m * b % m := by
  rw [Int.mul_emod a b m, Int.mul_emod (a % m) b m, Int.emod_emod_of_dvd _ (Int.dvd_refl _)]
theorem part_eq {n s : Int} (hn : 0 ≤ n) (i : In) (h1 : i.n = n) (h2 : i.s = s) : IntKind.u64.wrap (n * 2 ^ (16 * s).toNat) = ((Alu.part i).toNat : Int) := by
  obtain ⟨k, rfl⟩ := Int.eq_ofNat_of_zero_le hn
  rw [IntKind.wrap_u64, Alu.part, h1, h2, BitVec.toNat_shiftLeft, Nat.shiftLeft_eq, BitVec.toNat_ofInt]
  have e : (16 * s).toNat = 16 * s.toNat := by omega
  rw [e]
  have e2 : (((k : Int) % ((2 ^ 64 : Nat) : Int)).toNat : Int) = (k : Int) % ((2 ^ 64 : Nat) : Int) := Int.toNat_of_nonneg (Int.emod_nonneg _ (by decide))
  rw [Int.natCast_emod, Int.natCast_mul, e2, Int.natCast_pow]
  simp
  exact mul_mod_left _ _ _
theorem hole_eq {s : Int} (i : In) (h2 : i.s = s) : IntKind.u64.wrap (65535 * 2 ^ (16 * s).toNat) = ((hole i).toNat : Int) := by
  rw [IntKind.wrap_u64, hole, h2, BitVec.toNat_shiftLeft, Nat.shiftLeft_eq]
  have e : (16 * s).toNat = 16 * s.toNat := by omega
  rw [e, Int.natCast_emod, Int.natCast_mul, Int.natCast_pow]
  simp
theorem SK.quiet {w0 w : World} {p q : Nat} {r : Rg} {i : In} (ok : okR r) (h : SK w0 p q r i w) (n : Nat) : SK w0 p q r i (w.drewN n) := h.keep ok (below_drawn w n)

end Go.Proofs.Ytkohichiojmakaa.AluK
/-
  WALK: package alu: Step.
-/
namespace Go.Proofs.Ytkohichiojmakaa.AluP
set_option linter.unusedVariables false
set_option linter.unusedSimpArgs false
open Go.RowKit Cm Mm Ow A64 Fld FldW A64W A64P A64C A64T A64R A64E Alu AluG AluS AluO AluK
attribute [local go_sem ↓] Go.wp_at_zero Go.wp_at_succ exec_load_regs exec_store_regs

/-- the variables of registers, of an instruction, and of the result */
-/
def trio (w : World) (r : Rg) (i : In) : World := (duo w r i).alloc (.cells (rgA zeroR) 75)
/-- what is kept in them; nothing elder has turned -/
abbrev ST (B : Nat) (w0 : World) (p q s : Nat) (r : Rg) (i : In) (w' : World) : Prop := (HasV w' (.pointer (some ⟨p, 0, none⟩)) ∧ cellsV w' (.pointer (some ⟨p, 0, none⟩)) = rgA r ∧ ThereV w' (.pointer (some ⟨s, 0, none⟩)) ∧ w'.cell? ⟨q, 0, none⟩ = some (.int .i64 i.kind) ∧ w'.cell? ⟨q, 1, none⟩ = some (.int .i64 i.d) ∧ w'.cell? ⟨q, 2, none⟩ = some (.int .i64 i.a) ∧ w'.cell? ⟨q, 3, none⟩ = some (.int .i64 i.b) ∧ w'.cell? ⟨q, 4, none⟩ = some (.int .i64 i.s) ∧ w'.cell? ⟨q, 5, none⟩ = some (.int .i64 i.c) ∧ w'.cell? ⟨q, 6, none⟩ = some (.int .i64 i.n)) ∧ RV w' p r ∧ (∃ r0, okR r0 ∧ RV w' s r0) ∧ Vi w' q i ∧ Below B w0 w'
theorem ST.init {B : Nat} {w0 w : World} {p q s : Nat} {r r0 : Rg} {i : In} (ok : okR r) (h : RV w p r) (ok0 : okR r0) (h' : RV w s r0) (hv : Vi w q i) (hb : Below B w0 w) : ST B w0 p q s r i w := by
  obtain ⟨c0, c1, c2, c3, c4, c5, c6⟩ := hv.cells
  obtain ⟨l1, l2⟩ := RV.hasV h ok
  exact ⟨⟨l1, l2, RV.thereV h' ok0, c0, c1, c2, c3, c4, c5, c6⟩, h, ⟨r0, ok0, h'⟩, hv, hb⟩
theorem ST.keep {B : Nat} {w0 w w' : World} {p q s : Nat} {r : Rg} {i : In} (ok : okR r) (h : ST B w0 p q s r i w) (hb : Below w.heap.size w w') (hB : B ≤ w.heap.size) : ST B w0 p q s r i w' := by
  obtain ⟨_, hr, ⟨r0, ok0, hs⟩, hv, hz⟩ := h
  exact ST.init ok (hr.keep hb) ok0 (hs.keep hb) (hv.keep hb) (hz.trans (hb.mono hB))
theorem ST.drew {B : Nat} {w0 w : World} {p q s : Nat} {r : Rg} {i : In} (ok : okR r) (h : ST B w0 p q s r i w) : ST B w0 p q s r i w.drew := by
  obtain ⟨_, hr, ⟨r0, ok0, hs⟩, hv, hz⟩ := h
  have hb : Below w.heap.size w w.drew := (Below.refl _ _).drew
  exact ST.init ok (hr.keep hb) ok0 (hs.keep hb) (hv.keep hb) hz.drew
theorem Vi.other {w w' : World} {q : Nat} {i : In} (h : Vi w q i) (e : w'.heap[q]? = w.heap[q]?) : Vi w' q i := fun j => by
  rw [← h j]
  simp only [World.cell?, e]
/-- the result is stored -/
theorem ST.put {B : Nat} {w0 w : World} {p q s : Nat} {r r' : Rg} {i : In} (ok : okR r) (ok' : okR r') (h : ST B w0 p q s r i w) (h1 : p ≠ s) (h2 : q ≠ s) (h3 : B ≤ s) :
    ST B w0 p q s r i (putV w (.pointer (some ⟨s, 0, none⟩)) (.agg (rgA r'))) ∧ RV (putV w (.pointer (some ⟨s, 0, none⟩)) (.agg (rgA r'))) s r' := by
  obtain ⟨_, hr, ⟨r0, ok0, hs⟩, hv, hz⟩ := h
  have hp := putV_put hs ok0 ok'
  exact ⟨ST.init ok (hp.keep hr h1) ok' hp.has (Vi.other hv (hp.other _ h2)) (hp.below _ _ h3 hz), hp.has⟩
theorem trio_has (w : World) (r : Rg) (i : In) (ok : okR r) : ST w.heap.size w w.heap.size (w.heap.size + 1) (w.heap.size + 1 + 1) r i (trio w r i) := by
  obtain ⟨h1, h2, hb⟩ := duo_has w r i
  have e : (duo w r i).heap.size = w.heap.size + 1 + 1 := by unfold duo; simp
  have h3 := RV.new (duo w r i) zeroR
  rw [e] at h3
  have hk : Below (duo w r i).heap.size (duo w r i) (trio w r i) := (Below.refl _ _).alloc (Nat.le_refl _) _
  exact ST.init ok (h1.keep hk) zero_ok h3 (h2.keep hk) (hb.trans (hk.mono hb.size))
end Go.Proofs.Ytkohichiojmakaa.AluP
/-
  WALK: package alu: Step, where a register is written.
-/
namespace Go.Proofs.Ytkohichiojmakaa.AluQ
set_option linter.unusedVariables false
set_option linter.unusedSimpArgs false
open Go.RowKit Cm Mm Ow A64 Fld FldW A64W A64P A64C A64T A64R A64E Alu AluG AluS AluO AluK AluP
attribute [local go_sem ↓] Go.wp_at_zero Go.wp_at_succ exec_load_regs exec_store_regs

end Go.Proofs.Ytkohichiojmakaa.AluQ
/-
  WALK: package alu: Step, where two registers are compared.
-/
namespace Go.Proofs.Ytkohichiojmakaa.AluE
set_option linter.unusedVariables false
set_option linter.unusedSimpArgs false
open Go.RowKit Cm Mm Ow A64 Fld FldW A64W A64P A64C A64T A64R A64E Alu AluG AluS AluO AluK AluP AluQ
attribute [local go_sem ↓] Go.wp_at_zero Go.wp_at_succ exec_load_regs exec_store_regs

theorem ST.lr {B : Nat} {w0 w : World} {p q s : Nat} {r : Rg} {i : In} (ok : okR r) (h : ST B w0 p q s r i w) :
    w.cell? ⟨p, 31, none⟩ = some (.int .u64 (r.l.toNat : Int)) ∧ w.cell? ⟨p, 32, none⟩ = some (.int .u64 (r.r.toNat : Int)) ∧ (∀ k, w.frozen? ⟨p, k, none⟩ = false) :=
  ⟨by rw [h.2.1.cell, rgL_l ok], by rw [h.2.1.cell, rgL_r ok], h.2.1.free⟩
/-- both are stored -/
theorem ST.both {B : Nat} {w0 w : World} {p q s : Nat} {r : Rg} {i : In} (ok : okR r) (h : ST B w0 p q s r i w) (hB : B ≤ p) (h1 : p ≠ s) (h2 : q ≠ p) (x y : BitVec 64) :
    ST B w0 p q s { r with l := x, r := y } i ((w.setCell ⟨p, 31, none⟩ (.int .u64 (x.toNat : Int))).setCell ⟨p, 32, none⟩ (.int .u64 (y.toNat : Int))) := by
  obtain ⟨_, hr, ⟨r0, ok0, hs⟩, hv, hz⟩ := h
  have ok1 : okR { r with l := x } := ok
  have ok2 : okR { r with l := x, r := y } := ok
  have a1 := hr.set { r with l := x } (k := 31) (rgL_setl ok x)
  have a2 := a1.set { r with l := x, r := y } (k := 32) (rgL_setr ok1 y)
  refine ST.init ok2 a2 ok0 ?_ ?_ ((hz.setCell hB _).setCell hB _)
  · exact (Below.heap_setCell _ _ _ _ (fun e => h1 e.symm)).trans ((Below.heap_setCell _ _ _ _ (fun e => h1 e.symm)).trans hs)
  · exact Vi.other hv ((Below.heap_setCell _ _ _ _ h2).trans (Below.heap_setCell _ _ _ _ h2))

end Go.Proofs.Ytkohichiojmakaa.AluE
/-
  WALK: package alu: Step, of any instruction.
-/
namespace Go.Proofs.Ytkohichiojmakaa.AluA
set_option linter.unusedVariables false
set_option linter.unusedSimpArgs false
open Go.RowKit Cm Mm Ow A64 Fld FldW A64W A64P A64C A64T A64R A64E Alu AluG AluS AluO AluK AluP AluQ AluE

theorem fits_bd {v : Int} {n : Nat} (h : fits v n = true) : 0 ≤ v ∧ v < 2 ^ n := of_decide_eq_true h
/-- what stands in an instruction that writes a register -/
theorem right_low {i : In} (h : right i = true) (hk : i.kind ≤ 7) : 0 ≤ i.s ∧ i.s < 4 ∧ 0 ≤ i.n ∧ i.n < 65536 := by
  obtain ⟨k, hk24, hkk, hf⟩ := right_kind h
  have hk8 : k < 8 := by omega
  simp only [rightF, Bool.and_eq_true] at hf
  obtain ⟨⟨⟨⟨⟨_, _⟩, _⟩, hs⟩, hn⟩, _⟩ := hf
  have hs := fits_bd hs
  have e : k = 0 ∨ k = 1 ∨ k = 2 ∨ k = 3 ∨ k = 4 ∨ k = 5 ∨ k = 6 ∨ k = 7 := by omega
  rcases e with rfl | rfl | rfl | rfl | rfl | rfl | rfl | rfl
  all_goals
    simp [fitN, form, table] at hn
    have hn := fits_bd hn
    simp [form, table] at hs
    omega

end Go.Proofs.Ytkohichiojmakaa.AluA
