/-
  WALKS: cofferdamref1's core: memory and exclusive.
-/
import Derived.Test.YtkohichiojmakaaEmitWhere
import Derived.BigQuiet
import Derived.Deep.QuietTactic
import Derived.Deep.Cut
namespace Go.Proofs.Ytkohichiojmakaa.EmX
set_option linter.unusedVariables false
set_option linter.unusedSimpArgs false
open Go.RowKit Cm Mm Ow Me Rm A64 A64W Alu AluG Em EmM EmW
attribute [local go_sem ↓] Go.wp_at_zero Go.wp_at_succ exec_load_regs exec_store_regs

/-- the core, and what turned since -/
structure Cg (w0 : World) (q mq : Nat) (F : List Nat) (s : Cr) (w : World) : Prop where
  co : Co w q mq F s
  on : Only (q :: F) w0 w
section
variable {w0 w w' : World} {q mq : Nat} {F : List Nat} {s : Cr}
theorem Cg.start (h : Co w q mq F s) : Cg w q mq F s w := ⟨h, Only.refl _ _⟩
theorem Cg.keep (h : Cg w0 q mq F s w) (hb : Below w.heap.size w w') : Cg w0 q mq F s w' := ⟨h.co.keep hb, h.on.seq (Only.of_below hb)⟩
theorem Cg.then (h : Cg w0 q mq F s w) {s' : Cr} (k : Cg w q mq F s' w') : Cg w0 q mq F s' w' := ⟨k.co, h.on.seq k.on⟩
theorem Cg.drew (h : Cg w0 q mq F s w) : Cg w0 q mq F s w.drew := h.keep (Below.refl _ _).drew
theorem Cg.pc (h : Cg w0 q mq F s w) (v : Int) : Cg w0 q mq F { s with pc := v } (w.setCell ⟨q, 35, none⟩ (.int .i64 v)) := ⟨h.co.setPc v, h.on.setCell (by simp) _⟩
theorem Cg.st (h : Cg w0 q mq F s w) (v : Int) : Cg w0 q mq F { s with st := v } (w.setCell ⟨q, 36, none⟩ (.int .i64 v)) := ⟨h.co.setSt v, h.on.setCell (by simp) _⟩
theorem Cg.mark (h : Cg w0 q mq F s w) (v : Int) : Cg w0 q mq F { s with mark := v } (w.setCell ⟨q, 39, none⟩ (.int .i64 v)) := ⟨h.co.setMark v, h.on.setCell (by simp) _⟩
theorem Cg.seen (h : Cg w0 q mq F s w) (v : Int) : Cg w0 q mq F { s with seen := v } (w.setCell ⟨q, 40, none⟩ (.int .i64 v)) := ⟨h.co.setSeen v, h.on.setCell (by simp) _⟩
theorem Cg.own (h : Cg w0 q mq F s w) (k : Nat) (v : BitVec 64) : Cg w0 q mq F { s with own := s.own.set k v } (w.setCell ⟨q, 41 + k, none⟩ (.int .u64 (v.toNat : Int))) := ⟨h.co.setOwn k v, h.on.setCell (by simp) _⟩
theorem Cg.regs (h : Cg w0 q mq F s w) {r : Rg} (ok : okR r) : Cg w0 q mq F { s with r := r } (putV w (.pointer (some ⟨q, 2, none⟩)) (.agg (rgA r))) := ⟨(Coput h.co ok).1, h.on.seq ((Coput h.co ok).2.more (by simp))⟩
/-- a box with an instruction -/
structure Bx (w : World) (b : Nat) (i : In) : Prop where
  at_ : w.heap[b]? = some (.cells (insL i).toArray 45 (0, 0))
theorem Bx.new (w : World) (i : In) : Bx (w.alloc (.cells (insL i).toArray 45)) w.heap.size i := ⟨heap_alloc_new _ _⟩
theorem Bx.cell {b : Nat} {i : In} (h : Bx w b i) (k : Nat) : w.cell? ⟨b, k, none⟩ = (insL i)[k]? := by
  simp only [World.cell?, h.at_]; simp
theorem Bx.lt {b : Nat} {i : In} (h : Bx w b i) : b < w.heap.size := (Array.getElem?_eq_some_iff.1 h.at_).1
theorem Bx.keep {b : Nat} {i : In} (h : Bx w b i) (hb : Below w.heap.size w w') : Bx w' b i := ⟨(hb.block _ h.lt).trans h.at_⟩
theorem Bx.set {b : Nat} {i : In} (h : Bx w b i) (hb : b ≠ q) (k : Nat) (v : Value) : Bx (w.setCell ⟨q, k, none⟩ v) b i := ⟨(Below.heap_setCell w ⟨q, k, none⟩ v b hb).trans h.at_⟩
theorem Bx.only {b : Nat} {i : In} (h : Bx w b i) {G : List Nat} (ho : Only G w w') (hb : b ∉ G) : Bx w' b i := ⟨(ho.block b h.lt hb).trans h.at_⟩
theorem Bx.put {b : Nat} {i : In} (h : Bx w b i) (hb : b ≠ q) (hc : Co w q mq F s) {r : Rg} (ok : okR r) : Bx (putV w (.pointer (some ⟨q, 2, none⟩)) (.agg (rgA r))) b i := h.only (Coput hc ok).2 (by simpa using hb)
end
set_option maxHeartbeats 800000 in
theorem rlast_nil (a : Int) (w : World) : Calls Try.prog 89 #[.slice none 0 0, .int .i64 a] w fun e w' => e = .returned (.tuple #[.int .u64 0, .bool false]) ∧ w = w' := by
  have i1 : IntKind.i64.wrap (0 - 1) = -1 := rfl
  go_enter Try.func89, Try.ntmps89
  go_wp2_with fail
  go_loopw [6] (fun i wr => i = .int .i64 (-1) ∧ w = wr) (fun i _ => 0)
  case atStart => exact ⟨rfl, rfl⟩
  case round =>
    obtain ⟨rfl, rfl⟩ := hrel
    go_wp2_with fail
    go_ret2
    exact ⟨rfl, rfl⟩
/-- what the memory's functions answer -/
def Ans (q mq : Nat) (F : List Nat) (s : Cr) (w : World) (s' : Cr) (ev : List Ev) (e : Ending) (w' : World) : Prop :=
  ∃ E n c, e = .returned (.tuple #[.slice E n c, .bool true]) ∧ IsEv w' E n c ev ∧ Cg w q mq F s' w'

set_option maxRecDepth 20000 in
set_option maxHeartbeats 3200000 in
theorem memory_12 {w : World} {q mq : Nat} {F : List Nat} {s : Cr} (h : Co w q mq F s) (d a b s0 c : Int) (n : Nat) (v : BitVec 64) (hv : s.own.getD n 0 = v) (ha : reg s.r a = 1048576#64) (hn : n < 512) (hp : -1000000 ≤ s.pc ∧ s.pc ≤ 1000000) :
    Calls Try.prog 60 #[.pointer (some ⟨q, 0, none⟩), .agg #[.int .i64 12, .int .i64 d, .int .i64 a, .int .i64 b, .int .i64 s0, .int .i64 c, .int .i64 (n : Int)]] w (Ans q mq F s w { s with r := setReg s.r d v, pc := s.pc + 1 } []) := by
  have d0 : decide ((n : Int) < 0) = false := decide_eq_false (by omega)
  have hn' : (n : Int) < 512 := by omega
  have H := Lib.hid h
  have hlt := h.lt
  have BK := Lib.hid (below_al w (.cells #[.int .i64 12, .int .i64 d, .int .i64 a, .int .i64 b, .int .i64 s0, .int .i64 c, .int .i64 (n : Int)] 45))
  have X0 := Lib.hid (Bx.new w ⟨12, d, a, b, s0, c, (n : Int)⟩)
  obtain ⟨W, hW⟩ : ∃ W, w.alloc (.cells #[.int .i64 12, .int .i64 d, .int .i64 a, .int .i64 b, .int .i64 s0, .int .i64 c, .int .i64 (n : Int)] 45) = W := ⟨_, rfl⟩
  rw [show w.alloc (.cells (insL ⟨12, d, a, b, s0, c, (n : Int)⟩).toArray 45) = W from hW] at X0
  rw [hW] at BK
  have hbq : w.heap.size ≠ q := by omega
  have C0 := Lib.hid ((Cg.start H.out).keep BK.out)
  clear h
  have x0 : W.cell? ⟨w.heap.size, 0, none⟩ = some (.int .i64 12) := (X0.out.cell 0).trans rfl
  have x1 : W.cell? ⟨w.heap.size, 1, none⟩ = some (.int .i64 d) := (X0.out.cell 1).trans rfl
  have x2 : W.cell? ⟨w.heap.size, 2, none⟩ = some (.int .i64 a) := (X0.out.cell 2).trans rfl
  have x3 : W.cell? ⟨w.heap.size, 3, none⟩ = some (.int .i64 b) := (X0.out.cell 3).trans rfl
  have x4 : W.cell? ⟨w.heap.size, 4, none⟩ = some (.int .i64 s0) := (X0.out.cell 4).trans rfl
  have x5 : W.cell? ⟨w.heap.size, 5, none⟩ = some (.int .i64 c) := (X0.out.cell 5).trans rfl
  have x6 : W.cell? ⟨w.heap.size, 6, none⟩ = some (.int .i64 (n : Int)) := (X0.out.cell 6).trans rfl
  have i1 : IntKind.i64.wrap (s.pc + 1) = s.pc + 1 := IntWalk.i64_in _ ⟨by omega, by omega⟩
  go_enter Try.func60, Try.ntmps60
  go_wp2_with fail
  try rw [hW]
  clear hW
  refine (where_12 C0.out.co d a b s0 c n ha hn).mono ?_
  rintro e w2 ⟨rfl, hb2⟩
  have C2 := Lib.hid (C0.out.keep hb2)
  have X2 := Lib.hid (X0.out.keep hb2)
  clear hb2 C0 X0
  clear x0 x1 x2 x3 x4 x5 x6
  have x0 : w2.cell? ⟨w.heap.size, 0, none⟩ = some (.int .i64 12) := (X2.out.cell 0).trans rfl
  have x1 : w2.cell? ⟨w.heap.size, 1, none⟩ = some (.int .i64 d) := (X2.out.cell 1).trans rfl
  have x4 : w2.cell? ⟨w.heap.size, 4, none⟩ = some (.int .i64 s0) := (X2.out.cell 4).trans rfl
  have p35 := C2.out.co.pc
  have f35 := C2.out.co.free 35
  go_upto_region 9 with fail
  have C3 := Lib.hid (C2.out.pc (s.pc + 1))
  have X3 := Lib.hid (X2.out.set hbq 35 (.int .i64 (s.pc + 1)))
  obtain ⟨w3, hw3⟩ : ∃ w3, w2.setCell ⟨q, 35, none⟩ (.int .i64 (s.pc + 1)) = w3 := ⟨_, rfl⟩
  rw [hw3] at C3 X3
  try rw [hw3]
  clear hw3 C2 X2 p35 f35
  clear x0 x1 x4
  have x0 : w3.cell? ⟨w.heap.size, 0, none⟩ = some (.int .i64 12) := (X3.out.cell 0).trans rfl
  have x1 : w3.cell? ⟨w.heap.size, 1, none⟩ = some (.int .i64 d) := (X3.out.cell 1).trans rfl
  have x4 : w3.cell? ⟨w.heap.size, 4, none⟩ = some (.int .i64 s0) := (X3.out.cell 4).trans rfl
  go_wp2_with fail
  have C4 := Lib.hid C3.out.drew
  have X4 := Lib.hid (X3.out.keep (Below.refl _ _).drew)
  clear C3 X3
  clear x0 x1 x4
  obtain ⟨r1, r2⟩ := Cohas C4.out.co
  have pv := C4.out.co.priv hn
  rw [hv] at pv
  clear hv
  unfold w64 at pv
  refine Hd.start 14 (fun w' => HasV w' (.pointer (some ⟨q, 2, none⟩)) ∧ cellsV w' (.pointer (some ⟨q, 2, none⟩)) = rgA s.r ∧ w'.cell? ⟨w.heap.size, 1, none⟩ = some (.int .i64 d) ∧ w'.cell? ⟨q, 41 + n, none⟩ = some (.int .u64 (v.toNat : Int))) (by kernel_rfl) ?_
  have SA : HasV w3.drew (.pointer (some ⟨q, 2, none⟩)) ∧ cellsV w3.drew (.pointer (some ⟨q, 2, none⟩)) = rgA s.r ∧ w3.drew.cell? ⟨w.heap.size, 1, none⟩ = some (.int .i64 d) ∧ w3.drew.cell? ⟨q, 41 + n, none⟩ = some (.int .u64 (v.toNat : Int)) := ⟨r1, r2, (X4.out.cell 1).trans rfl, pv⟩
  refine Hd.take (i := 0) (v := ?v0) rfl (by decide +kernel) (by decide +kernel) (fun _ _ _ h => h) rfl ?hy0 SA ?rest0
  case hy0 =>
    intro wq hSw
    obtain ⟨s1, s2, s3, s4⟩ := hSw
    go_simp
    try with_reducible rfl
  try simp only [Act.put, List.setIfInBounds_toArray, List.set_cons_zero, List.set_cons_succ]
  refine Hd.take (i := 1) (v := ?v1) rfl (by decide +kernel) (by decide +kernel) (fun _ _ _ h => h) rfl ?hy1 SA ?rest1
  case hy1 =>
    intro wq hSw
    obtain ⟨s1, s2, s3, s4⟩ := hSw
    go_simp
    try with_reducible rfl
  try simp only [Act.put, List.setIfInBounds_toArray, List.set_cons_zero, List.set_cons_succ]
  refine Hd.take (i := 2) (v := ?v2) rfl (by decide +kernel) (by decide +kernel) (fun _ _ _ h => h) rfl ?hy2 SA ?rest2
  case hy2 =>
    intro wq hSw
    obtain ⟨s1, s2, s3, s4⟩ := hSw
    go_simp
    try with_reducible rfl
  try simp only [Act.put, List.setIfInBounds_toArray, List.set_cons_zero, List.set_cons_succ]
  refine Hd.take (i := 3) (v := ?v3) rfl (by decide +kernel) (by decide +kernel) (fun _ _ _ h => h) rfl ?hy3 SA ?rest3
  case hy3 =>
    intro wq hSw
    obtain ⟨s1, s2, s3, s4⟩ := hSw
    go_simp
    try with_reducible rfl
  try simp only [Act.put, List.setIfInBounds_toArray, List.set_cons_zero, List.set_cons_succ]
  refine Hd.take (i := 4) (v := ?v4) rfl (by decide +kernel) (by decide +kernel) (fun _ _ _ h => h) rfl ?hy4 SA ?rest4
  case hy4 =>
    intro wq hSw
    obtain ⟨s1, s2, s3, s4⟩ := hSw
    go_simp
    try with_reducible rfl
  try simp only [Act.put, List.setIfInBounds_toArray, List.set_cons_zero, List.set_cons_succ]
  refine Hd.take (i := 5) (v := ?v5) rfl (by decide +kernel) (by decide +kernel) (fun _ _ _ h => h) rfl ?hy5 SA ?rest5
  case hy5 =>
    intro wq hSw
    obtain ⟨s1, s2, s3, s4⟩ := hSw
    go_simp
    try with_reducible rfl
  try simp only [Act.put, List.setIfInBounds_toArray, List.set_cons_zero, List.set_cons_succ]
  refine Hd.take (i := 6) (v := ?v6) rfl (by decide +kernel) (by decide +kernel) (fun _ _ _ h => h) rfl ?hy6 SA ?rest6
  case hy6 =>
    intro wq hSw
    obtain ⟨s1, s2, s3, s4⟩ := hSw
    go_simp
    try with_reducible rfl
  try simp only [Act.put, List.setIfInBounds_toArray, List.set_cons_zero, List.set_cons_succ]
  refine Hd.take (i := 7) (v := ?v7) rfl (by decide +kernel) (by decide +kernel) (fun _ _ _ h => h) rfl ?hy7 SA ?rest7
  case hy7 =>
    intro wq hSw
    obtain ⟨s1, s2, s3, s4⟩ := hSw
    go_simp
    try with_reducible rfl
  try simp only [Act.put, List.setIfInBounds_toArray, List.set_cons_zero, List.set_cons_succ]
  refine Hd.take (i := 8) (v := ?v8) rfl (by decide +kernel) (by decide +kernel) (fun _ _ _ h => h) rfl ?hy8 SA ?rest8
  case hy8 =>
    intro wq hSw
    obtain ⟨s1, s2, s3, s4⟩ := hSw
    go_simp
    try with_reducible rfl
  try simp only [Act.put, List.setIfInBounds_toArray, List.set_cons_zero, List.set_cons_succ]
  refine Hd.take (i := 9) (v := ?v9) rfl (by decide +kernel) (by decide +kernel) (fun _ _ _ h => h) rfl ?hy9 SA ?rest9
  case hy9 =>
    intro wq hSw
    obtain ⟨s1, s2, s3, s4⟩ := hSw
    go_simp
    try with_reducible rfl
  try simp only [Act.put, List.setIfInBounds_toArray, List.set_cons_zero, List.set_cons_succ]
  refine Hd.take (i := 10) (v := ?v10) rfl (by decide +kernel) (by decide +kernel) (fun _ _ _ h => h) rfl ?hy10 SA ?rest10
  case hy10 =>
    intro wq hSw
    obtain ⟨s1, s2, s3, s4⟩ := hSw
    go_simp
    try with_reducible rfl
  try simp only [Act.put, List.setIfInBounds_toArray, List.set_cons_zero, List.set_cons_succ]
  refine Hd.take (i := 11) (v := ?v11) rfl (by decide +kernel) (by decide +kernel) (fun _ _ _ h => h) rfl ?hy11 SA ?rest11
  case hy11 =>
    intro wq hSw
    obtain ⟨s1, s2, s3, s4⟩ := hSw
    go_simp
    try with_reducible rfl
  try simp only [Act.put, List.setIfInBounds_toArray, List.set_cons_zero, List.set_cons_succ]
  refine Hd.take (i := 12) (v := ?v12) rfl (by decide +kernel) (by decide +kernel) (fun _ _ _ h => h) rfl ?hy12 SA ?rest12
  case hy12 =>
    intro wq hSw
    obtain ⟨s1, s2, s3, s4⟩ := hSw
    go_simp
    try with_reducible rfl
  try simp only [Act.put, List.setIfInBounds_toArray, List.set_cons_zero, List.set_cons_succ]
  refine Hd.one (i := 13) rfl (by kernel_rfl) rfl (fun K hK => ?_)
  go_simp
  refine (rput_any s.r d v _ C4.out.co.ok).mono ?_
  rintro e w5 ⟨rfl, hb5⟩
  have C5 := Lib.hid (C4.out.keep hb5)
  have X5 := Lib.hid (X4.out.keep hb5)
  have ok1 := setReg_ok C4.out.co.ok d v
  have SB : HasV w5 (.pointer (some ⟨q, 2, none⟩)) ∧ cellsV w5 (.pointer (some ⟨q, 2, none⟩)) = rgA s.r ∧ w5.cell? ⟨w.heap.size, 1, none⟩ = some (.int .i64 d) ∧ w5.cell? ⟨q, 41 + n, none⟩ = some (.int .u64 (v.toNat : Int)) := ⟨(Cohas C5.out.co).1, (Cohas C5.out.co).2, (X5.out.cell 1).trans rfl, (hb5.cell (p := ⟨q, 41 + n, none⟩) C4.out.co.lt).trans SA.2.2.2⟩
  refine hK _ _ (fun _ => SB) ?_
  clear hK K hb5 SA SB r1 r2 pv C4 X4
  try simp only [Act.put, List.setIfInBounds_toArray, List.set_cons_zero, List.set_cons_succ]
  refine Hd.one (i := 14) rfl (by kernel_rfl) rfl (fun K hK => ?_)
  go_simp
  refine hK _ _ (fun h => absurd h (by omega)) ?_
  clear hK K
  try simp only [Act.put, List.setIfInBounds_toArray, List.set_cons_zero, List.set_cons_succ]
  refine Hd.one (i := 15) rfl (by kernel_rfl) rfl (fun K hK => ?_)
  go_simp
  refine hK _ _ (fun h => absurd h (by omega)) ?_
  clear hK K
  try simp only [Act.put, List.setIfInBounds_toArray, List.set_cons_zero, List.set_cons_succ]
  refine Hd.one (i := 16) rfl (by kernel_rfl) rfl (fun K hK => ?_)
  have ht := Cothere C5.out.co
  have hgd := good ok1
  go_simp
  have C6 := Lib.hid (C5.out.regs ok1)
  refine hK _ _ (fun h => absurd h (by omega)) ?_
  clear hK K ht hgd
  try simp only [Act.put, List.setIfInBounds_toArray, List.set_cons_zero, List.set_cons_succ]
  refine Hd.done (by kernel_rfl) ?_ _
  go_wp2_with fail
  go_ret2
  exact ⟨none, 0, 0, rfl, isEv_nil _, C6.out⟩

set_option maxRecDepth 20000 in
set_option maxHeartbeats 3200000 in
theorem memory_13 {w : World} {q mq : Nat} {F : List Nat} {s : Cr} (h : Co w q mq F s) (d a b s0 c : Int) (n : Nat) (ha : reg s.r a = 1048576#64) (hn : n < 512) (hp : -1000000 ≤ s.pc ∧ s.pc ≤ 1000000) :
    Calls Try.prog 60 #[.pointer (some ⟨q, 0, none⟩), .agg #[.int .i64 13, .int .i64 d, .int .i64 a, .int .i64 b, .int .i64 s0, .int .i64 c, .int .i64 (n : Int)]] w (Ans q mq F s w { s with own := s.own.set n (reg s.r d), pc := s.pc + 1 } []) := by
  have d0 : decide ((n : Int) < 0) = false := decide_eq_false (by omega)
  have hn' : (n : Int) < 512 := by omega
  have H := Lib.hid h
  have hlt := h.lt
  have BK := Lib.hid (below_al w (.cells #[.int .i64 13, .int .i64 d, .int .i64 a, .int .i64 b, .int .i64 s0, .int .i64 c, .int .i64 (n : Int)] 45))
  have X0 := Lib.hid (Bx.new w ⟨13, d, a, b, s0, c, (n : Int)⟩)
  obtain ⟨W, hW⟩ : ∃ W, w.alloc (.cells #[.int .i64 13, .int .i64 d, .int .i64 a, .int .i64 b, .int .i64 s0, .int .i64 c, .int .i64 (n : Int)] 45) = W := ⟨_, rfl⟩
  rw [show w.alloc (.cells (insL ⟨13, d, a, b, s0, c, (n : Int)⟩).toArray 45) = W from hW] at X0
  rw [hW] at BK
  have hbq : w.heap.size ≠ q := by omega
  have C0 := Lib.hid ((Cg.start H.out).keep BK.out)
  clear h
  have x0 : W.cell? ⟨w.heap.size, 0, none⟩ = some (.int .i64 13) := (X0.out.cell 0).trans rfl
  have x1 : W.cell? ⟨w.heap.size, 1, none⟩ = some (.int .i64 d) := (X0.out.cell 1).trans rfl
  have x2 : W.cell? ⟨w.heap.size, 2, none⟩ = some (.int .i64 a) := (X0.out.cell 2).trans rfl
  have x3 : W.cell? ⟨w.heap.size, 3, none⟩ = some (.int .i64 b) := (X0.out.cell 3).trans rfl
  have x4 : W.cell? ⟨w.heap.size, 4, none⟩ = some (.int .i64 s0) := (X0.out.cell 4).trans rfl
  have x5 : W.cell? ⟨w.heap.size, 5, none⟩ = some (.int .i64 c) := (X0.out.cell 5).trans rfl
  have x6 : W.cell? ⟨w.heap.size, 6, none⟩ = some (.int .i64 (n : Int)) := (X0.out.cell 6).trans rfl
  have i1 : IntKind.i64.wrap (s.pc + 1) = s.pc + 1 := IntWalk.i64_in _ ⟨by omega, by omega⟩
  go_enter Try.func60, Try.ntmps60
  go_wp2_with fail
  try rw [hW]
  clear hW
  refine (where_13 C0.out.co d a b s0 c n ha hn).mono ?_
  rintro e w2 ⟨rfl, hb2⟩
  have C2 := Lib.hid (C0.out.keep hb2)
  have X2 := Lib.hid (X0.out.keep hb2)
  clear hb2 C0 X0
  clear x0 x1 x2 x3 x4 x5 x6
  have x0 : w2.cell? ⟨w.heap.size, 0, none⟩ = some (.int .i64 13) := (X2.out.cell 0).trans rfl
  have x1 : w2.cell? ⟨w.heap.size, 1, none⟩ = some (.int .i64 d) := (X2.out.cell 1).trans rfl
  have x4 : w2.cell? ⟨w.heap.size, 4, none⟩ = some (.int .i64 s0) := (X2.out.cell 4).trans rfl
  have p35 := C2.out.co.pc
  have f35 := C2.out.co.free 35
  go_upto_region 9 with fail
  have C3 := Lib.hid (C2.out.pc (s.pc + 1))
  have X3 := Lib.hid (X2.out.set hbq 35 (.int .i64 (s.pc + 1)))
  obtain ⟨w3, hw3⟩ : ∃ w3, w2.setCell ⟨q, 35, none⟩ (.int .i64 (s.pc + 1)) = w3 := ⟨_, rfl⟩
  rw [hw3] at C3 X3
  try rw [hw3]
  clear hw3 C2 X2 p35 f35
  clear x0 x1 x4
  have x0 : w3.cell? ⟨w.heap.size, 0, none⟩ = some (.int .i64 13) := (X3.out.cell 0).trans rfl
  have x1 : w3.cell? ⟨w.heap.size, 1, none⟩ = some (.int .i64 d) := (X3.out.cell 1).trans rfl
  have x4 : w3.cell? ⟨w.heap.size, 4, none⟩ = some (.int .i64 s0) := (X3.out.cell 4).trans rfl
  go_wp2_with fail
  have C4 := Lib.hid C3.out.drew
  have X4 := Lib.hid (X3.out.keep (Below.refl _ _).drew)
  clear C3 X3
  clear x0 x1 x4
  obtain ⟨r1, r2⟩ := Cohas C4.out.co
  refine Hd.start 11 (fun w' => HasV w' (.pointer (some ⟨q, 2, none⟩)) ∧ cellsV w' (.pointer (some ⟨q, 2, none⟩)) = rgA s.r ∧ w'.cell? ⟨w.heap.size, 1, none⟩ = some (.int .i64 d)) (by kernel_rfl) ?_
  have SA : HasV w3.drew (.pointer (some ⟨q, 2, none⟩)) ∧ cellsV w3.drew (.pointer (some ⟨q, 2, none⟩)) = rgA s.r ∧ w3.drew.cell? ⟨w.heap.size, 1, none⟩ = some (.int .i64 d) := ⟨r1, r2, (X4.out.cell 1).trans rfl⟩
  refine Hd.take (i := 0) (v := ?v0) rfl (by decide +kernel) (by decide +kernel) (fun _ _ _ h => h) rfl ?hy0 SA ?rest0
  case hy0 =>
    intro wq hSw
    obtain ⟨s1, s2, s3⟩ := hSw
    go_simp
    try with_reducible rfl
  try simp only [Act.put, List.setIfInBounds_toArray, List.set_cons_zero, List.set_cons_succ]
  refine Hd.take (i := 1) (v := ?v1) rfl (by decide +kernel) (by decide +kernel) (fun _ _ _ h => h) rfl ?hy1 SA ?rest1
  case hy1 =>
    intro wq hSw
    obtain ⟨s1, s2, s3⟩ := hSw
    go_simp
    try with_reducible rfl
  try simp only [Act.put, List.setIfInBounds_toArray, List.set_cons_zero, List.set_cons_succ]
  refine Hd.take (i := 2) (v := ?v2) rfl (by decide +kernel) (by decide +kernel) (fun _ _ _ h => h) rfl ?hy2 SA ?rest2
  case hy2 =>
    intro wq hSw
    obtain ⟨s1, s2, s3⟩ := hSw
    go_simp
    try with_reducible rfl
  try simp only [Act.put, List.setIfInBounds_toArray, List.set_cons_zero, List.set_cons_succ]
  refine Hd.take (i := 3) (v := ?v3) rfl (by decide +kernel) (by decide +kernel) (fun _ _ _ h => h) rfl ?hy3 SA ?rest3
  case hy3 =>
    intro wq hSw
    obtain ⟨s1, s2, s3⟩ := hSw
    go_simp
    try with_reducible rfl
  try simp only [Act.put, List.setIfInBounds_toArray, List.set_cons_zero, List.set_cons_succ]
  refine Hd.take (i := 4) (v := ?v4) rfl (by decide +kernel) (by decide +kernel) (fun _ _ _ h => h) rfl ?hy4 SA ?rest4
  case hy4 =>
    intro wq hSw
    obtain ⟨s1, s2, s3⟩ := hSw
    go_simp
    try with_reducible rfl
  try simp only [Act.put, List.setIfInBounds_toArray, List.set_cons_zero, List.set_cons_succ]
  refine Hd.take (i := 5) (v := ?v5) rfl (by decide +kernel) (by decide +kernel) (fun _ _ _ h => h) rfl ?hy5 SA ?rest5
  case hy5 =>
    intro wq hSw
    obtain ⟨s1, s2, s3⟩ := hSw
    go_simp
    try with_reducible rfl
  try simp only [Act.put, List.setIfInBounds_toArray, List.set_cons_zero, List.set_cons_succ]
  refine Hd.take (i := 6) (v := ?v6) rfl (by decide +kernel) (by decide +kernel) (fun _ _ _ h => h) rfl ?hy6 SA ?rest6
  case hy6 =>
    intro wq hSw
    obtain ⟨s1, s2, s3⟩ := hSw
    go_simp
    try with_reducible rfl
  try simp only [Act.put, List.setIfInBounds_toArray, List.set_cons_zero, List.set_cons_succ]
  refine Hd.take (i := 7) (v := ?v7) rfl (by decide +kernel) (by decide +kernel) (fun _ _ _ h => h) rfl ?hy7 SA ?rest7
  case hy7 =>
    intro wq hSw
    obtain ⟨s1, s2, s3⟩ := hSw
    go_simp
    try with_reducible rfl
  try simp only [Act.put, List.setIfInBounds_toArray, List.set_cons_zero, List.set_cons_succ]
  refine Hd.take (i := 9) (v := ?v9) rfl (by decide +kernel) (by decide +kernel) (fun _ _ _ h => h) rfl ?hy9 SA ?rest9
  case hy9 =>
    intro wq hSw
    obtain ⟨s1, s2, s3⟩ := hSw
    go_simp
    try with_reducible rfl
  try simp only [Act.put, List.setIfInBounds_toArray, List.set_cons_zero, List.set_cons_succ]
  refine Hd.take (i := 10) (v := ?v10) rfl (by decide +kernel) (by decide +kernel) (fun _ _ _ h => h) rfl ?hy10 SA ?rest10
  case hy10 =>
    intro wq hSw
    obtain ⟨s1, s2, s3⟩ := hSw
    go_simp
    try with_reducible rfl
  try simp only [Act.put, List.setIfInBounds_toArray, List.set_cons_zero, List.set_cons_succ]
  refine Hd.one (i := 8) rfl (by kernel_rfl) rfl (fun K hK => ?_)
  go_simp
  refine (rget_any s.r d _ C4.out.co.ok).mono ?_
  rintro e w5 ⟨rfl, hb5⟩
  have C5 := Lib.hid (C4.out.keep hb5)
  have X5 := Lib.hid (X4.out.keep hb5)
  have SB : HasV w5 (.pointer (some ⟨q, 2, none⟩)) ∧ cellsV w5 (.pointer (some ⟨q, 2, none⟩)) = rgA s.r ∧ w5.cell? ⟨w.heap.size, 1, none⟩ = some (.int .i64 d) := ⟨(Cohas C5.out.co).1, (Cohas C5.out.co).2, (X5.out.cell 1).trans rfl⟩
  refine hK _ _ (fun _ => SB) ?_
  clear hK K hb5 SA SB r1 r2 C4 X4
  try simp only [Act.put, List.setIfInBounds_toArray, List.set_cons_zero, List.set_cons_succ]
  refine Hd.one (i := 11) rfl (by kernel_rfl) rfl (fun K hK => ?_)
  go_simp
  refine hK _ _ (fun h => absurd h (by omega)) ?_
  clear hK K
  try simp only [Act.put, List.setIfInBounds_toArray, List.set_cons_zero, List.set_cons_succ]
  refine Hd.one (i := 12) rfl (by kernel_rfl) rfl (fun K hK => ?_)
  have pv := C5.out.co.priv hn
  have fv := C5.out.co.free (41 + n)
  go_simp
  have C6 := Lib.hid (C5.out.own n (reg s.r d))
  refine hK _ _ (fun h => absurd h (by omega)) ?_
  clear hK K pv fv
  try simp only [Act.put, List.setIfInBounds_toArray, List.set_cons_zero, List.set_cons_succ]
  refine Hd.done (by kernel_rfl) ?_ _
  go_wp2_with fail
  go_ret2
  exact ⟨none, 0, 0, rfl, isEv_nil _, C6.out⟩

set_option maxRecDepth 20000 in
set_option maxHeartbeats 3200000 in
theorem memory_16 {w : World} {q mq : Nat} {F : List Nat} {s : Cr} (h : Co w q mq F s) (d a b s0 c n : Int) (x : BitVec 64) (v0 : Int) (ha : reg s.r a = 4096#64) (hx : s.now = [x]) (hv : s.ver = [v0]) (hp : -1000000 ≤ s.pc ∧ s.pc ≤ 1000000) :
    Calls Try.prog 60 #[.pointer (some ⟨q, 0, none⟩), .agg #[.int .i64 16, .int .i64 d, .int .i64 a, .int .i64 b, .int .i64 s0, .int .i64 c, .int .i64 n]] w (Ans q mq F s w { s with r := setReg s.r d x, pc := s.pc + 1, mark := 4096, seen := v0 } [⟨2, 4096, x⟩]) := by
  have hnl : s.now.length = 1 := by rw [hx]; rfl
  have HX := Lib.hid hx
  have HV := Lib.hid hv
  have H := Lib.hid h
  have hlt := h.lt
  have BK := Lib.hid (below_al w (.cells #[.int .i64 16, .int .i64 d, .int .i64 a, .int .i64 b, .int .i64 s0, .int .i64 c, .int .i64 n] 45))
  have X0 := Lib.hid (Bx.new w ⟨16, d, a, b, s0, c, n⟩)
  obtain ⟨W, hW⟩ : ∃ W, w.alloc (.cells #[.int .i64 16, .int .i64 d, .int .i64 a, .int .i64 b, .int .i64 s0, .int .i64 c, .int .i64 n] 45) = W := ⟨_, rfl⟩
  rw [show w.alloc (.cells (insL ⟨16, d, a, b, s0, c, n⟩).toArray 45) = W from hW] at X0
  rw [hW] at BK
  have hbq : w.heap.size ≠ q := by omega
  have C0 := Lib.hid ((Cg.start H.out).keep BK.out)
  clear h
  have x0 : W.cell? ⟨w.heap.size, 0, none⟩ = some (.int .i64 16) := (X0.out.cell 0).trans rfl
  have x1 : W.cell? ⟨w.heap.size, 1, none⟩ = some (.int .i64 d) := (X0.out.cell 1).trans rfl
  have x2 : W.cell? ⟨w.heap.size, 2, none⟩ = some (.int .i64 a) := (X0.out.cell 2).trans rfl
  have x3 : W.cell? ⟨w.heap.size, 3, none⟩ = some (.int .i64 b) := (X0.out.cell 3).trans rfl
  have x4 : W.cell? ⟨w.heap.size, 4, none⟩ = some (.int .i64 s0) := (X0.out.cell 4).trans rfl
  have x5 : W.cell? ⟨w.heap.size, 5, none⟩ = some (.int .i64 c) := (X0.out.cell 5).trans rfl
  have x6 : W.cell? ⟨w.heap.size, 6, none⟩ = some (.int .i64 n) := (X0.out.cell 6).trans rfl
  have i1 : IntKind.i64.wrap (s.pc + 1) = s.pc + 1 := IntWalk.i64_in _ ⟨by omega, by omega⟩
  go_enter Try.func60, Try.ntmps60
  go_wp2_with fail
  try rw [hW]
  clear hW
  refine (where_16 C0.out.co d a b s0 c n ha hnl).mono ?_
  rintro e w2 ⟨rfl, hb2⟩
  have C2 := Lib.hid (C0.out.keep hb2)
  have X2 := Lib.hid (X0.out.keep hb2)
  clear hb2 C0 X0
  clear x0 x1 x2 x3 x4 x5 x6
  have x0 : w2.cell? ⟨w.heap.size, 0, none⟩ = some (.int .i64 16) := (X2.out.cell 0).trans rfl
  have x1 : w2.cell? ⟨w.heap.size, 1, none⟩ = some (.int .i64 d) := (X2.out.cell 1).trans rfl
  have x4 : w2.cell? ⟨w.heap.size, 4, none⟩ = some (.int .i64 s0) := (X2.out.cell 4).trans rfl
  have p35 := C2.out.co.pc
  have f35 := C2.out.co.free 35
  go_upto_region 9 with fail
  have C3 := Lib.hid (C2.out.pc (s.pc + 1))
  have X3 := Lib.hid (X2.out.set hbq 35 (.int .i64 (s.pc + 1)))
  obtain ⟨w3, hw3⟩ : ∃ w3, w2.setCell ⟨q, 35, none⟩ (.int .i64 (s.pc + 1)) = w3 := ⟨_, rfl⟩
  rw [hw3] at C3 X3
  try rw [hw3]
  clear hw3 C2 X2 p35 f35
  clear x0 x1 x4
  have x0 : w3.cell? ⟨w.heap.size, 0, none⟩ = some (.int .i64 16) := (X3.out.cell 0).trans rfl
  have x1 : w3.cell? ⟨w.heap.size, 1, none⟩ = some (.int .i64 d) := (X3.out.cell 1).trans rfl
  have x4 : w3.cell? ⟨w.heap.size, 4, none⟩ = some (.int .i64 s0) := (X3.out.cell 4).trans rfl
  obtain ⟨kp, hmem⟩ := C3.out.co.mem
  have RD := Lib.hid (rread_any mq _ 4096 F _ kp _ w3 (by omega) (by omega) hmem)
  rw [plc_base (by rw [hx]; rfl), show rd (nowI { s with pc := s.pc + 1 }) (some 0) = (x.toNat : Int) from by unfold nowI; rw [hx]; rfl] at RD
  clear hmem kp
  have pw := C3.out.co.wr
  clear hx hv
  go_wp2_with fail
  refine (rlast_nil 4096 _).mono ?_
  rintro e w9 ⟨rfl, rfl⟩
  have pm := C3.out.co.c0
  go_wp2_with fail
  refine RD.out.mono ?_
  rintro e w9 ⟨rfl, rfl⟩
  clear RD
  go_wp2_with fail
  have C4 := Lib.hid C3.out.drew
  have X4 := Lib.hid (X3.out.keep (Below.refl _ _).drew)
  clear C3 X3 pm pw
  clear x0 x1 x4
  obtain ⟨r1, r2⟩ := Cohas C4.out.co
  refine Hd.start 9 (fun w' => HasV w' (.pointer (some ⟨q, 2, none⟩)) ∧ cellsV w' (.pointer (some ⟨q, 2, none⟩)) = rgA s.r ∧ w'.cell? ⟨w.heap.size, 1, none⟩ = some (.int .i64 d)) (by kernel_rfl) ?_
  have SA : HasV w3.drew (.pointer (some ⟨q, 2, none⟩)) ∧ cellsV w3.drew (.pointer (some ⟨q, 2, none⟩)) = rgA s.r ∧ w3.drew.cell? ⟨w.heap.size, 1, none⟩ = some (.int .i64 d) := ⟨r1, r2, (X4.out.cell 1).trans rfl⟩
  refine Hd.take (i := 0) (v := ?v0C4) rfl (by decide +kernel) (by decide +kernel) (fun _ _ _ h => h) rfl ?hy0C4 SA ?rest0C4
  case hy0C4 =>
    intro wq hSw
    obtain ⟨s1, s2, s3⟩ := hSw
    go_simp
    try with_reducible rfl
  try simp only [Act.put, List.setIfInBounds_toArray, List.set_cons_zero, List.set_cons_succ]
  refine Hd.take (i := 1) (v := ?v1C4) rfl (by decide +kernel) (by decide +kernel) (fun _ _ _ h => h) rfl ?hy1C4 SA ?rest1C4
  case hy1C4 =>
    intro wq hSw
    obtain ⟨s1, s2, s3⟩ := hSw
    go_simp
    try with_reducible rfl
  try simp only [Act.put, List.setIfInBounds_toArray, List.set_cons_zero, List.set_cons_succ]
  refine Hd.take (i := 2) (v := ?v2C4) rfl (by decide +kernel) (by decide +kernel) (fun _ _ _ h => h) rfl ?hy2C4 SA ?rest2C4
  case hy2C4 =>
    intro wq hSw
    obtain ⟨s1, s2, s3⟩ := hSw
    go_simp
    try with_reducible rfl
  try simp only [Act.put, List.setIfInBounds_toArray, List.set_cons_zero, List.set_cons_succ]
  refine Hd.take (i := 3) (v := ?v3C4) rfl (by decide +kernel) (by decide +kernel) (fun _ _ _ h => h) rfl ?hy3C4 SA ?rest3C4
  case hy3C4 =>
    intro wq hSw
    obtain ⟨s1, s2, s3⟩ := hSw
    go_simp
    try with_reducible rfl
  try simp only [Act.put, List.setIfInBounds_toArray, List.set_cons_zero, List.set_cons_succ]
  refine Hd.take (i := 4) (v := ?v4C4) rfl (by decide +kernel) (by decide +kernel) (fun _ _ _ h => h) rfl ?hy4C4 SA ?rest4C4
  case hy4C4 =>
    intro wq hSw
    obtain ⟨s1, s2, s3⟩ := hSw
    go_simp
    try with_reducible rfl
  try simp only [Act.put, List.setIfInBounds_toArray, List.set_cons_zero, List.set_cons_succ]
  refine Hd.take (i := 5) (v := ?v5C4) rfl (by decide +kernel) (by decide +kernel) (fun _ _ _ h => h) rfl ?hy5C4 SA ?rest5C4
  case hy5C4 =>
    intro wq hSw
    obtain ⟨s1, s2, s3⟩ := hSw
    go_simp
    try with_reducible rfl
  try simp only [Act.put, List.setIfInBounds_toArray, List.set_cons_zero, List.set_cons_succ]
  refine Hd.take (i := 6) (v := ?v6C4) rfl (by decide +kernel) (by decide +kernel) (fun _ _ _ h => h) rfl ?hy6C4 SA ?rest6C4
  case hy6C4 =>
    intro wq hSw
    obtain ⟨s1, s2, s3⟩ := hSw
    go_simp
    try with_reducible rfl
  try simp only [Act.put, List.setIfInBounds_toArray, List.set_cons_zero, List.set_cons_succ]
  refine Hd.take (i := 7) (v := ?v7C4) rfl (by decide +kernel) (by decide +kernel) (fun _ _ _ h => h) rfl ?hy7C4 SA ?rest7C4
  case hy7C4 =>
    intro wq hSw
    obtain ⟨s1, s2, s3⟩ := hSw
    go_simp
    try with_reducible rfl
  try simp only [Act.put, List.setIfInBounds_toArray, List.set_cons_zero, List.set_cons_succ]
  refine Hd.one (i := 8) rfl (by kernel_rfl) rfl (fun K hK => ?_)
  go_simp
  refine (rput_any s.r d x _ C4.out.co.ok).mono ?_
  rintro e w5 ⟨rfl, hb5⟩
  have C5 := Lib.hid (C4.out.keep hb5)
  have X5 := Lib.hid (X4.out.keep hb5)
  have ok1 := setReg_ok C4.out.co.ok d x
  have SB : HasV w5 (.pointer (some ⟨q, 2, none⟩)) ∧ cellsV w5 (.pointer (some ⟨q, 2, none⟩)) = rgA s.r ∧ w5.cell? ⟨w.heap.size, 1, none⟩ = some (.int .i64 d) := ⟨(Cohas C5.out.co).1, (Cohas C5.out.co).2, (X5.out.cell 1).trans rfl⟩
  refine hK _ _ (fun _ => SB) ?_
  clear hK K hb5 SA SB r1 r2 C4 X4
  try simp only [Act.put, List.setIfInBounds_toArray, List.set_cons_zero, List.set_cons_succ]
  refine Hd.one (i := 9) rfl (by kernel_rfl) rfl (fun K hK => ?_)
  go_simp
  refine hK _ _ (fun h => absurd h (by omega)) ?_
  clear hK K
  try simp only [Act.put, List.setIfInBounds_toArray, List.set_cons_zero, List.set_cons_succ]
  refine Hd.one (i := 10) rfl (by kernel_rfl) rfl (fun K hK => ?_)
  go_simp
  refine hK _ _ (fun h => absurd h (by omega)) ?_
  clear hK K
  try simp only [Act.put, List.setIfInBounds_toArray, List.set_cons_zero, List.set_cons_succ]
  refine Hd.one (i := 11) rfl (by kernel_rfl) rfl (fun K hK => ?_)
  have ht := Cothere C5.out.co
  have hgd := good ok1
  go_simp
  have C6 := Lib.hid (C5.out.regs ok1)
  have X6 := Lib.hid (X5.out.put hbq C5.out.co ok1)
  obtain ⟨w6, hw6⟩ : ∃ w6, putV w5 (.pointer (some ⟨q, 2, none⟩)) (.agg (rgA (setReg s.r d x))) = w6 := ⟨_, rfl⟩
  rw [hw6] at C6 X6 ⊢
  clear hw6
  refine hK _ _ (fun h => absurd h (by omega)) ?_
  clear hK K ht hgd C5 X5
  try simp only [Act.put, List.setIfInBounds_toArray, List.set_cons_zero, List.set_cons_succ]
  refine Hd.done (by kernel_rfl) ?_ _
  have x0 : w6.cell? ⟨w.heap.size, 0, none⟩ = some (.int .i64 16) := (X6.out.cell 0).trans rfl
  have p39 := C6.out.co.mark
  have f39 := C6.out.co.free 39
  go_upto_region 34 with fail
  have C7 := Lib.hid (C6.out.mark 4096)
  obtain ⟨w7, hw7⟩ : ∃ w7, w6.setCell ⟨q, 39, none⟩ (.int .i64 4096) = w7 := ⟨_, rfl⟩
  rw [hw7] at C7
  try rw [hw7]
  clear hw7 p39 f39 C6 X6 x0
  have pm := C7.out.co.c0
  obtain ⟨kp, hmem⟩ := C7.out.co.mem
  have RV := Lib.hid (rversion_any mq _ 4096 F _ kp _ w7 (by omega) (by omega) hmem)
  rw [plc_base hnl] at RV
  have RV : Hid (Calls Try.prog 90 #[.pointer (some ⟨mq, 0, none⟩), .int .i64 4096] w7 fun e w' => e = .returned (.int .i64 v0) ∧ w7 = w') := Lib.hid (by
    have := RV.out
    rw [show rd ({ s with r := setReg s.r d x, pc := s.pc + 1, mark := 4096 } : Cr).ver (some 0) = v0 from by show rd s.ver (some 0) = v0; rw [HV.out]; rfl] at this
    exact this)
  clear hmem kp
  go_wp2_with fail
  refine RV.out.mono ?_
  rintro e w9 ⟨rfl, rfl⟩
  clear RV
  have p40 := C7.out.co.seen
  have f40 := C7.out.co.free 40
  go_upto_region 35 with fail
  have C8 := Lib.hid (C7.out.seen v0)
  obtain ⟨w8, hw8⟩ : ∃ w8, w7.setCell ⟨q, 40, none⟩ (.int .i64 v0) = w8 := ⟨_, rfl⟩
  rw [hw8] at C8
  try rw [hw8]
  clear hw8 p40 f40 C7 pm
  go_wp2_with fail
  refine (event_any C8.out.co 2 4096 x).mono ?_
  rintro e w9 ⟨E, rfl, hev, hb9⟩
  have HEV := Lib.hid hev
  have C9 := Lib.hid (C8.out.keep hb9)
  clear hev hb9
  go_wp2_with fail
  go_ret2
  exact ⟨E, 1, 1, rfl, HEV.out, C9.out⟩

theorem Cg.memo {w0 w w' : World} {q mq : Nat} {F : List Nat} {s : Cr} (h : Cg w0 q mq F s w) {x v : BitVec 64} {v0 : Int} {kp : List Int} (hx : s.now = [x]) (hv : s.ver = [v0]) (hb : -1000000 ≤ v0 ∧ v0 ≤ 1000000) (hm : Mem w' 129 mq F s.now.length (put (nowI s) (some 0) (v.toNat : Int)) kp (tick s.ver (some 0))) (ho : Only F w w') :
    Cg w0 q mq F { s with now := [v], ver := [v0 + 1] } w' := by
  refine ⟨⟨(ho.block q h.co.lt h.co.nF).trans h.co.at_, h.co.ok, h.co.own, ⟨kp, ?_⟩, h.co.nF⟩, h.on.seq (ho.more (by simp +contextual))⟩
  have e1 : put (nowI s) (some 0) (v.toNat : Int) = nowI { s with now := [v], ver := [v0 + 1] } := by unfold nowI; rw [hx]; rfl
  have e2 : tick s.ver (some 0) = [v0 + 1] := by
    rw [hv]
    show [wrap64 (v0 + 1)] = _
    rw [IntWalk.wrap64_in _ (by omega)]
  have e3 : s.now.length = 1 := by rw [hx]; rfl
  rw [e1, e2, e3] at hm
  exact hm
theorem putV_only {w : World} {q mq : Nat} {F : List Nat} {s : Cr} (h : Co w q mq F s) {r : Rg} (ok : okR r) : (putV w (.pointer (some ⟨q, 2, none⟩)) (.agg (rgA r))).heap.size = w.heap.size := setCells_size q _ _ _

set_option maxRecDepth 20000 in
set_option maxHeartbeats 3200000 in
theorem exclusive_any {w : World} {q mq : Nat} {F : List Nat} {s : Cr} (h : Co w q mq F s) (d a b s0 c n : Int) (x : BitVec 64) (v0 : Int) (hx : s.now = [x]) (hv : s.ver = [v0]) (hm : s.mark = 4096) (hs : s.seen = v0) (hb : -1000000 ≤ v0 ∧ v0 ≤ 1000000) :
    Calls Try.prog 87 #[.pointer (some ⟨q, 0, none⟩), .agg #[.int .i64 17, .int .i64 d, .int .i64 a, .int .i64 b, .int .i64 s0, .int .i64 c, .int .i64 n], .int .i64 4096] w fun e w' => ∃ E n c, e = .returned (.slice E n c) ∧ IsEv w' E n c [⟨3, 4096, reg s.r d⟩] ∧ Cg w q mq F { s with r := setReg s.r s0 0#64, mark := -1, now := [reg s.r d], ver := [v0 + 1] } w' := by
  have HX := Lib.hid hx
  have HV := Lib.hid hv
  have HM := Lib.hid hm
  have HS := Lib.hid hs
  have HB := Lib.hid hb
  have H := Lib.hid h
  have hlt := h.lt
  have BK := Lib.hid (below_al w (.cells #[.int .i64 17, .int .i64 d, .int .i64 a, .int .i64 b, .int .i64 s0, .int .i64 c, .int .i64 n] 45))
  have X0 := Lib.hid (Bx.new w ⟨17, d, a, b, s0, c, n⟩)
  obtain ⟨W, hW⟩ : ∃ W, w.alloc (.cells #[.int .i64 17, .int .i64 d, .int .i64 a, .int .i64 b, .int .i64 s0, .int .i64 c, .int .i64 n] 45) = W := ⟨_, rfl⟩
  rw [show w.alloc (.cells (insL ⟨17, d, a, b, s0, c, n⟩).toArray 45) = W from hW] at X0
  rw [hW] at BK
  have hbq : w.heap.size ≠ q := by omega
  have C0 := Lib.hid ((Cg.start H.out).keep BK.out)
  clear h
  have x1 : W.cell? ⟨w.heap.size, 1, none⟩ = some (.int .i64 d) := (X0.out.cell 1).trans rfl
  go_enter Try.func87, Try.ntmps87
  go_wp2_with fail
  try rw [hW]
  clear hW
  have C1 := Lib.hid C0.out.drew
  have X1 := Lib.hid (X0.out.keep (Below.refl _ _).drew)
  clear C0 X0 x1
  obtain ⟨r1, r2⟩ := Cohas C1.out.co
  refine Hd.start 6 (fun w' => HasV w' (.pointer (some ⟨q, 2, none⟩)) ∧ cellsV w' (.pointer (some ⟨q, 2, none⟩)) = rgA s.r ∧ w'.cell? ⟨w.heap.size, 1, none⟩ = some (.int .i64 d)) (by kernel_rfl) ?_
  have SA : HasV W.drew (.pointer (some ⟨q, 2, none⟩)) ∧ cellsV W.drew (.pointer (some ⟨q, 2, none⟩)) = rgA s.r ∧ W.drew.cell? ⟨w.heap.size, 1, none⟩ = some (.int .i64 d) := ⟨r1, r2, (X1.out.cell 1).trans rfl⟩
  refine Hd.take (i := 0) (v := ?v0) rfl (by decide +kernel) (by decide +kernel) (fun _ _ _ h => h) rfl ?hy0 SA ?rest0
  case hy0 =>
    intro wq hSw
    obtain ⟨s1, s2, s3⟩ := hSw
    go_simp
    try with_reducible rfl
  try simp only [Act.put, List.setIfInBounds_toArray, List.set_cons_zero, List.set_cons_succ]
  refine Hd.take (i := 1) (v := ?v1) rfl (by decide +kernel) (by decide +kernel) (fun _ _ _ h => h) rfl ?hy1 SA ?rest1
  case hy1 =>
    intro wq hSw
    obtain ⟨s1, s2, s3⟩ := hSw
    go_simp
    try with_reducible rfl
  try simp only [Act.put, List.setIfInBounds_toArray, List.set_cons_zero, List.set_cons_succ]
  refine Hd.take (i := 2) (v := ?v2) rfl (by decide +kernel) (by decide +kernel) (fun _ _ _ h => h) rfl ?hy2 SA ?rest2
  case hy2 =>
    intro wq hSw
    obtain ⟨s1, s2, s3⟩ := hSw
    go_simp
    try with_reducible rfl
  try simp only [Act.put, List.setIfInBounds_toArray, List.set_cons_zero, List.set_cons_succ]
  refine Hd.take (i := 3) (v := ?v3) rfl (by decide +kernel) (by decide +kernel) (fun _ _ _ h => h) rfl ?hy3 SA ?rest3
  case hy3 =>
    intro wq hSw
    obtain ⟨s1, s2, s3⟩ := hSw
    go_simp
    try with_reducible rfl
  try simp only [Act.put, List.setIfInBounds_toArray, List.set_cons_zero, List.set_cons_succ]
  refine Hd.take (i := 4) (v := ?v4) rfl (by decide +kernel) (by decide +kernel) (fun _ _ _ h => h) rfl ?hy4 SA ?rest4
  case hy4 =>
    intro wq hSw
    obtain ⟨s1, s2, s3⟩ := hSw
    go_simp
    try with_reducible rfl
  try simp only [Act.put, List.setIfInBounds_toArray, List.set_cons_zero, List.set_cons_succ]
  refine Hd.take (i := 5) (v := ?v5) rfl (by decide +kernel) (by decide +kernel) (fun _ _ _ h => h) rfl ?hy5 SA ?rest5
  case hy5 =>
    intro wq hSw
    obtain ⟨s1, s2, s3⟩ := hSw
    go_simp
    try with_reducible rfl
  try simp only [Act.put, List.setIfInBounds_toArray, List.set_cons_zero, List.set_cons_succ]
  refine Hd.one (i := 6) rfl (by kernel_rfl) rfl (fun K hK => ?_)
  go_simp
  refine (rget_any s.r d _ C1.out.co.ok).mono ?_
  rintro e w2 ⟨rfl, hb2⟩
  have C2 := Lib.hid (C1.out.keep hb2)
  have X2 := Lib.hid (X1.out.keep hb2)
  refine hK _ _ (fun h => absurd h (by omega)) ?_
  clear hK K hb2 SA r1 r2 C1 X1
  try simp only [Act.put, List.setIfInBounds_toArray, List.set_cons_zero, List.set_cons_succ]
  refine Hd.one (i := 7) rfl (by kernel_rfl) rfl (fun K hK => ?_)
  go_simp
  refine hK _ _ (fun h => absurd h (by omega)) ?_
  clear hK K
  try simp only [Act.put, List.setIfInBounds_toArray, List.set_cons_zero, List.set_cons_succ]
  refine Hd.done (by kernel_rfl) ?_ _
  have pw := C2.out.co.wr
  clear hx hv hm hs
  go_wp2_with fail
  refine (rlast_nil 4096 _).mono ?_
  rintro e w9 ⟨rfl, rfl⟩
  have p39 : w2.cell? ⟨q, 39, none⟩ = some (.int .i64 4096) := by rw [C2.out.co.mark, HM.out]
  have f39 := C2.out.co.free 39
  have p40 : w2.cell? ⟨q, 40, none⟩ = some (.int .i64 v0) := by rw [C2.out.co.seen, HS.out]
  have pm := C2.out.co.c0
  obtain ⟨kp, hmem⟩ := C2.out.co.mem
  have RV : Hid (∀ n : Nat, Calls Try.prog 90 #[.pointer (some ⟨mq, 0, none⟩), .int .i64 4096] (w2.drewN n) fun e w' => e = .returned (.int .i64 v0) ∧ w2.drewN n = w') := Lib.hid (fun n => by
    have := rversion_any mq _ 4096 F _ kp _ (w2.drewN n) (by omega) (by omega) (hmem.keep (below_drawn w2 n))
    rw [plc_base (by rw [HX.out]; rfl), show rd s.ver (some 0) = v0 from by rw [HV.out]; rfl] at this
    exact this)
  clear hmem kp
  go_upto_region 3 with fail
  go_quiet ((go_at_call 90; exact quiet_left (RV.out _)))
  go_upto_region 4 with fail
  have C4 := Lib.hid (C2.out.keep (below_drawn w2 nq))
  have X4 := Lib.hid (X2.out.keep (below_drawn w2 nq))
  clear p39 f39 p40 pm pw RV C2 X2
  generalize w2.drewN nq = w4 at *
  have p39 := C4.out.co.mark
  have f39 := C4.out.co.free 39
  go_upto_region 8 with fail
  have C5 := Lib.hid (C4.out.mark (-1))
  have X5 := Lib.hid (X4.out.set hbq 39 (.int .i64 (-1)))
  obtain ⟨w5, hw5⟩ : ∃ w5, w4.setCell ⟨q, 39, none⟩ (.int .i64 (-1)) = w5 := ⟨_, rfl⟩
  rw [hw5] at C5 X5
  try rw [hw5]
  clear hw5 p39 f39 C4 X4
  go_wp2_with fail
  have C6 := Lib.hid C5.out.drew
  have X6 := Lib.hid (X5.out.keep (Below.refl _ _).drew)
  clear C5 X5
  obtain ⟨r1, r2⟩ := Cohas C6.out.co
  refine Hd.start 8 (fun w' => HasV w' (.pointer (some ⟨q, 2, none⟩)) ∧ cellsV w' (.pointer (some ⟨q, 2, none⟩)) = rgA s.r ∧ w'.cell? ⟨w.heap.size, 4, none⟩ = some (.int .i64 s0)) (by kernel_rfl) ?_
  have SA : HasV w5.drew (.pointer (some ⟨q, 2, none⟩)) ∧ cellsV w5.drew (.pointer (some ⟨q, 2, none⟩)) = rgA s.r ∧ w5.drew.cell? ⟨w.heap.size, 4, none⟩ = some (.int .i64 s0) := ⟨r1, r2, (X6.out.cell 4).trans rfl⟩
  refine Hd.take (i := 0) (v := ?v0C6) rfl (by decide +kernel) (by decide +kernel) (fun _ _ _ h => h) rfl ?hy0C6 SA ?rest0C6
  case hy0C6 =>
    intro wq hSw
    obtain ⟨s1, s2, s3⟩ := hSw
    go_simp
    try with_reducible rfl
  try simp only [Act.put, List.setIfInBounds_toArray, List.set_cons_zero, List.set_cons_succ]
  refine Hd.take (i := 1) (v := ?v1C6) rfl (by decide +kernel) (by decide +kernel) (fun _ _ _ h => h) rfl ?hy1C6 SA ?rest1C6
  case hy1C6 =>
    intro wq hSw
    obtain ⟨s1, s2, s3⟩ := hSw
    go_simp
    try with_reducible rfl
  try simp only [Act.put, List.setIfInBounds_toArray, List.set_cons_zero, List.set_cons_succ]
  refine Hd.take (i := 2) (v := ?v2C6) rfl (by decide +kernel) (by decide +kernel) (fun _ _ _ h => h) rfl ?hy2C6 SA ?rest2C6
  case hy2C6 =>
    intro wq hSw
    obtain ⟨s1, s2, s3⟩ := hSw
    go_simp
    try with_reducible rfl
  try simp only [Act.put, List.setIfInBounds_toArray, List.set_cons_zero, List.set_cons_succ]
  refine Hd.take (i := 3) (v := ?v3C6) rfl (by decide +kernel) (by decide +kernel) (fun _ _ _ h => h) rfl ?hy3C6 SA ?rest3C6
  case hy3C6 =>
    intro wq hSw
    obtain ⟨s1, s2, s3⟩ := hSw
    go_simp
    try with_reducible rfl
  try simp only [Act.put, List.setIfInBounds_toArray, List.set_cons_zero, List.set_cons_succ]
  refine Hd.take (i := 4) (v := ?v4C6) rfl (by decide +kernel) (by decide +kernel) (fun _ _ _ h => h) rfl ?hy4C6 SA ?rest4C6
  case hy4C6 =>
    intro wq hSw
    obtain ⟨s1, s2, s3⟩ := hSw
    go_simp
    try with_reducible rfl
  try simp only [Act.put, List.setIfInBounds_toArray, List.set_cons_zero, List.set_cons_succ]
  refine Hd.take (i := 5) (v := ?v5C6) rfl (by decide +kernel) (by decide +kernel) (fun _ _ _ h => h) rfl ?hy5C6 SA ?rest5C6
  case hy5C6 =>
    intro wq hSw
    obtain ⟨s1, s2, s3⟩ := hSw
    go_simp
    try with_reducible rfl
  try simp only [Act.put, List.setIfInBounds_toArray, List.set_cons_zero, List.set_cons_succ]
  refine Hd.take (i := 6) (v := ?v6C6) rfl (by decide +kernel) (by decide +kernel) (fun _ _ _ h => h) rfl ?hy6C6 SA ?rest6C6
  case hy6C6 =>
    intro wq hSw
    obtain ⟨s1, s2, s3⟩ := hSw
    go_simp
    try with_reducible rfl
  try simp only [Act.put, List.setIfInBounds_toArray, List.set_cons_zero, List.set_cons_succ]
  refine Hd.one (i := 7) rfl (by kernel_rfl) rfl (fun K hK => ?_)
  go_simp
  refine (rput_any s.r s0 0#64 _ C6.out.co.ok).mono ?_
  rintro e w7 ⟨rfl, hb5⟩
  have C7 := Lib.hid (C6.out.keep hb5)
  have X7 := Lib.hid (X6.out.keep hb5)
  have ok1 := setReg_ok C6.out.co.ok s0 0#64
  have SB : HasV w7 (.pointer (some ⟨q, 2, none⟩)) ∧ cellsV w7 (.pointer (some ⟨q, 2, none⟩)) = rgA s.r ∧ w7.cell? ⟨w.heap.size, 4, none⟩ = some (.int .i64 s0) := ⟨(Cohas C7.out.co).1, (Cohas C7.out.co).2, (X7.out.cell 4).trans rfl⟩
  refine hK _ _ (fun _ => SB) ?_
  clear hK K hb5 SA SB r1 r2 C6 X6
  try simp only [Act.put, List.setIfInBounds_toArray, List.set_cons_zero, List.set_cons_succ]
  refine Hd.one (i := 8) rfl (by kernel_rfl) rfl (fun K hK => ?_)
  go_simp
  refine hK _ _ (fun h => absurd h (by omega)) ?_
  clear hK K
  try simp only [Act.put, List.setIfInBounds_toArray, List.set_cons_zero, List.set_cons_succ]
  refine Hd.one (i := 9) rfl (by kernel_rfl) rfl (fun K hK => ?_)
  go_simp
  refine hK _ _ (fun h => absurd h (by omega)) ?_
  clear hK K
  try simp only [Act.put, List.setIfInBounds_toArray, List.set_cons_zero, List.set_cons_succ]
  refine Hd.one (i := 10) rfl (by kernel_rfl) rfl (fun K hK => ?_)
  have ht := Cothere C7.out.co
  have hgd := good ok1
  go_simp
  have C8 := Lib.hid (C7.out.regs ok1)
  obtain ⟨w8, hw8⟩ : ∃ w8, putV w7 (.pointer (some ⟨q, 2, none⟩)) (.agg (rgA (setReg s.r s0 0#64))) = w8 := ⟨_, rfl⟩
  rw [hw8] at C8 ⊢
  clear hw8
  refine hK _ _ (fun h => absurd h (by omega)) ?_
  clear hK K ht hgd C7 X7
  try simp only [Act.put, List.setIfInBounds_toArray, List.set_cons_zero, List.set_cons_succ]
  refine Hd.done (by kernel_rfl) ?_ _
  have pm := C8.out.co.c0
  obtain ⟨kp, hmem⟩ := C8.out.co.mem
  have RW := Lib.hid (rwrite_any mq _ 4096 ((reg s.r d).toNat : Int) F _ kp _ w8 (by omega) (by omega) hmem)
  rw [plc_base (show s.now.length = 1 by rw [HX.out]; rfl)] at RW
  clear hmem
  go_wp2_with fail
  refine RW.out.mono ?_
  rintro e w9 ⟨rfl, hm9, ho9⟩
  have C9 := Lib.hid (C8.out.memo (v := reg s.r d) (x := x) (v0 := v0) HX.out HV.out HB.out hm9 ho9)
  clear hm9 ho9 pm C8 RW
  go_wp2_with fail
  refine (event_any C9.out.co 3 4096 (reg s.r d)).mono ?_
  rintro e w10 ⟨E, rfl, hev, hb10⟩
  have HEV := Lib.hid hev
  have C10 := Lib.hid (C9.out.keep hb10)
  clear hev hb10
  go_wp2_with fail
  go_ret
  exact ⟨E, 1, 1, rfl, HEV.out, C10.out⟩

set_option maxRecDepth 20000 in
set_option maxHeartbeats 3200000 in
theorem memory_17 {w : World} {q mq : Nat} {F : List Nat} {s : Cr} (h : Co w q mq F s) (d a b s0 c n : Int) (x : BitVec 64) (v0 : Int) (ha : reg s.r a = 4096#64) (hx : s.now = [x]) (hv : s.ver = [v0]) (hm : s.mark = 4096) (hs : s.seen = v0) (hb : -1000000 ≤ v0 ∧ v0 ≤ 1000000) (hp : -1000000 ≤ s.pc ∧ s.pc ≤ 1000000) :
    Calls Try.prog 60 #[.pointer (some ⟨q, 0, none⟩), .agg #[.int .i64 17, .int .i64 d, .int .i64 a, .int .i64 b, .int .i64 s0, .int .i64 c, .int .i64 n]] w (Ans q mq F s w { s with r := setReg s.r s0 0#64, pc := s.pc + 1, mark := -1, now := [reg s.r d], ver := [v0 + 1] } [⟨3, 4096, reg s.r d⟩]) := by
  have hnl : s.now.length = 1 := by rw [hx]; rfl
  have HX := Lib.hid hx
  have HV := Lib.hid hv
  have HM := Lib.hid hm
  have HS := Lib.hid hs
  clear hx hv hm hs
  have H := Lib.hid h
  have hlt := h.lt
  have BK := Lib.hid (below_al w (.cells #[.int .i64 17, .int .i64 d, .int .i64 a, .int .i64 b, .int .i64 s0, .int .i64 c, .int .i64 n] 45))
  have X0 := Lib.hid (Bx.new w ⟨17, d, a, b, s0, c, n⟩)
  obtain ⟨W, hW⟩ : ∃ W, w.alloc (.cells #[.int .i64 17, .int .i64 d, .int .i64 a, .int .i64 b, .int .i64 s0, .int .i64 c, .int .i64 n] 45) = W := ⟨_, rfl⟩
  rw [show w.alloc (.cells (insL ⟨17, d, a, b, s0, c, n⟩).toArray 45) = W from hW] at X0
  rw [hW] at BK
  have hbq : w.heap.size ≠ q := by omega
  have C0 := Lib.hid ((Cg.start H.out).keep BK.out)
  clear h
  have x0 : W.cell? ⟨w.heap.size, 0, none⟩ = some (.int .i64 17) := (X0.out.cell 0).trans rfl
  have x1 : W.cell? ⟨w.heap.size, 1, none⟩ = some (.int .i64 d) := (X0.out.cell 1).trans rfl
  have x2 : W.cell? ⟨w.heap.size, 2, none⟩ = some (.int .i64 a) := (X0.out.cell 2).trans rfl
  have x3 : W.cell? ⟨w.heap.size, 3, none⟩ = some (.int .i64 b) := (X0.out.cell 3).trans rfl
  have x4 : W.cell? ⟨w.heap.size, 4, none⟩ = some (.int .i64 s0) := (X0.out.cell 4).trans rfl
  have x5 : W.cell? ⟨w.heap.size, 5, none⟩ = some (.int .i64 c) := (X0.out.cell 5).trans rfl
  have x6 : W.cell? ⟨w.heap.size, 6, none⟩ = some (.int .i64 n) := (X0.out.cell 6).trans rfl
  have i1 : IntKind.i64.wrap (s.pc + 1) = s.pc + 1 := IntWalk.i64_in _ ⟨by omega, by omega⟩
  go_enter Try.func60, Try.ntmps60
  go_wp2_with fail
  try rw [hW]
  clear hW
  refine (where_17 C0.out.co d a b s0 c n ha hnl).mono ?_
  rintro e w2 ⟨rfl, hb2⟩
  have C2 := Lib.hid (C0.out.keep hb2)
  have X2 := Lib.hid (X0.out.keep hb2)
  clear hb2 C0 X0
  clear x0 x1 x2 x3 x4 x5 x6
  have x0 : w2.cell? ⟨w.heap.size, 0, none⟩ = some (.int .i64 17) := (X2.out.cell 0).trans rfl
  have x1 : w2.cell? ⟨w.heap.size, 1, none⟩ = some (.int .i64 d) := (X2.out.cell 1).trans rfl
  have x4 : w2.cell? ⟨w.heap.size, 4, none⟩ = some (.int .i64 s0) := (X2.out.cell 4).trans rfl
  have p35 := C2.out.co.pc
  have f35 := C2.out.co.free 35
  go_upto_region 9 with fail
  have C3 := Lib.hid (C2.out.pc (s.pc + 1))
  have X3 := Lib.hid (X2.out.set hbq 35 (.int .i64 (s.pc + 1)))
  obtain ⟨w3, hw3⟩ : ∃ w3, w2.setCell ⟨q, 35, none⟩ (.int .i64 (s.pc + 1)) = w3 := ⟨_, rfl⟩
  rw [hw3] at C3 X3
  try rw [hw3]
  clear hw3 C2 X2 p35 f35
  clear x0 x1 x4
  have x0 : w3.cell? ⟨w.heap.size, 0, none⟩ = some (.int .i64 17) := (X3.out.cell 0).trans rfl
  have x1 : w3.cell? ⟨w.heap.size, 1, none⟩ = some (.int .i64 d) := (X3.out.cell 1).trans rfl
  have x4 : w3.cell? ⟨w.heap.size, 4, none⟩ = some (.int .i64 s0) := (X3.out.cell 4).trans rfl
  have x2 : w3.cell? ⟨w.heap.size, 2, none⟩ = some (.int .i64 a) := (X3.out.cell 2).trans rfl
  have x3 : w3.cell? ⟨w.heap.size, 3, none⟩ = some (.int .i64 b) := (X3.out.cell 3).trans rfl
  have x5 : w3.cell? ⟨w.heap.size, 5, none⟩ = some (.int .i64 c) := (X3.out.cell 5).trans rfl
  have x6 : w3.cell? ⟨w.heap.size, 6, none⟩ = some (.int .i64 n) := (X3.out.cell 6).trans rfl
  go_wp2_with fail
  refine (exclusive_any C3.out.co d a b s0 c n x v0 HX.out HV.out HM.out HS.out hb).mono ?_
  rintro e w4 ⟨E, en, ec, rfl, hev, hc⟩
  have HEV := Lib.hid hev
  have C4 := Lib.hid (C3.out.then hc)
  clear hev hc
  go_wp2_with fail
  go_ret2
  exact ⟨E, en, ec, rfl, HEV.out, C4.out⟩
end Go.Proofs.Ytkohichiojmakaa.EmX
