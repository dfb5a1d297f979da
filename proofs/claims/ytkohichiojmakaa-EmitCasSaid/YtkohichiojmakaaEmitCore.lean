/-
  WHAT A CORE OF cofferdamref1 HOLDS.
-/
import Derived.Test.YtkohichiojmakaaGEm
import Derived.Test.YtkohichiojmakaaEmitMem
import Derived.Test.YtkohichiojmakaaGAlu
import Derived.Test.YtkohichiojmakaaGOwn
namespace Go.Proofs.Ytkohichiojmakaa.EmM
set_option linter.unusedVariables false
set_option linter.unusedSimpArgs false
open Go.RowKit Cm Mm Ow Me Rm A64 Alu AluG Em

def w64 (v : BitVec 64) : Value := .int .u64 (v.toNat : Int)
/-- behind the registers -/
def coT (s : Cr) : List Value := .int .i64 s.pc :: .int .i64 s.st :: .slice none 0 0 :: .slice none 0 0 :: .int .i64 s.mark :: .int .i64 s.seen :: s.own.map w64
def coL (mq : Nat) (s : Cr) : List Value := .pointer (some ⟨mq, 0, none⟩) :: .int .i64 0 :: (rgL s.r ++ coT s)
theorem co_hi {mq : Nat} {s : Cr} (ok : okR s.r) (k : Nat) : (coL mq s)[k + 35]? = (coT s)[k]? := by
  unfold coL
  rw [show k + 35 = (k + 33) + 1 + 1 by omega]
  simp only [List.getElem?_cons_succ]
  rw [List.getElem?_append_right (by rw [rgL_len ok]; omega), rgL_len ok]
  congr 1
theorem co_lo {mq : Nat} {s : Cr} (ok : okR s.r) {k : Nat} (hk : k < 33) : (coL mq s)[k + 2]? = (rgL s.r)[k]? := by
  unfold coL
  rw [show k + 2 = k + 1 + 1 by omega]
  simp only [List.getElem?_cons_succ]
  rw [List.getElem?_append_left (by rw [rgL_len ok]; omega)]
theorem co_own {mq : Nat} {s : Cr} (ok : okR s.r) {k : Nat} (hk : k < s.own.length) : (coL mq s)[k + 41]? = some (w64 (s.own.getD k 0)) := by
  rw [show k + 41 = (k + 6) + 35 by omega, co_hi ok]
  unfold coT
  rw [show k + 6 = k + 1 + 1 + 1 + 1 + 1 + 1 by omega]
  simp only [List.getElem?_cons_succ, List.getElem?_map]
  simp [List.getD, hk]
theorem co_set {mq : Nat} {s : Cr} (ok : okR s.r) (k : Nat) (v : Value) : (coL mq s).set (k + 35) v = .pointer (some ⟨mq, 0, none⟩) :: .int .i64 0 :: (rgL s.r ++ (coT s).set k v) := by
  unfold coL
  rw [show k + 35 = (k + 33) + 1 + 1 by omega]
  simp only [List.set_cons_succ]
  rw [List.set_append_right _ _ (by rw [rgL_len ok]; omega), rgL_len ok]
  congr 4
theorem co_len {mq : Nat} {s : Cr} (ok : okR s.r) : (coL mq s).length = 41 + s.own.length := by
  unfold coL coT
  simp [rgL_len ok]; omega
theorem setCells_mid (b : Nat) (T : TypeId) (post : List Value) : ∀ (vs pre rest : List Value) (w : World), rest.length = vs.length → w.heap[b]? = some (.cells (pre ++ (rest ++ post)).toArray T (0, 0)) → (w.setCells b pre.length vs).heap[b]? = some (.cells (pre ++ (vs ++ post)).toArray T (0, 0))
  | [], pre, rest, w, hl, h => by
    have : rest = [] := List.length_eq_zero_iff.1 (by simpa using hl)
    subst this
    exact h
  | v :: t, pre, rest, w, hl, h => by
    match rest, hl with
    | u :: rest, hl =>
    rw [World.setCells]
    have h1 : (w.setCell ⟨b, pre.length, none⟩ v).heap[b]? = some (.cells ((pre ++ [v]) ++ (rest ++ post)).toArray T (0, 0)) := by
      rw [block_set h]
      simp
    have := setCells_mid b T post t (pre ++ [v]) rest _ (by simpa using hl) h1
    simpa using this
theorem only_setCells (b : Nat) {F : List Nat} (hB : b ∈ F) : ∀ (vs : List Value) (o : Nat) (w w0 : World), Only F w0 w → Only F w0 (w.setCells b o vs)
  | [], _, _, _, h => h
  | v :: t, o, w, w0, h => by
    rw [World.setCells]
    exact only_setCells b hB t (o + 1) _ w0 (h.setCell hB _)

abbrev coTy : TypeId := 79
def nowI (s : Cr) : List Int := s.now.map fun v => (v.toNat : Int)
/-- a core in block q, its memory in the blocks F -/
structure Co (w : World) (q mq : Nat) (F : List Nat) (s : Cr) : Prop where
  at_ : w.heap[q]? = some (.cells (coL mq s).toArray coTy (0, 0))
  ok : okR s.r
  own : s.own.length = 512
  mem : ∃ kept, Mem w 129 mq F s.now.length (nowI s) kept s.ver
  nF : q ∉ F
section
variable {w w' : World} {q mq : Nat} {F : List Nat} {s : Cr}
theorem Co.cell (h : Co w q mq F s) (k : Nat) : w.cell? ⟨q, k, none⟩ = (coL mq s)[k]? := by
  simp only [World.cell?, h.at_]; simp
theorem Co.free (h : Co w q mq F s) (k : Nat) : w.frozen? ⟨q, k, none⟩ = false := by
  simp only [World.frozen?, h.at_]; simp
theorem Co.lt (h : Co w q mq F s) : q < w.heap.size := (Array.getElem?_eq_some_iff.1 h.at_).1
theorem Co.c0 (h : Co w q mq F s) : w.cell? ⟨q, 0, none⟩ = some (.pointer (some ⟨mq, 0, none⟩)) := (h.cell 0).trans rfl
theorem Co.c1 (h : Co w q mq F s) : w.cell? ⟨q, 1, none⟩ = some (.int .i64 0) := (h.cell 1).trans rfl
theorem Co.pc (h : Co w q mq F s) : w.cell? ⟨q, 35, none⟩ = some (.int .i64 s.pc) := (h.cell 35).trans (co_hi h.ok 0)
theorem Co.st (h : Co w q mq F s) : w.cell? ⟨q, 36, none⟩ = some (.int .i64 s.st) := (h.cell 36).trans (co_hi h.ok 1)
theorem Co.wr (h : Co w q mq F s) : w.cell? ⟨q, 37, none⟩ = some (.slice none 0 0) := (h.cell 37).trans (co_hi h.ok 2)
theorem Co.asked (h : Co w q mq F s) : w.cell? ⟨q, 38, none⟩ = some (.slice none 0 0) := (h.cell 38).trans (co_hi h.ok 3)
theorem Co.mark (h : Co w q mq F s) : w.cell? ⟨q, 39, none⟩ = some (.int .i64 s.mark) := (h.cell 39).trans (co_hi h.ok 4)
theorem Co.seen (h : Co w q mq F s) : w.cell? ⟨q, 40, none⟩ = some (.int .i64 s.seen) := (h.cell 40).trans (co_hi h.ok 5)
theorem Co.priv (h : Co w q mq F s) {k : Nat} (hk : k < 512) : w.cell? ⟨q, 41 + k, none⟩ = some (w64 (s.own.getD k 0)) := by
  rw [h.cell, Nat.add_comm]
  exact co_own h.ok (by rw [h.own]; exact hk)
theorem Co.x0 (h : Co w q mq F s) : w.cell? ⟨q, 2, none⟩ = some (.int .u64 ((reg s.r 0).toNat : Int)) := by
  rw [h.cell]
  exact (co_lo (k := 0) h.ok (by omega)).trans (rgL_reg h.ok (k := 0) (by omega))
theorem Co.range (h : Co w q mq F s) : w.rangeAt q 2 (rgL s.r) := fun j v hv => by
  have hj : j < 33 := by rw [← rgL_len h.ok]; exact (List.getElem?_eq_some_iff.1 hv).1
  rw [h.cell, Nat.add_comm, co_lo h.ok hj, hv]
theorem Co.there (h : Co w q mq F s) : w.there q 2 33 := fun j hj => by
  refine ⟨?_, h.free _⟩
  rw [h.cell, Nat.add_comm, co_lo h.ok hj, List.getElem?_eq_getElem (by rw [rgL_len h.ok]; exact hj)]; rfl
theorem Co.only {G : List Nat} (h : Co w q mq F s) (ho : Only G w w') (hq : q ∉ G) (hF : ∀ k ∈ F, k ∉ G) : Co w' q mq F s :=
  ⟨(ho.block q h.lt hq).trans h.at_, h.ok, h.own, by obtain ⟨kp, hm⟩ := h.mem; exact ⟨kp, hm.far ho hF⟩, h.nF⟩
theorem Co.keep (h : Co w q mq F s) (hb : Below w.heap.size w w') : Co w' q mq F s := h.only (G := []) (Only.of_below hb) (by simp) (by simp)
theorem only_set (w : World) (q k : Nat) (v : Value) : Only [q] w (w.setCell ⟨q, k, none⟩ v) := (Only.refl _ _).setCell (by simp) v
/-- a cell of the core is set: what the core then is -/
theorem Co.set (h : Co w q mq F s) (k : Nat) (v : Value) (s' : Cr) (hr : s'.r = s.r) (ho : s'.own.length = 512) (hn : s'.now = s.now) (hv : s'.ver = s.ver) (hs : (coT s).set k v = coT s') : Co (w.setCell ⟨q, k + 35, none⟩ v) q mq F s' := by
  refine ⟨?_, by rw [hr]; exact h.ok, ho, ?_, h.nF⟩
  · rw [block_set h.at_]
    congr 2
    rw [List.setIfInBounds_toArray, co_set h.ok, hs]
    unfold coL
    rw [hr]
  · obtain ⟨kp, hm⟩ := h.mem
    unfold nowI at *
    rw [hn, hv]
    exact ⟨kp, hm.far (only_set w q _ v) (fun k hk e => h.nF (by simp at e; rwa [← e]))⟩
theorem Co.setPc (h : Co w q mq F s) (v : Int) : Co (w.setCell ⟨q, 35, none⟩ (.int .i64 v)) q mq F { s with pc := v } := h.set 0 _ _ rfl h.own rfl rfl rfl
theorem Co.setSt (h : Co w q mq F s) (v : Int) : Co (w.setCell ⟨q, 36, none⟩ (.int .i64 v)) q mq F { s with st := v } := h.set 1 _ _ rfl h.own rfl rfl rfl
theorem Co.setMark (h : Co w q mq F s) (v : Int) : Co (w.setCell ⟨q, 39, none⟩ (.int .i64 v)) q mq F { s with mark := v } := h.set 4 _ _ rfl h.own rfl rfl rfl
theorem Co.setSeen (h : Co w q mq F s) (v : Int) : Co (w.setCell ⟨q, 40, none⟩ (.int .i64 v)) q mq F { s with seen := v } := h.set 5 _ _ rfl h.own rfl rfl rfl
theorem Co.setOwn (h : Co w q mq F s) (k : Nat) (v : BitVec 64) : Co (w.setCell ⟨q, 41 + k, none⟩ (w64 v)) q mq F { s with own := s.own.set k v } := by
  rw [show 41 + k = (k + 6) + 35 by omega]
  refine h.set (k + 6) _ _ rfl (by simpa using h.own) rfl rfl ?_
  unfold coT
  rw [show k + 6 = k + 1 + 1 + 1 + 1 + 1 + 1 by omega]
  simp only [List.set_cons_succ, List.map_set]
theorem Co.setR (h : Co w q mq F s) {r : Rg} (ok : okR r) : Co (w.setCells q 2 (rgL r)) q mq F { s with r := r } := by
  refine ⟨?_, ok, h.own, ?_, h.nF⟩
  · have := setCells_mid q coTy (coT s) (rgL r) [.pointer (some ⟨mq, 0, none⟩), .int .i64 0] (rgL s.r) w (by rw [rgL_len h.ok, rgL_len ok]) h.at_
    exact this
  · obtain ⟨kp, hm⟩ := h.mem
    exact ⟨kp, hm.far (only_setCells q (by simp) (rgL r) 2 w w (Only.refl [q] w)) (fun k hk e => h.nF (by simp at e; rwa [← e]))⟩
end
end Go.Proofs.Ytkohichiojmakaa.EmM
