/-
  PLAIN: instructions made of steps (chapter 20), and a core that plays them (chapter 6), as far as the laws of chapter 20 go. No Go here.
-/
import Derived.Test.YtkohichiojmakaaGPlain
namespace Go.Proofs.Ytkohichiojmakaa.Em
set_option linter.unusedVariables false
set_option linter.unusedSimpArgs false
open A64 Alu Stp Fld

/-! what is made of steps -/
structure Pl where
  slot : Bool
  n : Int
deriving DecidableEq
def noPl : Pl := ⟨true, 0⟩
def placeOf (p : List Pl) (v : Int) : Pl := if 0 ≤ v ∧ v < p.length then p.getD v.toNat noPl else noPl
def rdI (p : List Pl) (v k : Int) : List In := if (placeOf p v).slot then [⟨12, 17 + k, 28, 0, 0, 0, (placeOf p v).n⟩] else []
def rdR (p : List Pl) (v k : Int) : Int := if (placeOf p v).slot then 17 + k else (placeOf p v).n + 1
def tgR (p : List Pl) (v : Int) : Int := if (placeOf p v).slot then 20 else (placeOf p v).n + 1
def kpI (p : List Pl) (v : Int) : List In := if (placeOf p v).slot then [⟨13, 20, 28, 0, 0, 0, (placeOf p v).n⟩] else []
def mask (n : Nat) : BitVec 64 := BitVec.ofNat 64 (2 ^ n - 1)
def chunk (v : BitVec 64) (k : Nat) : BitVec 64 := (v >>> (16 * k)) &&& mask 16
def movk (d : Int) (v : BitVec 64) (k : Nat) : List In := if (chunk v k).toNat = 0 then [] else [⟨1, d, 0, 0, k, 0, (chunk v k).toNat⟩]
def constI (d : Int) (v : BitVec 64) : List In := ⟨0, d, 0, 0, 0, 0, (chunk v 0).toNat⟩ :: (movk d v 1 ++ (movk d v 2 ++ movk d v 3))
def opI (o d a b : Int) : List In :=
  if o = 43 then [⟨2, d, a, b, 0, 0, 0⟩] else if o = 45 then [⟨3, d, a, b, 0, 0, 0⟩] else if o = 42 then [⟨4, d, a, b, 0, 0, 0⟩] else if o = 38 then [⟨5, d, a, b, 0, 0, 0⟩]
  else if o = 61 then [⟨6, 0, a, b, 0, 0, 0⟩, ⟨7, d, 0, 0, 0, 0, 0⟩] else if o = 60 then [⟨6, 0, a, b, 0, 0, 0⟩, ⟨7, d, 0, 0, 0, 11, 0⟩] else [⟨21, 0, 0, 0, 0, 0, 0⟩]
def casI (d a b c : Int) : List In := [⟨16, 21, a, 0, 0, 0, 0⟩, ⟨6, 0, 21, b, 0, 0, 0⟩, ⟨9, 0, 0, 0, 0, 1, 5⟩, ⟨17, c, a, 0, 22, 0, 0⟩, ⟨11, 0, 22, 0, 0, 0, -4⟩, ⟨0, d, 0, 0, 0, 0, 1⟩, ⟨8, 0, 0, 0, 0, 0, 2⟩, ⟨0, d, 0, 0, 0, 0, 0⟩]
def outI (a : Int) : List In := [⟨2, 0, a, 31, 0, 0, 0⟩, ⟨23, 0, 0, 0, 0, 0, 0⟩]
def hltI : In := ⟨22, 0, 0, 0, 0, 0, 0⟩
def emS (p : List Pl) (s : St) : List In :=
  if s.kind = 0 then constI (tgR p s.d) (BitVec.ofInt 64 s.n) ++ kpI p s.d
  else if s.kind = 2 then rdI p s.a 0 ++ (rdI p s.b 1 ++ (opI s.op (tgR p s.d) (rdR p s.a 0) (rdR p s.b 1) ++ kpI p s.d))
  else if s.kind = 5 then rdI p s.a 0 ++ (rdI p s.b 1 ++ (rdI p s.c 2 ++ (casI (tgR p s.d) (rdR p s.a 0) (rdR p s.b 1) (rdR p s.c 2) ++ kpI p s.d)))
  else if s.kind = 8 then rdI p s.a 0 ++ outI (rdR p s.a 0)
  else if s.kind = 10 then [⟨8, 0, 0, 1, 0, 0, s.to⟩]
  else if s.kind = 11 then rdI p s.a 0 ++ [⟨10, 0, rdR p s.a 0, 1, 0, 0, s.to⟩]
  else if s.kind = 12 then [hltI]
  else []
def emL (p : List Pl) (l : List St) : List In := (l.map (emS p)).flatten
def emC (p : List Pl) (l : List St) : List In := emL p l ++ [hltI]
/-- where labels stand, behind one step -/
def lbS (lb : List Int) (s : St) (at_ : Nat) : List Int := if s.kind = 9 ∧ 0 ≤ s.to ∧ s.to < lb.length ∧ lb.getD s.to.toNat 0 < 0 then lb.set s.to.toNat at_ else lb
def lbL (p : List Pl) (lb : List Int) (l : List St) : Nat → List Int
  | 0 => lb
  | k + 1 => lbS (lbL p lb l k) (l.getD k zeroSt) (emL p (l.take k)).length
/-- how many labels there are -/
def most : List St → Int
  | [] => 0
  | s :: t => if s.kind = 9 ∧ 0 ≤ s.to ∧ s.to ≤ 400 then max (s.to + 1) (most t) else most t

/-! a core -/
structure Ev where
  kind : Int
  at_ : Int
  v : BitVec 64
structure Cr where
  r : Rg
  pc : Int
  st : Int
  mark : Int
  seen : Int
  own : List (BitVec 64)
  now : List (BitVec 64)
  ver : List Int
def memX (s : Cr) (i : In) : Option (Cr × List Ev) :=
  if i.kind = 12 then
    if decide (reg s.r i.a = 1048576#64) && (decide (0 ≤ i.n) && decide (i.n < 512)) then some ({ s with r := setReg s.r i.d (s.own.getD i.n.toNat 0), pc := s.pc + 1 }, []) else none
  else if i.kind = 13 then
    if decide (reg s.r i.a = 1048576#64) && (decide (0 ≤ i.n) && decide (i.n < 512)) then some ({ s with own := s.own.set i.n.toNat (reg s.r i.d), pc := s.pc + 1 }, []) else none
  else if i.kind = 16 then
    if decide (reg s.r i.a = 4096#64) && decide (s.now.length = 1) then some ({ s with r := setReg s.r i.d (s.now.getD 0 0), pc := s.pc + 1, mark := 4096, seen := s.ver.getD 0 0 }, [⟨2, 4096, s.now.getD 0 0⟩]) else none
  else if i.kind = 17 then
    if decide (reg s.r i.a = 4096#64) && (decide (s.now.length = 1) && (decide (s.mark = 4096) && decide (s.seen = s.ver.getD 0 0))) then
      some ({ s with r := setReg s.r i.s 0, pc := s.pc + 1, mark := -1, now := [reg s.r i.d], ver := [s.ver.getD 0 0 + 1] }, [⟨3, 4096, reg s.r i.d⟩]) else none
  else none
def execI (s : Cr) (i : In) : Option (Cr × List Ev) :=
  if inAlu i then some ({ s with r := (Alu.step s.r i).1, pc := s.pc + (Alu.step s.r i).2.1 }, [])
  else if right i = false then none
  else if i.kind = 22 then some ({ s with pc := s.pc + 1, st := 1 }, [⟨10, 0, 0⟩])
  else if i.kind = 23 then some ({ s with pc := s.pc + 1 }, [⟨4, 0, reg s.r 0⟩])
  else memX s i
def execX (code : List In) (s : Cr) : Option (Cr × List Ev) :=
  if s.st = 0 ∧ 0 ≤ s.pc ∧ s.pc < code.length then execI s (code.getD s.pc.toNat zeroIn) else none
def runX (code : List In) : Nat → Cr → Option (Cr × List Ev)
  | 0, s => some (s, [])
  | k + 1, s => match execX code s with
    | none => none
    | some (s1, e1) => match runX code k s1 with
      | none => none
      | some (s2, e2) => some (s2, e1 ++ e2)
def Goes (code : List In) (s : Cr) (k : Nat) (s' : Cr) (e : List Ev) : Prop := runX code k s = some (s', e)
theorem Goes.zero (code : List In) (s : Cr) : Goes code s 0 s [] := rfl
theorem Goes.one {code : List In} {s s' : Cr} {e : List Ev} (h : execX code s = some (s', e)) : Goes code s 1 s' e := by
  unfold Goes runX
  rw [h]
  simp [runX]
theorem Goes.cons {code : List In} {s s1 s2 : Cr} {k : Nat} {e1 e2 : List Ev} (h : execX code s = some (s1, e1)) (h2 : Goes code s1 k s2 e2) : Goes code s (k + 1) s2 (e1 ++ e2) := by
  unfold Goes at *
  unfold runX
  rw [h]
  simp only [h2]
theorem Goes.trans {code : List In} : ∀ {k : Nat} {s s1 s2 : Cr} {m : Nat} {e1 e2 : List Ev}, Goes code s k s1 e1 → Goes code s1 m s2 e2 → Goes code s (k + m) s2 (e1 ++ e2)
  | 0, s, s1, s2, m, e1, e2, h, h2 => by
    unfold Goes at h
    simp only [runX, Option.some.injEq, Prod.mk.injEq] at h
    obtain ⟨rfl, rfl⟩ := h
    rw [Nat.zero_add]
    exact h2
  | k + 1, s, s1, s2, m, e1, e2, h, h2 => by
    unfold Goes at h
    unfold runX at h
    cases hx : execX code s with
    | none => rw [hx] at h; cases h
    | some y =>
      obtain ⟨sa, ea⟩ := y
      rw [hx] at h
      simp only at h
      cases hy : runX code k sa with
      | none => rw [hy] at h; cases h
      | some z =>
        obtain ⟨sb, eb⟩ := z
        rw [hy] at h
        simp only [Option.some.injEq, Prod.mk.injEq] at h
        obtain ⟨rfl, rfl⟩ := h
        have := Goes.trans (k := k) hy h2
        rw [show k + 1 + m = (k + m) + 1 by omega, List.append_assoc]
        exact Goes.cons hx this
theorem Goes.all {code : List In} : ∀ {k : Nat} {s s' : Cr} {e : List Ev}, Goes code s k s' e → ∀ j, j < k → ∃ sj ej s1 e1, Goes code s j sj ej ∧ execX code sj = some (s1, e1) ∧ Goes code s (j + 1) s1 (ej ++ e1)
  | 0, s, s', e, h, j, hj => absurd hj (by omega)
  | k + 1, s, s', e, h, j, hj => by
    unfold Goes at h
    unfold runX at h
    cases hx : execX code s with
    | none => rw [hx] at h; cases h
    | some y =>
      obtain ⟨sa, ea⟩ := y
      rw [hx] at h
      simp only at h
      cases hy : runX code k sa with
      | none => rw [hy] at h; cases h
      | some z =>
        obtain ⟨sb, eb⟩ := z
        cases j with
        | zero => exact ⟨s, [], sa, ea, rfl, hx, by have := Goes.one hx; simpa using this⟩
        | succ j =>
          obtain ⟨sj, ej, s1, e1, g1, g2, g3⟩ := Goes.all (k := k) hy j (by omega)
          exact ⟨sj, ea ++ ej, s1, e1, Goes.cons hx g1, g2, by rw [List.append_assoc]; exact Goes.cons hx g3⟩

/-! where instructions stand -/
def At (code : List In) (k : Int) (seg : List In) : Prop := ∃ pre post, code = pre ++ (seg ++ post) ∧ (pre.length : Int) = k
theorem At.head {code : List In} {k : Int} {i : In} {t : List In} (h : At code k (i :: t)) : 0 ≤ k ∧ k < code.length ∧ code.getD k.toNat zeroIn = i := by
  obtain ⟨pre, post, rfl, rfl⟩ := h
  refine ⟨by omega, by simp; omega, ?_⟩
  rw [Int.toNat_natCast]
  simp [List.getD]
theorem At.tail {code : List In} {k : Int} {i : In} {t : List In} (h : At code k (i :: t)) : At code (k + 1) t := by
  obtain ⟨pre, post, rfl, rfl⟩ := h
  exact ⟨pre ++ [i], post, by simp, by simp⟩
theorem At.left {code : List In} {k : Int} {a b : List In} (h : At code k (a ++ b)) : At code k a := by
  obtain ⟨pre, post, rfl, rfl⟩ := h
  exact ⟨pre, b ++ post, by simp, rfl⟩
theorem At.right {code : List In} {k : Int} {a b : List In} (h : At code k (a ++ b)) : At code (k + a.length) b := by
  obtain ⟨pre, post, rfl, rfl⟩ := h
  exact ⟨pre ++ a, post, by simp, by simp⟩
theorem At.whole (code : List In) : At code 0 code := ⟨[], [], by simp, rfl⟩

/-! registers -/
theorem reg_set {r : Rg} {n : Int} (v : BitVec 64) (ok : okR r) (h : 0 ≤ n ∧ n < 31) : reg (setReg r n v) n = v := by
  unfold setReg reg okR at *
  rw [if_pos h, if_pos h]
  have : n.toNat < r.x.length := by omega
  simp [List.getD, List.getElem?_set, this]
theorem reg_ne {r : Rg} {n m : Int} (v : BitVec 64) (h : m ≠ n) : reg (setReg r n v) m = reg r m := by
  unfold setReg reg
  by_cases h1 : 0 ≤ n ∧ n < 31
  · rw [if_pos h1]
    by_cases h2 : 0 ≤ m ∧ m < 31
    · rw [if_pos h2, if_pos h2]
      have : n.toNat ≠ m.toNat := by omega
      simp [List.getD, List.getElem?_set_ne this]
    · rw [if_neg h2, if_neg h2]
  · rw [if_neg h1]
theorem set_set (r : Rg) (d : Int) (a b : BitVec 64) : setReg (setReg r d a) d b = setReg r d b := by
  unfold setReg
  split <;> simp_all
theorem reg_31 (r : Rg) : reg r 31 = 0 := by unfold reg; rw [if_neg (by omega)]

/-! one instruction -/
theorem alu_in {i : In} (h : right i = true) (hk : i.kind ≤ 11 ∨ i.kind = 21) : inAlu i = true := by unfold inAlu; rw [h, decide_eq_true hk]; rfl
theorem not_in {i : In} (hk : 12 ≤ i.kind ∧ i.kind ≠ 21) : inAlu i = false := by
  unfold inAlu; rw [decide_eq_false (by omega)]; simp
theorem ex_at {code : List In} {s : Cr} {i : In} {t : List In} (h0 : s.st = 0) (h : At code s.pc (i :: t)) : execX code s = execI s i := by
  obtain ⟨h1, h2, h3⟩ := h.head
  unfold execX
  rw [if_pos ⟨h0, h1, h2⟩, h3]
theorem st_set {r : Rg} {i : In} (h : right i = true) (hk : 0 ≤ i.kind ∧ (i.kind ≤ 5 ∨ i.kind = 7)) : Alu.step r i = (setReg r i.d (reckon r i), 1, true) := by
  have hin := alu_in h (by omega)
  have hj : jumps r i = false := by
    unfold jumps
    rw [if_neg (by omega), if_neg (by omega), if_neg (by omega)]
    simp; omega
  unfold Alu.step
  rw [if_neg (by simp [hin]), if_neg (by omega), if_neg (by simp [hj]), if_neg (by omega), if_neg (by omega)]
theorem st_cmp {r : Rg} {a b : Int} (h : right ⟨6, 0, a, b, 0, 0, 0⟩ = true) : Alu.step r ⟨6, 0, a, b, 0, 0, 0⟩ = ({ r with l := reg r a, r := reg r b }, 1, true) := by
  simp [Alu.step, inAlu, h, jumps]
theorem ex_set {code : List In} {s : Cr} {i : In} {t : List In} (h0 : s.st = 0) (h : At code s.pc (i :: t)) (hr : right i = true) (hk : 0 ≤ i.kind ∧ (i.kind ≤ 5 ∨ i.kind = 7)) :
    execX code s = some ({ s with r := setReg s.r i.d (reckon s.r i), pc := s.pc + 1 }, []) := by
  rw [ex_at h0 h]
  unfold execI
  rw [if_pos (alu_in hr (by omega)), st_set hr hk]

/-! a constant -/
theorem mask_get (n i : Nat) : (mask n).getLsbD i = (decide (i < 64) && decide (i < n)) := by
  unfold mask
  rw [BitVec.getLsbD_ofNat, Nat.testBit_two_pow_sub_one]
theorem piece (v : BitVec 64) (k : Nat) : ((v &&& mask k) &&& ~~~ (mask 16 <<< k)) ||| (((v >>> k) &&& mask 16) <<< k) = v &&& mask (k + 16) := by
  apply BitVec.eq_of_getLsbD_eq
  intro i hi
  simp only [BitVec.getLsbD_or, BitVec.getLsbD_and, BitVec.getLsbD_not, BitVec.getLsbD_shiftLeft, BitVec.getLsbD_ushiftRight, mask_get]
  by_cases h1 : i < k
  · simp [hi, h1, show i < k + 16 by omega]
  · by_cases h2 : i < k + 16
    · have e : k + (i - k) = i := by omega
      simp [hi, h1, h2, e, show i - k < 64 by omega, show i - k < 16 by omega]
    · simp [hi, h1, h2, show ¬ i - k < 16 by omega]
theorem mask_off (v : BitVec 64) (k : Nat) : (v &&& mask k) &&& ~~~ (mask 16 <<< k) = v &&& mask k := by
  apply BitVec.eq_of_getLsbD_eq
  intro i hi
  simp only [BitVec.getLsbD_or, BitVec.getLsbD_and, BitVec.getLsbD_not, BitVec.getLsbD_shiftLeft, mask_get]
  by_cases h1 : i < k
  · simp [hi, h1]
  · simp [hi, h1]
theorem mask_all (v : BitVec 64) : v &&& mask 64 = v := by
  apply BitVec.eq_of_getLsbD_eq
  intro i hi
  simp [mask_get, hi]
theorem mask16 : mask 16 = 65535#64 := by decide
theorem chunk_lt (v : BitVec 64) (k : Nat) : (chunk v k).toNat < 65536 := by
  unfold chunk
  rw [mask16, BitVec.toNat_and]
  exact Nat.lt_of_le_of_lt Nat.and_le_right (by decide)
theorem mv_right (d : Int) (k : Nat) (K n : Int) (hK : K = 0 ∨ K = 1) (hd : 0 ≤ d ∧ d ≤ 31) (hk : k < 4) (hn : 0 ≤ n ∧ n < 65536) : right ⟨K, d, 0, 0, k, 0, n⟩ = true := by
  rcases hK with rfl | rfl
  · simp [right, rightF, fitN, fitC, form, table, fits]
    omega
  · simp [right, rightF, fitN, fitC, form, table, fits]
    omega
def regs (r : Rg) (v : BitVec 64) (d : Int) (k : Nat) : Rg := setReg r d (v &&& mask (16 * k))
theorem regs_ok {r : Rg} (h : okR r) (v : BitVec 64) (d : Int) (k : Nat) : okR (regs r v d k) := setReg_ok h _ _
theorem go_movk {code : List In} {s : Cr} {r : Rg} {v : BitVec 64} {d : Int} {k : Nat} {t : List In} (h0 : s.st = 0) (ok : okR r) (hr : s.r = regs r v d k) (hd : 0 ≤ d ∧ d < 31) (hk : 1 ≤ k ∧ k < 4) (h : At code s.pc (movk d v k ++ t)) :
    ∃ m, m ≤ 1 ∧ Goes code s m { s with r := regs r v d (k + 1), pc := s.pc + (movk d v k).length } [] := by
  have hp := piece v (16 * k)
  by_cases hz : (chunk v k).toNat = 0
  · have e : movk d v k = [] := by unfold movk; rw [if_pos hz]
    refine ⟨0, by omega, ?_⟩
    rw [e]
    have e2 : regs r v d (k + 1) = s.r := by
      rw [hr]
      unfold regs
      have hc : chunk v k = 0#64 := BitVec.eq_of_toNat_eq (by simpa using hz)
      unfold chunk at hc
      rw [hc, mask_off] at hp
      rw [show 16 * (k + 1) = 16 * k + 16 by omega, ← hp]
      simp
    rw [e2]
    have e3 : ({ s with pc := s.pc + (([] : List In).length : Nat) } : Cr) = s := by
      cases s; simp
    rw [e3]
    exact Goes.zero _ _
  · have e : movk d v k = [⟨1, d, 0, 0, k, 0, (chunk v k).toNat⟩] := by unfold movk; rw [if_neg hz]
    rw [e] at h ⊢
    have hrt := mv_right d k 1 (chunk v k).toNat (Or.inr rfl) (by omega) (by omega) (by have := chunk_lt v k; omega)
    have hx := ex_set h0 h hrt (by simp)
    refine ⟨1, by omega, ?_⟩
    have := Goes.one hx
    have e4 : reckon s.r ⟨1, d, 0, 0, k, 0, (chunk v k).toNat⟩ = v &&& mask (16 * (k + 1)) := by
      have e5 : hole ⟨1, d, 0, 0, k, 0, (chunk v k).toNat⟩ = mask 16 <<< (16 * k) := by
        unfold hole
        rw [mask16]; simp
      have e6 : Alu.part ⟨1, d, 0, 0, k, 0, (chunk v k).toNat⟩ = chunk v k <<< (16 * k) := by
        unfold Alu.part; simp
      show (reg s.r d &&& ~~~ hole ⟨1, d, 0, 0, k, 0, (chunk v k).toNat⟩) ||| Alu.part ⟨1, d, 0, 0, k, 0, (chunk v k).toNat⟩ = _
      rw [e5, e6, hr]
      unfold regs
      rw [reg_set _ ok hd, show 16 * (k + 1) = 16 * k + 16 by omega, ← hp]
      rfl
    rw [e4] at this
    have e7 : setReg s.r d (v &&& mask (16 * (k + 1))) = regs r v d (k + 1) := by
      rw [hr]
      unfold regs
      rw [set_set]
    simp only [e7] at this
    exact this
theorem go_const {code : List In} {s : Cr} {v : BitVec 64} {d : Int} {t : List In} (h0 : s.st = 0) (ok : okR s.r) (hd : 0 ≤ d ∧ d < 31) (h : At code s.pc (constI d v ++ t)) :
    ∃ m, m ≤ 4 ∧ Goes code s m { s with r := setReg s.r d v, pc := s.pc + (constI d v).length } [] := by
  unfold constI at h ⊢
  have hrt := mv_right d 0 0 (chunk v 0).toNat (Or.inl rfl) (by omega) (by omega) (by have := chunk_lt v 0; omega)
  have hx := ex_set h0 (show At code s.pc (⟨0, d, 0, 0, (0 : Nat), 0, (chunk v 0).toNat⟩ :: _) from h) hrt (by simp)
  have g0 := Goes.one hx
  have e4 : reckon s.r ⟨0, d, 0, 0, (0 : Nat), 0, (chunk v 0).toNat⟩ = v &&& mask (16 * (0 + 1)) := by
    show Alu.part ⟨0, d, 0, 0, (0 : Nat), 0, (chunk v 0).toNat⟩ = _
    unfold Alu.part chunk
    simp
  rw [e4] at g0
  have t1 : At code (s.pc + 1) ((movk d v 1 ++ (movk d v 2 ++ movk d v 3)) ++ t) := At.tail h
  rw [List.append_assoc, List.append_assoc] at t1
  obtain ⟨m1, l1, g1⟩ := go_movk (s := { s with r := setReg s.r d (v &&& mask (16 * (0 + 1))), pc := s.pc + 1 }) h0 ok rfl hd (by omega) t1
  have t2 := At.right t1
  obtain ⟨m2, l2, g2⟩ := go_movk (s := { s with r := regs s.r v d (1 + 1), pc := s.pc + 1 + (movk d v 1).length }) h0 ok rfl hd (by omega) t2
  have t3 := At.right t2
  obtain ⟨m3, l3, g3⟩ := go_movk (s := { s with r := regs s.r v d (2 + 1), pc := s.pc + 1 + (movk d v 1).length + (movk d v 2).length }) h0 ok rfl hd (by omega) t3
  refine ⟨1 + (m1 + (m2 + m3)), by omega, ?_⟩
  have := g0.trans (g1.trans (g2.trans g3))
  have e5 : regs s.r v d (3 + 1) = setReg s.r d v := by unfold regs; rw [show 16 * (3 + 1) = 64 from rfl, mask_all]
  rw [e5] at this
  have e6 : s.pc + 1 + ((movk d v 1).length : Int) + (movk d v 2).length + (movk d v 3).length = s.pc + ((⟨0, d, 0, 0, 0, 0, (chunk v 0).toNat⟩ :: (movk d v 1 ++ (movk d v 2 ++ movk d v 3)) : List In).length : Nat) := by
    simp; omega
  rw [← e6]
  exact this
end Go.Proofs.Ytkohichiojmakaa.Em
/-
  PLAIN: what the instructions of each step do. No Go here.
-/
namespace Go.Proofs.Ytkohichiojmakaa.Em
set_option linter.unusedVariables false
set_option linter.unusedSimpArgs false
open A64 Alu Stp Fld

structure Inv (s : Cr) : Prop where
  ok : okR s.r
  own : s.own.length = 512
  priv : reg s.r 28 = 1048576#64
  st : s.st = 0
structure PlOk (p : List Pl) : Prop where
  le : ∀ v : Int, 0 ≤ v → v < p.length → 0 ≤ (placeOf p v).n ∧ (placeOf p v).n ≤ 15
  ne : ∀ v u : Int, 0 ≤ v → v < p.length → 0 ≤ u → u < p.length → u ≠ v → (placeOf p u).n ≠ (placeOf p v).n
def val (p : List Pl) (s : Cr) (v : Int) : BitVec 64 := if (placeOf p v).slot then s.own.getD (placeOf p v).n.toNat 0 else reg s.r ((placeOf p v).n + 1)
def Mem (s s' : Cr) : Prop := s'.now = s.now ∧ s'.ver = s.ver ∧ s'.mark = s.mark ∧ s'.seen = s.seen
theorem Mem.refl (s : Cr) : Mem s s := ⟨rfl, rfl, rfl, rfl⟩
theorem Mem.trans {a b c : Cr} (h : Mem a b) (h2 : Mem b c) : Mem a c := ⟨h2.1.trans h.1, h2.2.1.trans h.2.1, h2.2.2.1.trans h.2.2.1, h2.2.2.2.trans h.2.2.2⟩
structure Put (p : List Pl) (s s' : Cr) (d : Int) (x : BitVec 64) : Prop where
  inv : Inv s'
  at_ : val p s' d = x
  o : ∀ u : Int, 0 ≤ u → u < p.length → u ≠ d → val p s' u = val p s u
theorem val_same {p : List Pl} {s s' : Cr} (hp : PlOk p) (hr : ∀ q : Int, 1 ≤ q → q ≤ 16 → reg s'.r q = reg s.r q) (ho : s'.own = s.own) {v : Int} (h0 : 0 ≤ v) (h1 : v < p.length) : val p s' v = val p s v := by
  unfold val
  have := hp.le v h0 h1
  rw [ho, hr _ (by omega) (by omega)]
theorem inv_set {s s' : Cr} {n : Int} {v : BitVec 64} (I : Inv s) (hr : s'.r = setReg s.r n v) (hn : n ≠ 28) (ho : s'.own = s.own) (hs : s'.st = s.st) : Inv s' :=
  ⟨by rw [hr]; exact setReg_ok I.ok _ _, by rw [ho]; exact I.own, by rw [hr, reg_ne v (Ne.symm hn)]; exact I.priv, by rw [hs]; exact I.st⟩
theorem tg_lt {p : List Pl} (hp : PlOk p) {d : Int} (h0 : 0 ≤ d) (h1 : d < p.length) : 1 ≤ tgR p d ∧ (tgR p d ≤ 16 ∨ tgR p d = 20) := by
  have := hp.le d h0 h1
  unfold tgR
  split <;> omega
theorem rd_lt {p : List Pl} (hp : PlOk p) {d k : Int} (h0 : 0 ≤ d) (h1 : d < p.length) (hk : 0 ≤ k ∧ k ≤ 2) : 1 ≤ rdR p d k ∧ (rdR p d k ≤ 16 ∨ rdR p d k = 17 + k) := by
  have := hp.le d h0 h1
  unfold rdR
  split <;> omega
theorem ldr_right (K d n : Int) (hK : K = 12 ∨ K = 13) (hd : 0 ≤ d ∧ d < 32) (hn : 0 ≤ n ∧ n < 4096) : right ⟨K, d, 28, 0, 0, 0, n⟩ = true := by
  rcases hK with rfl | rfl
  · simp [right, rightF, fitN, fitC, form, table, fits]
    omega
  · simp [right, rightF, fitN, fitC, form, table, fits]
    omega
theorem three_right (K d a b : Int) (hK : 2 ≤ K ∧ K ≤ 5) (hd : 0 ≤ d ∧ d < 32) (ha : 0 ≤ a ∧ a < 32) (hb : 0 ≤ b ∧ b < 32) : right ⟨K, d, a, b, 0, 0, 0⟩ = true := by
  obtain rfl | rfl | rfl | rfl : K = 2 ∨ K = 3 ∨ K = 4 ∨ K = 5 := by omega
  all_goals
    simp [right, rightF, fitN, fitC, form, table, fits]
    omega
theorem cmp_right (a b : Int) (ha : 0 ≤ a ∧ a < 32) (hb : 0 ≤ b ∧ b < 32) : right ⟨6, 0, a, b, 0, 0, 0⟩ = true := by
  simp [right, rightF, fitN, fitC, form, table, fits]
  omega
theorem cset_right (d c : Int) (hd : 0 ≤ d ∧ d < 32) (hc : c = 0 ∨ c = 11) : right ⟨7, d, 0, 0, 0, c, 0⟩ = true := by
  rcases hc with rfl | rfl
  · simp [right, rightF, fitN, fitC, form, table, fits, A64.cond]
    omega
  · simp [right, rightF, fitN, fitC, form, table, fits, A64.cond]
    omega
theorem pl_n (p : List Pl) (v : Int) : True := trivial

theorem go_rd {code : List In} {s : Cr} {p : List Pl} {v k : Int} {t : List In} (I : Inv s) (hp : PlOk p) (h0 : 0 ≤ v) (h1 : v < p.length) (hk : 0 ≤ k ∧ k ≤ 2) (h : At code s.pc (rdI p v k ++ t)) :
    ∃ s' m, m ≤ 1 ∧ Goes code s m s' [] ∧ s'.pc = s.pc + (rdI p v k).length ∧ Inv s' ∧ reg s'.r (rdR p v k) = val p s v ∧ (∀ q, q ≠ 17 + k → reg s'.r q = reg s.r q) ∧ s'.own = s.own ∧ Mem s s' := by
  have hn := hp.le v h0 h1
  unfold rdI rdR val at *
  cases hs : (placeOf p v).slot
  · rw [hs] at h
    simp only [Bool.false_eq_true, if_false] at h ⊢
    exact ⟨s, 0, by omega, Goes.zero _ _, by simp, I, rfl, fun _ _ => rfl, rfl, Mem.refl _⟩
  · rw [hs] at h
    simp only [if_true] at h ⊢
    have hr := ldr_right 12 (17 + k) (placeOf p v).n (Or.inl rfl) (by omega) (by omega)
    have hx := ex_at I.st h
    unfold execI at hx
    rw [if_neg (by rw [not_in (by simp)]; simp), if_neg (by rw [hr]; simp)] at hx
    simp only [show (12 : Int) = 22 ↔ False by decide, show (12 : Int) = 23 ↔ False by decide, if_false] at hx
    unfold memX at hx
    simp only [if_true] at hx
    rw [I.priv, decide_eq_true rfl, decide_eq_true hn.1, decide_eq_true (show (placeOf p v).n < 512 by omega)] at hx
    simp only [Bool.and_self, if_true] at hx
    refine ⟨_, 1, by omega, Goes.one hx, by simp, inv_set I rfl (by omega) rfl rfl, reg_set _ I.ok (by omega), fun q hq => reg_ne _ hq, rfl, Mem.refl _⟩
theorem go_fin {code : List In} {s s1 : Cr} {p : List Pl} {d : Int} {x : BitVec 64} {t : List In} (I1 : Inv s1) (hp : PlOk p) (h0 : 0 ≤ d) (h1 : d < p.length) (hx : reg s1.r (tgR p d) = x)
    (hs : ∀ q : Int, 1 ≤ q → q ≤ 16 → q ≠ tgR p d → reg s1.r q = reg s.r q) (ho : s1.own = s.own) (h : At code s1.pc (kpI p d ++ t)) :
    ∃ s' m, m ≤ 1 ∧ Goes code s1 m s' [] ∧ s'.pc = s1.pc + (kpI p d).length ∧ Put p s s' d x ∧ Mem s1 s' := by
  have hn := hp.le d h0 h1
  have hother : ∀ u : Int, 0 ≤ u → u < p.length → u ≠ d → reg s1.r ((placeOf p u).n + 1) = reg s.r ((placeOf p u).n + 1) := by
    intro u u0 u1 hu
    have hun := hp.le u u0 u1
    have hne := hp.ne d u h0 h1 u0 u1 hu
    refine hs _ (by omega) (by omega) ?_
    unfold tgR
    split <;> omega
  cases hsl : (placeOf p d).slot
  · have e : kpI p d = [] := by unfold kpI; rw [hsl]; rfl
    have et : tgR p d = (placeOf p d).n + 1 := by unfold tgR; rw [hsl]; rfl
    rw [e]
    refine ⟨s1, 0, by omega, Goes.zero _ _, by simp, ⟨I1, ?_, fun u u0 u1 hu => ?_⟩, Mem.refl _⟩
    · unfold val
      rw [hsl, ← et, hx]; rfl
    · unfold val
      rw [ho, hother u u0 u1 hu]
  · have e : kpI p d = [⟨13, 20, 28, 0, 0, 0, (placeOf p d).n⟩] := by unfold kpI; rw [hsl]; rfl
    have et : tgR p d = 20 := by unfold tgR; rw [hsl]; rfl
    rw [e] at h ⊢
    have hr := ldr_right 13 20 (placeOf p d).n (Or.inr rfl) (by omega) (by omega)
    have hx2 := ex_at I1.st h
    unfold execI at hx2
    rw [if_neg (by rw [not_in (by simp)]; simp), if_neg (by rw [hr]; simp)] at hx2
    simp only [show (13 : Int) = 22 ↔ False by decide, show (13 : Int) = 23 ↔ False by decide, if_false] at hx2
    unfold memX at hx2
    simp only [show (13 : Int) = 12 ↔ False by decide, if_false, if_true] at hx2
    rw [I1.priv, decide_eq_true rfl, decide_eq_true hn.1, decide_eq_true (show (placeOf p d).n < 512 by omega)] at hx2
    simp only [Bool.and_self, if_true] at hx2
    have hlen : (placeOf p d).n.toNat < s1.own.length := by rw [I1.own]; omega
    refine ⟨_, 1, by omega, Goes.one hx2, by simp, ⟨⟨I1.ok, by simp [I1.own], I1.priv, I1.st⟩, ?_, fun u u0 u1 hu => ?_⟩, Mem.refl _⟩
    · unfold val
      rw [hsl, ← et, hx]
      simp [List.getD, List.getElem?_set, hlen]
    · have hun := hp.le u u0 u1
      have hne := hp.ne d u h0 h1 u0 u1 hu
      unfold val
      simp only [hother u u0 u1 hu]
      have hni : (placeOf p d).n.toNat ≠ (placeOf p u).n.toNat := by omega
      simp [List.getD, List.getElem?_set_ne hni, ho]

/-- what a step's instructions come to: m steps at most -/
def Did (code : List In) (s : Cr) (seg : List In) (M : Nat) (s' : Cr) (e : List Ev) : Prop := (∃ m, m ≤ M ∧ Goes code s m s' e) ∧ s'.pc = s.pc + seg.length
theorem do_const {code : List In} {s : Cr} {p : List Pl} {d n : Int} {t : List In} (a b c to cell op : Int) (I : Inv s) (hp : PlOk p) (h0 : 0 ≤ d) (h1 : d < p.length) (h : At code s.pc (emS p ⟨0, d, a, b, c, to, cell, n, op⟩ ++ t)) :
    ∃ s', Did code s (emS p ⟨0, d, a, b, c, to, cell, n, op⟩) 5 s' [] ∧ Put p s s' d (BitVec.ofInt 64 n) ∧ Mem s s' := by
  have e : emS p ⟨0, d, a, b, c, to, cell, n, op⟩ = constI (tgR p d) (BitVec.ofInt 64 n) ++ kpI p d := by unfold emS; rfl
  rw [e] at h ⊢
  rw [List.append_assoc] at h
  have ht := tg_lt hp h0 h1
  obtain ⟨m1, l1, g1⟩ := go_const I.st I.ok (by omega) h
  obtain ⟨s2, m2, l2, g2, p2, q2, r2⟩ := go_fin (s := s) (s1 := { s with r := setReg s.r (tgR p d) (BitVec.ofInt 64 n), pc := s.pc + (constI (tgR p d) (BitVec.ofInt 64 n)).length }) (x := BitVec.ofInt 64 n) (inv_set I rfl (by omega) rfl rfl) hp h0 h1 (reg_set _ I.ok (by omega)) (fun q _ _ hq => reg_ne _ hq) rfl h.right
  refine ⟨s2, ⟨⟨m1 + m2, by omega, g1.trans g2⟩, ?_⟩, q2, r2⟩
  rw [p2]
  simp; omega

def opV (o : Int) (a b : BitVec 64) : BitVec 64 := if o = 43 then a + b else if o = 45 then a - b else if o = 42 then a * b else if o = 38 then a &&& b else if o = 61 then (if a = b then 1 else 0) else if a.toInt < b.toInt then 1 else 0
theorem go_three {code : List In} {s : Cr} {K d a b : Int} {t : List In} (I : Inv s) (hK : 2 ≤ K ∧ K ≤ 5) (hd : 1 ≤ d ∧ d ≤ 20) (ha : 0 ≤ a ∧ a < 32) (hb : 0 ≤ b ∧ b < 32) (h : At code s.pc (⟨K, d, a, b, 0, 0, 0⟩ :: t)) :
    Goes code s 1 { s with r := setReg s.r d (reckon s.r ⟨K, d, a, b, 0, 0, 0⟩), pc := s.pc + 1 } [] :=
  Goes.one (ex_set I.st h (three_right K d a b hK (by omega) ha hb) (by simp only; omega))
theorem go_comp {code : List In} {s : Cr} {c d a b : Int} {t : List In} (I : Inv s) (hc : c = 0 ∨ c = 11) (hd : 1 ≤ d ∧ d ≤ 20) (ha : 0 ≤ a ∧ a < 32) (hb : 0 ≤ b ∧ b < 32) (h : At code s.pc (⟨6, 0, a, b, 0, 0, 0⟩ :: ⟨7, d, 0, 0, 0, c, 0⟩ :: t)) :
    ∃ r', okR r' ∧ r'.x = s.r.x ∧ Goes code s 2 { s with r := setReg r' d (if holds { s.r with l := reg s.r a, r := reg s.r b } c then 1 else 0), pc := s.pc + 1 + 1 } [] := by
  have hx := ex_at I.st h
  unfold execI at hx
  rw [if_pos (alu_in (cmp_right a b ha hb) (by simp)), st_cmp (cmp_right a b ha hb)] at hx
  have g1 := Goes.one hx
  have hx2 := ex_set (s := { s with r := { s.r with l := reg s.r a, r := reg s.r b }, pc := s.pc + 1 }) I.st h.tail (cset_right d c (by omega) hc) (by simp)
  refine ⟨{ s.r with l := reg s.r a, r := reg s.r b }, I.ok, rfl, ?_⟩
  have := g1.trans (Goes.one hx2)
  exact this
theorem go_op {code : List In} {s : Cr} {o d a b : Int} {t : List In} (I : Inv s) (ho : o = 43 ∨ o = 45 ∨ o = 42 ∨ o = 38 ∨ o = 61 ∨ o = 60) (hd : 1 ≤ d ∧ d ≤ 20) (ha : 0 ≤ a ∧ a < 32) (hb : 0 ≤ b ∧ b < 32) (h : At code s.pc (opI o d a b ++ t)) :
    ∃ s' m, m ≤ 2 ∧ Goes code s m s' [] ∧ s'.pc = s.pc + (opI o d a b).length ∧ Inv s' ∧ reg s'.r d = opV o (reg s.r a) (reg s.r b) ∧ (∀ q, q ≠ d → reg s'.r q = reg s.r q) ∧ s'.own = s.own ∧ Mem s s' := by
  rcases ho with rfl | rfl | rfl | rfl | rfl | rfl
  · exact ⟨_, 1, by omega, go_three I (by omega) hd ha hb h, by simp [opI], inv_set I rfl (by omega) rfl rfl, reg_set _ I.ok (by omega), fun q hq => reg_ne _ hq, rfl, Mem.refl _⟩
  · exact ⟨_, 1, by omega, go_three I (by omega) hd ha hb h, by simp [opI], inv_set I rfl (by omega) rfl rfl, reg_set _ I.ok (by omega), fun q hq => reg_ne _ hq, rfl, Mem.refl _⟩
  · exact ⟨_, 1, by omega, go_three I (by omega) hd ha hb h, by simp [opI], inv_set I rfl (by omega) rfl rfl, reg_set _ I.ok (by omega), fun q hq => reg_ne _ hq, rfl, Mem.refl _⟩
  · exact ⟨_, 1, by omega, go_three I (by omega) hd ha hb h, by simp [opI], inv_set I rfl (by omega) rfl rfl, reg_set _ I.ok (by omega), fun q hq => reg_ne _ hq, rfl, Mem.refl _⟩
  · obtain ⟨r', ok', hx', g⟩ := go_comp (c := 0) I (Or.inl rfl) hd ha hb h
    have hreg : ∀ q, reg r' q = reg s.r q := fun q => by unfold reg; rw [hx']
    refine ⟨_, 2, by omega, g, by simp [opI]; omega, ⟨setReg_ok ok' _ _, I.own, by rw [reg_ne _ (by omega), hreg]; exact I.priv, I.st⟩, ?_, fun q hq => by rw [reg_ne _ hq, hreg], rfl, Mem.refl _⟩
    rw [reg_set _ ok' (by omega)]
    simp [holds, opV]
  · obtain ⟨r', ok', hx', g⟩ := go_comp (c := 11) I (Or.inr rfl) hd ha hb h
    have hreg : ∀ q, reg r' q = reg s.r q := fun q => by unfold reg; rw [hx']
    refine ⟨_, 2, by omega, g, by simp [opI]; omega, ⟨setReg_ok ok' _ _, I.own, by rw [reg_ne _ (by omega), hreg]; exact I.priv, I.st⟩, ?_, fun q hq => by rw [reg_ne _ hq, hreg], rfl, Mem.refl _⟩
    rw [reg_set _ ok' (by omega)]
    simp [holds, opV]
theorem do_op {code : List In} {s : Cr} {p : List Pl} {d a b o : Int} {t : List In} (c to cell n : Int) (I : Inv s) (hp : PlOk p) (h0 : 0 ≤ d) (h1 : d < p.length) (a0 : 0 ≤ a) (a1 : a < p.length) (b0 : 0 ≤ b) (b1 : b < p.length)
    (ho : o = 43 ∨ o = 45 ∨ o = 42 ∨ o = 38 ∨ o = 61 ∨ o = 60) (h : At code s.pc (emS p ⟨2, d, a, b, c, to, cell, n, o⟩ ++ t)) :
    ∃ s', Did code s (emS p ⟨2, d, a, b, c, to, cell, n, o⟩) 5 s' [] ∧ Put p s s' d (opV o (val p s a) (val p s b)) ∧ Mem s s' := by
  have e : emS p ⟨2, d, a, b, c, to, cell, n, o⟩ = rdI p a 0 ++ (rdI p b 1 ++ (opI o (tgR p d) (rdR p a 0) (rdR p b 1) ++ kpI p d)) := by unfold emS; rfl
  rw [e] at h ⊢
  rw [List.append_assoc] at h
  obtain ⟨s1, m1, l1, g1, p1, i1, v1, f1, w1, M1⟩ := go_rd I hp a0 a1 (by omega) h
  have h2 := h.right
  rw [← p1, List.append_assoc] at h2
  obtain ⟨s2, m2, l2, g2, p2, i2, v2, f2, w2, M2⟩ := go_rd i1 hp b0 b1 (by omega) h2
  have h3 := h2.right
  rw [← p2, List.append_assoc] at h3
  have ht := tg_lt hp h0 h1
  have ra := rd_lt hp a0 a1 (k := 0) (by omega)
  have rb := rd_lt hp b0 b1 (k := 1) (by omega)
  obtain ⟨s3, m3, l3, g3, p3, i3, v3, f3, w3, M3⟩ := go_op i2 ho (d := tgR p d) (by omega) (by omega) (by omega) h3
  have h4 := h3.right
  rw [← p3] at h4
  have va : reg s2.r (rdR p a 0) = val p s a := by rw [f2 _ (by omega), v1]
  have vb : reg s2.r (rdR p b 1) = val p s b := by rw [v2, val_same hp (fun q q1 q2 => f1 q (by omega)) w1 b0 b1]
  rw [va, vb] at v3
  obtain ⟨s4, m4, l4, g4, p4, q4, M4⟩ := go_fin (s := s) i3 hp h0 h1 v3 (fun q q1 q2 hq => by rw [f3 q hq, f2 q (by omega), f1 q (by omega)]) (by rw [w3, w2, w1]) h4
  refine ⟨s4, ⟨⟨m1 + (m2 + (m3 + m4)), by omega, g1.trans (g2.trans (g3.trans g4))⟩, ?_⟩, q4, M1.trans (M2.trans (M3.trans M4))⟩
  rw [p4, p3, p2, p1]
  simp; omega
theorem svc_right : right ⟨23, 0, 0, 0, 0, 0, 0⟩ = true := by decide
theorem hlt_right : right hltI = true := by decide
theorem do_out {code : List In} {s : Cr} {p : List Pl} {a : Int} {t : List In} (d b c to cell n op : Int) (I : Inv s) (hp : PlOk p) (a0 : 0 ≤ a) (a1 : a < p.length) (h : At code s.pc (emS p ⟨8, d, a, b, c, to, cell, n, op⟩ ++ t)) :
    ∃ s', Did code s (emS p ⟨8, d, a, b, c, to, cell, n, op⟩) 3 s' [⟨4, 0, val p s a⟩] ∧ Inv s' ∧ (∀ u : Int, 0 ≤ u → u < p.length → val p s' u = val p s u) ∧ Mem s s' := by
  have e : emS p ⟨8, d, a, b, c, to, cell, n, op⟩ = rdI p a 0 ++ outI (rdR p a 0) := by unfold emS; rfl
  rw [e] at h ⊢
  rw [List.append_assoc] at h
  obtain ⟨s1, m1, l1, g1, p1, i1, v1, f1, w1, M1⟩ := go_rd I hp a0 a1 (by omega) h
  have h2 := h.right
  rw [← p1] at h2
  have ra := rd_lt hp a0 a1 (k := 0) (by omega)
  unfold outI at h2
  have hx2 := ex_set i1.st h2 (three_right 2 0 (rdR p a 0) 31 (by omega) (by omega) (by omega) (by omega)) (by simp)
  have g2 := Goes.one hx2
  have h3 := At.tail h2
  have hx3 := ex_at (s := { s1 with r := setReg s1.r 0 (reckon s1.r ⟨2, 0, rdR p a 0, 31, 0, 0, 0⟩), pc := s1.pc + 1 }) i1.st h3
  unfold execI at hx3
  rw [if_neg (by rw [not_in (by simp)]; simp), if_neg (by rw [svc_right]; simp)] at hx3
  simp only [show (23 : Int) = 22 ↔ False by decide, if_false, if_true] at hx3
  have er : reg (setReg s1.r 0 (reckon s1.r ⟨2, 0, rdR p a 0, 31, 0, 0, 0⟩)) 0 = val p s a := by
    rw [reg_set _ i1.ok (by omega)]
    show reg s1.r (rdR p a 0) + reg s1.r 31 = _
    rw [v1, reg_31]
    simp
  rw [er] at hx3
  have g3 := Goes.one hx3
  refine ⟨_, ⟨⟨m1 + (1 + 1), by omega, g1.trans (g2.trans g3)⟩, ?_⟩, ?_, fun u u0 u1 => ?_, M1⟩
  · show s1.pc + 1 + 1 = _
    rw [p1]
    simp [outI]; omega
  · exact inv_set i1 rfl (by show (0 : Int) ≠ 28; decide) rfl rfl
  · have hz : ∀ (s' : Cr) (x : BitVec 64), s'.r = setReg s1.r 0 x → s'.own = s1.own → val p s' u = val p s u := fun s' x hr ho => by
      rw [val_same (s := s1) hp (fun q q1 q2 => by rw [hr, reg_ne _ (show q ≠ 0 by omega)]) ho u0 u1]
      exact val_same hp (fun q q1 q2 => f1 q (by omega)) w1 u0 u1
    exact hz _ _ rfl rfl
theorem do_end {code : List In} {s : Cr} {t : List In} (I : Inv s) (h : At code s.pc (hltI :: t)) : ∃ s', Goes code s 1 s' [⟨10, 0, 0⟩] ∧ s'.st = 1 ∧ s'.now = s.now := by
  have hx := ex_at I.st h
  unfold execI at hx
  rw [if_neg (by rw [not_in (by simp [hltI])]; simp), if_neg (by rw [hlt_right]; simp)] at hx
  rw [if_pos (show hltI.kind = 22 from rfl)] at hx
  exact ⟨_, Goes.one hx, rfl, rfl⟩
end Go.Proofs.Ytkohichiojmakaa.Em
/-
  PLAIN: what the instructions of a try do. No Go here.
-/
namespace Go.Proofs.Ytkohichiojmakaa.Em
set_option linter.unusedVariables false
set_option linter.unusedSimpArgs false
open A64 Alu Stp Fld

theorem ldxr_right (a : Int) (ha : 0 ≤ a ∧ a < 32) : right ⟨16, 21, a, 0, 0, 0, 0⟩ = true := by
  simp [right, rightF, fitN, fitC, form, table, fits]; omega
theorem stxr_right (c a : Int) (hc : 0 ≤ c ∧ c < 32) (ha : 0 ≤ a ∧ a < 32) : right ⟨17, c, a, 0, 22, 0, 0⟩ = true := by
  simp [right, rightF, fitN, fitC, form, table, fits]; omega
theorem bne_right : right ⟨9, 0, 0, 0, 0, 1, 5⟩ = true := by decide
theorem cbnz_right : right ⟨11, 0, 22, 0, 0, 0, -4⟩ = true := by decide
theorem b2_right : right ⟨8, 0, 0, 0, 0, 0, 2⟩ = true := by decide
def casV (was want : BitVec 64) : BitVec 64 := if was = want then 1 else 0
def casN (was want to : BitVec 64) : BitVec 64 := if was = want then to else was
/-- no word goes out -/
def mute (e : List Ev) : Prop := ∀ x ∈ e, x.kind ≠ 4
theorem go_cas {code : List In} {s : Cr} {d a b c : Int} {was : BitVec 64} {v0 : Int} {t : List In} (I : Inv s) (hd : 1 ≤ d ∧ d ≤ 20) (ha : 0 ≤ a ∧ a < 20) (hb : 0 ≤ b ∧ b < 20) (hc : 0 ≤ c ∧ c < 20)
    (hA : reg s.r a = 4096#64) (hnow : s.now = [was]) (hver : s.ver = [v0]) (h : At code s.pc (casI d a b c ++ t)) :
    ∃ s' m e, m ≤ 8 ∧ Goes code s m s' e ∧ mute e ∧ s'.pc = s.pc + 8 ∧ Inv s' ∧ reg s'.r d = casV was (reg s.r b) ∧ (∀ q, q ≠ d → q ≠ 21 → q ≠ 22 → reg s'.r q = reg s.r q) ∧ s'.own = s.own ∧ s'.now = [casN was (reg s.r b) (reg s.r c)] ∧ ∃ v1, s'.ver = [v1] := by
  unfold casI at h
  -- ldxr
  have x1 := ex_at I.st h
  unfold execI at x1
  rw [if_neg (by rw [not_in (by simp)]; simp), if_neg (by rw [ldxr_right a (by omega)]; simp)] at x1
  simp only [show (16 : Int) = 22 ↔ False by decide, show (16 : Int) = 23 ↔ False by decide, if_false] at x1
  unfold memX at x1
  simp only [show (16 : Int) = 12 ↔ False by decide, show (16 : Int) = 13 ↔ False by decide, if_false, if_true] at x1
  rw [hA, hnow, hver] at x1
  simp only [List.length_cons, List.length_nil, decide_true, Bool.and_self, if_true, List.getD_cons_zero, Nat.zero_add] at x1
  have g1 := Goes.one x1
  have h2 := At.tail h
  obtain ⟨s1, hs1⟩ : ∃ s1 : Cr, ({ s with r := setReg s.r 21 was, pc := s.pc + 1, mark := 4096, seen := v0 } : Cr) = s1 := ⟨_, rfl⟩
  have e1r : s1.r = setReg s.r 21 was := by rw [← hs1]
  have e1p : s1.pc = s.pc + 1 := by rw [← hs1]
  have e1n : s1.now = [was] := by rw [← hs1]; exact hnow
  have e1v : s1.ver = [v0] := by rw [← hs1]; exact hver
  have e1m : s1.mark = 4096 ∧ s1.seen = v0 := by rw [← hs1]; exact ⟨rfl, rfl⟩
  have e1o : s1.own = s.own := by rw [← hs1]
  have I1 : Inv s1 := inv_set I e1r (by omega) e1o (by rw [← hs1])
  have g1 : Goes code s 1 s1 [⟨2, 4096, was⟩] := by rw [← hs1, hnow, hver]; exact g1
  rw [← e1p] at h2
  clear x1 hs1
  -- cmp
  have x2 := ex_at I1.st h2
  unfold execI at x2
  rw [if_pos (alu_in (cmp_right 21 b (by omega) (by omega)) (by simp)), st_cmp (cmp_right 21 b (by omega) (by omega))] at x2
  have w21 : reg s1.r 21 = was := by rw [e1r]; exact reg_set _ I.ok (by omega)
  have wb : reg s1.r b = reg s.r b := by rw [e1r]; exact reg_ne _ (by omega)
  rw [w21, wb] at x2
  have g2 := Goes.one x2
  have h3 := At.tail h2
  obtain ⟨s2, hs2⟩ : ∃ s2 : Cr, ({ s1 with r := { s1.r with l := was, r := reg s.r b }, pc := s1.pc + 1 } : Cr) = s2 := ⟨_, rfl⟩
  have e2r : ∀ q, reg s2.r q = reg s1.r q := by rw [← hs2]; exact fun _ => rfl
  have e2l : s2.r.l = was ∧ s2.r.r = reg s.r b := by rw [← hs2]; exact ⟨rfl, rfl⟩
  have e2p : s2.pc = s1.pc + 1 := by rw [← hs2]
  have e2n : s2.now = [was] := by rw [← hs2]; exact e1n
  have e2v : s2.ver = [v0] := by rw [← hs2]; exact e1v
  have e2m : s2.mark = 4096 ∧ s2.seen = v0 := by rw [← hs2]; exact e1m
  have e2o : s2.own = s.own := by rw [← hs2]; exact e1o
  have I2 : Inv s2 := ⟨by rw [← hs2]; exact I1.ok, by rw [e2o]; exact I.own, by rw [e2r]; exact I1.priv, by rw [← hs2]; exact I1.st⟩
  have g2 : Goes code s1 1 s2 [] := by rw [← hs2]; exact g2
  rw [← e2p] at h3
  clear x2 hs2
  -- bne
  have x3 := ex_at I2.st h3
  unfold execI at x3
  rw [if_pos (alu_in bne_right (by simp))] at x3
  by_cases hw : was = reg s.r b
  · have es : Alu.step s2.r ⟨9, 0, 0, 0, 0, 1, 5⟩ = (s2.r, 1, true) := by
      simp [Alu.step, inAlu, bne_right, jumps, holds, e2l.1, e2l.2, hw]
    rw [es] at x3
    have g3 := Goes.one x3
    have h4 := At.tail h3
    -- stxr
    have x4 := ex_at (s := { s2 with r := s2.r, pc := s2.pc + 1 }) I2.st h4
    unfold execI at x4
    rw [if_neg (by rw [not_in (by simp)]; simp), if_neg (by rw [stxr_right c a (by omega) (by omega)]; simp)] at x4
    simp only [show (17 : Int) = 22 ↔ False by decide, show (17 : Int) = 23 ↔ False by decide, if_false] at x4
    unfold memX at x4
    have ra : reg s2.r a = 4096#64 := by rw [e2r, e1r, reg_ne _ (by omega)]; exact hA
    have rc : reg s2.r c = reg s.r c := by rw [e2r, e1r, reg_ne _ (by omega)]
    simp only [show (17 : Int) = 12 ↔ False by decide, show (17 : Int) = 13 ↔ False by decide, show (17 : Int) = 16 ↔ False by decide, if_false, if_true] at x4
    have c1 : decide (s2.now.length = 1) = true := by rw [e2n]; rfl
    have c2 : decide (s2.mark = 4096) = true := by rw [e2m.1]; rfl
    have c3 : decide (s2.seen = s2.ver.getD 0 0) = true := by rw [e2m.2, e2v]; exact decide_eq_true rfl
    have c4 : s2.ver.getD 0 0 + 1 = v0 + 1 := by rw [e2v]; rfl
    rw [ra, rc, c1, c2, c3, c4] at x4
    simp only [List.length_cons, List.length_nil, decide_true, Bool.and_self, if_true, List.getD_cons_zero, Nat.zero_add] at x4
    have g4 : Goes code { s2 with r := s2.r, pc := s2.pc + 1 } 1 { s2 with r := setReg s2.r 22 0#64, pc := s2.pc + 1 + 1, mark := -1, now := [reg s.r c], ver := [v0 + 1] } [⟨3, 4096, reg s.r c⟩] := Goes.one x4
    have h5 := At.tail h4
    -- cbnz
    have x5 := ex_at (s := { s2 with r := setReg s2.r 22 0, pc := s2.pc + 1 + 1, mark := -1, now := [reg s.r c], ver := [v0 + 1] }) I2.st h5
    unfold execI at x5
    rw [if_pos (alu_in cbnz_right (by simp))] at x5
    have r22 : reg (setReg s2.r 22 0#64) 22 = 0 := reg_set _ I2.ok (by omega)
    have es5 : Alu.step (setReg s2.r 22 0#64) ⟨11, 0, 22, 0, 0, 0, -4⟩ = (setReg s2.r 22 0#64, 1, true) := by
      simp [Alu.step, inAlu, cbnz_right, jumps, r22]
    have x5' := x5
    simp only [show (0 : BitVec 64) = 0#64 from rfl] at x5'
    rw [es5] at x5'
    have g5 := Goes.one x5'
    have h6 := At.tail h5
    -- movz 1
    have x6 := ex_set (s := { s2 with r := setReg s2.r 22 0#64, pc := s2.pc + 1 + 1 + 1, mark := -1, now := [reg s.r c], ver := [v0 + 1] }) I2.st h6 (mv_right d 0 0 1 (Or.inl rfl) (by omega) (by omega) (by omega)) (by simp)
    have g6 := Goes.one x6
    have h7 := At.tail h6
    have e6 : reckon (setReg s2.r 22 0#64) ⟨0, d, 0, 0, (0 : Nat), 0, 1⟩ = 1#64 := by
      show Alu.part ⟨0, d, 0, 0, (0 : Nat), 0, 1⟩ = _
      unfold Alu.part; simp
    -- b
    have x7 := ex_at (s := { s2 with r := setReg (setReg s2.r 22 0#64) d (reckon (setReg s2.r 22 0#64) ⟨0, d, 0, 0, (0 : Nat), 0, 1⟩), pc := s2.pc + 1 + 1 + 1 + 1, mark := -1, now := [reg s.r c], ver := [v0 + 1] }) I2.st h7
    unfold execI at x7
    rw [if_pos (alu_in b2_right (by simp))] at x7
    have es7 : ∀ r, Alu.step r ⟨8, 0, 0, 0, 0, 0, 2⟩ = (r, 2, true) := fun r => by simp [Alu.step, inAlu, b2_right, jumps]
    rw [es7] at x7
    have g7 := Goes.one x7
    refine ⟨_, 1 + (1 + (1 + (1 + (1 + (1 + 1))))), _, by omega, g1.trans (g2.trans (g3.trans (g4.trans (g5.trans (g6.trans g7))))), ?_, ?_, ?_, ?_, ?_, e2o, ?_, ⟨_, rfl⟩⟩
    · intro x hx
      simp only [List.append_nil, List.nil_append, List.cons_append, List.mem_cons, List.not_mem_nil, or_false] at hx
      rcases hx with rfl | rfl <;> simp
    · simp only; omega
    · exact ⟨setReg_ok (setReg_ok I2.ok _ _) _ _, by simp only; rw [e2o]; exact I.own, by simp only; rw [reg_ne _ (by omega), reg_ne _ (by omega)]; exact I2.priv, I2.st⟩
    · simp only
      rw [reg_set _ (setReg_ok I2.ok _ _) (by omega), e6]
      unfold casV
      rw [if_pos hw]; rfl
    · intro q q1 q2 q3
      simp only
      rw [reg_ne _ q1, reg_ne _ q3, e2r, e1r, reg_ne _ q2]
    · unfold casN
      rw [if_pos hw]
  · have es : Alu.step s2.r ⟨9, 0, 0, 0, 0, 1, 5⟩ = (s2.r, 5, true) := by
      simp [Alu.step, inAlu, bne_right, jumps, holds, e2l.1, e2l.2, hw]
    rw [es] at x3
    have g3 := Goes.one x3
    have h8 : At code (s2.pc + 5) (⟨0, d, 0, 0, (0 : Nat), 0, 0⟩ :: t) := by
      have := (((((At.tail h3).tail).tail).tail).tail)
      rw [show s2.pc + 1 + 1 + 1 + 1 + 1 = s2.pc + 5 by omega] at this
      exact this
    have x4 := ex_set (s := { s2 with r := s2.r, pc := s2.pc + 5 }) I2.st h8 (mv_right d 0 0 0 (Or.inl rfl) (by omega) (by omega) (by omega)) (by simp)
    have g4 := Goes.one x4
    have e4 : reckon s2.r ⟨0, d, 0, 0, (0 : Nat), 0, 0⟩ = 0#64 := by
      show Alu.part ⟨0, d, 0, 0, (0 : Nat), 0, 0⟩ = _
      unfold Alu.part; simp
    refine ⟨_, 1 + (1 + (1 + 1)), _, by omega, g1.trans (g2.trans (g3.trans g4)), ?_, ?_, ?_, ?_, ?_, e2o, ?_, ⟨_, e2v⟩⟩
    · intro x hx
      simp only [List.append_nil, List.nil_append, List.cons_append, List.mem_cons, List.not_mem_nil, or_false] at hx
      subst hx
      simp
    · simp only; omega
    · exact ⟨setReg_ok I2.ok _ _, by simp only; rw [e2o]; exact I.own, by simp only; rw [reg_ne _ (by omega)]; exact I2.priv, I2.st⟩
    · simp only
      rw [reg_set _ I2.ok (by omega), e4]
      unfold casV
      rw [if_neg hw]; rfl
    · intro q q1 q2 q3
      simp only
      rw [reg_ne _ q1, e2r, e1r, reg_ne _ q2]
    · unfold casN
      rw [if_neg hw]
      exact e2n
theorem do_cas {code : List In} {s : Cr} {p : List Pl} {d a b c : Int} {was : BitVec 64} {v0 : Int} {t : List In} (to cell n op : Int) (I : Inv s) (hp : PlOk p) (h0 : 0 ≤ d) (h1 : d < p.length) (a0 : 0 ≤ a) (a1 : a < p.length) (b0 : 0 ≤ b) (b1 : b < p.length) (c0 : 0 ≤ c) (c1 : c < p.length)
    (hA : val p s a = 4096#64) (hnow : s.now = [was]) (hver : s.ver = [v0]) (h : At code s.pc (emS p ⟨5, d, a, b, c, to, cell, n, op⟩ ++ t)) :
    ∃ s' e, Did code s (emS p ⟨5, d, a, b, c, to, cell, n, op⟩) 12 s' e ∧ mute e ∧ Put p s s' d (casV was (val p s b)) ∧ s'.now = [casN was (val p s b) (val p s c)] := by
  have e : emS p ⟨5, d, a, b, c, to, cell, n, op⟩ = rdI p a 0 ++ (rdI p b 1 ++ (rdI p c 2 ++ (casI (tgR p d) (rdR p a 0) (rdR p b 1) (rdR p c 2) ++ kpI p d))) := by unfold emS; rfl
  rw [e] at h ⊢
  rw [List.append_assoc] at h
  obtain ⟨s1, m1, l1, g1, p1, i1, v1, f1, w1, M1⟩ := go_rd I hp a0 a1 (by omega) h
  have h2 := h.right
  rw [← p1, List.append_assoc] at h2
  obtain ⟨s2, m2, l2, g2, p2, i2, v2, f2, w2, M2⟩ := go_rd i1 hp b0 b1 (by omega) h2
  have h3 := h2.right
  rw [← p2, List.append_assoc] at h3
  obtain ⟨s3, m3, l3, g3, p3, i3, v3, f3, w3, M3⟩ := go_rd i2 hp c0 c1 (by omega) h3
  have h4 := h3.right
  rw [← p3, List.append_assoc] at h4
  have ht := tg_lt hp h0 h1
  have ra := rd_lt hp a0 a1 (k := 0) (by omega)
  have rb := rd_lt hp b0 b1 (k := 1) (by omega)
  have rc := rd_lt hp c0 c1 (k := 2) (by omega)
  have va : reg s3.r (rdR p a 0) = val p s a := by rw [f3 _ (by omega), f2 _ (by omega), v1]
  have vb : reg s3.r (rdR p b 1) = val p s b := by rw [f3 _ (by omega), v2, val_same hp (fun q q1 q2 => f1 q (by omega)) w1 b0 b1]
  have vc : reg s3.r (rdR p c 2) = val p s c := by rw [v3, val_same hp (fun q q1 q2 => f2 q (by omega)) w2 c0 c1, val_same hp (fun q q1 q2 => f1 q (by omega)) w1 c0 c1]
  have M13 := M1.trans (M2.trans M3)
  obtain ⟨s4, m4, e4, l4, g4, u4, p4, i4, v4, f4, w4, n4, y4⟩ := go_cas i3 (d := tgR p d) (by omega) (by omega) (by omega) (by omega) (va.trans hA) (M13.1.trans hnow) (M13.2.1.trans hver) h4
  have h5 := h4.right
  rw [show ((casI (tgR p d) (rdR p a 0) (rdR p b 1) (rdR p c 2)).length : Int) = 8 from rfl, ← p4] at h5
  rw [vb] at v4
  obtain ⟨s5, m5, l5, g5, p5, q5, M5⟩ := go_fin (s := s) i4 hp h0 h1 v4 (fun q q1 q2 hq => by rw [f4 q hq (by omega) (by omega), f3 q (by omega), f2 q (by omega), f1 q (by omega)]) (by rw [w4, w3, w2, w1]) h5
  refine ⟨s5, _, ⟨⟨m1 + (m2 + (m3 + (m4 + m5))), by omega, g1.trans (g2.trans (g3.trans (g4.trans g5)))⟩, ?_⟩, ?_, q5, ?_⟩
  · rw [p5, p4, p3, p2, p1]
    simp [casI]; omega
  · simpa using u4
  · rw [M5.1, n4, vb, vc]
end Go.Proofs.Ytkohichiojmakaa.Em
/-
  PLAIN: what the codes of the laws of chapter 20 do. No Go here.
-/
namespace Go.Proofs.Ytkohichiojmakaa.Em
set_option linter.unusedVariables false
set_option linter.unusedSimpArgs false
open A64 Alu Stp Fld

/-- a core that begins -/
def born (now : List (BitVec 64)) (ver : List Int) : Cr := ⟨setReg zeroR 28 1048576#64, 0, 0, -1, 0, List.replicate 512 0, now, ver⟩
theorem born_inv (now : List (BitVec 64)) (ver : List Int) : Inv (born now ver) := ⟨setReg_ok zero_ok _ _, List.length_replicate, reg_set _ zero_ok (by omega), rfl⟩
def stC (d : Int) (n : Int) : St := ⟨0, d, 0, 0, 0, 0, 0, n, 0⟩
def stO (a : Int) : St := ⟨8, 0, a, 0, 0, 0, 0, 0, 0⟩
/-! all are right -/
def AllR (l : List In) : Prop := ∀ i ∈ l, right i = true
theorem AllR.app {a b : List In} (h : AllR a) (h2 : AllR b) : AllR (a ++ b) := fun i hi => by
  rcases List.mem_append.1 hi with e | e
  · exact h i e
  · exact h2 i e
theorem AllR.nil : AllR [] := fun i hi => by cases hi
theorem AllR.cons {i : In} {l : List In} (h : right i = true) (h2 : AllR l) : AllR (i :: l) := fun j hj => by
  rcases List.mem_cons.1 hj with e | e
  · rw [e]; exact h
  · exact h2 j e
theorem rt_rd {p : List Pl} (hp : PlOk p) {v k : Int} (h0 : 0 ≤ v) (h1 : v < p.length) (hk : 0 ≤ k ∧ k ≤ 2) : AllR (rdI p v k) := by
  have := hp.le v h0 h1
  unfold rdI
  split
  · exact AllR.cons (ldr_right 12 _ _ (Or.inl rfl) (by omega) (by omega)) AllR.nil
  · exact AllR.nil
theorem rt_kp {p : List Pl} (hp : PlOk p) {v : Int} (h0 : 0 ≤ v) (h1 : v < p.length) : AllR (kpI p v) := by
  have := hp.le v h0 h1
  unfold kpI
  split
  · exact AllR.cons (ldr_right 13 _ _ (Or.inr rfl) (by omega) (by omega)) AllR.nil
  · exact AllR.nil
theorem rt_movk {d : Int} (hd : 0 ≤ d ∧ d ≤ 31) (v : BitVec 64) {k : Nat} (hk : k < 4) : AllR (movk d v k) := by
  have := chunk_lt v k
  unfold movk
  split
  · exact AllR.nil
  · exact AllR.cons (mv_right d k 1 _ (Or.inr rfl) hd hk (by omega)) AllR.nil
theorem rt_const {d : Int} (hd : 0 ≤ d ∧ d ≤ 31) (v : BitVec 64) : AllR (constI d v) := by
  have := chunk_lt v 0
  exact AllR.cons (mv_right d 0 0 _ (Or.inl rfl) hd (by omega) (by omega)) ((rt_movk hd v (by omega)).app ((rt_movk hd v (by omega)).app (rt_movk hd v (by omega))))
theorem rt_op {o d a b : Int} (ho : o = 43 ∨ o = 45 ∨ o = 42 ∨ o = 38 ∨ o = 61 ∨ o = 60) (hd : 0 ≤ d ∧ d < 32) (ha : 0 ≤ a ∧ a < 32) (hb : 0 ≤ b ∧ b < 32) : AllR (opI o d a b) := by
  rcases ho with rfl | rfl | rfl | rfl | rfl | rfl
  · exact AllR.cons (three_right 2 d a b (by omega) hd ha hb) AllR.nil
  · exact AllR.cons (three_right 3 d a b (by omega) hd ha hb) AllR.nil
  · exact AllR.cons (three_right 4 d a b (by omega) hd ha hb) AllR.nil
  · exact AllR.cons (three_right 5 d a b (by omega) hd ha hb) AllR.nil
  · exact AllR.cons (cmp_right a b ha hb) (AllR.cons (cset_right d 0 hd (Or.inl rfl)) AllR.nil)
  · exact AllR.cons (cmp_right a b ha hb) (AllR.cons (cset_right d 11 hd (Or.inr rfl)) AllR.nil)
theorem rt_cas {d a b c : Int} (hd : 0 ≤ d ∧ d < 32) (ha : 0 ≤ a ∧ a < 32) (hb : 0 ≤ b ∧ b < 32) (hc : 0 ≤ c ∧ c < 32) : AllR (casI d a b c) :=
  AllR.cons (ldxr_right a ha) (AllR.cons (cmp_right 21 b (by omega) hb) (AllR.cons bne_right (AllR.cons (stxr_right c a hc ha) (AllR.cons cbnz_right (AllR.cons (mv_right d 0 0 1 (Or.inl rfl) (by omega) (by omega) (by omega)) (AllR.cons b2_right (AllR.cons (mv_right d 0 0 0 (Or.inl rfl) (by omega) (by omega) (by omega)) AllR.nil)))))))
theorem rt_out {a : Int} (ha : 0 ≤ a ∧ a < 32) : AllR (outI a) := AllR.cons (three_right 2 0 a 31 (by omega) (by omega) ha (by omega)) (AllR.cons svc_right AllR.nil)
theorem rs_const {p : List Pl} (hp : PlOk p) {d n : Int} (h0 : 0 ≤ d) (h1 : d < p.length) : AllR (emS p (stC d n)) := by
  have e : emS p (stC d n) = constI (tgR p d) (BitVec.ofInt 64 n) ++ kpI p d := by unfold emS; rfl
  have := tg_lt hp h0 h1
  rw [e]
  exact (rt_const (by omega) _).app (rt_kp hp h0 h1)
theorem rs_out {p : List Pl} (hp : PlOk p) {a : Int} (h0 : 0 ≤ a) (h1 : a < p.length) : AllR (emS p (stO a)) := by
  have e : emS p (stO a) = rdI p a 0 ++ outI (rdR p a 0) := by unfold emS; rfl
  have := rd_lt hp h0 h1 (k := 0) (by omega)
  rw [e]
  exact (rt_rd hp h0 h1 (by omega)).app (rt_out (by omega))
def stP (d a b o : Int) : St := ⟨2, d, a, b, 0, 0, 0, 0, o⟩
theorem rs_op {p : List Pl} (hp : PlOk p) {d a b o : Int} (ho : o = 43 ∨ o = 45 ∨ o = 42 ∨ o = 38 ∨ o = 61 ∨ o = 60) (h0 : 0 ≤ d) (h1 : d < p.length) (a0 : 0 ≤ a) (a1 : a < p.length) (b0 : 0 ≤ b) (b1 : b < p.length) : AllR (emS p (stP d a b o)) := by
  have e : emS p (stP d a b o) = rdI p a 0 ++ (rdI p b 1 ++ (opI o (tgR p d) (rdR p a 0) (rdR p b 1) ++ kpI p d)) := by unfold emS; rfl
  have := rd_lt hp a0 a1 (k := 0) (by omega)
  have := rd_lt hp b0 b1 (k := 1) (by omega)
  have := tg_lt hp h0 h1
  rw [e]
  exact (rt_rd hp a0 a1 (by omega)).app ((rt_rd hp b0 b1 (by omega)).app ((rt_op ho (by omega) (by omega) (by omega)).app (rt_kp hp h0 h1)))
def stK (d a b c : Int) : St := ⟨5, d, a, b, c, 0, 0, 0, 0⟩
theorem rs_cas {p : List Pl} (hp : PlOk p) {d a b c : Int} (h0 : 0 ≤ d) (h1 : d < p.length) (a0 : 0 ≤ a) (a1 : a < p.length) (b0 : 0 ≤ b) (b1 : b < p.length) (c0 : 0 ≤ c) (c1 : c < p.length) : AllR (emS p (stK d a b c)) := by
  have e : emS p (stK d a b c) = rdI p a 0 ++ (rdI p b 1 ++ (rdI p c 2 ++ (casI (tgR p d) (rdR p a 0) (rdR p b 1) (rdR p c 2) ++ kpI p d))) := by unfold emS; rfl
  have := rd_lt hp a0 a1 (k := 0) (by omega)
  have := rd_lt hp b0 b1 (k := 1) (by omega)
  have := rd_lt hp c0 c1 (k := 2) (by omega)
  have := tg_lt hp h0 h1
  rw [e]
  exact (rt_rd hp a0 a1 (by omega)).app ((rt_rd hp b0 b1 (by omega)).app ((rt_rd hp c0 c1 (by omega)).app ((rt_cas (by omega) (by omega) (by omega) (by omega)).app (rt_kp hp h0 h1))))
theorem rt_hlt : AllR [hltI] := AllR.cons hlt_right AllR.nil

theorem At.move {code : List In} {k k' : Int} {seg : List In} (h : At code k seg) (e : k' = k) : At code k' seg := e ▸ h
/-! EmitConstants -/
theorem pl1 {slot : Bool} {n : Int} (h : 0 ≤ n ∧ n ≤ 15) : PlOk [⟨slot, n⟩] := by
  refine ⟨fun v h0 h1 => ?_, fun v u h0 h1 h2 h3 h4 => ?_⟩
  · obtain rfl : v = 0 := by simp at h1; omega
    exact h
  · simp at h1 h3; omega
def cC (v : BitVec 64) : List St := [stC 0 v.toNat, stO 0]
def pC (slot : Bool) (n : Int) : List Pl := [⟨slot, n⟩]
theorem emC_C (v : BitVec 64) (p : List Pl) : emC p (cC v) = emS p (stC 0 v.toNat) ++ (emS p (stO 0) ++ [hltI]) := by simp [emC, emL, cC]
theorem right_C {v : BitVec 64} {slot : Bool} {n : Int} (h : 0 ≤ n ∧ n ≤ 15) : AllR (emC (pC slot n) (cC v)) := by
  rw [emC_C]
  exact (rs_const (pl1 h) (by omega) (by simp [pC])).app ((rs_out (pl1 h) (by omega) (by simp [pC])).app rt_hlt)
theorem run_C (v : BitVec 64) {slot : Bool} {n : Int} (h : 0 ≤ n ∧ n ≤ 15) : ∃ N s', N ≤ 20 ∧ Goes (emC (pC slot n) (cC v)) (born [] []) N s' [⟨4, 0, v⟩, ⟨10, 0, 0⟩] ∧ s'.st = 1 := by
  have hp := pl1 (slot := slot) h
  have hat := At.whole (emC (pC slot n) (cC v))
  have hat : At (emC (pC slot n) (cC v)) (born [] []).pc (emS (pC slot n) (stC 0 v.toNat) ++ (emS (pC slot n) (stO 0) ++ [hltI])) := by
    rw [← emC_C]; exact hat
  obtain ⟨s1, ⟨⟨m1, l1, g1⟩, p1⟩, P1, M1⟩ := do_const 0 0 0 0 0 0 (born_inv [] []) hp (d := 0) (by omega) (by simp) hat
  have h2 := hat.right
  have h2 : At (emC (pC slot n) (cC v)) s1.pc (emS (pC slot n) (stO 0) ++ [hltI]) := by rw [p1]; exact h2
  obtain ⟨s2, ⟨⟨m2, l2, g2⟩, p2⟩, I2, V2, M2⟩ := do_out 0 0 0 0 0 0 0 P1.inv hp (a := 0) (by omega) (by simp) h2
  have h3 := h2.right
  have h3 : At (emC (pC slot n) (cC v)) s2.pc [hltI] := by rw [p2]; exact h3
  obtain ⟨s3, g3, z3, -⟩ := do_end I2 h3
  refine ⟨m1 + (m2 + 1), s3, by omega, ?_, z3⟩
  have := g1.trans (g2.trans g3)
  rw [P1.at_, ofInt64] at this
  exact this

/-! EmitOps -/
def pO (sa sb sd : Bool) : List Pl := [⟨sd, 0⟩, ⟨sa, 1⟩, ⟨sb, 2⟩]
theorem pl3 (sa sb sd : Bool) : PlOk (pO sa sb sd) := by
  refine ⟨fun v h0 h1 => ?_, fun v u h0 h1 h2 h3 h4 => ?_⟩
  · simp [pO] at h1
    obtain rfl | rfl | rfl : v = 0 ∨ v = 1 ∨ v = 2 := by omega
    all_goals exact ⟨by simp [placeOf, pO], by simp [placeOf, pO]⟩
  · simp [pO] at h1 h3
    obtain rfl | rfl | rfl : v = 0 ∨ v = 1 ∨ v = 2 := by omega
    all_goals
      obtain rfl | rfl | rfl : u = 0 ∨ u = 1 ∨ u = 2 := by omega
      all_goals first | omega | simp [placeOf, pO]
def cO (a b : BitVec 64) (o : Int) : List St := [stC 1 a.toNat, stC 2 b.toNat, stP 0 1 2 o, stO 0]
theorem emC_O (a b : BitVec 64) (o : Int) (p : List Pl) : emC p (cO a b o) = emS p (stC 1 a.toNat) ++ (emS p (stC 2 b.toNat) ++ (emS p (stP 0 1 2 o) ++ (emS p (stO 0) ++ [hltI]))) := by simp [emC, emL, cO]
theorem right_O {a b : BitVec 64} {o : Int} {sa sb sd : Bool} (ho : o = 43 ∨ o = 45 ∨ o = 42 ∨ o = 38 ∨ o = 61 ∨ o = 60) : AllR (emC (pO sa sb sd) (cO a b o)) := by
  have hp := pl3 sa sb sd
  rw [emC_O]
  exact (rs_const hp (by omega) (by simp [pO])).app ((rs_const hp (by omega) (by simp [pO])).app ((rs_op hp ho (by omega) (by simp [pO]) (by omega) (by simp [pO]) (by omega) (by simp [pO])).app ((rs_out hp (by omega) (by simp [pO])).app rt_hlt)))
theorem run_O (a b : BitVec 64) {o : Int} {sa sb sd : Bool} (ho : o = 43 ∨ o = 45 ∨ o = 42 ∨ o = 38 ∨ o = 61 ∨ o = 60) : ∃ N s', N ≤ 30 ∧ Goes (emC (pO sa sb sd) (cO a b o)) (born [] []) N s' [⟨4, 0, opV o a b⟩, ⟨10, 0, 0⟩] ∧ s'.st = 1 := by
  have hp := pl3 sa sb sd
  obtain ⟨p, hpe⟩ : ∃ p, pO sa sb sd = p := ⟨_, rfl⟩
  have hlen : (p.length : Int) = 3 := by rw [← hpe]; rfl
  rw [hpe] at hp ⊢
  clear hpe
  obtain ⟨code, hc⟩ : ∃ code, emC p (cO a b o) = code := ⟨_, rfl⟩
  have hat : At code (born [] []).pc (emS p (stC 1 a.toNat) ++ (emS p (stC 2 b.toNat) ++ (emS p (stP 0 1 2 o) ++ (emS p (stO 0) ++ [hltI])))) := by
    rw [← emC_O, hc]; exact At.whole _
  rw [hc]
  clear hc
  obtain ⟨s1, ⟨⟨m1, l1, g1⟩, p1⟩, P1, M1⟩ := do_const 0 0 0 0 0 0 (born_inv [] []) hp (d := 1) (by omega) (by omega) hat
  have h2 := hat.right.move p1
  obtain ⟨s2, ⟨⟨m2, l2, g2⟩, p2⟩, P2, M2⟩ := do_const 0 0 0 0 0 0 P1.inv hp (d := 2) (by omega) (by omega) h2
  have h3 := h2.right.move p2
  obtain ⟨s3, ⟨⟨m3, l3, g3⟩, p3⟩, P3, M3⟩ := do_op 0 0 0 0 P2.inv hp (d := 0) (a := 1) (b := 2) (by omega) (by omega) (by omega) (by omega) (by omega) (by omega) ho h3
  have h4 := h3.right.move p3
  obtain ⟨s4, ⟨⟨m4, l4, g4⟩, p4⟩, I4, V4, M4⟩ := do_out 0 0 0 0 0 0 0 P3.inv hp (a := 0) (by omega) (by omega) h4
  have h5 := h4.right.move p4
  obtain ⟨s5, g5, z5, -⟩ := do_end I4 h5
  refine ⟨m1 + (m2 + (m3 + (m4 + 1))), s5, by omega, ?_, z5⟩
  have := g1.trans (g2.trans (g3.trans (g4.trans g5)))
  rw [P3.at_, P2.at_, P2.o 1 (by omega) (by omega) (by omega), P1.at_, ofInt64, ofInt64] at this
  exact this

/-! EmitCas -/
def pK (sa sb sc sd : Bool) : List Pl := [⟨sa, 0⟩, ⟨sb, 1⟩, ⟨sc, 2⟩, ⟨sd, 3⟩]
theorem pl4 (sa sb sc sd : Bool) : PlOk (pK sa sb sc sd) := by
  refine ⟨fun v h0 h1 => ?_, fun v u h0 h1 h2 h3 h4 => ?_⟩
  · simp [pK] at h1
    obtain rfl | rfl | rfl | rfl : v = 0 ∨ v = 1 ∨ v = 2 ∨ v = 3 := by omega
    all_goals exact ⟨by simp [placeOf, pK], by simp [placeOf, pK]⟩
  · simp [pK] at h1 h3
    obtain rfl | rfl | rfl | rfl : v = 0 ∨ v = 1 ∨ v = 2 ∨ v = 3 := by omega
    all_goals
      obtain rfl | rfl | rfl | rfl : u = 0 ∨ u = 1 ∨ u = 2 ∨ u = 3 := by omega
      all_goals first | omega | simp [placeOf, pK]
def cK (want to : BitVec 64) : List St := [stC 0 4096, stC 1 want.toNat, stC 2 to.toNat, stK 3 0 1 2, stO 3]
theorem emC_K (want to : BitVec 64) (p : List Pl) : emC p (cK want to) = emS p (stC 0 4096) ++ (emS p (stC 1 want.toNat) ++ (emS p (stC 2 to.toNat) ++ (emS p (stK 3 0 1 2) ++ (emS p (stO 3) ++ [hltI])))) := by simp [emC, emL, cK]
theorem right_K {want to : BitVec 64} {sa sb sc sd : Bool} : AllR (emC (pK sa sb sc sd) (cK want to)) := by
  have hp := pl4 sa sb sc sd
  rw [emC_K]
  exact (rs_const hp (by omega) (by simp [pK])).app ((rs_const hp (by omega) (by simp [pK])).app ((rs_const hp (by omega) (by simp [pK])).app ((rs_cas hp (by omega) (by simp [pK]) (by omega) (by simp [pK]) (by omega) (by simp [pK]) (by omega) (by simp [pK])).app ((rs_out hp (by omega) (by simp [pK])).app rt_hlt))))
theorem run_K (was want to : BitVec 64) (v0 : Int) {sa sb sc sd : Bool} : ∃ N s' e, N ≤ 100 ∧ Goes (emC (pK sa sb sc sd) (cK want to)) (born [was] [v0]) N s' (e ++ [⟨4, 0, casV was want⟩, ⟨10, 0, 0⟩]) ∧ mute e ∧ s'.st = 1 ∧ s'.now = [casN was want to] := by
  have hp := pl4 sa sb sc sd
  obtain ⟨p, hpe⟩ : ∃ p, pK sa sb sc sd = p := ⟨_, rfl⟩
  have hlen : (p.length : Int) = 4 := by rw [← hpe]; rfl
  rw [hpe] at hp ⊢
  clear hpe
  obtain ⟨code, hc⟩ : ∃ code, emC p (cK want to) = code := ⟨_, rfl⟩
  have hat : At code (born [was] [v0]).pc (emS p (stC 0 4096) ++ (emS p (stC 1 want.toNat) ++ (emS p (stC 2 to.toNat) ++ (emS p (stK 3 0 1 2) ++ (emS p (stO 3) ++ [hltI]))))) := by
    rw [← emC_K, hc]; exact At.whole _
  rw [hc]
  clear hc
  obtain ⟨s1, ⟨⟨m1, l1, g1⟩, p1⟩, P1, M1⟩ := do_const 0 0 0 0 0 0 (born_inv [was] [v0]) hp (d := 0) (by omega) (by omega) hat
  have h2 := hat.right.move p1
  obtain ⟨s2, ⟨⟨m2, l2, g2⟩, p2⟩, P2, M2⟩ := do_const 0 0 0 0 0 0 P1.inv hp (d := 1) (by omega) (by omega) h2
  have h3 := h2.right.move p2
  obtain ⟨s3, ⟨⟨m3, l3, g3⟩, p3⟩, P3, M3⟩ := do_const 0 0 0 0 0 0 P2.inv hp (d := 2) (by omega) (by omega) h3
  have h4 := h3.right.move p3
  have M13 := M1.trans (M2.trans M3)
  have v0' : val p s3 0 = 4096#64 := by rw [P3.o 0 (by omega) (by omega) (by omega), P2.o 0 (by omega) (by omega) (by omega), P1.at_]; rfl
  have v1' : val p s3 1 = want := by rw [P3.o 1 (by omega) (by omega) (by omega), P2.at_, ofInt64]
  have v2' : val p s3 2 = to := by rw [P3.at_, ofInt64]
  obtain ⟨s4, e4, ⟨⟨m4, l4, g4⟩, p4⟩, u4, P4, n4⟩ := do_cas 0 0 0 0 P3.inv hp (d := 3) (a := 0) (b := 1) (c := 2) (by omega) (by omega) (by omega) (by omega) (by omega) (by omega) (by omega) (by omega) v0' (M13.1.trans rfl) (M13.2.1.trans rfl) h4
  rw [v1'] at P4
  rw [v1', v2'] at n4
  have h5 := h4.right.move p4
  obtain ⟨s5, ⟨⟨m5, l5, g5⟩, p5⟩, I5, V5, M5⟩ := do_out 0 0 0 0 0 0 0 P4.inv hp (a := 3) (by omega) (by omega) h5
  have h6 := h5.right.move p5
  obtain ⟨s6, g6, z6, n6⟩ := do_end I5 h6
  refine ⟨m1 + (m2 + (m3 + (m4 + (m5 + 1)))), s6, e4, by omega, ?_, u4, z6, ?_⟩
  · have := g1.trans (g2.trans (g3.trans (g4.trans (g5.trans g6))))
    rw [P4.at_] at this
    simpa using this
  · rw [n6, M5.1, n4]
end Go.Proofs.Ytkohichiojmakaa.Em
/-
  PLAIN: the code of EmitLoops, linked, and what it does, by decision. No Go here.
-/
namespace Go.Proofs.Ytkohichiojmakaa.Em
set_option linter.unusedVariables false
set_option linter.unusedSimpArgs false
open A64 Alu Stp Fld Pat

def stLb (to : Int) : St := ⟨9, 0, 0, 0, 0, to, 0, 0, 0⟩
def stZr (a to : Int) : St := ⟨11, 0, a, 0, 0, to, 0, 0, 0⟩
def stJm (to : Int) : St := ⟨10, 0, 0, 0, 0, to, 0, 0, 0⟩
def stEn : St := ⟨12, 0, 0, 0, 0, 0, 0, 0, 0⟩
def pLo (slot : Bool) : List Pl := [⟨slot, 0⟩, ⟨false, 5⟩]
def cLo (n : Int) : List St := [stC 0 n, stC 1 1, stLb 1, stZr 0 0, stO 0, stP 0 0 1 45, stJm 1, stLb 0, stEn]
def lbLo (slot : Bool) (n : Int) : List Int := lbL (pLo slot) (List.replicate 2 (-1)) (cLo n) 9
/-- the linked code -/
def lkLo (slot : Bool) (n : Int) : List In := (link (emC (pLo slot) (cLo n)) (lbLo slot n)).1
/-- what was put out -/
def outs (e : List Ev) : List (BitVec 64) := (e.filter (fun x => decide (x.kind = 4))).map (·.v)
/-- n, n - 1, .. 1 -/
def down : Nat → List (BitVec 64)
  | 0 => []
  | n + 1 => BitVec.ofNat 64 (n + 1) :: down n
theorem down_len : ∀ n, (down n).length = n
  | 0 => rfl
  | n + 1 => by simp [down, down_len n]
theorem down_get : ∀ (n i : Nat), i < n → (down n).getD i 0 = BitVec.ofNat 64 (n - i)
  | n + 1, 0, _ => rfl
  | n + 1, i + 1, h => by
    have := down_get n i (by omega)
    simp only [down, List.getD_cons_succ, this]
    congr 1
    omega
def longLo (slot : Bool) (n : Nat) : Nat := if slot then 3 + (9 * n + 2) + 1 else 2 + (5 * n + 1) + 1
def goodLo (slot : Bool) (n : Nat) : Bool :=
  decide ((link (emC (pLo slot) (cLo n)) (lbLo slot n)).2 = 0) && ((lkLo slot n).all right && decide ((emC (pLo slot) (cLo n)).length ≤ 20) && match runX (lkLo slot n) (longLo slot n) (born [] []) with
    | some (s, e) => decide (s.st = 1) && decide (outs e = down n)
    | none => false)
set_option maxRecDepth 100000 in
theorem good_all : ∀ slot : Bool, ∀ n : Fin 31, goodLo slot n = true := by decide +kernel
theorem run_L {n : Nat} (h : n ≤ 30) (slot : Bool) : (link (emC (pLo slot) (cLo n)) (lbLo slot n)).2 = 0 ∧ AllR (lkLo slot n) ∧ (emC (pLo slot) (cLo n)).length ≤ 20 ∧ ∃ N s' e, N ≤ 400 ∧ Goes (lkLo slot n) (born [] []) N s' e ∧ s'.st = 1 ∧ outs e = down n := by
  have hg := good_all slot ⟨n, by omega⟩
  unfold goodLo at hg
  simp only [Bool.and_eq_true, decide_eq_true_eq, List.all_eq_true] at hg
  obtain ⟨h1, ⟨h2, h3⟩, h4⟩ := hg
  refine ⟨h1, h2, h3, ?_⟩
  cases hx : runX (lkLo slot n) (longLo slot n) (born [] []) with
  | none => rw [hx] at h4; cases h4
  | some z =>
    obtain ⟨s, e⟩ := z
    rw [hx] at h4
    simp only [Bool.and_eq_true, decide_eq_true_eq] at h4
    exact ⟨longLo slot n, s, e, by unfold longLo; split <;> omega, hx, h4.1, h4.2⟩
end Go.Proofs.Ytkohichiojmakaa.Em
