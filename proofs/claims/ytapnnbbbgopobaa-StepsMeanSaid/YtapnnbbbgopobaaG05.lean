/-
  A CODE AMONG THE ARGUMENTS, opened; the example of chapter 15.
-/
import Derived.Test.YtapnnbbbgopobaaG03
import Derived.Test.YtapnnbbbgopobaaElideRef
import Derived.Test.YtapnnbbbgopobaaG01
import Derived.StillTail
import Derived.OrdersHeld
import Derived.Test.YtapnnbbbgopobaaProg
import Derived.WalkKit
import Derived.IntWalk
import Derived.OwnWalk
import Derived.KernelRfl
import Derived.Deep.CutBlock
import Derived.Deep.DeepCutAuto
import Derived.Laws.BytesArg
set_option linter.unusedVariables false
set_option linter.unusedSimpArgs false
namespace Go.Proofs.Ytapnnbbbgopobaa.StO
open Go.RowKit Go.WideShapes Go.ChangeShapes Cm Mm Ow Stp StW StC StM StF
end Go.Proofs.Ytapnnbbbgopobaa.StO
namespace Go.Proofs.Ytapnnbbbgopobaa.ElM
open Go.RowKit Go.WideShapes Go.ChangeShapes Cm Mm Ow Stp StW StC StM StF ElW ElR StO
structure Cd where
  x : Int
  y : Int
  A : Option Addr
  n : Nat
  cap : Nat
  l : List St
def zeroCd : Cd := ⟨0, 0, none, 0, 0, []⟩
def cdL (c : Cd) : List Value := [.int .i64 c.x, .int .i64 c.y, .slice c.A c.n c.cap]
def okCd (w : World) (c : Cd) : Prop := i64b c.x ∧ i64b c.y ∧ IsSt w c.A c.n c.cap c.l
def IsCd (w : World) (A : Option Addr) (n cap : Nat) (l : List Cd) : Prop := l.length = n ∧ Sl w A n cap 3 (fun i => cdL (l.getD i zeroCd)) ∧ ∀ i, i < n → okCd w (l.getD i zeroCd)
theorem IsCd.keep {w w' : World} {A : Option Addr} {n cap : Nat} {l : List Cd} (h : IsCd w A n cap l) (hb : Below w.heap.size w w') : IsCd w' A n cap l :=
  ⟨h.1, h.2.1.keep hb, fun i hi => by obtain ⟨h1, h2, h3⟩ := h.2.2 i hi; exact ⟨h1, h2, h3.keep hb⟩⟩
theorem IsCd.cell {w : World} {A : Option Addr} {n cap : Nat} {l : List Cd} (h : IsCd w A n cap l) {k : Nat} (hk : k < n) :
    ∃ b o, A = some ⟨b, o, none⟩ ∧ b < w.heap.size ∧ w.cell? ⟨b, o + k * 3, none⟩ = some (.int .i64 (l.getD k zeroCd).x) ∧ w.cell? ⟨b, o + k * 3 + 1, none⟩ = some (.int .i64 (l.getD k zeroCd).y) ∧ w.cell? ⟨b, o + k * 3 + 2, none⟩ = some (.slice (l.getD k zeroCd).A (l.getD k zeroCd).n (l.getD k zeroCd).cap) ∧ okCd w (l.getD k zeroCd) := by
  obtain ⟨b, o, e, hb, hc⟩ := h.2.1.at_ (by omega)
  exact ⟨b, o, e, hb, by simpa [cdL] using hc k hk 0 (by omega), by simpa [cdL, Nat.add_assoc] using hc k hk 1 (by omega), by simpa [cdL, Nat.add_assoc] using hc k hk 2 (by omega), h.2.2 k hk⟩
theorem rcut_any (n lo hi : Int) (w : World) (h : lo ≤ hi) : Calls Try.prog 32 #[.int .i64 n, .int .i64 lo, .int .i64 hi] w fun e w' => e = .returned (.int .i64 (max lo (min n hi))) ∧ w = w' := by
  obtain h1 | ⟨h1, h2⟩ | ⟨h1, h2⟩ : n < lo ∨ (¬ n < lo ∧ hi < n) ∨ (¬ n < lo ∧ ¬ hi < n) := by omega
  all_goals
    go_enter Try.func32, Try.ntmps32
    go_wp2
    go_ret
    exact ⟨ret1 (by omega), rfl⟩
end Go.Proofs.Ytapnnbbbgopobaa.ElM
namespace Go.Proofs.Ytapnnbbbgopobaa.Sp
open Go.RowKit Stp Rm
def getV (v : List Int) (i : Int) : Int := if 0 ≤ i ∧ i < v.length then v.getD i.toNat 0 else 0
def putV (v : List Int) (i x : Int) : List Int := if 0 ≤ i ∧ i < v.length then v.set i.toNat x else v
def isLab (to9 : Int) (s : St) : Bool := s.kind == 9 && s.to == to9
def jumpV (c : List St) (to9 : Int) : Nat := c.findIdx (isLab to9)
def bitV (b : Bool) : Int := if b then 1 else 0
def opV (o a b : Int) : Int :=
  if o = 43 then (a + b) % 18446744073709551616 else if o = 45 then (a - b) % 18446744073709551616 else if o = 42 then (a * b) % 18446744073709551616 else if o = 38 then bits .and .u64 a b
  else if o = 61 then bitV (a == b) else if o = 60 then bitV (decide (wrap64 a < wrap64 b)) else 0
def addrV (x : Int) : Int := if 1099511627776 < x then -1 else wrap64 x
structure Ps where
  at_ : Nat
  v : List Int
  now : List Int
  out : List Int
def isAct (k : Int) : Bool := k == 3 || k == 4 || k == 5 || k == 8
def plcP (s : St) (p : Ps) : Option Nat := plc p.now.length (addrV (getV p.v s.a))
def casV (s : St) (p : Ps) : Bool := (plcP s p).isSome && rd p.now (plcP s p) == getV p.v s.b
def actV (s : St) (p : Ps) : Ps :=
  if s.kind = 8 then { p with out := p.out ++ [getV p.v s.a] }
  else if s.kind = 3 then { p with v := putV p.v s.d (rd p.now (plcP s p)) }
  else if s.kind = 4 then { p with now := put p.now (plcP s p) (getV p.v s.b) }
  else if s.kind = 5 then { p with now := if casV s p then put p.now (plcP s p) (getV p.v s.c) else p.now, v := putV p.v s.d (bitV (casV s p)) }
  else p
def quietV (c : List St) (s : St) (p : Ps) : Ps :=
  if s.kind = 0 then { p with v := putV p.v s.d s.n }
  else if s.kind = 1 then { p with v := putV p.v s.d (getV p.v s.a) }
  else if s.kind = 2 then { p with v := putV p.v s.d (opV s.op (getV p.v s.a) (getV p.v s.b)) }
  else if s.kind = 10 then { p with at_ := jumpV c s.to }
  else if s.kind = 11 then (if getV p.v s.a = 0 then { p with at_ := jumpV c s.to } else p)
  else if s.kind = 12 then { p with at_ := c.length }
  else p
def goV (c : List St) : Nat → Ps → Nat × Ps
  | 0, p => if c.length ≤ p.at_ then (1, p) else (2, p)
  | k + 1, p => if c.length ≤ p.at_ then (1, p) else
      if isAct (c.getD p.at_ zeroSt).kind then (0, actV (c.getD p.at_ zeroSt) { p with at_ := p.at_ + 1 })
      else goV c k (quietV c (c.getD p.at_ zeroSt) { p with at_ := p.at_ + 1 })
inductive Ins : List St → List St → Prop where
  | nil : Ins [] []
  | cons (s : St) {c d : List St} : Ins c d → Ins (s :: c) (s :: d)
  | skip (s : St) {c d : List St} : (s.kind = 6 ∨ s.kind = 7) → Ins c d → Ins c (s :: d)
theorem Ins.refl : ∀ c : List St, Ins c c
  | [] => .nil
  | s :: c => .cons s (Ins.refl c)
theorem ins_flush : ∀ l : List St, Ins l (flush l)
  | [] => .nil
  | s :: t => by
    rw [flush_cons]
    unfold flush1
    split
    · exact .cons s (.skip _ (.inl rfl) (.skip _ (.inr rfl) (ins_flush t)))
    · exact .cons s (ins_flush t)
theorem ins_elide (sole : List Bool) : ∀ (n : Nat) (l : List St), l.length ≤ n → Ins (elide sole l) l := by
  intro n
  induction n with
  | zero => intro l h; obtain rfl : l = [] := List.eq_nil_of_length_eq_zero (by omega); simp [elide]; exact .nil
  | succ n ih =>
    intro l h
    cases l with
    | nil => simp [elide]; exact .nil
    | cons s t =>
      rw [elide]
      simp only [List.length_cons] at h
      split
      · rename_i hc
        simp only [Bool.and_eq_true] at hc
        have hf := hc.2
        match t, hf with
        | f :: y :: r, hf =>
          simp only [flwT, flw3, Bool.and_eq_true, beq_iff_eq] at hf
          refine .cons s (.skip f (.inl hf.1.1.1) (.skip y (.inr hf.2) (ih r (by simp only [List.length_cons] at h; omega))))
      · exact .cons s (ih t (by omega))
theorem Ins.jump {c d : List St} (h : Ins c d) (to9 : Int) : Ins (c.drop (jumpV c to9)) (d.drop (jumpV d to9)) := by
  unfold jumpV
  induction h with
  | nil => exact .nil
  | cons s h ih =>
    rw [List.findIdx_cons, List.findIdx_cons]
    cases hb : isLab to9 s
    · exact ih
    · exact .cons s h
  | skip s hs h ih =>
    rw [List.findIdx_cons]
    have : isLab to9 s = false := by
      unfold isLab
      rcases hs with hs | hs <;> simp [hs]
    rw [this]
    exact ih
structure Sim (c d : List St) (p q : Ps) : Prop where
  at_ : Ins (c.drop p.at_) (d.drop q.at_)
  v : p.v = q.v
  now : p.now = q.now
  out : p.out = q.out
theorem getD_drop {c : List St} {i : Nat} {s : St} {t : List St} (h : c.drop i = s :: t) : i < c.length ∧ c.getD i zeroSt = s ∧ c.drop (i + 1) = t := by
  have h1 : i < c.length := by
    rcases Nat.lt_or_ge i c.length with h1 | h1
    · exact h1
    · rw [List.drop_eq_nil_of_le h1] at h; cases h
  rw [List.drop_eq_getElem_cons h1] at h
  injection h with h2 h3
  exact ⟨h1, by simp [List.getD, h1, h2], h3⟩
theorem getD_done {c : List St} {i : Nat} (h : c.drop i = []) : c.length ≤ i := by
  rcases Nat.lt_or_ge i c.length with h1 | h1
  · rw [List.drop_eq_getElem_cons h1] at h; cases h
  · exact h1
theorem goV_done (c : List St) (k : Nat) (p : Ps) (h : c.length ≤ p.at_) : goV c k p = (1, p) := by
  cases k <;> simp [goV, h]
theorem quiet_sim {c d : List St} (hi : Ins c d) (s : St) {p q : Ps} (h : Sim c d p q) : Sim c d (quietV c s p) (quietV d s q) := by
  obtain ⟨ha, hv, hn, ho⟩ := h
  obtain ⟨pa, pv, pn, po⟩ := p
  obtain ⟨qa, qv, qn, qo⟩ := q
  dsimp only at ha hv hn ho
  subst hv hn ho
  unfold quietV
  dsimp only
  repeat' split
  all_goals first
    | exact ⟨ha, rfl, rfl, rfl⟩
    | exact ⟨hi.jump _, rfl, rfl, rfl⟩
    | exact ⟨by simp only [List.drop_length]; exact .nil, rfl, rfl, rfl⟩
theorem act_sim {c d : List St} (s : St) {p q : Ps} (h : Sim c d p q) : Sim c d (actV s p) (actV s q) := by
  obtain ⟨ha, hv, hn, ho⟩ := h
  obtain ⟨pa, pv, pn, po⟩ := p
  obtain ⟨qa, qv, qn, qo⟩ := q
  dsimp only at ha hv hn ho
  subst hv hn ho
  unfold actV casV plcP
  dsimp only
  repeat' split
  all_goals exact ⟨ha, rfl, rfl, rfl⟩
theorem go_sim {c d : List St} (hi : Ins c d) : ∀ (N k k' : Nat) (p q : Ps), k + k' ≤ N → Sim c d p q → (goV c k p).1 ≠ 2 → (goV d k' q).1 ≠ 2 →
    (goV c k p).1 = (goV d k' q).1 ∧ Sim c d (goV c k p).2 (goV d k' q).2 := by
  intro N
  induction N with
  | zero =>
    intro k k' p q hN h h1 h2
    obtain ⟨rfl, rfl⟩ : k = 0 ∧ k' = 0 := by omega
    by_cases hc : c.length ≤ p.at_
    · by_cases hd : d.length ≤ q.at_
      · rw [goV_done _ _ _ hc, goV_done _ _ _ hd]; exact ⟨rfl, h⟩
      · exact absurd (by simp [goV, hd]) h2
    · exact absurd (by simp [goV, hc]) h1
  | succ N ih =>
    intro k k' p q hN h h1 h2
    have ha := h.at_
    generalize hx : c.drop p.at_ = x at ha
    generalize hy : d.drop q.at_ = y at ha
    cases ha with
    | nil =>
      rw [goV_done _ _ _ (getD_done hx), goV_done _ _ _ (getD_done hy)]; exact ⟨rfl, h⟩
    | @skip s _ d' hs hrest =>
      obtain ⟨y1, y2, y3⟩ := getD_drop hy
      have hny : ¬ d.length ≤ q.at_ := by omega
      cases k' with
      | zero => exact absurd (by simp [goV, hny]) h2
      | succ k' =>
        have e : goV d (k' + 1) q = goV d k' { q with at_ := q.at_ + 1 } := by
          have e1 : isAct s.kind = false := by unfold isAct; rcases hs with hs | hs <;> rw [hs] <;> rfl
          have e2 : ∀ z : Ps, quietV d s z = z := fun z => by unfold quietV; rcases hs with hs | hs <;> rw [hs] <;> simp
          rw [goV, if_neg hny, y2, e1, e2]
          rfl
        rw [e] at h2 ⊢
        refine ih k k' p _ (by omega) ⟨?_, h.v, h.now, h.out⟩ h1 h2
        show Ins (c.drop p.at_) (d.drop (q.at_ + 1))
        rw [y3, hx]; exact hrest
    | @cons s c' d' hrest =>
      obtain ⟨x1, x2, x3⟩ := getD_drop hx
      obtain ⟨y1, y2, y3⟩ := getD_drop hy
      have hnx : ¬ c.length ≤ p.at_ := by omega
      have hny : ¬ d.length ≤ q.at_ := by omega
      have hs1 : Sim c d { p with at_ := p.at_ + 1 } { q with at_ := q.at_ + 1 } := ⟨by show Ins (c.drop (p.at_ + 1)) (d.drop (q.at_ + 1)); rw [x3, y3]; exact hrest, h.v, h.now, h.out⟩
      cases k with
      | zero => exact absurd (by simp [goV, hnx]) h1
      | succ k =>
        cases k' with
        | zero => exact absurd (by simp [goV, hny]) h2
        | succ k' =>
          rw [goV, if_neg hnx, x2] at h1 ⊢
          rw [goV, if_neg hny, y2] at h2 ⊢
          cases hact : isAct s.kind
          · rw [hact] at h1 h2
            simp only [Bool.false_eq_true, if_false] at h1 h2 ⊢
            exact ih k k' _ _ (by omega) (quiet_sim hi s hs1) h1 h2
          · simp only [if_true]
            exact ⟨trivial, act_sim s hs1⟩
end Go.Proofs.Ytapnnbbbgopobaa.Sp
namespace Go.Proofs.Ytapnnbbbgopobaa.Ml
open Go.RowKit Stp Rm Sp
inductive Ex where
  | num (n : Int)
  | name (s : ByteArray)
  | op (o : Int) (a b : Ex)
structure Hd where
  kind : Int
  at_ : Int
  name : ByteArray
  cell : ByteArray
  i : Ex
  x : Ex
  y : Ex
inductive Bd where
  | nil
  | cons (h : Hd) (body els rest : Bd)
def idxN (names : List ByteArray) (s : ByteArray) : Nat := names.findIdx (fun m => m.toList == s.toList)
def locN (names : List ByteArray) (s : ByteArray) : Nat := if idxN names s < names.length then idxN names s else 0
def evalE (names : List ByteArray) (v : List Int) : Ex → Int
  | .num n => n
  | .name s => if idxN names s < names.length then v.getD (idxN names s) 0 else 0
  | .op o a b => opV o (evalE names v a) (evalE names v b)
def setE (names : List ByteArray) (v : List Int) (s : ByteArray) (x : Int) : List Int := if idxN names s < names.length then v.set (idxN names s) x else v
abbrev Cl := ByteArray × Int
def cix (cells : List Cl) (s : ByteArray) : Nat := cells.findIdx (fun c => c.1.toList == s.toList)
def csize (cells : List Cl) (s : ByteArray) : Int := (cells.getD (cix cells s) (s, 1)).2
def cwords (cells : List Cl) : Int := (cells.map fun c => max 1 (min c.2 64)).sum
def cbase (cells : List Cl) (i : Nat) : Int := cwords (cells.take i)
def wordE (cells : List Cl) (names : List ByteArray) (v : List Int) (h : Hd) : Nat := (cbase cells (cix cells h.cell) + bits .and .u64 (evalE names v h.i) (csize cells h.cell - 1)).toNat
structure Ss where
  st : List Bd
  v : List Int
  now : List Int
  out : List Int
def dropNil : List Bd → List Bd
  | .nil :: r => dropNil r
  | l => l
def isActS (k : Int) : Bool := k == 1 || k == 2 || k == 3 || k == 5
def actS (cells : List Cl) (names : List ByteArray) (h : Hd) (s : Ss) : Ss :=
  if h.kind = 5 then { s with out := s.out ++ [evalE names s.v h.x] }
  else if h.kind = 1 then { s with v := setE names s.v h.name (s.now.getD (wordE cells names s.v h) 0) }
  else if h.kind = 2 then { s with now := s.now.set (wordE cells names s.v h) (evalE names s.v h.x) }
  else if h.kind = 3 then
    (if s.now.getD (wordE cells names s.v h) 0 = evalE names s.v h.x then { s with now := s.now.set (wordE cells names s.v h) (evalE names s.v h.y), v := setE names s.v h.name 1 } else { s with v := setE names s.v h.name 0 })
  else s
def quietS (names : List ByteArray) (h : Hd) (body els rest : Bd) (st : List Bd) (s : Ss) : Ss :=
  if h.kind = 0 then { s with st := rest :: st, v := setE names s.v h.name (evalE names s.v h.x) }
  else if h.kind = 6 then { s with st := (if evalE names s.v h.x = 0 then els else body) :: rest :: st }
  else if h.kind = 7 then { s with st := if evalE names s.v h.x = 0 then rest :: st else body :: .cons h body els rest :: st }
  else { s with st := rest :: st }
def goS (cells : List Cl) (names : List ByteArray) : Nat → Ss → Nat × Ss
  | 0, s => match dropNil s.st with
    | .cons h body els rest :: st => (2, { s with st := .cons h body els rest :: st })
    | _ => (1, { s with st := [] })
  | k + 1, s => match dropNil s.st with
    | .cons h body els rest :: st => if isActS h.kind then (0, actS cells names h { s with st := rest :: st }) else goS cells names k (quietS names h body els rest st s)
    | _ => (1, { s with st := [] })
def kE : Ex → Nat → Nat
  | .num _, k => k + 1
  | .name _, k => k
  | .op _ a b, k => kE b (kE a k) + 1
def varE (names : List ByteArray) : Ex → Nat → Nat
  | .num _, k => k
  | .name s, _ => locN names s
  | .op _ a b, k => kE b (kE a k)
def sConst (d : Nat) (n : Int) : St := ⟨0, d, 0, 0, 0, 0, 0, n, 0⟩
def sOp (o : Int) (d a b : Nat) : St := ⟨2, d, a, b, 0, 0, 0, 0, o⟩
def codeE (names : List ByteArray) : Ex → Nat → List St
  | .num n, k => [sConst k n]
  | .name _, _ => []
  | .op o a b, k => codeE names a k ++ codeE names b (kE a k) ++ [sOp o (kE b (kE a k)) (varE names a k) (varE names b (kE a k))]
def codeP (cells : List Cl) (names : List ByteArray) (h : Hd) (k : Nat) : List St :=
  codeE names h.i k ++ [sConst (kE h.i k) (csize cells h.cell - 1), sOp 38 (kE h.i k + 1) (varE names h.i k) (kE h.i k), sConst (kE h.i k + 2) 8, sOp 42 (kE h.i k + 3) (kE h.i k + 1) (kE h.i k + 2),
    sConst (kE h.i k + 4) (4096 + 8 * cbase cells (cix cells h.cell)), sOp 43 (kE h.i k + 5) (kE h.i k + 3) (kE h.i k + 4)]
def kP (h : Hd) (k : Nat) : Nat := kE h.i k + 6
def varP (h : Hd) (k : Nat) : Nat := kE h.i k + 5
def celled (k : Int) : Bool := k == 1 || k == 2 || k == 3
def kH (h : Hd) (k : Nat) : Nat :=
  if h.kind = 0 then kE h.x k else if h.kind = 1 then kP h k else if h.kind = 2 then kE h.x (kP h k) else if h.kind = 3 then kE h.y (kE h.x (kP h k)) else if h.kind = 5 then kE h.x k
  else if h.kind = 6 then kE h.x k else if h.kind = 7 then kE h.x k else k
def codeH (cells : List Cl) (names : List ByteArray) (h : Hd) (k : Nat) : List St :=
  if h.kind = 0 then codeE names h.x k ++ [⟨1, locN names h.name, varE names h.x k, 0, 0, 0, 0, 0, 0⟩]
  else if h.kind = 1 then codeP cells names h k ++ [⟨3, locN names h.name, varP h k, 0, 0, 0, cix cells h.cell, 0, 0⟩]
  else if h.kind = 2 then codeP cells names h k ++ codeE names h.x (kP h k) ++ [⟨4, 0, varP h k, varE names h.x (kP h k), 0, 0, cix cells h.cell, 0, 0⟩]
  else if h.kind = 3 then codeP cells names h k ++ codeE names h.x (kP h k) ++ codeE names h.y (kE h.x (kP h k)) ++ [⟨5, locN names h.name, varP h k, varE names h.x (kP h k), varE names h.y (kE h.x (kP h k)), 0, cix cells h.cell, 0, 0⟩]
  else if h.kind = 4 then [⟨13, 0, 0, 0, 0, 0, 0, 0, 0⟩]
  else if h.kind = 5 then codeE names h.x k ++ [⟨8, 0, varE names h.x k, 0, 0, 0, 0, 0, 0⟩]
  else []
def sZero (a to9 : Nat) : St := ⟨11, 0, a, 0, 0, to9, 0, 0, 0⟩
def sJump (to9 : Nat) : St := ⟨10, 0, 0, 0, 0, to9, 0, 0, 0⟩
def sLab (to9 : Nat) : St := ⟨9, 0, 0, 0, 0, to9, 0, 0, 0⟩
def sEnd : St := ⟨12, 0, 0, 0, 0, 0, 0, 0, 0⟩
def kB : Bd → Nat → Nat
  | .nil, k => k
  | .cons h body els rest, k => kB rest (if h.kind = 6 then kB els (kB body (kH h k)) else if h.kind = 7 then kB body (kH h k) else kH h k)
def lB : Bd → Nat → Nat
  | .nil, l => l
  | .cons h body els rest, l => lB rest (if h.kind = 6 then lB els (lB body (l + 2)) else if h.kind = 7 then lB body (l + 2) else l)
def codeB (cells : List Cl) (names : List ByteArray) : Bd → Nat → Nat → List St
  | .nil, _, _ => []
  | .cons h body els rest, k, l =>
    if h.kind = 6 then codeE names h.x k ++ [sZero (varE names h.x k) l] ++ codeB cells names body (kH h k) (l + 2) ++ [sJump (l + 1), sLab l] ++ codeB cells names els (kB body (kH h k)) (lB body (l + 2)) ++ [sLab (l + 1)]
      ++ codeB cells names rest (kB els (kB body (kH h k))) (lB els (lB body (l + 2)))
    else if h.kind = 7 then [sLab l] ++ codeE names h.x k ++ [sZero (varE names h.x k) (l + 1)] ++ codeB cells names body (kH h k) (l + 2) ++ [sJump l, sLab (l + 1)] ++ codeB cells names rest (kB body (kH h k)) (lB body (l + 2))
    else codeH cells names h k ++ codeB cells names rest (kH h k) l
/-! ### where steps stand -/
def Seg (c : List St) (pc : Nat) (s : List St) : Prop := ∃ r, c.drop pc = s ++ r
theorem Seg.left {c : List St} {pc : Nat} {a b : List St} (h : Seg c pc (a ++ b)) : Seg c pc a := by
  obtain ⟨r, h⟩ := h; exact ⟨b ++ r, by rw [h, List.append_assoc]⟩
theorem Seg.right {c : List St} {pc : Nat} {a b : List St} (h : Seg c pc (a ++ b)) : Seg c (pc + a.length) b := by
  obtain ⟨r, h⟩ := h
  refine ⟨r, ?_⟩
  rw [← List.drop_drop, h, List.append_assoc, List.drop_left]
theorem Seg.head {c : List St} {pc : Nat} {s : St} {t : List St} (h : Seg c pc (s :: t)) : pc < c.length ∧ c.getD pc zeroSt = s := by
  obtain ⟨r, h⟩ := h
  exact ⟨(getD_drop h).1, (getD_drop h).2.1⟩
theorem Seg.tail {c : List St} {pc : Nat} {s : St} {t : List St} (h : Seg c pc (s :: t)) : Seg c (pc + 1) t := by
  obtain ⟨r, h⟩ := h
  exact ⟨r, (getD_drop h).2.2⟩
def Rc (c : List St) (p q : Ps) : Prop := ∃ n, ∀ k, goV c (n + k) p = goV c k q
theorem Rc.refl (c : List St) (p : Ps) : Rc c p p := ⟨0, fun k => by rw [Nat.zero_add]⟩
theorem Rc.trans {c : List St} {p q r : Ps} (h1 : Rc c p q) (h2 : Rc c q r) : Rc c p r := by
  obtain ⟨n, h1⟩ := h1
  obtain ⟨m, h2⟩ := h2
  exact ⟨n + m, fun k => by rw [Nat.add_assoc, h1, h2]⟩
theorem Rc.one {c : List St} {pc : Nat} {s : St} {t : List St} (h : Seg c pc (s :: t)) (hs : isAct s.kind = false) (v now out : List Int) : Rc c ⟨pc, v, now, out⟩ (quietV c s ⟨pc + 1, v, now, out⟩) := by
  obtain ⟨h1, h2⟩ := h.head
  refine ⟨1, fun k => ?_⟩
  rw [Nat.add_comm, goV, if_neg (by show ¬ c.length ≤ pc; omega)]
  rw [show (⟨pc, v, now, out⟩ : Ps).at_ = pc from rfl, h2, hs]
  rfl
theorem Rc.const {c : List St} {pc d : Nat} {n : Int} {t : List St} (h : Seg c pc (sConst d n :: t)) (v now out : List Int) (hd : d < v.length) : Rc c ⟨pc, v, now, out⟩ ⟨pc + 1, v.set d n, now, out⟩ := by
  have e := Rc.one h rfl v now out
  have e2 : quietV c (sConst d n) ⟨pc + 1, v, now, out⟩ = ⟨pc + 1, v.set d n, now, out⟩ := by
    unfold quietV sConst putV
    simp only [if_true]
    rw [if_pos (by omega)]
    rfl
  rw [← e2]; exact e
theorem getV_nat {v : List Int} {i : Nat} (h : i < v.length) : getV v i = v.getD i 0 := by unfold getV; rw [if_pos (by omega)]; rfl
theorem putV_nat {v : List Int} {i : Nat} {x : Int} (h : i < v.length) : putV v i x = v.set i x := by unfold putV; rw [if_pos (by omega)]; rfl
theorem Rc.op {c : List St} {pc d a b : Nat} {o : Int} {t : List St} (h : Seg c pc (sOp o d a b :: t)) (v now out : List Int) (hd : d < v.length) (ha : a < v.length) (hb : b < v.length) :
    Rc c ⟨pc, v, now, out⟩ ⟨pc + 1, v.set d (opV o (v.getD a 0) (v.getD b 0)), now, out⟩ := by
  have e := Rc.one h rfl v now out
  have e2 : quietV c (sOp o d a b) ⟨pc + 1, v, now, out⟩ = ⟨pc + 1, v.set d (opV o (v.getD a 0) (v.getD b 0)), now, out⟩ := by
    unfold quietV sOp
    simp only [show ¬ (2 : Int) = 0 by decide, show ¬ (2 : Int) = 1 by decide, if_true, if_false]
    rw [putV_nat hd, getV_nat ha, getV_nat hb]
  rw [← e2]; exact e
/-! ### expressions -/
def namesE (names : List ByteArray) : Ex → Prop
  | .num _ => True
  | .name s => idxN names s < names.length
  | .op _ a b => namesE names a ∧ namesE names b
theorem kE_le : ∀ (x : Ex) (k : Nat), k ≤ kE x k
  | .num _, k => Nat.le_succ k
  | .name _, k => Nat.le_refl k
  | .op _ a b, k => by have := kE_le a k; have := kE_le b (kE a k); unfold kE; omega
theorem varE_lt (names : List ByteArray) : ∀ (x : Ex) (k : Nat), namesE names x → names.length ≤ k → varE names x k < kE x k
  | .num _, k, _, _ => Nat.lt_succ_self k
  | .name s, k, h, hk => by
    unfold namesE at h
    show locN names s < k
    unfold locN
    rw [if_pos h]; omega
  | .op _ a b, k, _, _ => Nat.lt_succ_self (kE b (kE a k))
theorem getD_set_ne {v : List Int} {i j : Nat} {x : Int} (h : i ≠ j) : (v.set i x).getD j 0 = v.getD j 0 := by
  simp [List.getD, List.getElem?_set, h]
theorem getD_set_self {v : List Int} {i : Nat} {x : Int} (h : i < v.length) : (v.set i x).getD i 0 = x := by
  simp [List.getD, List.getElem?_set, h]
def Agree (m : Nat) (v sv : List Int) : Prop := sv.length = m ∧ m ≤ v.length ∧ ∀ i, i < m → v.getD i 0 = sv.getD i 0
def Low (k : Nat) (v v' : List Int) : Prop := v'.length = v.length ∧ ∀ i, i < k → v'.getD i 0 = v.getD i 0
theorem Low.refl (k : Nat) (v : List Int) : Low k v v := ⟨rfl, fun _ _ => rfl⟩
theorem Low.trans {k k' : Nat} {v v' v'' : List Int} (h : Low k v v') (h' : Low k' v' v'') (hk : k ≤ k') : Low k v v'' := ⟨h'.1.trans h.1, fun i hi => (h'.2 i (by omega)).trans (h.2 i hi)⟩
theorem Low.set {k d : Nat} {v : List Int} (x : Int) (h : k ≤ d) : Low k v (v.set d x) := ⟨by simp, fun i hi => getD_set_ne (by omega)⟩
theorem Low.agree {m k : Nat} {v v' sv : List Int} (h : Low k v v') (ha : Agree m v sv) (hk : m ≤ k) : Agree m v' sv := ⟨ha.1, by rw [h.1]; exact ha.2.1, fun i hi => (h.2 i (by omega)).trans (ha.2.2 i hi)⟩
theorem expr_run (names : List ByteArray) (c : List St) (sv : List Int) : ∀ (x : Ex) (k pc : Nat) (v now out : List Int), Seg c pc (codeE names x k) → names.length ≤ k → kE x k ≤ v.length → namesE names x → Agree names.length v sv →
    ∃ v', Low k v v' ∧ v'.getD (varE names x k) 0 = evalE names sv x ∧ Rc c ⟨pc, v, now, out⟩ ⟨pc + (codeE names x k).length, v', now, out⟩
  | .num n, k, pc, v, now, out, hs, hk, hv, hn, ha => by
    have hv' : k < v.length := hv
    exact ⟨v.set k n, Low.set n (Nat.le_refl k), getD_set_self hv', Rc.const hs v now out hv'⟩
  | .name s, k, pc, v, now, out, hs, hk, hv, hn, ha => by
    unfold namesE at hn
    refine ⟨v, Low.refl _ _, ?_, Rc.refl _ _⟩
    show v.getD (locN names s) 0 = if idxN names s < names.length then sv.getD (idxN names s) 0 else 0
    unfold locN
    rw [if_pos hn, if_pos hn]
    exact ha.2.2 _ hn
  | .op o a b, k, pc, v, now, out, hs, hk, hv, hn, ha => by
    unfold namesE at hn
    have ka := kE_le a k
    have kb := kE_le b (kE a k)
    have hv' : kE b (kE a k) < v.length := hv
    obtain ⟨v1, l1, e1, r1⟩ := expr_run names c sv a k pc v now out hs.left.left hk (by omega) hn.1 ha
    obtain ⟨v2, l2, e2, r2⟩ := expr_run names c sv b (kE a k) _ v1 now out hs.left.right (by omega) (by rw [l1.1]; omega) hn.2 (l1.agree ha hk)
    have s3 := hs.right
    have va := varE_lt names a k hn.1 hk
    have vb := varE_lt names b (kE a k) hn.2 (by omega)
    have r3 := Rc.op s3 v2 now out (by rw [l2.1, l1.1]; omega) (by rw [l2.1, l1.1]; omega) (by rw [l2.1, l1.1]; omega)
    rw [e2, l2.2 _ va, e1] at r3
    refine ⟨v2.set (kE b (kE a k)) (opV o (evalE names sv a) (evalE names sv b)), (l1.trans l2 ka).trans (Low.set _ (Nat.le_refl _)) (by omega), ?_, (r1.trans r2).trans ?_⟩
    · exact getD_set_self (by rw [l2.1, l1.1]; omega)
    · have e : pc + (codeE names (.op o a b) k).length = pc + (codeE names a k ++ codeE names b (kE a k)).length + 1 := by
        rw [codeE, List.length_append]; simp; omega
      rw [e, show pc + (codeE names a k).length + (codeE names b (kE a k)).length = pc + (codeE names a k ++ codeE names b (kE a k)).length by rw [List.length_append]; omega]
      exact r3
/-! ### addresses -/
theorem and_low (x : Int) {m : Int} (h0 : 0 ≤ m) (h1 : m ≤ 63) : 0 ≤ bits .and .u64 x m ∧ bits .and .u64 x m ≤ m := by
  obtain ⟨n, rfl⟩ := Int.eq_ofNat_of_zero_le h0
  have h : bits .and .u64 x n = IntKind.u64.wrap ((BitVec.ofInt 64 x &&& BitVec.ofInt 64 n).toNat : Int) := rfl
  have e : (BitVec.ofInt 64 x &&& BitVec.ofInt 64 (n : Int)).toNat ≤ n := by
    rw [BitVec.toNat_and]
    refine Nat.le_trans Nat.and_le_right ?_
    simp [BitVec.toNat_ofInt]
    omega
  have w : IntKind.u64.wrap ((BitVec.ofInt 64 x &&& BitVec.ofInt 64 (n : Int)).toNat : Int) = ((BitVec.ofInt 64 x &&& BitVec.ofInt 64 (n : Int)).toNat : Int) % 18446744073709551616 := rfl
  rw [h, w]
  omega
def CellsOk (cells : List Cl) : Prop := ∀ i, i < cells.length → 1 ≤ (cells.getD i (⟨#[]⟩, 0)).2 ∧ (cells.getD i (⟨#[]⟩, 0)).2 ≤ 64
theorem cbase_succ (cells : List Cl) (hc : CellsOk cells) (i : Nat) (h : i < cells.length) : cbase cells (i + 1) = cbase cells i + (cells.getD i (⟨#[]⟩, 0)).2 := by
  have := hc i h
  have e : max 1 (min (cells.getD i (⟨#[]⟩, 0)).2 64) = (cells.getD i (⟨#[]⟩, 0)).2 := by omega
  unfold cbase cwords
  rw [show cells.take (i + 1) = cells.take i ++ [cells.getD i (⟨#[]⟩, 0)] by rw [List.take_add_one]; simp [List.getD, h]]
  rw [List.map_append, List.sum_append, List.map_cons, List.map_nil, e]
  simp
theorem cbase_zero (cells : List Cl) : cbase cells 0 = 0 := by simp [cbase, cwords]
theorem cbase_nonneg (cells : List Cl) (hc : CellsOk cells) : ∀ i, i ≤ cells.length → 0 ≤ cbase cells i
  | 0, _ => by rw [cbase_zero]; omega
  | i + 1, h => by rw [cbase_succ cells hc i (by omega)]; have := cbase_nonneg cells hc i (by omega); have := hc i (by omega); omega
theorem cbase_mono (cells : List Cl) (hc : CellsOk cells) (i : Nat) : ∀ d, i + d ≤ cells.length → cbase cells i ≤ cbase cells (i + d)
  | 0, _ => Int.le_refl _
  | d + 1, h => by
    have e := cbase_succ cells hc (i + d) (by omega)
    rw [show i + (d + 1) = i + d + 1 by omega, e]
    have := cbase_mono cells hc i d (by omega); have := hc (i + d) (by omega); omega
theorem cbase_all (cells : List Cl) : cbase cells cells.length = cwords cells := by unfold cbase; rw [List.take_length]
theorem csize_at (cells : List Cl) (s : ByteArray) (h : cix cells s < cells.length) : csize cells s = (cells.getD (cix cells s) (⟨#[]⟩, 0)).2 := by unfold csize; simp [List.getD, h]
theorem word_in (cells : List Cl) (hc : CellsOk cells) (names : List ByteArray) (v : List Int) (h : Hd) (hi : cix cells h.cell < cells.length) {N : Nat} (hN : cwords cells = N) :
    0 ≤ cbase cells (cix cells h.cell) ∧ 0 ≤ bits .and .u64 (evalE names v h.i) (csize cells h.cell - 1) ∧ bits .and .u64 (evalE names v h.i) (csize cells h.cell - 1) ≤ 63 ∧ (wordE cells names v h : Int) = cbase cells (cix cells h.cell) + bits .and .u64 (evalE names v h.i) (csize cells h.cell - 1) ∧ wordE cells names v h < N := by
  have h1 := hc _ hi
  rw [← csize_at cells h.cell hi] at h1
  have h2 := and_low (evalE names v h.i) (m := csize cells h.cell - 1) (by omega) (by omega)
  have h3 := cbase_nonneg cells hc (cix cells h.cell) (by omega)
  have h4 := cbase_succ cells hc _ hi
  have h5 := cbase_mono cells hc (cix cells h.cell + 1) (cells.length - (cix cells h.cell + 1)) (by omega)
  rw [show cix cells h.cell + 1 + (cells.length - (cix cells h.cell + 1)) = cells.length by omega, cbase_all, hN, h4, ← csize_at cells h.cell hi] at h5
  have h6 : (wordE cells names v h : Int) = cbase cells (cix cells h.cell) + bits .and .u64 (evalE names v h.i) (csize cells h.cell - 1) := by unfold wordE; omega
  exact ⟨h3, h2.1, by omega, h6, by omega⟩
theorem place_run (cells : List Cl) (hc : CellsOk cells) (names : List ByteArray) (c : List St) (sv : List Int) (h : Hd) (k pc : Nat) (v now out : List Int) (hs : Seg c pc (codeP cells names h k)) (hk : names.length ≤ k) (hv : kP h k ≤ v.length) (hn : namesE names h.i) (ha : Agree names.length v sv)
    (hi : cix cells h.cell < cells.length) {N : Nat} (hN : cwords cells = N) (hN2 : N ≤ 1024) :
    ∃ v', Low k v v' ∧ v'.getD (varP h k) 0 = 4096 + 8 * (wordE cells names sv h : Int) ∧ Rc c ⟨pc, v, now, out⟩ ⟨pc + (codeP cells names h k).length, v', now, out⟩ := by
  unfold kP at hv
  unfold codeP at hs
  obtain ⟨v1, l1, e1, r1⟩ := expr_run names c sv h.i k pc v now out hs.left hk (by omega) hn ha
  have s2 := hs.right
  have ki := kE_le h.i k
  have vi := varE_lt names h.i k hn hk
  obtain ⟨w0, w1, w2, w3, w4⟩ := word_in cells hc names sv h hi hN
  generalize hb : bits .and .u64 (evalE names sv h.i) (csize cells h.cell - 1) = b at *
  generalize hL : (codeE names h.i k).length = L at *
  generalize hq : pc + L = q at *
  generalize hm : kE h.i k = m at *
  have z1 := l1.1
  have r2 := Rc.const s2 v1 now out (by omega)
  have r3 := Rc.op s2.tail (v1.set m (csize cells h.cell - 1)) now out (by simp; omega) (by simp; omega) (by simp; omega)
  rw [getD_set_ne (by omega), e1, getD_set_self (by omega)] at r3
  have e38 : opV 38 (evalE names sv h.i) (csize cells h.cell - 1) = b := hb
  rw [e38] at r3
  have r4 := Rc.const s2.tail.tail ((v1.set m (csize cells h.cell - 1)).set (m + 1) b) now out (by simp; omega)
  have r5 := Rc.op s2.tail.tail.tail (((v1.set m (csize cells h.cell - 1)).set (m + 1) b).set (m + 2) 8) now out (by simp; omega) (by simp; omega) (by simp; omega)
  rw [getD_set_ne (by omega), getD_set_self (by simp; omega), getD_set_self (by simp; omega)] at r5
  have e42 : opV 42 b 8 = 8 * b := by
    show (b * 8) % 18446744073709551616 = 8 * b
    omega
  rw [e42] at r5
  have r6 := Rc.const s2.tail.tail.tail.tail ((((v1.set m (csize cells h.cell - 1)).set (m + 1) b).set (m + 2) 8).set (m + 3) (8 * b)) now out (by simp; omega)
  have r7 := Rc.op s2.tail.tail.tail.tail.tail (((((v1.set m (csize cells h.cell - 1)).set (m + 1) b).set (m + 2) 8).set (m + 3) (8 * b)).set (m + 4) (4096 + 8 * cbase cells (cix cells h.cell))) now out (by simp; omega) (by simp; omega) (by simp; omega)
  rw [getD_set_ne (by omega), getD_set_self (by simp; omega), getD_set_self (by simp; omega)] at r7
  have e43 : opV 43 (8 * b) (4096 + 8 * cbase cells (cix cells h.cell)) = 4096 + 8 * (wordE cells names sv h : Int) := by
    show (8 * b + (4096 + 8 * cbase cells (cix cells h.cell))) % 18446744073709551616 = _
    omega
  rw [e43] at r7
  refine ⟨(((((v1.set m (csize cells h.cell - 1)).set (m + 1) b).set (m + 2) 8).set (m + 3) (8 * b)).set (m + 4) (4096 + 8 * cbase cells (cix cells h.cell))).set (m + 5) (4096 + 8 * (wordE cells names sv h : Int)), ?_, ?_, (((((r1.trans r2).trans r3).trans r4).trans r5).trans r6).trans ?_⟩
  · exact (((((l1.trans (Low.set _ (Nat.le_refl m)) ki).trans (Low.set _ (Nat.le_refl (m + 1))) (by omega)).trans (Low.set _ (Nat.le_refl (m + 2))) (by omega)).trans (Low.set _ (Nat.le_refl (m + 3))) (by omega)).trans (Low.set _ (Nat.le_refl (m + 4))) (by omega)).trans (Low.set _ (Nat.le_refl (m + 5))) (by omega)
  · unfold varP
    rw [hm]
    exact getD_set_self (by simp; omega)
  · have e : pc + (codeP cells names h k).length = q + 1 + 1 + 1 + 1 + 1 + 1 := by
      unfold codeP
      rw [List.length_append, hL, ← hq]
      simp
      omega
    rw [e]
    exact r7
end Go.Proofs.Ytapnnbbbgopobaa.Ml
namespace Go.Proofs.Ytapnnbbbgopobaa.Hd
section
variable {P : Program} {ops : Array Oper} {Q : Exit → Act → World → Prop} {md : Region.Mode} {S : World → Prop} {n : Nat}
def wpAnyT (P : Program) (md : Region.Mode) (ops : Array Oper) (Q : Exit → Act → World → Prop) (S : World → Prop) (n : Nat) : Nat → Array Bool → Act → World → Prop
  | 0, listed, a, w => Region.ready md ops listed = [] ∧ Q .normal a w
  | fuel + 1, listed, a, w =>
    (Region.ready md ops listed = [] → Q .normal a w) ∧
    ∀ i ∈ Region.ready md ops listed, wpOp P ops Q i (fun a' w' => (i < n → S w') ∧ wpAnyT P md ops Q S n fuel (listed.setIfInBounds i true) a' w') a w
theorem wpAny_of_T : ∀ (fuel : Nat) (listed : Array Bool) (a : Act) (w : World), wpAnyT P md ops Q S n fuel listed a w → wpAny P md ops Q fuel listed a w
  | 0, _, _, _, h => h
  | fuel + 1, _, _, _, h => ⟨h.1, fun i hi => wpOp_mono (fun a' w' h' => wpAny_of_T fuel _ a' w' h'.2) (h.2 i hi)⟩
theorem wpAnyT_first {i : Nat} {oi : Oper} {v : Value} (hi : ops[i]? = some oi) (hsel : ∀ (j : Nat) (o : Oper) cs b, ops[j]? = some o → o.op ≠ .select cs b)
    (hQ : ∀ c a w, Q (.panic c) (a.put oi.dst v) w → Q (.panic c) a w)
    (hs : Region.sinkB md ops n = true) (hc : Region.chainB md ops n = true) (hn : n < ops.size) (hin : i < n) :
    ∀ (fuel : Nat) (listed : Array Bool) (a : Act) (w : World), HeadInv md ops n listed →
      (∀ j oj, ops[j]? = some oj → j ≠ i → listed.getD j true = false → (∀ e ∈ oj.after, Region.binds md e = true → e.on ≠ i) → oi.apart ops oj = true) →
      i ∈ Region.ready md ops listed → YieldsIf P ops S oi v a → S w →
      wpAnyT P md ops Q S n fuel (listed.setIfInBounds i true) (a.put oi.dst v) w → wpAnyT P md ops Q S n (fuel + 1) listed a w := by
  intro fuel
  induction fuel with
  | zero =>
    intro listed a w inv _ hr hy hS H
    refine ⟨fun h => (by rw [h] at hr; cases hr), fun j hj => ?_⟩
    by_cases hji : j = i
    · subst hji; exact hy.wpOp hi hS ⟨fun _ => hS, H⟩
    · have := ready_mono hj hji
      rw [H.1] at this
      cases this
  | succ fuel ih =>
    intro listed a w inv hfree hr hy hS H
    have hun := (mem_ready.1 hr).1
    refine ⟨fun h => (by rw [h] at hr; cases hr), fun j hj => ?_⟩
    have hjn : j < n := by
      rcases Nat.lt_or_ge j n with h | h
      · exact h
      · exact absurd hj (tail_waits hs hc hn inv _ i rfl hin hun j h)
    by_cases hji : j = i
    · subst hji; exact hy.wpOp hi hS ⟨fun _ => hS, H⟩
    · have h1 := H.2 j (ready_mono hj hji)
      obtain ⟨hjun, oj, hoj, hall⟩ := mem_ready.1 hj
      have hnot : ∀ e ∈ oj.after, Region.binds md e = true → e.on ≠ i := fun e he hb heq => by
        have h1 := hall e he hb
        rw [heq, getD_both hun] at h1
        cases h1
      have h2 := wpOp_putIf hoj (hfree j oj hoj hji hjun hnot) (fun cs b => hsel i oi cs b hi) (fun cs b => hsel j oj cs b hoj) hQ hy h1
      have hfree' : ∀ k ok, ops[k]? = some ok → k ≠ i → (listed.setIfInBounds j true).getD k true = false →
          (∀ e ∈ ok.after, Region.binds md e = true → e.on ≠ i) → oi.apart ops ok = true := fun k ok hk hki hun hno => by
        refine hfree k ok hk hki ?_ hno
        by_cases hjk : j = k
        · subst hjk; exact hjun
        · rw [getD_set_ne true hjk] at hun; exact hun
      refine wpOp_mono (fun a' w' h3 => ⟨h3.2.1, ih (listed.setIfInBounds j true) a' w' (inv.set hj hjn) hfree' (ready_mono hr (Ne.symm hji)) h3.1 (h3.2.1 hjn) ?_⟩) h2
      rw [Array.setIfInBounds_comm _ _ hji]
      exact h3.2.2
def headB (md : Region.Mode) (ops : Array Oper) (n : Nat) (listed : Array Bool) : Bool :=
  decide (listed.size = ops.size) && ((List.range ops.size).all fun j => match ops[j]? with
    | some oj => !(listed.getD j false) || oj.after.all fun e => !(Region.binds md e) || listed.getD e.on false
    | none => true) && ((List.range ops.size).all fun t => decide (t < n) || (listed.getD t true == false))
theorem headB_spec {listed : Array Bool} (h : headB md ops n listed = true) : HeadInv md ops n listed := by
  simp only [headB, Bool.and_eq_true, decide_eq_true_eq] at h
  obtain ⟨⟨h1, h2⟩, h3⟩ := h
  refine ⟨h1, fun j oj hj hl e he hb => ?_, fun t ht ht' => ?_⟩
  · have := List.all_eq_true.1 h2 j (List.mem_range.2 (Array.getElem?_eq_some_iff.1 hj).1)
    simp only [hj, hl, Bool.not_true, Bool.false_or] at this
    have := Array.all_eq_true_iff_forall_mem.1 this e he
    simpa [hb] using this
  · have := List.all_eq_true.1 h3 t (List.mem_range.2 ht')
    simp only [Bool.or_eq_true, decide_eq_true_eq, beq_iff_eq] at this
    rcases this with h | h
    · omega
    · exact h
def shapeB (md : Region.Mode) (ops : Array Oper) (n : Nat) : Bool := Region.noSelect ops && Region.sinkB md ops n && Region.chainB md ops n && decide (n < ops.size)
theorem take {i : Nat} {oi : Oper} {v : Value} {fuel : Nat} {listed : Array Bool} {a : Act} {w : World} (hi' : ops.toList[i]? = some oi)
    (hs : shapeB md ops n = true) (hf : (Region.free md ops listed i && (Region.ready md ops listed).contains i && headB md ops n listed && decide (i < n)) = true)
    (hQ : ∀ c a w, Q (.panic c) (a.put oi.dst v) w → Q (.panic c) a w) (hg : oi.guard = none) (hy : ∀ w, S w → (execOp a.eval oi).run P w = .ok (.value v) w) (hS : S w)
    (h : wpAnyT P md ops Q S n fuel (listed.setIfInBounds i true) (a.put oi.dst v) w) : wpAnyT P md ops Q S n (fuel + 1) listed a w := by
  have hi : ops[i]? = some oi := by simpa using hi'
  simp only [shapeB, Bool.and_eq_true, decide_eq_true_eq] at hs hf
  obtain ⟨⟨⟨s1, s2⟩, s3⟩, s4⟩ := hs
  obtain ⟨⟨⟨f1, f2⟩, f3⟩, f4⟩ := hf
  exact wpAnyT_first hi (Region.noSelect_spec s1) hQ s2 s3 s4 f4 fuel listed a w (headB_spec f3) (Region.free_spec hi f1) (by simpa using f2) (.inl ⟨by simp [Region.wanted, hg], hy⟩) hS h
theorem one {i : Nat} {oi : Oper} {fuel : Nat} {listed : Array Bool} {a : Act} {w : World} (hi' : ops.toList[i]? = some oi) (hr : decide (Region.ready md ops listed = [i]) = true) (hg : oi.guard = none)
    (h : ∀ K : Act → World → Prop, (∀ a' w', (i < n → S w') → wpAnyT P md ops Q S n fuel (listed.setIfInBounds i true) a' w' → K a' w') → oi.wp P a w K Q) : wpAnyT P md ops Q S n (fuel + 1) listed a w := by
  have hi : ops[i]? = some oi := by simpa using hi'
  have hr := of_decide_eq_true hr
  refine ⟨fun h0 => (by rw [hr] at h0; cases h0), fun j hj => ?_⟩
  rw [hr] at hj
  have hj : j = i := by simpa using hj
  subst hj
  unfold wpOp
  simp only [hi, Region.wanted, hg, if_true]
  exact .inl (h _ fun a' w' h1 h2 => ⟨h1, h2⟩)
theorem done {listed : Array Bool} {a : Act} {w : World} (hr : decide (Region.ready md ops listed = []) = true) (h : Q .normal a w) :
    ∀ fuel, wpAnyT P md ops Q S n fuel listed a w
  | 0 => ⟨of_decide_eq_true hr, h⟩
  | _ + 1 => ⟨fun _ => h, by rw [of_decide_eq_true hr]; simp⟩
theorem start {id : Nat} {a : Act} {w : World} (n : Nat) (S : World → Prop) (hm : P.follows .mixedOrders = true)
    (h : wpAnyT P .any ops Q S n ops.size (Array.replicate ops.size false) a w.drew) : (Code.region id ops true).wp P Q a w :=
  wp_region_any hm (wpAny_of_T _ _ _ _ h)
end
end Go.Proofs.Ytapnnbbbgopobaa.Hd
namespace Go.Proofs.Ytapnnbbbgopobaa.Hd
section
variable {P : Program} {ops : Array Oper} {Q : Exit → Act → World → Prop} {md : Region.Mode} {S : World → Prop} {n : Nat}
theorem two {i j : Nat} {oi oj : Oper} {fuel : Nat} {listed : Array Bool} {a : Act} {w : World} (hi' : ops.toList[i]? = some oi) (hj' : ops.toList[j]? = some oj) (hr : decide (Region.ready md ops listed = [i, j]) = true) (hgi : oi.guard = none) (hgj : oj.guard = none)
    (h1 : ∀ K : Act → World → Prop, (∀ a' w', (i < n → S w') → wpAnyT P md ops Q S n fuel (listed.setIfInBounds i true) a' w' → K a' w') → oi.wp P a w K Q)
    (h2 : ∀ K : Act → World → Prop, (∀ a' w', (j < n → S w') → wpAnyT P md ops Q S n fuel (listed.setIfInBounds j true) a' w' → K a' w') → oj.wp P a w K Q) : wpAnyT P md ops Q S n (fuel + 1) listed a w := by
  have hi : ops[i]? = some oi := by simpa using hi'
  have hj : ops[j]? = some oj := by simpa using hj'
  have hr := of_decide_eq_true hr
  refine ⟨fun h0 => (by rw [hr] at h0; cases h0), fun k hk => ?_⟩
  rw [hr] at hk
  have hk : k = i ∨ k = j := by simpa using hk
  rcases hk with rfl | rfl
  · unfold wpOp
    simp only [hi, Region.wanted, hgi, if_true]
    exact .inl (h1 _ fun a' w' h1 h2 => ⟨h1, h2⟩)
  · unfold wpOp
    simp only [hj, Region.wanted, hgj, if_true]
    exact .inl (h2 _ fun a' w' h1 h2 => ⟨h1, h2⟩)
end
end Go.Proofs.Ytapnnbbbgopobaa.Hd
namespace Go.Proofs.Ytapnnbbbgopobaa.Lg
open Go.RowKit Cm Mm Ow Me Ml
theorem below_new (w : World) (o : Obj) : Below w.heap.size w (w.alloc o) := (Below.refl _ _).alloc (Nat.le_refl _) _
theorem only_cell {G : List Nat} {w w' : World} (h : Only G w w') {b : Nat} (hb : b < w.heap.size) (hg : b ∉ G) (o : Nat) : w'.cell? ⟨b, o, none⟩ = w.cell? ⟨b, o, none⟩ := h.cell (p := ⟨b, o, none⟩) hb hg
/-! expressions; all blocks from B on -/
def exV (B : Nat) (w : World) : Ex → List Value → Prop
  | .num n, vs => vs = [.int .i64 0, .int .u64 n, .int .u8 0, .string ⟨#[]⟩, .slice none 0 0] ∧ 0 ≤ n ∧ n < 18446744073709551616
  | .name s, vs => vs = [.int .i64 1, .int .u64 0, .int .u8 0, .string s, .slice none 0 0] ∧ s.size ≤ maxLen
  | .op o a b, vs => ∃ blk va vb, vs = [.int .i64 2, .int .u64 0, .int .u8 o, .string ⟨#[]⟩, .slice (some ⟨blk, 0, none⟩) 2 2] ∧ B ≤ blk ∧ blk < w.heap.size ∧ (∀ j, j < 5 → w.cell? ⟨blk, j, none⟩ = va[j]?) ∧ (∀ j, j < 5 → w.cell? ⟨blk, 5 + j, none⟩ = vb[j]?) ∧ exV B w a va ∧ exV B w b vb
theorem exV_len {B : Nat} {w : World} : ∀ {x : Ex} {vs : List Value}, exV B w x vs → vs.length = 5
  | .num n, vs, h => by unfold exV at h; rw [h.1]; rfl
  | .name s, vs, h => by unfold exV at h; rw [h.1]; rfl
  | .op o a b, vs, h => by unfold exV at h; obtain ⟨blk, va, vb, h, _⟩ := h; rw [h]; rfl
theorem exV_ones {B : Nat} {w : World} : ∀ {x : Ex} {vs : List Value}, exV B w x vs → ∀ u ∈ vs, u.oneCell' = true
  | .num n, vs, h, u, hu => by unfold exV at h; rw [h.1] at hu; simp at hu; rcases hu with rfl | rfl | rfl | rfl | rfl <;> rfl
  | .name s, vs, h, u, hu => by unfold exV at h; rw [h.1] at hu; simp at hu; rcases hu with rfl | rfl | rfl | rfl | rfl <;> rfl
  | .op o a b, vs, h, u, hu => by unfold exV at h; obtain ⟨blk, va, vb, h, _⟩ := h; rw [h] at hu; simp at hu; rcases hu with rfl | rfl | rfl | rfl | rfl <;> rfl
theorem exV_only {G : List Nat} {B : Nat} {w w' : World} (ho : Only G w w') (hG : ∀ g ∈ G, g < B) : ∀ {x : Ex} {vs : List Value}, exV B w x vs → exV B w' x vs
  | .num n, vs, h => h
  | .name s, vs, h => h
  | .op o a b, vs, h => by
    unfold exV at h ⊢
    obtain ⟨blk, va, vb, h0, h1, h2, h3, h4, h5, h6⟩ := h
    have hn : blk ∉ G := fun hx => by have := hG blk hx; omega
    exact ⟨blk, va, vb, h0, h1, Nat.lt_of_lt_of_le h2 ho.size, fun j hj => (only_cell ho h2 hn j).trans (h3 j hj), fun j hj => (only_cell ho h2 hn (5 + j)).trans (h4 j hj), exV_only ho hG h5, exV_only ho hG h6⟩
theorem exV_keep {B : Nat} {w w' : World} (hb : Below w.heap.size w w') {x : Ex} {vs : List Value} (h : exV B w x vs) : exV B w' x vs := exV_only (G := []) (Only.of_below hb) (fun g hg => by cases hg) h
theorem exV_low {B B' : Nat} {w : World} (hB : B' ≤ B) : ∀ {x : Ex} {vs : List Value}, exV B w x vs → exV B' w x vs
  | .num n, vs, h => h
  | .name s, vs, h => h
  | .op o a b, vs, h => by
    unfold exV at h ⊢
    obtain ⟨blk, va, vb, h0, h1, h2, h3, h4, h5, h6⟩ := h
    exact ⟨blk, va, vb, h0, Nat.le_trans hB h1, h2, h3, h4, exV_low hB h5, exV_low hB h6⟩
/-! bodies -/
def blen : Bd → Nat
  | .nil => 0
  | .cons _ _ _ r => blen r + 1
def stVs (h : Hd) (vi vx vy : List Value) (BA : Option Addr) (bn bc : Nat) (EA : Option Addr) (en ec : Nat) : List Value := [.int .i64 h.kind, .int .i64 h.at_, .string h.name, .string h.cell] ++ (vi ++ (vx ++ (vy ++ [.slice BA bn bc, .slice EA en ec])))
def bdAt (B : Nat) (w : World) : Bd → Nat → Nat → Prop
  | .nil, _, _ => True
  | .cons h body els rest, blk, off => (∃ vi vx vy BA bn bc EA en ec, (∀ j, j < 21 → w.cell? ⟨blk, off + j, none⟩ = (stVs h vi vx vy BA bn bc EA en ec)[j]?) ∧ exV B w h.i vi ∧ exV B w h.x vx ∧ exV B w h.y vy ∧ h.name.size ≤ maxLen ∧ h.cell.size ≤ maxLen ∧
      (blen body = bn ∧ bn ≤ bc ∧ bc ≤ maxLen ∧ (0 < bn → ∃ b' o', BA = some ⟨b', o', none⟩ ∧ B ≤ b' ∧ b' < w.heap.size ∧ bdAt B w body b' o')) ∧ (blen els = en ∧ en ≤ ec ∧ ec ≤ maxLen ∧ (0 < en → ∃ b' o', EA = some ⟨b', o', none⟩ ∧ B ≤ b' ∧ b' < w.heap.size ∧ bdAt B w els b' o'))) ∧ bdAt B w rest blk (off + 21)
def IsBd (B : Nat) (w : World) (b : Bd) (A : Option Addr) (n cap : Nat) : Prop := blen b = n ∧ n ≤ cap ∧ cap ≤ maxLen ∧ (0 < n → ∃ b' o', A = some ⟨b', o', none⟩ ∧ B ≤ b' ∧ b' < w.heap.size ∧ bdAt B w b b' o')
def StV (B : Nat) (w : World) (h : Hd) (body els : Bd) (vs : List Value) : Prop := ∃ vi vx vy BA bn bc EA en ec, vs = stVs h vi vx vy BA bn bc EA en ec ∧ exV B w h.i vi ∧ exV B w h.x vx ∧ exV B w h.y vy ∧ h.name.size ≤ maxLen ∧ h.cell.size ≤ maxLen ∧ IsBd B w body BA bn bc ∧ IsBd B w els EA en ec
theorem bdAt_cons {B : Nat} {w : World} {h : Hd} {body els rest : Bd} {blk off : Nat} : bdAt B w (.cons h body els rest) blk off ↔ (∃ vs, (∀ j, j < 21 → w.cell? ⟨blk, off + j, none⟩ = vs[j]?) ∧ StV B w h body els vs) ∧ bdAt B w rest blk (off + 21) := by
  constructor
  · intro hh
    unfold bdAt at hh
    obtain ⟨⟨vi, vx, vy, BA, bn, bc, EA, en, ec, h1, h2, h3, h4, h5, h6, h7, h8⟩, hr⟩ := hh
    exact ⟨⟨_, h1, vi, vx, vy, BA, bn, bc, EA, en, ec, rfl, h2, h3, h4, h5, h6, h7, h8⟩, hr⟩
  · rintro ⟨⟨vs, h1, vi, vx, vy, BA, bn, bc, EA, en, ec, rfl, h2, h3, h4, h5, h6, h7, h8⟩, hr⟩
    unfold bdAt
    exact ⟨⟨vi, vx, vy, BA, bn, bc, EA, en, ec, h1, h2, h3, h4, h5, h6, h7, h8⟩, hr⟩
theorem bdAt_only {G : List Nat} {B : Nat} {w w' : World} (ho : Only G w w') (hG : ∀ g ∈ G, g < B) : ∀ (b : Bd) (blk off : Nat), B ≤ blk → blk < w.heap.size → bdAt B w b blk off → bdAt B w' b blk off
  | .nil, _, _, _, _, _ => trivial
  | .cons h body els rest, blk, off, hB, hlt, hh => by
    have hn : ∀ {k}, B ≤ k → k ∉ G := fun hk hx => by have := hG _ hx; omega
    unfold bdAt at hh ⊢
    obtain ⟨⟨vi, vx, vy, BA, bn, bc, EA, en, ec, h1, h2, h3, h4, h5, h6, h7, h8⟩, hr⟩ := hh
    refine ⟨⟨vi, vx, vy, BA, bn, bc, EA, en, ec, fun j hj => (only_cell ho hlt (hn hB) _).trans (h1 j hj), exV_only ho hG h2, exV_only ho hG h3, exV_only ho hG h4, h5, h6, ?_, ?_⟩, bdAt_only ho hG rest blk (off + 21) hB hlt hr⟩
    · refine ⟨h7.1, h7.2.1, h7.2.2.1, fun h0 => ?_⟩
      obtain ⟨b', o', e, e2, e3, e4⟩ := h7.2.2.2 h0
      exact ⟨b', o', e, e2, Nat.lt_of_lt_of_le e3 ho.size, bdAt_only ho hG body b' o' e2 e3 e4⟩
    · refine ⟨h8.1, h8.2.1, h8.2.2.1, fun h0 => ?_⟩
      obtain ⟨b', o', e, e2, e3, e4⟩ := h8.2.2.2 h0
      exact ⟨b', o', e, e2, Nat.lt_of_lt_of_le e3 ho.size, bdAt_only ho hG els b' o' e2 e3 e4⟩
theorem bdAt_low {B B' : Nat} {w : World} (hB : B' ≤ B) : ∀ (b : Bd) (blk off : Nat), bdAt B w b blk off → bdAt B' w b blk off
  | .nil, _, _, _ => trivial
  | .cons h body els rest, blk, off, hh => by
    unfold bdAt at hh ⊢
    obtain ⟨⟨vi, vx, vy, BA, bn, bc, EA, en, ec, h1, h2, h3, h4, h5, h6, h7, h8⟩, hr⟩ := hh
    refine ⟨⟨vi, vx, vy, BA, bn, bc, EA, en, ec, h1, exV_low hB h2, exV_low hB h3, exV_low hB h4, h5, h6, ?_, ?_⟩, bdAt_low hB rest blk (off + 21) hr⟩
    · refine ⟨h7.1, h7.2.1, h7.2.2.1, fun h0 => ?_⟩
      obtain ⟨b', o', e, e2, e3, e4⟩ := h7.2.2.2 h0
      exact ⟨b', o', e, Nat.le_trans hB e2, e3, bdAt_low hB body b' o' e4⟩
    · refine ⟨h8.1, h8.2.1, h8.2.2.1, fun h0 => ?_⟩
      obtain ⟨b', o', e, e2, e3, e4⟩ := h8.2.2.2 h0
      exact ⟨b', o', e, Nat.le_trans hB e2, e3, bdAt_low hB els b' o' e4⟩
theorem IsBd.only {G : List Nat} {B : Nat} {w w' : World} {b : Bd} {A : Option Addr} {n cap : Nat} (h : IsBd B w b A n cap) (ho : Only G w w') (hG : ∀ g ∈ G, g < B) : IsBd B w' b A n cap :=
  ⟨h.1, h.2.1, h.2.2.1, fun h0 => by
    obtain ⟨b', o', e, e2, e3, e4⟩ := h.2.2.2 h0
    exact ⟨b', o', e, e2, Nat.lt_of_lt_of_le e3 ho.size, bdAt_only ho hG b b' o' e2 e3 e4⟩⟩
theorem IsBd.keep {B : Nat} {w w' : World} {b : Bd} {A : Option Addr} {n cap : Nat} (h : IsBd B w b A n cap) (hb : Below w.heap.size w w') : IsBd B w' b A n cap := h.only (G := []) (Only.of_below hb) (fun g hg => by cases hg)
theorem IsBd.low {B B' : Nat} {w : World} {b : Bd} {A : Option Addr} {n cap : Nat} (h : IsBd B w b A n cap) (hB : B' ≤ B) : IsBd B' w b A n cap :=
  ⟨h.1, h.2.1, h.2.2.1, fun h0 => by
    obtain ⟨b', o', e, e2, e3, e4⟩ := h.2.2.2 h0
    exact ⟨b', o', e, Nat.le_trans hB e2, e3, bdAt_low hB b b' o' e4⟩⟩
theorem IsBd.none (B : Nat) (w : World) : IsBd B w .nil none 0 0 := ⟨rfl, Nat.le_refl _, by unfold maxLen; omega, fun h => absurd h (by omega)⟩
theorem StV.only {G : List Nat} {B : Nat} {w w' : World} {h : Hd} {body els : Bd} {vs : List Value} (hs : StV B w h body els vs) (ho : Only G w w') (hG : ∀ g ∈ G, g < B) : StV B w' h body els vs := by
  obtain ⟨vi, vx, vy, BA, bn, bc, EA, en, ec, h1, h2, h3, h4, h5, h6, h7, h8⟩ := hs
  exact ⟨vi, vx, vy, BA, bn, bc, EA, en, ec, h1, exV_only ho hG h2, exV_only ho hG h3, exV_only ho hG h4, h5, h6, h7.only ho hG, h8.only ho hG⟩
theorem StV.keep {B : Nat} {w w' : World} {h : Hd} {body els : Bd} {vs : List Value} (hs : StV B w h body els vs) (hb : Below w.heap.size w w') : StV B w' h body els vs := hs.only (G := []) (Only.of_below hb) (fun g hg => by cases hg)
theorem StV.low {B B' : Nat} {w : World} {h : Hd} {body els : Bd} {vs : List Value} (hs : StV B w h body els vs) (hB : B' ≤ B) : StV B' w h body els vs := by
  obtain ⟨vi, vx, vy, BA, bn, bc, EA, en, ec, h1, h2, h3, h4, h5, h6, h7, h8⟩ := hs
  exact ⟨vi, vx, vy, BA, bn, bc, EA, en, ec, h1, exV_low hB h2, exV_low hB h3, exV_low hB h4, h5, h6, h7.low hB, h8.low hB⟩
theorem StV.len {B : Nat} {w : World} {h : Hd} {body els : Bd} {vs : List Value} (hs : StV B w h body els vs) : vs.length = 21 := by
  obtain ⟨vi, vx, vy, BA, bn, bc, EA, en, ec, rfl, h2, h3, h4, -⟩ := hs
  simp [stVs, exV_len h2, exV_len h3, exV_len h4]
def mkBd : List (Hd × Bd × Bd) → Bd
  | [] => .nil
  | t :: r => .cons t.1 t.2.1 t.2.2 (mkBd r)
theorem blen_mk : ∀ l, blen (mkBd l) = l.length
  | [] => rfl
  | t :: r => by simp [mkBd, blen, blen_mk r]
def lv : Ex → Nat
  | .num _ => 1
  | .name _ => 1
  | .op _ a b => lv a + lv b
def bsz : Bd → Nat
  | .nil => 0
  | .cons h body els rest => (1 + (lv h.i + lv h.x + lv h.y + bsz body + bsz els)) + bsz rest
def wtS (h : Hd) (body els : Bd) : Nat := 1 + (lv h.i + lv h.x + lv h.y + bsz body + bsz els)
theorem lv_pos : ∀ x : Ex, 1 ≤ lv x
  | .num _ => Nat.le_refl 1
  | .name _ => Nat.le_refl 1
  | .op _ a b => by have := lv_pos a; unfold lv; omega
theorem bsz_snoc (t : Hd × Bd × Bd) : ∀ ts : List (Hd × Bd × Bd), bsz (mkBd (ts ++ [t])) = bsz (mkBd ts) + wtS t.1 t.2.1 t.2.2
  | [] => by simp [mkBd, bsz, wtS]
  | u :: r => by simp only [List.cons_append, mkBd, bsz]; rw [bsz_snoc t r]; omega
theorem blen_bsz : ∀ b : Bd, blen b ≤ bsz b
  | .nil => Nat.le_refl 0
  | .cons h body els rest => by have := blen_bsz rest; unfold blen bsz; omega
def zeroT : Hd × Bd × Bd := (⟨0, 0, ⟨#[]⟩, ⟨#[]⟩, .num 0, .num 0, .num 0⟩, .nil, .nil)
def RowsOk (B : Nat) (w : World) (L : List (List Value)) (ts : List (Hd × Bd × Bd)) : Prop := ts.length = L.length ∧ ∀ i, i < L.length → StV B w (ts.getD i zeroT).1 (ts.getD i zeroT).2.1 (ts.getD i zeroT).2.2 (L.getD i [])
theorem RowsOk.nil (B : Nat) (w : World) : RowsOk B w [] [] := ⟨rfl, fun i hi => absurd hi (by simp)⟩
theorem RowsOk.only {G : List Nat} {B : Nat} {w w' : World} {L : List (List Value)} {ts : List (Hd × Bd × Bd)} (h : RowsOk B w L ts) (ho : Only G w w') (hG : ∀ g ∈ G, g < B) : RowsOk B w' L ts := ⟨h.1, fun i hi => (h.2 i hi).only ho hG⟩
theorem RowsOk.keep {B : Nat} {w w' : World} {L : List (List Value)} {ts : List (Hd × Bd × Bd)} (h : RowsOk B w L ts) (hb : Below w.heap.size w w') : RowsOk B w' L ts := ⟨h.1, fun i hi => (h.2 i hi).keep hb⟩
theorem RowsOk.snoc {B : Nat} {w : World} {L : List (List Value)} {ts : List (Hd × Bd × Bd)} (h : RowsOk B w L ts) {t : Hd × Bd × Bd} {r : List Value} (hs : StV B w t.1 t.2.1 t.2.2 r) : RowsOk B w (L ++ [r]) (ts ++ [t]) := by
  refine ⟨by simp [h.1], fun i hi => ?_⟩
  by_cases h1 : i < L.length
  · have h2 : i < ts.length := by rw [h.1]; exact h1
    have := h.2 i h1
    simpa [List.getD, List.getElem?_append_left h1, List.getElem?_append_left h2] using this
  · have h3 : i = L.length := by simp at hi; omega
    subst h3
    have h4 : ts.length ≤ L.length := by rw [h.1]; exact Nat.le_refl _
    simp only [List.getD, List.getElem?_append_right (Nat.le_refl L.length), List.getElem?_append_right h4]
    simpa [h.1] using hs
theorem rows_bd {B : Nat} {w : World} {g : Nat} : ∀ (ts : List (Hd × Bd × Bd)) (L : List (List Value)) (k : Nat), RowsOk B w L ts → (∀ i j, i < L.length → j < 21 → w.cell? ⟨g, (k + i) * 21 + j, none⟩ = (L.getD i [])[j]?) → bdAt B w (mkBd ts) g (k * 21)
  | [], L, k, h, hc => trivial
  | t :: r, L, k, h, hc => by
    match L, h, hc with
    | [], h, hc => exact absurd h.1 (by simp)
    | x :: L, h, hc =>
    show bdAt B w (.cons t.1 t.2.1 t.2.2 (mkBd r)) g (k * 21)
    rw [bdAt_cons]
    have h0 := h.2 0 (by simp)
    simp only [List.getD_cons_zero] at h0
    refine ⟨⟨x, fun j hj => ?_, h0⟩, ?_⟩
    · have := hc 0 j (by simp) hj
      simpa using this
    · have hr : RowsOk B w L r := ⟨by simpa using h.1, fun i hi => by simpa using h.2 (i + 1) (by simpa using hi)⟩
      have := rows_bd r L (k + 1) hr (fun i j hi hj => by
        have := hc (i + 1) j (by simpa using hi) hj
        simp only [List.getD_cons_succ] at this
        rw [show k + 1 + i = k + (i + 1) by omega]
        exact this)
      rw [show k * 21 + 21 = (k + 1) * 21 by omega]
      exact this
theorem own_bd {w : World} {B : Nat} {A : Option Addr} {n c : Nat} {L : List (List Value)} {ts : List (Hd × Bd × Bd)} (h : Own w B 122 21 A n c L) (hr : RowsOk B w L ts) : IsBd B w (mkBd ts) A n c := by
  have hl := h.len
  have hs := h.sl
  refine ⟨by rw [blen_mk, hr.1, hl], hs.le, hs.cap_le, fun h0 => ?_⟩
  obtain ⟨b, o, rfl, hb, hc⟩ := hs.at_ h0
  have hg := h.lt b rfl
  have ho : o = 0 := by
    rcases h.row.2 with ⟨h1, _⟩ | ⟨g, cp, cur, h1, _⟩
    · cases h1
    · injection h1 with h1; injection h1 with h1; injection h1
  subst ho
  refine ⟨b, 0, rfl, hg.1, hb, ?_⟩
  have := rows_bd ts L 0 hr (fun i j hi hj => by
    have := hc i (by omega) j hj
    rw [Nat.zero_add] at this ⊢
    exact this) (g := b)
  simpa using this
end Go.Proofs.Ytapnnbbbgopobaa.Lg
namespace Go.Proofs.Ytapnnbbbgopobaa.Fr
open Go.RowKit Cm Mm Ow Me Ml Lg
theorem elStr : El Try.prog 85 9 1 16 := by
  obtain ⟨i, h1, h2, h3, h4⟩ := info_parts (P := Try.prog) (e := 9) (z := .string ⟨#[]⟩) (size := 1) (bytes := 16) (by kernel_rfl)
  exact ⟨Try.underlying85, ⟨i, _, h1, h2, h3, h4, rfl⟩, by decide⟩
/-! names, in plain Lean -/
def sameS (a b : ByteArray) : Bool := a.toList == b.toList
def addN (l : List ByteArray) (s : ByteArray) : List ByteArray := if l.any (fun m => sameS m s) then l else l ++ [s]
def exN (l : List ByteArray) : Ex → List ByteArray
  | .num _ => l
  | .name s => addN l s
  | .op _ a b => exN (exN l a) b
theorem addN_len (l : List ByteArray) (s : ByteArray) : l.length ≤ (addN l s).length ∧ (addN l s).length ≤ l.length + 1 := by unfold addN; split <;> simp
theorem exN_len : ∀ (x : Ex) (l : List ByteArray), l.length ≤ (exN l x).length ∧ (exN l x).length ≤ l.length + lv x
  | .num _, l => ⟨Nat.le_refl _, Nat.le_add_right _ _⟩
  | .name s, l => addN_len l s
  | .op _ a b, l => by have := exN_len a l; have := exN_len b (exN l a); simp only [exN, lv]; omega
/-! rows of names of the call's own -/
def strL (s : ByteArray) : List Value := [.string s]
def Nm (w : World) (B : Nat) (A : Option Addr) (n c : Nat) (l : List ByteArray) : Prop := Own w B 9 1 A n c (l.map strL)
structure Grw (A A' : Option Addr) (w w' : World) : Prop where
  only : Only (A.map (·.block)).toList w w'
  blk : A'.map (·.block) = A.map (·.block) ∨ ∀ b, A'.map (·.block) = some b → w.heap.size ≤ b
theorem mem_blk {A : Option Addr} {g : Nat} : g ∈ (A.map (·.block)).toList ↔ A.map (·.block) = some g := by simp
theorem Grw.refl (A : Option Addr) (w : World) : Grw A A w w := ⟨Only.refl _ _, .inl rfl⟩
theorem Grw.trans {A A' A'' : Option Addr} {w w' w'' : World} (h : Grw A A' w w') (k : Grw A' A'' w' w'') : Grw A A'' w w'' := by
  refine ⟨h.only.trans k.only (fun x hx => ?_), ?_⟩
  · rcases h.blk with e | e
    · exact .inl (e ▸ hx)
    · exact .inr (e x (mem_blk.1 hx))
  · rcases k.blk with e | e
    · rw [e]; exact h.blk
    · exact .inr fun b hb => Nat.le_trans h.only.size (e b hb)
theorem Grw.of_below {A : Option Addr} {w w' : World} (h : Below w.heap.size w w') : Grw A A w w' := ⟨Only.of_below h, .inl rfl⟩
theorem Grw.below {A A' : Option Addr} {w w' : World} {B : Nat} (h : Grw A A' w w') (hA : ∀ g, A.map (·.block) = some g → B ≤ g) (hB : B ≤ w.heap.size) : Below B w w' := h.only.below (fun x hx => hA x (mem_blk.1 hx)) hB
theorem Nm.keep {w w' : World} {B : Nat} {A : Option Addr} {n c : Nat} {l : List ByteArray} (h : Nm w B A n c l) (hb : Below w.heap.size w w') : Nm w' B A n c l := Own.keep h hb
theorem Nm.lt {w : World} {B : Nat} {A : Option Addr} {n c : Nat} {l : List ByteArray} (h : Nm w B A n c l) : ∀ g, A.map (·.block) = some g → B ≤ g ∧ g < w.heap.size := Own.lt h
theorem Nm.len {w : World} {B : Nat} {A : Option Addr} {n c : Nat} {l : List ByteArray} (h : Nm w B A n c l) : l.length = n := by simpa using Own.len h
theorem Nm.nil (w : World) (B : Nat) : Nm w B none 0 0 [] := Own.nil _ _ _ _
theorem Nm.only {w w' : World} {B : Nat} {A : Option Addr} {n c : Nat} {l : List ByteArray} {F : List Nat} (h : Nm w B A n c l) (ho : Only F w w') (hn : ∀ g, A.map (·.block) = some g → g ∉ F) : Nm w' B A n c l := ⟨Own.len h, Own.each h, ho.row (Own.row h) hn⟩
theorem Nm.cell {w : World} {B : Nat} {A : Option Addr} {n c : Nat} {l : List ByteArray} (h : Nm w B A n c l) {i : Nat} (hi : i < n) : ∃ b o, A = some ⟨b, o, none⟩ ∧ b < w.heap.size ∧ w.cell? ⟨b, o + i, none⟩ = some (.string (l.getD i ⟨#[]⟩)) := by
  obtain ⟨b, o, e, hb, hc⟩ := (Own.sl h).at_ (by omega)
  refine ⟨b, o, e, hb, ?_⟩
  have := hc i hi 0 (by omega)
  have hl := h.len
  simpa [List.getD, strL, show i < l.length by omega] using this
def NmA (w : World) (B : Nat) (A : Option Addr) (l' : List ByteArray) (e : Ending) (w' : World) : Prop := ∃ A' n' c', e = .returned (.slice A' n' c') ∧ Nm w' B A' n' c' l' ∧ Grw A A' w w'
theorem add_no {l : List ByteArray} {s : ByteArray} (h : ∀ i, i < l.length → sameS (l.getD i ⟨#[]⟩) s = false) : addN l s = l ++ [s] := by
  unfold addN
  rw [if_neg]
  simp only [List.any_eq_true, not_exists, not_and]
  intro m hm
  obtain ⟨i, hi, rfl⟩ := List.getElem_of_mem hm
  have := h i hi
  simpa [List.getD, hi] using this
theorem add_yes {l : List ByteArray} {s : ByteArray} {k : Nat} (hk : k < l.length) (h : sameS (l.getD k ⟨#[]⟩) s = true) : addN l s = l := by
  unfold addN
  rw [if_pos]
  refine List.any_eq_true.2 ⟨l[k], List.getElem_mem _, ?_⟩
  simpa [List.getD, hk] using h
set_option maxHeartbeats 1600000 in
theorem add_any {w : World} {B : Nat} {A : Option Addr} {n c : Nat} {l : List ByteArray} (s : ByteArray) (h : Nm w B A n c l) (hn : n ≤ 4000000) (hB : B ≤ w.heap.size) :
    Calls Try.prog 72 #[.slice A n c, .string s] w (NmA w B A (addN l s)) := by
  have hl := Lib.hid h.len
  have H := Lib.hid h
  clear h
  go_enter Try.func72, Try.ntmps72
  go_wp2_with fail
  go_loopw [5] (fun i wr => ∃ (k : Nat), k ≤ n ∧ i = .int .i64 k ∧ Hid (∀ i, i < k → sameS (l.getD i ⟨#[]⟩) s = false) ∧ w = wr) (fun i _ => n - (intOf i).toNat)
  case atStart => exact ⟨0, by omega, rfl, fun i hi => absurd hi (by omega), rfl⟩
  case round =>
    obtain ⟨k, hk, rfl, hno, rfl⟩ := hrel
    by_cases hkn : k < n
    · obtain ⟨b, o, rfl, hb, g0⟩ := H.out.cell hkn
      generalize hc : l.getD k ⟨#[]⟩ = m at *
      have HC := Lib.hid hc; clear hc
      have d1 : decide ((k : Int) < (n : Int)) = true := decide_eq_true (by omega)
      have hki : (k : Int) < (n : Int) := by omega
      cases hs : (m.toList == s.toList)
      · go_wp2_with fail
        go_roundw
        case rel => exact ⟨k + 1, by omega, by go_num, fun i hi => (by
          by_cases e : i = k
          · subst e; rw [HC.out]; exact hs
          · exact hno.out i (by omega)), trivial⟩
        case measure => simp [intOf]; omega
      · go_wp2_with fail
        go_ret
        exact ⟨_, n, c, rfl, by rw [add_yes (k := k) (by have := hl.out; omega) (by rw [HC.out]; exact hs)]; exact H.out, Grw.refl _ _⟩
    · obtain rfl : k = n := by omega
      have d1 : decide ((k : Int) < (k : Int)) = false := decide_eq_false (by omega)
      have HE : Hid (addN l s = l ++ [s]) := Lib.hid (add_no (fun i hi => hno.out i (by have := hl.out; omega)))
      have HX : Hid (List.map strL (l ++ [s]) = l.map strL ++ [strL s]) := Lib.hid (by simp)
      clear hno
      go_wp2_with (at_builtin; refine Ow2.wpList_appN w rfl _ _ rfl elStr B A k c 1 _ (l.map strL) [[.string s]] rfl rfl H.out rfl rfl (fun y hy => by simp at hy; subst hy; rfl) (fun y hy u hu => by simp at hy; subst hy; simp at hu; subst hu; rfl) (by unfold maxLen; omega) (by omega) hB _ rfl ?_; intro A4 c4 w4 hown4 hbel4 hkp4 hat4; have HO4 := Lib.hid hown4; have HB4 := Lib.hid hbel4; have HK4 := Lib.hid hkp4; have HA4 := Lib.hid hat4; clear hown4 hbel4 hkp4 hat4)
      go_ret
      refine ⟨A4, k + 1, c4, rfl, ?_, ⟨⟨HB4.out.os, HB4.out.tape, HB4.out.output, HB4.out.size, fun b hb hn => HK4.out b hb (fun hx => hn (mem_blk.2 hx))⟩, HA4.out⟩⟩
      unfold Nm
      rw [HE.out, HX.out]
      exact HO4.out
theorem named_any (k : Int) (w : World) : Calls Try.prog 84 #[.int .i64 k] w fun e w' => e = .returned (.bool (k == 0 || k == 1 || k == 3)) ∧ w = w' := by
  have HE : Hid ((k == 0 || k == 1 || k == 3) = (k == 0 || k == 1 || k == 3)) := Lib.hid rfl
  by_cases h0 : k = 0
  · subst h0
    go_enter Try.func84, Try.ntmps84
    go_wp2_with fail
    go_ret
    exact ⟨rfl, rfl⟩
  have t0 : (k == 0) = false := by simpa using h0
  by_cases h1 : k = 1
  · subst h1
    go_enter Try.func84, Try.ntmps84
    go_wp2_with fail
    go_ret
    exact ⟨rfl, rfl⟩
  have t1 : (k == 1) = false := by simpa using h1
  go_enter Try.func84, Try.ntmps84
  go_wp2_with fail
  go_ret
  exact ⟨by simp [t0, t1], rfl⟩
theorem celled_any (k : Int) (w : World) : Calls Try.prog 70 #[.int .i64 k] w fun e w' => e = .returned (.bool (k == 1 || k == 2 || k == 3)) ∧ w = w' := by
  by_cases h0 : k = 1
  · subst h0
    go_enter Try.func70, Try.ntmps70
    go_wp2_with fail
    go_ret
    exact ⟨rfl, rfl⟩
  have t0 : (k == 1) = false := by simpa using h0
  by_cases h1 : k = 2
  · subst h1
    go_enter Try.func70, Try.ntmps70
    go_wp2_with fail
    go_ret
    exact ⟨rfl, rfl⟩
  have t1 : (k == 2) = false := by simpa using h1
  go_enter Try.func70, Try.ntmps70
  go_wp2_with fail
  go_ret
  exact ⟨by simp [t0, t1], rfl⟩
theorem len5 {vs : List Value} (h : vs.length = 5) : ∃ a b c d e, vs = [a, b, c, d, e] := by
  match vs, h with
  | [a, b, c, d, e], _ => exact ⟨a, b, c, d, e, rfl⟩
set_option maxHeartbeats 1600000 in
theorem ex_num {w : World} {B : Nat} {A : Option Addr} {n c : Nat} {l : List ByteArray} (z : Int) (h : Nm w B A n c l) :
    Calls Try.prog 85 #[.slice A n c, .agg #[.int .i64 0, .int .u64 z, .int .u8 0, .string ⟨#[]⟩, .slice none 0 0]] w (NmA w B A l) := by
  have hb := below_new w (.cells #[.int .i64 0, .int .u64 z, .int .u8 0, .string ⟨#[]⟩, .slice none 0 0] 120)
  have hbx := heap_alloc_new w (.cells #[.int .i64 0, .int .u64 z, .int .u8 0, .string ⟨#[]⟩, .slice none 0 0] 120)
  obtain ⟨W, hW⟩ : ∃ W, w.alloc (.cells #[.int .i64 0, .int .u64 z, .int .u8 0, .string ⟨#[]⟩, .slice none 0 0] 120) = W := ⟨_, rfl⟩
  rw [hW] at hb hbx
  have x0 : W.cell? ⟨w.heap.size, 0, none⟩ = some (.int .i64 0) := by simp only [World.cell?, hbx]; simp
  have x4 : W.cell? ⟨w.heap.size, 4, none⟩ = some (.slice none 0 0) := by simp only [World.cell?, hbx]; simp
  have H := Lib.hid (h.keep hb)
  have HB := Lib.hid hb
  clear h hbx hb
  go_enter Try.func85, Try.ntmps85
  go_upto_region 1 with fail
  try rw [hW]
  clear hW
  go_wp2_with fail
  go_loopw [0, 5] (fun l i wr => l = .slice A n c ∧ i = .int .i64 0 ∧ W = wr) (fun _ i _ => 0)
  case atStart => exact ⟨rfl, rfl, rfl⟩
  case round =>
    obtain ⟨rfl, rfl, rfl⟩ := hrel
    go_wp2_with fail
    go_ret
    exact ⟨A, n, c, rfl, H.out, Grw.of_below HB.out⟩
set_option maxHeartbeats 1600000 in
theorem ex_name {w : World} {B : Nat} {A : Option Addr} {n c : Nat} {l : List ByteArray} (s : ByteArray) (h : Nm w B A n c l) (hn : n ≤ 4000000) (hB : B ≤ w.heap.size) :
    Calls Try.prog 85 #[.slice A n c, .agg #[.int .i64 1, .int .u64 0, .int .u8 0, .string s, .slice none 0 0]] w (NmA w B A (addN l s)) := by
  have hb := below_new w (.cells #[.int .i64 1, .int .u64 0, .int .u8 0, .string s, .slice none 0 0] 120)
  have hbx := heap_alloc_new w (.cells #[.int .i64 1, .int .u64 0, .int .u8 0, .string s, .slice none 0 0] 120)
  obtain ⟨W, hW⟩ : ∃ W, w.alloc (.cells #[.int .i64 1, .int .u64 0, .int .u8 0, .string s, .slice none 0 0] 120) = W := ⟨_, rfl⟩
  rw [hW] at hb hbx
  have x0 : W.cell? ⟨w.heap.size, 0, none⟩ = some (.int .i64 1) := by simp only [World.cell?, hbx]; simp
  have x3 : W.cell? ⟨w.heap.size, 3, none⟩ = some (.string s) := by simp only [World.cell?, hbx]; simp
  have H := Lib.hid (h.keep hb)
  have HB := Lib.hid hb
  clear h hbx hb
  go_enter Try.func85, Try.ntmps85
  go_upto_region 1 with fail
  try rw [hW]
  clear hW
  go_wp2_with fail
  refine (add_any s H.out hn (Nat.le_trans hB HB.out.size)).mono ?_
  rintro e w2 ⟨A', n', c', rfl, h2, hg2⟩
  have H2 := Lib.hid h2
  have G2 := Lib.hid hg2
  clear h2 hg2
  go_wp2_with fail
  go_ret
  exact ⟨A', n', c', rfl, H2.out, (Grw.of_below HB.out).trans G2.out⟩
end Go.Proofs.Ytapnnbbbgopobaa.Fr
namespace Go.Proofs.Ytapnnbbbgopobaa.Lx
open Go.RowKit Cm Mm Ow Me Ml Lg
def lt (c : Int) : Bool := decide (97 ≤ c) && decide (c ≤ 122)
def dg (c : Int) : Bool := decide (48 ≤ c) && decide (c ≤ 57)
def sg (c : Int) : Bool := lt c || dg c || (c == 95)
theorem letter_any (c : Int) (w : World) : Calls Try.prog 67 #[.int .u8 c] w fun e w' => e = .returned (.bool (lt c)) ∧ w = w' := by
  by_cases h : 97 ≤ c
  · have d0 : decide (97 ≤ c) = true := decide_eq_true h
    have HE : Hid (lt c = decide (c ≤ 122)) := Lib.hid (by unfold lt; rw [d0]; rfl)
    go_enter Try.func67, Try.ntmps67
    go_wp2_with fail
    go_ret
    exact ⟨by rw [HE.out]; rfl, rfl⟩
  · have d0 : decide (97 ≤ c) = false := decide_eq_false h
    have HE : Hid (lt c = false) := Lib.hid (by unfold lt; rw [d0]; rfl)
    go_enter Try.func67, Try.ntmps67
    go_wp2_with fail
    go_ret
    exact ⟨by rw [HE.out]; rfl, rfl⟩
theorem digit_any (c : Int) (w : World) : Calls Try.prog 66 #[.int .u8 c] w fun e w' => e = .returned (.bool (dg c)) ∧ w = w' := by
  by_cases h : 48 ≤ c
  · have d0 : decide (48 ≤ c) = true := decide_eq_true h
    have HE : Hid (dg c = decide (c ≤ 57)) := Lib.hid (by unfold dg; rw [d0]; rfl)
    go_enter Try.func66, Try.ntmps66
    go_wp2_with fail
    go_ret
    exact ⟨by rw [HE.out]; rfl, rfl⟩
  · have d0 : decide (48 ≤ c) = false := decide_eq_false h
    have HE : Hid (dg c = false) := Lib.hid (by unfold dg; rw [d0]; rfl)
    go_enter Try.func66, Try.ntmps66
    go_wp2_with fail
    go_ret
    exact ⟨by rw [HE.out]; rfl, rfl⟩
theorem sign_any (c : Int) (w : World) : Calls Try.prog 65 #[.int .u8 c] w fun e w' => e = .returned (.bool (sg c)) ∧ w = w' := by
  have L := Lib.hid (letter_any c)
  have D := Lib.hid (digit_any c)
  have HE : Hid (sg c = (lt c || dg c || (c == 95))) := Lib.hid rfl
  cases h1 : lt c
  all_goals cases h2 : dg c
  all_goals
    rw [h1] at L HE
    rw [h2] at D HE
    clear h1 h2
    go_enter Try.func65, Try.ntmps65
    go_wp2_with (first
      | (go_at_call 67; refine (L.out _).mono ?_; rintro e w' ⟨rfl, rfl⟩)
      | (go_at_call 66; refine (D.out _).mono ?_; rintro e w' ⟨rfl, rfl⟩)
      | fail)
    go_ret
    exact ⟨by rw [HE.out]; rfl, rfl⟩
set_option maxHeartbeats 1600000 in
theorem word_any (s : ByteArray) (w : World) : Calls Try.prog 68 #[.string s] w fun e w' => ∃ b : Bool, e = .returned (.bool b) ∧ Below w.heap.size w w' := by
  have rowc : ∀ (W : World) (k : Nat), k < 12 → ∃ t : ByteArray, (W.alloc (.cells #[.string ⟨#[99, 101, 108, 108]⟩, .string ⟨#[116, 104, 114, 101, 97, 100]⟩, .string ⟨#[114, 101, 99, 111, 118, 101, 114]⟩, .string ⟨#[115, 101, 116]⟩, .string ⟨#[108, 111, 97, 100]⟩, .string ⟨#[115, 116, 111, 114, 101]⟩, .string ⟨#[99, 97, 115]⟩, .string ⟨#[102, 101, 110, 99, 101]⟩, .string ⟨#[111, 117, 116]⟩, .string ⟨#[105, 102]⟩, .string ⟨#[101, 108, 115, 101]⟩, .string ⟨#[119, 104, 105, 108, 101]⟩] 9)).cell? ⟨W.heap.size, k, none⟩ = some (.string t) := by
    intro W k hk
    have h := heap_alloc_new W (.cells #[.string ⟨#[99, 101, 108, 108]⟩, .string ⟨#[116, 104, 114, 101, 97, 100]⟩, .string ⟨#[114, 101, 99, 111, 118, 101, 114]⟩, .string ⟨#[115, 101, 116]⟩, .string ⟨#[108, 111, 97, 100]⟩, .string ⟨#[115, 116, 111, 114, 101]⟩, .string ⟨#[99, 97, 115]⟩, .string ⟨#[102, 101, 110, 99, 101]⟩, .string ⟨#[111, 117, 116]⟩, .string ⟨#[105, 102]⟩, .string ⟨#[101, 108, 115, 101]⟩, .string ⟨#[119, 104, 105, 108, 101]⟩] 9)
    simp only [World.cell?, h]
    match k, hk with
    | 0, _ => exact ⟨_, rfl⟩
    | 1, _ => exact ⟨_, rfl⟩
    | 2, _ => exact ⟨_, rfl⟩
    | 3, _ => exact ⟨_, rfl⟩
    | 4, _ => exact ⟨_, rfl⟩
    | 5, _ => exact ⟨_, rfl⟩
    | 6, _ => exact ⟨_, rfl⟩
    | 7, _ => exact ⟨_, rfl⟩
    | 8, _ => exact ⟨_, rfl⟩
    | 9, _ => exact ⟨_, rfl⟩
    | 10, _ => exact ⟨_, rfl⟩
    | 11, _ => exact ⟨_, rfl⟩
  go_enter Try.func68, Try.ntmps68
  go_wp2_with fail
  obtain ⟨W, hW⟩ : ∃ W, W = (w.alloc (.cells #[.string ⟨#[99, 101, 108, 108]⟩, .string ⟨#[116, 104, 114, 101, 97, 100]⟩, .string ⟨#[114, 101, 99, 111, 118, 101, 114]⟩, .string ⟨#[115, 101, 116]⟩, .string ⟨#[108, 111, 97, 100]⟩, .string ⟨#[115, 116, 111, 114, 101]⟩, .string ⟨#[99, 97, 115]⟩, .string ⟨#[102, 101, 110, 99, 101]⟩, .string ⟨#[111, 117, 116]⟩, .string ⟨#[105, 102]⟩, .string ⟨#[101, 108, 115, 101]⟩, .string ⟨#[119, 104, 105, 108, 101]⟩] 9)) := ⟨_, rfl⟩
  have rw2 : ∀ k : Nat, k < 12 → ∃ t : ByteArray, W.cell? ⟨w.heap.size, k, none⟩ = some (.string t) := fun k hk => by rw [hW]; exact rowc w k hk
  have BW : Below w.heap.size w W := by rw [hW]; exact below_new _ _
  rw [← hW]
  clear hW rowc
  have HR := Lib.hid rw2
  clear rw2
  go_loopw [4] (fun i wr => ∃ k : Nat, k ≤ 12 ∧ i = .int .i64 k ∧ W = wr) (fun i _ => 12 - (intOf i).toNat)
  case atStart => exact ⟨0, by omega, rfl, rfl⟩
  case round =>
    obtain ⟨k, hk, rfl, rfl⟩ := hrel
    by_cases hk12 : k < 12
    · obtain ⟨t, ht⟩ := HR.out k hk12
      have d0 : decide ((k : Int) < 12) = true := decide_eq_true (by omega)
      have hki : (k : Int) < 12 := by omega
      cases hs : (t.toList == s.toList)
      · go_wp2_with fail
        go_roundw
        case rel => exact ⟨k + 1, by omega, by go_num, trivial⟩
        case measure => simp [intOf]; omega
      · go_wp2_with fail
        go_ret
        exact ⟨true, rfl, BW⟩
    · obtain rfl : k = 12 := by omega
      go_wp2_with fail
      go_ret
      exact ⟨false, rfl, BW⟩
/-! a row of bytes -/
def IsBy (w : World) (A : Option Addr) (n cap : Nat) (x : Nat → Int) : Prop := Sl w A n cap 1 (fun i => [.int .u8 (x i)])
theorem IsBy.keep {w w' : World} {A : Option Addr} {n cap : Nat} {x : Nat → Int} (h : IsBy w A n cap x) (hb : Below w.heap.size w w') : IsBy w' A n cap x := Sl.keep h hb
theorem IsBy.cell {w : World} {A : Option Addr} {n cap : Nat} {x : Nat → Int} (h : IsBy w A n cap x) {k : Nat} (hk : k < n) : ∃ b o, A = some ⟨b, o, none⟩ ∧ b < w.heap.size ∧ w.cell? ⟨b, o + k, none⟩ = some (.int .u8 (x k)) := by
  obtain ⟨b, o, e, hb, hc⟩ := h.at_ (by omega)
  exact ⟨b, o, e, hb, by simpa using hc k hk 0 (by omega)⟩
set_option maxHeartbeats 3200000 in
theorem skip_any (A : Option Addr) (n cap : Nat) (x : Nat → Int) (at_ : Nat) (w : World) (h : IsBy w A n cap x) (hn : n ≤ 65536) (ha : at_ ≤ n) :
    Calls Try.prog 43 #[.slice A n cap, .int .i64 at_] w fun e w' => ∃ k : Nat, at_ ≤ k ∧ k ≤ n ∧ e = .returned (.int .i64 k) ∧ w = w' := by
  go_enter Try.func43, Try.ntmps43
  go_wp2_with fail
  go_loopw [1] (fun i wr => ∃ k : Nat, at_ ≤ k ∧ k ≤ n ∧ i = .int .i64 k ∧ w = wr) (fun i _ => n - (intOf i).toNat)
  case atStart => exact ⟨at_, Nat.le_refl _, ha, rfl, rfl⟩
  case round =>
    obtain ⟨k, hk0, hk, rfl, rfl⟩ := hrel
    by_cases hkn : k < n
    · have d0 : decide ((k : Int) < (n : Int)) = true := decide_eq_true (by omega)
      have hki : (k : Int) < (n : Int) := by omega
      obtain ⟨b, o, rfl, hb, g0⟩ := h.cell hkn
      obtain ⟨c, hc⟩ : ∃ c, x k = c := ⟨_, rfl⟩
      rw [hc] at g0
      have HC := Lib.hid hc
      clear hc
      by_cases h1 : c = 32
      · subst h1
        go_wp2_with fail
        go_roundw
        case rel => exact ⟨k + 1, by omega, by omega, by go_num, trivial⟩
        case measure => simp [intOf]; omega
      by_cases h2 : c = 9
      · subst h2
        go_wp2_with fail
        go_roundw
        case rel => exact ⟨k + 1, by omega, by omega, by go_num, trivial⟩
        case measure => simp [intOf]; omega
      by_cases h3 : c = 10
      · subst h3
        go_wp2_with fail
        go_roundw
        case rel => exact ⟨k + 1, by omega, by omega, by go_num, trivial⟩
        case measure => simp [intOf]; omega
      by_cases h4 : c = 13
      · subst h4
        go_wp2_with fail
        go_roundw
        case rel => exact ⟨k + 1, by omega, by omega, by go_num, trivial⟩
        case measure => simp [intOf]; omega
      have t1 : (c == 32) = false := by simpa using h1
      have t2 : (c == 9) = false := by simpa using h2
      have t3 : (c == 10) = false := by simpa using h3
      have t4 : (c == 13) = false := by simpa using h4
      clear h1 h2 h3 h4
      by_cases h5 : c = 35
      · subst h5
        go_wp2_with fail
        have HK := Lib.hid hkn
        clear g0 t1 t2 t3 t4
        go_loopw [1] (fun i wr => ∃ j : Nat, k ≤ j ∧ j ≤ n ∧ i = .int .i64 j ∧ w = wr) (fun i _ => n - (intOf i).toNat)
        case atStart => exact ⟨k, Nat.le_refl _, hk, rfl, rfl⟩
        case round =>
          obtain ⟨j, hj0, hj, rfl, rfl⟩ := hrel
          by_cases hjn : j < n
          · have d1 : decide ((j : Int) < (n : Int)) = true := decide_eq_true (by omega)
            have hji : (j : Int) < (n : Int) := by omega
            obtain ⟨b', o', hA, hb', g1⟩ := h.cell hjn
            obtain ⟨rfl, rfl⟩ : b = b' ∧ o = o' := by simpa using hA
            clear hA
            by_cases hx : x j = 10
            · rw [hx] at g1
              have hne : k ≠ j := fun e => by rw [← e, HC.out] at hx; exact absurd hx (by decide)
              clear hx
              go_wp2_with fail
              go_roundw
              case rel => exact ⟨j, by omega, by omega, rfl, trivial⟩
              case measure => simp [intOf]; omega
            · have t6 : (x j != 10) = true := by simpa using hx
              clear hx
              generalize x j = y at *
              go_wp2_with fail
              go_roundw
              case rel => exact ⟨j + 1, by omega, by omega, by go_num, trivial⟩
              case measure => simp [intOf]; omega
          · obtain rfl : j = n := by omega
            go_wp2_with fail
            go_roundw
            case rel => exact ⟨j, by omega, by omega, rfl, trivial⟩
            case measure => simp [intOf]; have := HK.out; omega
      · have t5 : (c == 35) = false := by simpa using h5
        go_wp2_with fail
        go_ret
        exact ⟨k, hk0, hk, rfl, rfl⟩
    · obtain rfl : k = n := by omega
      go_wp2_with fail
      go_ret
      exact ⟨k, hk0, hk, rfl, rfl⟩
end Go.Proofs.Ytapnnbbbgopobaa.Lx
