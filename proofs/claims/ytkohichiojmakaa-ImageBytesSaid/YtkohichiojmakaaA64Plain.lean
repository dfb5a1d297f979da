/-
  PLAIN: instructions and their words (chapter 2): the forms, what is right, the word, and what a word is decoded as; one word for each right instruction. No Go here.
-/
import Derived.Test.YtkohichiojmakaaFieldMore
namespace Go.Proofs.Ytkohichiojmakaa.A64
set_option linter.unusedVariables false
set_option linter.unusedSimpArgs false
open Fld FldM

/-- a field: its lowest bit, and how many -/
abbrev Bt := Nat × Nat
structure Fm where
  word : BitVec 32
  d : Bt := (0, 0)
  a : Bt := (0, 0)
  b : Bt := (0, 0)
  s : Bt := (0, 0)
  n : Bt := (0, 0)
  c : Bt := (0, 0)
  signed : Bool := false
  turned : Bool := false
structure In where
  kind : Int
  d : Int
  a : Int
  b : Int
  s : Int
  c : Int
  n : Int
deriving DecidableEq

def zeroFm : Fm := { word := 0 }
def table : List Fm := [
  { word := 0xD2800000, d := (0, 5), s := (21, 2), n := (5, 16) },
  { word := 0xF2800000, d := (0, 5), s := (21, 2), n := (5, 16) },
  { word := 0x8B000000, d := (0, 5), a := (5, 5), b := (16, 5) },
  { word := 0xCB000000, d := (0, 5), a := (5, 5), b := (16, 5) },
  { word := 0x9B007C00, d := (0, 5), a := (5, 5), b := (16, 5) },
  { word := 0x8A000000, d := (0, 5), a := (5, 5), b := (16, 5) },
  { word := 0xEB00001F, a := (5, 5), b := (16, 5) },
  { word := 0x9A9F07E0, d := (0, 5), c := (12, 4), turned := true },
  { word := 0x14000000, n := (0, 26), signed := true },
  { word := 0x54000000, n := (5, 19), signed := true, c := (0, 4) },
  { word := 0xB4000000, a := (0, 5), n := (5, 19), signed := true },
  { word := 0xB5000000, a := (0, 5), n := (5, 19), signed := true },
  { word := 0xF9400000, d := (0, 5), a := (5, 5), n := (10, 12) },
  { word := 0xF9000000, d := (0, 5), a := (5, 5), n := (10, 12) },
  { word := 0xC8DFFC00, d := (0, 5), a := (5, 5) },
  { word := 0xC89FFC00, d := (0, 5), a := (5, 5) },
  { word := 0xC85F7C00, d := (0, 5), a := (5, 5) },
  { word := 0xC8007C00, d := (0, 5), a := (5, 5), s := (16, 5) },
  { word := 0xD5033BBF },
  { word := 0xD5033B9F },
  { word := 0xD50B7C20, a := (0, 5) },
  { word := 0xD503201F },
  { word := 0xD4400000 },
  { word := 0xD4000001 }]
def form (k : Nat) : Fm := table.getD k zeroFm

def cond (c : Int) : Bool := c == 0 || c == 1 || c == 11 || c == 10
def fitN (f : Fm) (v : Int) : Bool := if f.signed then fitsS v f.n.2 else fits v f.n.2
def fitC (f : Fm) (c : Int) : Bool := if f.c.2 = 0 then c == 0 else cond c
def rightF (f : Fm) (i : In) : Bool := fits i.d f.d.2 && fits i.a f.a.2 && fits i.b f.b.2 && fits i.s f.s.2 && fitN f i.n && fitC f i.c
def right (i : In) : Bool := decide (0 ≤ i.kind ∧ i.kind < 24) && rightF (form i.kind.toNat) i
def flip (f : Fm) (c : Int) : Int := if f.turned then bits .xor .i64 c 1 else c
def putF (w : BitVec 32) (x : Bt) (v : Int) : BitVec 32 := put w x.1 x.2 (BitVec.ofInt 32 v)
def encF (f : Fm) (i : In) : BitVec 32 := putF (putF (putF (putF (putF (putF f.word f.d i.d) f.a i.a) f.b i.b) f.s i.s) f.n i.n) f.c (flip f i.c)
def getF (w : BitVec 32) (x : Bt) : Int := ((get w x.1 x.2).toNat : Int)
def getN (f : Fm) (w : BitVec 32) : Int := if f.signed then sgn (get w f.n.1 f.n.2).toNat f.n.2 else getF w f.n
def decF (f : Fm) (k : Int) (w : BitVec 32) : In := ⟨k, getF w f.d, getF w f.a, getF w f.b, getF w f.s, flip f (getF w f.c), getN f w⟩
def hit (k : Nat) (w : BitVec 32) : Bool := rightF (form k) (decF (form k) k w) && decide (encF (form k) (decF (form k) k w) = w)
def kindOf (w : BitVec 32) : Option Nat := (List.range 24).find? (fun k => hit k w)
def zeroIn : In := ⟨0, 0, 0, 0, 0, 0, 0⟩
def decode (w : BitVec 32) : In × Int := match kindOf w with
  | some k => (decF (form k) k w, 0)
  | none => (zeroIn, 8)
def encode (i : In) : BitVec 32 × Int := if right i then (encF (form i.kind.toNat) i, 0) else (0, 1)

/-! the fields of a form lie apart -/
def disj (x y : Bt) : Bool := x.2 == 0 || y.2 == 0 || decide (x.1 + x.2 ≤ y.1) || decide (y.1 + y.2 ≤ x.1)
def inside (x : Bt) : Bool := decide (x.1 + x.2 ≤ 32)
def good (f : Fm) : Bool := inside f.d && inside f.a && inside f.b && inside f.s && inside f.n && inside f.c &&
  (disj f.d f.a && disj f.d f.b && disj f.d f.s && disj f.d f.n && disj f.d f.c) && (disj f.a f.b && disj f.a f.s && disj f.a f.n && disj f.a f.c) &&
  (disj f.b f.s && disj f.b f.n && disj f.b f.c) && (disj f.s f.n && disj f.s f.c) && disj f.n f.c && (f.c.2 == 0 && !f.turned || f.c.2 == 4)
theorem good_all : ∀ k : Nat, k < 24 → good (form k) = true := by decide +kernel

theorem put_zero (w : BitVec 32) (a : Nat) (v : BitVec 32) : put w a 0 v = w := by
  refine ext fun i hi => ?_
  rw [put_bit _ _ _ _ i hi, if_neg (by omega)]
theorem get_zero (w : BitVec 32) (a : Nat) : get w a 0 = 0 := by
  refine ext fun i hi => ?_
  rw [get_bit _ _ _ i hi]
  simp
theorem get_other (w : BitVec 32) (x y : Bt) (v : BitVec 32) (h : disj x y = true) (hy : y.1 + y.2 ≤ 32) : get (put w x.1 x.2 v) y.1 y.2 = get w y.1 y.2 := by
  simp only [disj, Bool.or_eq_true, beq_iff_eq, decide_eq_true_eq] at h
  by_cases hx0 : x.2 = 0
  · rw [hx0, put_zero]
  by_cases hy0 : y.2 = 0
  · rw [hy0, get_zero, get_zero]
  refine ext fun i hi => ?_
  simp only [get_bit _ _ _ i hi]
  by_cases hg : i < y.2
  · rw [put_bit _ _ _ _ (y.1 + i) (by omega), if_neg (by omega)]
  · simp [hg]
theorem disj_symm (x y : Bt) (h : disj x y = true) : disj y x = true := by
  simp only [disj, Bool.or_eq_true, beq_iff_eq, decide_eq_true_eq] at h ⊢
  omega

theorem getF_put (w : BitVec 32) (x y : Bt) (v : Int) (h : disj x y = true) (hy : y.1 + y.2 ≤ 32) : get (putF w x v) y.1 y.2 = get w y.1 y.2 := get_other w x y _ h hy

theorem flip_flip (f : Fm) (c : Int) (h : fitC f c = true) (hg : (f.c.2 == 0 && !f.turned || f.c.2 == 4) = true) : flip f (flip f c) = c ∧ fits (flip f c) f.c.2 = true := by
  unfold fitC at h
  unfold flip
  by_cases h0 : f.c.2 = 0
  · rw [if_pos h0] at h
    simp [h0] at hg
    simp [hg, h0] at h ⊢
    subst h
    decide
  · rw [if_neg h0] at h
    have h4 : f.c.2 = 4 := by simpa [h0] using hg
    rw [h4]
    simp only [cond, Bool.or_eq_true, beq_iff_eq] at h
    rcases h with ((h | h) | h) | h <;> subst h <;> cases f.turned <;> decide +kernel

/-- a right instruction is decoded of its word as it was -/
theorem dec_enc (k : Nat) (i : In) (hk : k < 24) (hi : i.kind = k) (h : rightF (form k) i = true) : decF (form k) k (encF (form k) i) = i := by
  have hg := good_all k hk
  generalize form k = f at *
  simp only [good, inside, Bool.and_eq_true, decide_eq_true_eq] at hg
  simp only [rightF, Bool.and_eq_true] at h
  obtain ⟨⟨⟨⟨⟨hd, ha⟩, hb⟩, hs⟩, hn⟩, hc⟩ := h
  obtain ⟨⟨⟨⟨⟨⟨⟨⟨⟨⟨⟨l1, l2⟩, l3⟩, l4⟩, l5⟩, l6⟩, ⟨⟨⟨⟨da, db⟩, ds⟩, dn⟩, dc⟩⟩, ⟨⟨⟨ab, as_⟩, an⟩, ac⟩⟩, ⟨⟨bs, bn⟩, bc⟩⟩, ⟨sn, sc⟩⟩, nc⟩, ht⟩ := hg
  obtain ⟨c1, c2⟩ := flip_flip f i.c hc ht
  have e1 : getF (encF f i) f.d = i.d := by
    unfold getF encF
    rw [getF_put _ _ _ _ (disj_symm _ _ dc) l1, getF_put _ _ _ _ (disj_symm _ _ dn) l1, getF_put _ _ _ _ (disj_symm _ _ ds) l1, getF_put _ _ _ _ (disj_symm _ _ db) l1, getF_put _ _ _ _ (disj_symm _ _ da) l1]
    exact word_fits (by omega) hd _ _ l1
  have e2 : getF (encF f i) f.a = i.a := by
    unfold getF encF
    rw [getF_put _ _ _ _ (disj_symm _ _ ac) l2, getF_put _ _ _ _ (disj_symm _ _ an) l2, getF_put _ _ _ _ (disj_symm _ _ as_) l2, getF_put _ _ _ _ (disj_symm _ _ ab) l2]
    exact word_fits (by omega) ha _ _ l2
  have e3 : getF (encF f i) f.b = i.b := by
    unfold getF encF
    rw [getF_put _ _ _ _ (disj_symm _ _ bc) l3, getF_put _ _ _ _ (disj_symm _ _ bn) l3, getF_put _ _ _ _ (disj_symm _ _ bs) l3]
    exact word_fits (by omega) hb _ _ l3
  have e4 : getF (encF f i) f.s = i.s := by
    unfold getF encF
    rw [getF_put _ _ _ _ (disj_symm _ _ sc) l4, getF_put _ _ _ _ (disj_symm _ _ sn) l4]
    exact word_fits (by omega) hs _ _ l4
  have e6 : getF (encF f i) f.c = flip f i.c := by
    unfold getF encF
    exact word_fits (by omega) c2 _ _ l6
  have e5 : getN f (encF f i) = i.n := by
    unfold getN getF encF
    rw [getF_put _ _ _ _ (disj_symm _ _ nc) l5]
    unfold fitN at hn
    split
    · rename_i hsg
      rw [if_pos hsg] at hn
      exact word_fitsS (by omega) hn _ _ l5
    · rename_i hsg
      rw [if_neg hsg] at hn
      exact word_fits (by omega) hn _ _ l5
  unfold decF
  rw [e1, e2, e3, e4, e5, e6, c1, ← hi]

/-! no word of two forms -/
def mask1 (x : Bt) : BitVec 32 := low x.2 <<< x.1
def mask (f : Fm) : BitVec 32 := mask1 f.d ||| mask1 f.a ||| mask1 f.b ||| mask1 f.s ||| mask1 f.n ||| mask1 f.c
theorem putF_out (w m : BitVec 32) (x : Bt) (v : Int) (hx : x.1 + x.2 ≤ 32) (h : mask1 x &&& m = mask1 x) : putF w x v &&& ~~~m = w &&& ~~~m := by
  refine ext fun i hi => ?_
  simp only [putF, BitVec.getLsbD_and, BitVec.getLsbD_not, put_bit _ _ _ _ i hi, hi, decide_true, Bool.true_and]
  split
  · rename_i hin
    have e := congrArg (fun b => b.getLsbD i) h
    simp only [mask1, BitVec.getLsbD_and, BitVec.getLsbD_shiftLeft, hi, decide_true, Bool.true_and, low_bit _ _ (show i - x.1 < 32 by omega)] at e
    have h1 : decide (i < x.1) = false := by simp; omega
    have h2 : decide (i - x.1 < x.2) = true := by simp; omega
    rw [h1, h2] at e
    simp at e
    simp [e]
  · rfl
theorem encF_out (f : Fm) (i : In) (hg : good f = true) : encF f i &&& ~~~mask f = f.word &&& ~~~mask f := by
  simp only [good, inside, Bool.and_eq_true, decide_eq_true_eq] at hg
  obtain ⟨⟨⟨⟨⟨⟨⟨⟨⟨⟨⟨l1, l2⟩, l3⟩, l4⟩, l5⟩, l6⟩, _⟩, _⟩, _⟩, _⟩, _⟩, _⟩ := hg
  unfold encF
  have hm : ∀ x y : BitVec 32, x &&& (x ||| y) = x := fun x y => by
    refine ext fun i hi => ?_
    simp only [BitVec.getLsbD_and, BitVec.getLsbD_or]
    cases x.getLsbD i <;> simp
  have m : ∀ (x : Bt) (j : Nat), mask f = mask f → True := fun _ _ _ => trivial
  rw [putF_out _ _ _ _ l6, putF_out _ _ _ _ l5, putF_out _ _ _ _ l4, putF_out _ _ _ _ l3, putF_out _ _ _ _ l2, putF_out _ _ _ _ l1]
  all_goals
    unfold mask
    refine ext fun i hi => ?_
    simp only [BitVec.getLsbD_and, BitVec.getLsbD_or]
    generalize (mask1 f.d).getLsbD i = x1
    generalize (mask1 f.a).getLsbD i = x2
    generalize (mask1 f.b).getLsbD i = x3
    generalize (mask1 f.s).getLsbD i = x4
    generalize (mask1 f.n).getLsbD i = x5
    generalize (mask1 f.c).getLsbD i = x6
    cases x1 <;> cases x2 <;> cases x3 <;> cases x4 <;> cases x5 <;> cases x6 <;> rfl
theorem apart_all : ∀ k : Nat, k < 24 → ∀ j : Nat, j < 24 → k = j ∨ ((form k).word ^^^ (form j).word) &&& ~~~mask (form k) &&& ~~~mask (form j) ≠ 0 := by decide +kernel
theorem enc_apart (k j : Nat) (hk : k < 24) (hj : j < 24) (x y : In) (h : encF (form k) x = encF (form j) y) : k = j := by
  rcases apart_all k hk j hj with e | e
  · exact e
  · exfalso
    apply e
    have h1 := encF_out (form k) x (good_all k hk)
    have h2 := encF_out (form j) y (good_all j hj)
    rw [h] at h1
    generalize encF (form j) y = z at *
    generalize (form k).word = wk at *
    generalize (form j).word = wj at *
    generalize mask (form k) = mk at *
    generalize mask (form j) = mj at *
    refine ext fun i hi => ?_
    have e1 := congrArg (fun b => b.getLsbD i) h1
    have e2 := congrArg (fun b => b.getLsbD i) h2
    simp only [BitVec.getLsbD_and, BitVec.getLsbD_not, BitVec.getLsbD_xor, hi, decide_true, Bool.true_and, BitVec.getLsbD_zero] at *
    generalize z.getLsbD i = b1 at *
    generalize wk.getLsbD i = b2 at *
    generalize wj.getLsbD i = b3 at *
    generalize mk.getLsbD i = b4 at *
    generalize mj.getLsbD i = b5 at *
    cases b1 <;> cases b2 <;> cases b3 <;> cases b4 <;> cases b5 <;> simp_all

theorem right_kind {i : In} (h : right i = true) : ∃ k : Nat, k < 24 ∧ i.kind = (k : Int) ∧ rightF (form k) i = true := by
  unfold right at h
  simp only [Bool.and_eq_true, decide_eq_true_eq] at h
  exact ⟨i.kind.toNat, by omega, by omega, h.2⟩
theorem right_of (k : Nat) (i : In) (hk : k < 24) (hi : i.kind = (k : Int)) : right i = rightF (form k) i := by
  unfold right
  rw [decide_eq_true (by omega), hi, Int.toNat_natCast, Bool.true_and]
theorem encode_of (k : Nat) (i : In) (hk : k < 24) (hi : i.kind = (k : Int)) (h : rightF (form k) i = true) : encode i = (encF (form k) i, 0) := by
  unfold encode
  rw [if_pos (by rw [right_of k i hk hi]; exact h), hi, Int.toNat_natCast]
theorem hit_enc (k j : Nat) (i : In) (hk : k < 24) (hj : j < 24) (hi : i.kind = (k : Int)) (h : rightF (form k) i = true) : hit j (encF (form k) i) = decide (j = k) := by
  by_cases e : j = k
  · subst e
    unfold hit
    rw [dec_enc j i hk hi h, h]
    simp
  · rw [decide_eq_false e]
    unfold hit
    rw [decide_eq_false (fun x => e (enc_apart j k hj hk _ _ x)), Bool.and_false]
theorem kindOf_enc (k : Nat) (i : In) (hk : k < 24) (hi : i.kind = (k : Int)) (h : rightF (form k) i = true) : kindOf (encF (form k) i) = some k := by
  unfold kindOf
  have e : ∀ x ∈ List.range 24, (fun j => hit j (encF (form k) i)) x = (fun j => decide (j = k)) x := fun x hx => hit_enc k x i hk (List.mem_range.1 hx) hi h
  have e2 : (List.range 24).find? (fun j => hit j (encF (form k) i)) = (List.range 24).find? (fun j => decide (j = k)) := by
    have : ∀ l : List Nat, (∀ x ∈ l, hit x (encF (form k) i) = decide (x = k)) → l.find? (fun j => hit j (encF (form k) i)) = l.find? (fun j => decide (j = k)) := by
      intro l hl
      induction l with
      | nil => rfl
      | cons a l ih => simp only [List.find?_cons, hl a (by simp), ih (fun x hx => hl x (by simp [hx]))]
    exact this _ e
  rw [e2]
  have : ∀ k : Nat, k < 24 → (List.range 24).find? (fun j => decide (j = k)) = some k := by decide +kernel
  exact this k hk
theorem decode_encode (i : In) (h : right i = true) : decode (encode i).1 = (i, 0) ∧ (encode i).2 = 0 := by
  obtain ⟨k, hk, hi, hr⟩ := right_kind h
  rw [encode_of k i hk hi hr]
  unfold decode
  simp only
  rw [kindOf_enc k i hk hi hr]
  exact ⟨by simp [dec_enc k i hk hi hr], trivial⟩
theorem encode_decode (w : BitVec 32) (k : Nat) (h : kindOf w = some k) : k < 24 ∧ encode (decF (form k) k w) = (w, 0) ∧ right (decF (form k) k w) = true := by
  have hk : k < 24 := List.mem_range.1 (List.mem_of_find?_eq_some h)
  have hh := List.find?_some h
  simp only [hit, Bool.and_eq_true, decide_eq_true_eq] at hh
  exact ⟨hk, by rw [encode_of k _ hk rfl hh.1, hh.2], by rw [right_of k _ hk rfl]; exact hh.1⟩
theorem encode_inj (a b : In) (ha : right a = true) (hb : right b = true) : (encode a).1 = (encode b).1 ↔ a = b := by
  constructor
  · intro h
    have h1 := (decode_encode a ha).1
    rw [h, (decode_encode b hb).1] at h1
    injection h1 with h1
    exact h1.symm
  · rintro rfl; rfl
end Go.Proofs.Ytkohichiojmakaa.A64
