/-
  PLAIN: bytes read and written (chapter 22). No Go here.
-/
import Derived.Test.YtkohichiojmakaaImgPlain
namespace Go.Proofs.Ytkohichiojmakaa.Byt
set_option linter.unusedVariables false
set_option linter.unusedSimpArgs false
open A64 Pat Img

/-- what a reader has left, and whether it ended within -/
structure Rs where
  l : List (BitVec 8)
  s : Bool
def tk (r : Rs) (n : Nat) : List (BitVec 8) × Rs := if n ≤ r.l.length then (r.l.take n, ⟨r.l.drop n, r.s⟩) else ([], ⟨[], true⟩)
def numTo (t : List (BitVec 8)) (k : Nat) : BitVec 32 := (List.range k).foldl (fun a j => a ||| ((t.getD j 0).setWidth 32 <<< (8 * j))) 0
def num (t : List (BitVec 8)) : BitVec 32 := numTo t t.length
theorem numTo_succ (t : List (BitVec 8)) (k : Nat) : numTo t (k + 1) = numTo t k ||| ((t.getD k 0).setWidth 32 <<< (8 * k)) := by unfold numTo; rw [List.range_succ, List.foldl_append]; rfl
def nb (r : Rs) (n : Nat) : BitVec 32 × Rs := (num (tk r n).1, (tk r n).2)
def wdsTo (r : Rs) : Nat → List (BitVec 32) × Rs
  | 0 => ([], r)
  | k + 1 => ((wdsTo r k).1 ++ [(nb (wdsTo r k).2 4).1], (nb (wdsTo r k).2 4).2)
def wds (r : Rs) (k : Nat) : List (BitVec 32) × Rs := if k ≤ r.l.length / 4 then wdsTo r k else ([], ⟨[], true⟩)
def zeroIm : Im := ⟨0, 0, [], []⟩
def magic : List (BitVec 8) := [67#8, 70#8, 68#8]
def gH (l : List (BitVec 8)) : List (BitVec 8) × Rs := tk ⟨l, false⟩ 3
def gW (l : List (BitVec 8)) : BitVec 32 × Rs := nb (gH l).2 1
def gE (l : List (BitVec 8)) : BitVec 32 × Rs := nb (gW l).2 1
def gS (l : List (BitVec 8)) : BitVec 32 × Rs := nb (gE l).2 4
def gEs (l : List (BitVec 8)) : List (BitVec 32) × Rs := wds (gS l).2 (gE l).1.toNat
def gK (l : List (BitVec 8)) : BitVec 32 × Rs := nb (gEs l).2 4
def gC (l : List (BitVec 8)) : List (BitVec 32) × Rs := wds (gK l).2 (gK l).1.toNat
theorem gH_eq (l : List (BitVec 8)) : gH l = tk ⟨l, false⟩ 3 := rfl
theorem gW_eq (l : List (BitVec 8)) : gW l = nb (gH l).2 1 := rfl
theorem gE_eq (l : List (BitVec 8)) : gE l = nb (gW l).2 1 := rfl
theorem gS_eq (l : List (BitVec 8)) : gS l = nb (gE l).2 4 := rfl
theorem gEs_eq (l : List (BitVec 8)) : gEs l = wds (gS l).2 (gE l).1.toNat := rfl
theorem gK_eq (l : List (BitVec 8)) : gK l = nb (gEs l).2 4 := rfl
theorem gC_eq (l : List (BitVec 8)) : gC l = wds (gK l).2 (gK l).1.toNat := rfl
/-- the image that is read -/
def imOf (l : List (BitVec 8)) : Im := ⟨((gW l).1.toNat : Int), ((gS l).1.toNat : Int), (gEs l).1.map (fun x => (x.toNat : Int)), (gC l).1⟩
def readI (l : List (BitVec 8)) : Im × Int :=
  if (!(gH l).2.s && (gH l).1 != magic) then (zeroIm, 2)
  else if (gC l).2.s then (zeroIm, 9)
  else if (decide (0 < (gC l).2.l.length) || !right' (imOf l)) then (zeroIm, 2) else (imOf l, 0)

/-! once it has ended within, it has -/
theorem tk_short {r : Rs} (h : r.s = true) (n : Nat) : (tk r n).2.s = true := by unfold tk; split <;> simp [h]
theorem nb_short {r : Rs} (h : r.s = true) (n : Nat) : (nb r n).2.s = true := tk_short h n
theorem wdsTo_short {r : Rs} (h : r.s = true) : ∀ k, (wdsTo r k).2.s = true
  | 0 => h
  | k + 1 => nb_short (wdsTo_short h k) 4
theorem wds_short {r : Rs} (h : r.s = true) (k : Nat) : (wds r k).2.s = true := by
  unfold wds; split
  · exact wdsTo_short h k
  · rfl
theorem nb_full {r : Rs} {n : Nat} (h : (nb r n).2.s = false) : r.s = false := by
  cases hs : r.s
  · rfl
  · rw [nb_short hs n] at h; cases h
theorem wdsTo_full {r : Rs} {n : Nat} (h : (wdsTo r n).2.s = false) : r.s = false := by
  cases hs : r.s
  · rfl
  · rw [wdsTo_short hs n] at h; cases h
theorem wds_full {r : Rs} {n : Nat} (h : (wds r n).2.s = false) : r.s = false := by
  cases hs : r.s
  · rfl
  · rw [wds_short hs n] at h; cases h

/-! with more behind -/
/-- a has what b has, and t behind it -/
def Ext (t : List (BitVec 8)) (b a : Rs) : Prop := a.l = b.l ++ t ∧ a.s = b.s
theorem tk_ext {t : List (BitVec 8)} {b a : Rs} (h : Ext t b a) (n : Nat) (hs : (tk b n).2.s = false) : (tk a n).1 = (tk b n).1 ∧ Ext t (tk b n).2 (tk a n).2 := by
  unfold tk at hs ⊢
  by_cases hn : n ≤ b.l.length
  · rw [if_pos hn] at hs ⊢
    rw [if_pos (by rw [h.1, List.length_append]; omega)]
    refine ⟨?_, ?_, h.2⟩
    · show a.l.take n = b.l.take n
      rw [h.1, List.take_append_of_le_length hn]
    · show a.l.drop n = b.l.drop n ++ t
      rw [h.1, List.drop_append_of_le_length hn]
  · rw [if_neg hn] at hs; cases hs
theorem nb_ext {t : List (BitVec 8)} {b a : Rs} (h : Ext t b a) (n : Nat) (hs : (nb b n).2.s = false) : (nb a n).1 = (nb b n).1 ∧ Ext t (nb b n).2 (nb a n).2 := by
  obtain ⟨h1, h2⟩ := tk_ext h n hs
  exact ⟨by unfold nb; rw [h1], h2⟩
theorem wdsTo_ext {t : List (BitVec 8)} {b a : Rs} (h : Ext t b a) : ∀ k, (wdsTo b k).2.s = false → (wdsTo a k).1 = (wdsTo b k).1 ∧ Ext t (wdsTo b k).2 (wdsTo a k).2
  | 0, _ => ⟨rfl, h⟩
  | k + 1, hs => by
    obtain ⟨h1, h2⟩ := wdsTo_ext h k (nb_full hs)
    obtain ⟨h3, h4⟩ := nb_ext h2 4 hs
    exact ⟨by show _ ++ [_] = _ ++ [_]; rw [h1, h3], h4⟩
theorem wds_ext {t : List (BitVec 8)} {b a : Rs} (h : Ext t b a) (k : Nat) (hs : (wds b k).2.s = false) : (wds a k).1 = (wds b k).1 ∧ Ext t (wds b k).2 (wds a k).2 := by
  unfold wds at hs ⊢
  by_cases hk : k ≤ b.l.length / 4
  · rw [if_pos hk] at hs ⊢
    rw [if_pos (by rw [h.1, List.length_append]; omega)]
    exact wdsTo_ext h k hs
  · rw [if_neg hk] at hs; cases hs
theorem ran_ext {l t : List (BitVec 8)} (hs : (gC l).2.s = false) : (gH (l ++ t)).1 = (gH l).1 ∧ (gH (l ++ t)).2.s = false ∧ (gH l).2.s = false ∧ imOf (l ++ t) = imOf l ∧ Ext t (gC l).2 (gC (l ++ t)).2 := by
  have s7 : (gC l).2.s = false := hs
  have s6 : (gK l).2.s = false := by rw [gC_eq] at s7; exact wds_full s7
  have s5 : (gEs l).2.s = false := by rw [gK_eq] at s6; exact nb_full s6
  have s4 : (gS l).2.s = false := by rw [gEs_eq] at s5; exact wds_full s5
  have s3 : (gE l).2.s = false := by rw [gS_eq] at s4; exact nb_full s4
  have s2 : (gW l).2.s = false := by rw [gE_eq] at s3; exact nb_full s3
  have s1 : (gH l).2.s = false := by rw [gW_eq] at s2; exact nb_full s2
  have e0 : Ext t ⟨l, false⟩ ⟨l ++ t, false⟩ := ⟨rfl, rfl⟩
  have c1 : (gH (l ++ t)).1 = (gH l).1 ∧ Ext t (gH l).2 (gH (l ++ t)).2 := by rw [gH_eq] at s1; rw [gH_eq, gH_eq]; exact tk_ext e0 3 s1
  have c2 : (gW (l ++ t)).1 = (gW l).1 ∧ Ext t (gW l).2 (gW (l ++ t)).2 := by rw [gW_eq] at s2; rw [gW_eq, gW_eq]; exact nb_ext c1.2 1 s2
  have c3 : (gE (l ++ t)).1 = (gE l).1 ∧ Ext t (gE l).2 (gE (l ++ t)).2 := by rw [gE_eq] at s3; rw [gE_eq, gE_eq]; exact nb_ext c2.2 1 s3
  have c4 : (gS (l ++ t)).1 = (gS l).1 ∧ Ext t (gS l).2 (gS (l ++ t)).2 := by rw [gS_eq] at s4; rw [gS_eq, gS_eq]; exact nb_ext c3.2 4 s4
  have c5 : (gEs (l ++ t)).1 = (gEs l).1 ∧ Ext t (gEs l).2 (gEs (l ++ t)).2 := by
    rw [gEs_eq] at s5; rw [gEs_eq, gEs_eq]
    rw [c3.1]
    exact wds_ext c4.2 _ s5
  have c6 : (gK (l ++ t)).1 = (gK l).1 ∧ Ext t (gK l).2 (gK (l ++ t)).2 := by rw [gK_eq] at s6; rw [gK_eq, gK_eq]; exact nb_ext c5.2 4 s6
  have c7 : (gC (l ++ t)).1 = (gC l).1 ∧ Ext t (gC l).2 (gC (l ++ t)).2 := by
    rw [gC_eq] at s7; rw [gC_eq, gC_eq]
    rw [c6.1]
    exact wds_ext c6.2 _ s7
  refine ⟨c1.1, c1.2.2.trans s1, s1, ?_, c7.2⟩
  unfold imOf
  rw [c2.1, c4.1, c5.1, c7.1]
/-- no beginning of what is read whole is read -/
theorem read_short {l : List (BitVec 8)} {n : Nat} (hn : n < l.length) (hs : (gC l).2.s = false) (hl : (gC l).2.l = []) (hm : (gH l).1 = magic) : readI (l.take n) = (zeroIm, 9) := by
  have key : (gC (l.take n)).2.s = true := by
    cases hp : (gC (l.take n)).2.s
    · have := (ran_ext (t := l.drop n) hp).2.2.2.2.1
      rw [List.take_append_drop, hl] at this
      have h2 := congrArg List.length this
      rw [List.length_append, List.length_drop] at h2
      simp at h2
      omega
    · rfl
  unfold readI
  rw [key]
  have hh : (!(gH (l.take n)).2.s && (gH (l.take n)).1 != magic) = false := by
    cases hc : (gH (l.take n)).2.s
    · have e0 : Ext (l.drop n) ⟨l.take n, false⟩ ⟨l.take n ++ l.drop n, false⟩ := ⟨rfl, rfl⟩
      have := (tk_ext e0 3 hc).1
      rw [List.take_append_drop] at this
      have h3 : (gH (l.take n)).1 = (gH l).1 := this.symm
      rw [h3, hm]
      simp
    · rfl
  rw [hh]
  rfl
/-- .. and none with more behind -/
theorem read_more {l : List (BitVec 8)} {x : BitVec 8} (hs : (gC l).2.s = false) (hm : (gH l).1 = magic) : readI (l ++ [x]) = (zeroIm, 2) := by
  obtain ⟨h1, h2, h3, h4, h5, h6⟩ := ran_ext (t := [x]) hs
  unfold readI
  rw [h1, h2, hm, h6, hs, h5]
  simp
end Go.Proofs.Ytkohichiojmakaa.Byt
