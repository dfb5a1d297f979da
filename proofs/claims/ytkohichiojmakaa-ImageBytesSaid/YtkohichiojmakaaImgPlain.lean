/-
  PLAIN: images (chapter 22): which may be. No Go here.
-/
import Derived.Test.YtkohichiojmakaaPatPlain
import Derived.Test.YtkohichiojmakaaA64Decode
namespace Go.Proofs.Ytkohichiojmakaa.Img
set_option linter.unusedVariables false
set_option linter.unusedSimpArgs false
open A64 A64P A64H Pat

theorem dec_case (W : BitVec 32) : (A64.decode W).2 = 8 ∧ (A64.decode W).1 = zeroIn ∨ (A64.decode W).2 = 0 ∧ okIn (A64.decode W).1 ∧ encode (A64.decode W).1 = (W, 0) ∧ right (A64.decode W).1 = true := by
  unfold A64.decode
  cases h : kindOf W with
  | none => exact .inl ⟨rfl, rfl⟩
  | some k =>
    obtain ⟨hk, he, hr⟩ := encode_decode W k h
    exact .inr ⟨rfl, okIn_dec k W hk, he, hr⟩
theorem form_n : ∀ k : Nat, k < 24 → (form k).n.2 ≤ 26 := by decide +kernel
theorem right_n {i : In} (h : right i = true) : -4294967296 ≤ i.n ∧ i.n ≤ 4294967296 := by
  unfold right at h
  simp only [Bool.and_eq_true, decide_eq_true_eq] at h
  obtain ⟨hk, hr⟩ := h
  have hf := form_n i.kind.toNat (by omega)
  unfold rightF at hr
  simp only [Bool.and_eq_true] at hr
  obtain ⟨⟨_, hn⟩, _⟩ := hr
  generalize form i.kind.toNat = f at *
  have p1 : ∀ n : Nat, n ≤ 26 → (2 : Int) ^ n ≤ 67108864 := by decide +kernel
  unfold fitN at hn
  cases hs : f.signed
  · rw [hs, if_neg Bool.false_ne_true] at hn
    unfold Fld.fits at hn
    have := of_decide_eq_true hn
    have := p1 _ hf
    omega
  · rw [hs, if_pos rfl] at hn
    unfold Fld.fitsS at hn
    split at hn
    · have := of_decide_eq_true hn
      omega
    · have := of_decide_eq_true hn
      have := p1 (f.n.2 - 1) (by omega)
      have e : -(2 : Int) ^ (f.n.2 - 1) = -((2 : Int) ^ (f.n.2 - 1)) := rfl
      omega
theorem dec_n (W : BitVec 32) : -4294967296 ≤ (A64.decode W).1.n ∧ (A64.decode W).1.n ≤ 4294967296 := by
  rcases dec_case W with ⟨_, h⟩ | ⟨_, _, _, h⟩
  · rw [h]; decide
  · exact right_n h

/-- the word at a place is an instruction, and leads to one if it is a branch -/
def codeAt (N : Nat) (at_ : Nat) (W : BitVec 32) : Bool := (A64.decode W).2 == 0 && !(br (A64.decode W).1.kind && !(decide (0 ≤ (at_ : Int) + (A64.decode W).1.n) && decide ((at_ : Int) + (A64.decode W).1.n < N)))
def codeTo (l : List (BitVec 32)) (k : Nat) : Bool := (List.range k).all fun j => codeAt l.length j (l.getD j 0)
def codeOk (l : List (BitVec 32)) : Bool := codeTo l l.length
theorem codeTo_succ (l : List (BitVec 32)) (k : Nat) : codeTo l (k + 1) = (codeTo l k && codeAt l.length k (l.getD k 0)) := by
  unfold codeTo; rw [List.range_succ, List.all_append]; simp
theorem codeOk_bad {l : List (BitVec 32)} {k : Nat} (h : k < l.length) (hb : codeAt l.length k (l.getD k 0) = false) : codeOk l = false := by
  unfold codeOk codeTo
  rw [List.all_eq_false]
  exact ⟨k, List.mem_range.2 h, by simpa using hb⟩

structure Im where
  words : Int
  start : Int
  entry : List Int
  code : List (BitVec 32)
def inCode (N : Nat) (x : Int) : Bool := decide (0 ≤ x) && decide (x < N)
def sizes (x : Im) : Bool := decide (0 ≤ x.words) && decide (x.words ≤ 64) && decide (1 ≤ x.entry.length) && decide (x.entry.length ≤ 4) && decide (x.code.length ≤ 20000)
def right' (x : Im) : Bool := sizes x && ((x.start :: x.entry).all (inCode x.code.length) && codeOk x.code)
theorem right_size {x : Im} (h : sizes x = false) : right' x = false := by unfold right'; rw [h]; rfl
theorem right_place {x : Im} {k : Nat} (hk : k < (x.start :: x.entry).length) (h : inCode x.code.length ((x.start :: x.entry).getD k 0) = false) : right' x = false := by
  unfold right'
  rw [List.all_eq_false.2 ⟨(x.start :: x.entry).getD k 0, by simp only [List.getD, List.getElem?_eq_getElem hk, Option.getD_some]; exact List.getElem_mem hk, by rw [h]; exact Bool.false_ne_true⟩]
  simp
theorem right_code {x : Im} (hs : sizes x = true) (h : ∀ k, k < (x.start :: x.entry).length → inCode x.code.length ((x.start :: x.entry).getD k 0) = true) : right' x = codeOk x.code := by
  unfold right'
  rw [hs, List.all_eq_true.2 fun y hy => ?_]
  · rfl
  · obtain ⟨k, hk, rfl⟩ := List.getElem_of_mem hy
    have := h k hk
    simpa only [List.getD, List.getElem?_eq_getElem hk, Option.getD_some] using this
end Go.Proofs.Ytkohichiojmakaa.Img
