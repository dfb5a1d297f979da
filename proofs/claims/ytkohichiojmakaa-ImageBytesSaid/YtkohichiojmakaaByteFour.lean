/-
  WALKS: a number's four bytes, by the document.
-/
import Derived.Test.YtkohichiojmakaaByteRead
namespace Go.Proofs.Ytkohichiojmakaa.ByF
set_option linter.unusedVariables false
set_option linter.unusedSimpArgs false
open Go.RowKit Cm Mm Ow Ow2 Ow3 A64 A64W Pat InW PatW Img ImC ImR ImN ImW Byt ByW ByR

theorem elB : El Try.prog 37 5 1 1 := by
  obtain ⟨i, h1, h2, h3, h4⟩ := info_parts (P := Try.prog) (e := 5) (z := .int .u8 0) (size := 1) (bytes := 1) (by kernel_rfl)
  exact ⟨Try.underlying37, ⟨i, _, h1, h2, h3, h4, rfl⟩, by decide⟩
theorem isB_own {w : World} {B : Nat} {A : Option Addr} {n c : Nat} {l : List (BitVec 8)} (h : Own w B 5 1 A n c (l.map bvL)) : IsB w A n c l := by
  have hl : l.length = n := by simpa using h.len
  refine ⟨hl, h.sl.ext fun i hi => ?_⟩
  simp [List.getD, show i < l.length by omega]
def foA (n : BitVec 32) : Array Value := #[.int .u8 ((n.setWidth 8).toNat : Int), .int .u8 (((n >>> 8).setWidth 8).toNat : Int), .int .u8 (((n >>> 16).setWidth 8).toNat : Int), .int .u8 (((n >>> 24).setWidth 8).toNat : Int)]

theorem low8 (x : BitVec 32) : bits .and .u32 (x.toNat : Int) 255 % 256 = ((x.setWidth 8).toNat : Int) := by
  have h : bits .and .u32 (x.toNat : Int) ((255#32).toNat : Int) = ((x &&& 255#32).toNat : Int) := w32_and x 255#32
  have e : (((255#32).toNat : Nat) : Int) = 255 := rfl
  rw [e] at h
  rw [h, BitVec.toNat_and, BitVec.toNat_setWidth]
  have : x.toNat &&& (255#32).toNat = x.toNat % 256 := Nat.and_two_pow_sub_one_eq_mod x.toNat 8
  rw [this]
  omega
theorem shr_nat (n : BitVec 32) (k : Nat) : ((n >>> k).toNat : Int) = (n.toNat : Int) / ((2 ^ k : Nat) : Int) := by
  rw [BitVec.toNat_ushiftRight, Nat.shiftRight_eq_div_pow]
  rfl
theorem foA_eq (n : BitVec 32) : foA n = #[.int .u8 (bits .and .u32 (n.toNat : Int) 255 % 256), .int .u8 (bits .and .u32 ((n.toNat : Int) / 256) 255 % 256), .int .u8 (bits .and .u32 ((n.toNat : Int) / 65536) 255 % 256), .int .u8 ((n.toNat : Int) / 16777216)] := by
  have h1 := low8 (n >>> 8)
  have h2 := low8 (n >>> 16)
  rw [shr_nat] at h1 h2
  have h3 : (((n >>> 24).setWidth 8).toNat : Int) = (n.toNat : Int) / 16777216 := by
    rw [BitVec.toNat_setWidth]
    have := shr_nat n 24
    have hn := n.isLt
    omega
  unfold foA
  rw [low8 n, ← h1, ← h2, h3]
  rfl

set_option maxRecDepth 20000 in
set_option maxHeartbeats 1600000 in
theorem four_any (n : BitVec 32) (w : World) :
    Calls Try.prog 44 #[.int .u32 (n.toNat : Int)] w fun e w' => e = .returned (.slice (some ⟨w.heap.size, 0, none⟩) 4 4) ∧ w' = w.alloc (.cells (foA n) 5) := by
  go_enter Try.func44, Try.ntmps44
  go_wp2_with fail
  go_ret
  exact ⟨rfl, by rw [foA_eq]⟩
/-- the four bytes, as a slice -/
theorem isB_four (n : BitVec 32) (w : World) : IsB (w.alloc (.cells (foA n) 5)) (some ⟨w.heap.size, 0, none⟩) 4 4 (four n) :=
  ⟨rfl, Nat.le_refl _, by unfold maxLen; omega, fun _ => ⟨w.heap.size, 0, rfl, by simp, fun i hi j hj => by
    obtain rfl : j = 0 := by simp at hj; omega
    match i, hi with
    | 0, _ => simp [foA, four, bvL]
    | 1, _ => simp [foA, four, bvL]
    | 2, _ => simp [foA, four, bvL]
    | 3, _ => simp [foA, four, bvL]⟩⟩
end Go.Proofs.Ytkohichiojmakaa.ByF
