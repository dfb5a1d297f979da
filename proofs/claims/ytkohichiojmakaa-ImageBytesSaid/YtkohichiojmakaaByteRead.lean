/-
  WALK: image.Read.
-/
import Derived.Test.YtkohichiojmakaaByteWalk
import Derived.Lib.SlBytesRow
namespace Go.Proofs.Ytkohichiojmakaa.ByR
set_option linter.unusedVariables false
set_option linter.unusedSimpArgs false
open Go.RowKit Cm Mm Ow Ow2 Ow3 A64 A64W Pat InW PatW Img ImC ImR ImN ImW Byt ByW

def strB (l : List (BitVec 8)) : ByteArray := ⟨(l.map UInt8.ofBitVec).toArray⟩
theorem strB_size (l : List (BitVec 8)) : (strB l).size = l.length := by simp [strB, ByteArray.size]
theorem strB_get (l : List (BitVec 8)) (i : Nat) (hi : i < l.length) : ((strB l)[i]'(by rw [strB_size]; exact hi)).toNat = (l[i]).toNat := by
  have e : (strB l)[i]'(by rw [strB_size]; exact hi) = UInt8.ofBitVec l[i] := by
    show (strB l).data[i]'_ = _
    simp [strB]
  rw [e]
  rfl
theorem ofB (l : List (BitVec 8)) : (l.map UInt8.ofBitVec).map UInt8.toBitVec = l := by
  rw [List.map_map]
  exact List.map_id _
theorem strB_inj {a b : List (BitVec 8)} (h : strB a = strB b) : a = b := by
  unfold strB at h
  injection h with h
  have h2 : a.map UInt8.ofBitVec = b.map UInt8.ofBitVec := by simpa using congrArg Array.toList h
  have h3 := congrArg (List.map UInt8.toBitVec) h2
  rwa [ofB, ofB] at h3
set_option maxRecDepth 20000 in
theorem conv_any {w : World} {A : Option Addr} {n c : Nat} {l : List (BitVec 8)} (h : IsB w A n c l) (hn : n = 0 → A = none) : (convert 37 9 (.slice A n c)).run Try.prog w = .ok (.string (strB l)) w := by
  cases A with
  | none =>
    obtain ⟨rfl, rfl⟩ := isB_none h
    exact Go.Lib.run_convert_nil_bytes w _ _ _ c Try.underlying37 Try.underlying5 Try.underlying9
  | some a =>
    have h0 : 0 < n := by
      rcases Nat.eq_zero_or_pos n with h1 | h1
      · have := hn h1; cases this
      · exact h1
    obtain ⟨b, o, e, hb, hc⟩ := h.2.at_ h0
    injection e with e
    subst e
    have hl := h.1
    have := Go.Lib.run_convert_whole (P := Try.prog) w 37 5 9 Try.underlying37 Try.underlying5 Try.underlying9 b o (strB l) (fun i hi => by
      rw [strB_size] at hi
      have := hc i (by omega) 0 (by omega)
      simp only [Nat.mul_one, Nat.add_zero, bvL] at this
      rw [this, strB_get l i hi]
      simp [List.getD, hi]) c
    rw [strB_size, hl] at this
    exact this

/-- while an image is read -/
structure RSt (w wr : World) (x y : Int) (E : Option Addr) (j ec : Nat) (en : List Int) (C : Value) (q : Rs) (A0 : Option Addr) (n0 : Nat) (A : Option Addr) (n cap : Nat) : Prop where
  X : Xm wr (w.heap.size + 2) x y (.slice E j ec) C
  OE : Own wr (w.heap.size + 3) 3 1 E j ec (en.map ivL)
  Z : Zi wr w.heap.size
  R : RB wr (w.heap.size + 1) q A n cap
  nle : n ≤ n0
  sub : ∀ g, A.map (·.block) = some g → A0.map (·.block) = some g
  B : Below w.heap.size w wr
theorem RSt.be {w wr w' : World} {x y : Int} {E : Option Addr} {j ec : Nat} {en : List Int} {C : Value} {q : Rs} {A0 : Option Addr} {n0 : Nat} {A : Option Addr} {n cap : Nat} (h : RSt w wr x y E j ec en C q A0 n0 A n cap)
    (b : Be wr w' (w.heap.size + 1)) {q' : Rs} {A' : Option Addr} {n' cap' : Nat} (hR : RB w' (w.heap.size + 1) q' A' n' cap') (hn : n' ≤ n) (hs : ∀ g, A'.map (·.block) = some g → A.map (·.block) = some g) : RSt w w' x y E j ec en C q' A0 n0 A' n' cap' := by
  have hz := h.X.lt
  have := h.nle
  exact ⟨h.X.same (b.same _ hz (by omega)), own_same h.OE (fun g hg => b.same g (h.OE.lt g hg).2 (by have := (h.OE.lt g hg).1; omega)), h.Z.same (b.same _ (by omega) (by omega)), hR, by omega, fun g hg => h.sub g (hs g hg), h.B.trans (b.below _ (by omega))⟩
theorem RSt.set1 {w wr : World} {x y : Int} {E : Option Addr} {j ec : Nat} {en : List Int} {C : Value} {q : Rs} {A0 : Option Addr} {n0 : Nat} {A : Option Addr} {n cap : Nat} (h : RSt w wr x y E j ec en C q A0 n0 A n cap) (hA : 0 < n0 → ∀ g, A0.map (·.block) = some g → g < w.heap.size) (y' : Int) :
    RSt w (wr.setCell ⟨w.heap.size + 2, 1, none⟩ (.int .i64 y')) x y' E j ec en C q A0 n0 A n cap := by
  have hz := h.X.lt
  have := h.nle
  have hs : ∀ b, b ≠ w.heap.size + 2 → (wr.setCell ⟨w.heap.size + 2, 1, none⟩ (.int .i64 y')).heap[b]? = wr.heap[b]? := fun b hb => Below.heap_setCell _ _ _ _ (by simpa using hb)
  exact ⟨h.X.set1 y', own_same h.OE (fun g hg => hs g (by have := (h.OE.lt g hg).1; omega)), h.Z.same (hs _ (by omega)), rb_blk h.R (by simp [World.setCell]) (hs _ (by omega)) (fun h0 g hg => hs g (by have := hA (by omega) g (h.sub g hg); omega)), h.nle, h.sub, h.B.setCell (p := ⟨w.heap.size + 2, 1, none⟩) (by show w.heap.size ≤ w.heap.size + 2; omega) _⟩
theorem RSt.set3 {w wr : World} {x y : Int} {E : Option Addr} {j ec : Nat} {en : List Int} {C : Value} {q : Rs} {A0 : Option Addr} {n0 : Nat} {A : Option Addr} {n cap : Nat} (h : RSt w wr x y E j ec en C q A0 n0 A n cap) (hA : 0 < n0 → ∀ g, A0.map (·.block) = some g → g < w.heap.size) (C' : Value) :
    RSt w (wr.setCell ⟨w.heap.size + 2, 3, none⟩ C') x y E j ec en C' q A0 n0 A n cap := by
  have hz := h.X.lt
  have := h.nle
  have hs : ∀ b, b ≠ w.heap.size + 2 → (wr.setCell ⟨w.heap.size + 2, 3, none⟩ C').heap[b]? = wr.heap[b]? := fun b hb => Below.heap_setCell _ _ _ _ (by simpa using hb)
  exact ⟨h.X.set3 C', own_same h.OE (fun g hg => hs g (by have := (h.OE.lt g hg).1; omega)), h.Z.same (hs _ (by omega)), rb_blk h.R (by simp [World.setCell]) (hs _ (by omega)) (fun h0 g hg => hs g (by have := hA (by omega) g (h.sub g hg); omega)), h.nle, h.sub, h.B.setCell (p := ⟨w.heap.size + 2, 3, none⟩) (by show w.heap.size ≤ w.heap.size + 2; omega) _⟩
/-- an entry told -/
theorem RSt.ent {w wr w4 : World} {x y z : Int} {E A4 : Option Addr} {j ec c4 : Nat} {en : List Int} {C : Value} {q : Rs} {A0 : Option Addr} {n0 : Nat} {A : Option Addr} {n cap : Nat} (h : RSt w wr x y E j ec en C q A0 n0 A n cap) (hA : 0 < n0 → ∀ g, A0.map (·.block) = some g → g < w.heap.size)
    (hown : Own w4 (w.heap.size + 3) 3 1 A4 (j + 1) c4 (en.map ivL ++ [ivL z])) (hbel : Below (w.heap.size + 3) wr w4) (hkp : ∀ b, b < wr.heap.size → E.map (·.block) ≠ some b → w4.heap[b]? = wr.heap[b]?) :
    Xm w4 (w.heap.size + 2) x y (.slice E j ec) C ∧ RSt w (w4.setCell ⟨w.heap.size + 2, 2, none⟩ (.slice A4 (j + 1) c4)) x y A4 (j + 1) c4 (en ++ [z]) C q A0 n0 A n cap := by
  have hz := h.X.lt
  have := h.nle
  have hE : ∀ b, b < w.heap.size + 3 → E.map (·.block) ≠ some b := fun b hb e => by have := (h.OE.lt b e).1; omega
  have k := fun b (hb : b < w.heap.size + 3) => hkp b (by omega) (hE b hb)
  have X4 := h.X.same (k _ (by omega))
  have hs : ∀ b, b ≠ w.heap.size + 2 → (w4.setCell ⟨w.heap.size + 2, 2, none⟩ (.slice A4 (j + 1) c4)).heap[b]? = w4.heap[b]? := fun b hb => Below.heap_setCell _ _ _ _ (by simpa using hb)
  have hg0 : 0 < n → ∀ g, A.map (·.block) = some g → g < w.heap.size := fun h0 g hg => hA (by omega) g (h.sub g hg)
  refine ⟨X4, X4.set2 _, ?_, (h.Z.same (k _ (by omega))).same (hs _ (by omega)), rb_blk (rb_blk h.R hbel.size (k _ (by omega)) (fun h0 g hg => k g (by have := hg0 h0 g hg; omega))) (by simp [World.setCell]) (hs _ (by omega)) (fun h0 g hg => hs g (by have := hg0 h0 g hg; omega)), h.nle, h.sub, (h.B.trans (hbel.mono (by omega))).setCell (p := ⟨w.heap.size + 2, 2, none⟩) (by show w.heap.size ≤ w.heap.size + 2; omega) _⟩
  rw [List.map_append]
  exact own_same hown (fun g hg => hs g (by have := (hown.lt g hg).1; omega))
end Go.Proofs.Ytkohichiojmakaa.ByR
