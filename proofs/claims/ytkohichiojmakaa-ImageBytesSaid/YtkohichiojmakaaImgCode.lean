/-
  WALK: image.code: all words are instructions, and branches lead to one.
-/
import Derived.Test.YtkohichiojmakaaImgPlain
import Derived.Test.YtkohichiojmakaaInWalks
namespace Go.Proofs.Ytkohichiojmakaa.ImC
set_option linter.unusedVariables false
set_option linter.unusedSimpArgs false
open Go.RowKit Cm Mm Ow A64 A64W A64P A64H Pat InW Img

theorem at_bad {N k : Nat} {W : BitVec 32} (h : (A64.decode W).2 = 8) : codeAt N k W = false := by unfold codeAt; rw [h]; rfl
theorem at_no {N k : Nat} {W : BitVec 32} (h : (A64.decode W).2 = 0) (hb : br (A64.decode W).1.kind = false) : codeAt N k W = true := by unfold codeAt; rw [h, hb]; rfl
theorem at_br {N k : Nat} {W : BitVec 32} (h : (A64.decode W).2 = 0) (hb : br (A64.decode W).1.kind = true) : codeAt N k W = (decide (0 ≤ (k : Int) + (A64.decode W).1.n) && decide ((k : Int) + (A64.decode W).1.n < N)) := by unfold codeAt; rw [h, hb]; simp

set_option maxRecDepth 20000 in
set_option maxHeartbeats 3200000 in
theorem code_any (A : Option Addr) (n cap : Nat) (l : List (BitVec 32)) (w : World) (h : IsWd w A n cap l) (hn : n ≤ 65536) :
    Calls Try.prog 45 #[.slice A n cap] w fun e w' => e = .returned (.bool (codeOk l)) ∧ Below w.heap.size w w' := by
  have hl := Lib.hid h.1
  have HS := Lib.hid h
  clear h
  go_enter Try.func45, Try.ntmps45
  go_wp2
  go_loopw [10] (fun i wr => ∃ (k : Nat), k ≤ n ∧ i = .int .i64 k ∧ Hid (codeTo l k = true) ∧ Below w.heap.size w wr) (fun i _ => n - (intOf i).toNat)
  case atStart => exact ⟨0, by omega, rfl, rfl, Below.refl _ _⟩
  case round =>
    obtain ⟨k, hk, rfl, HW, hbel⟩ := hrel
    have hsz := hbel.size
    by_cases hkn : k < n
    · have hos := Lib.hid (codeTo_succ l k)
      have hbad := Lib.hid (fun h => codeOk_bad (l := l) (k := k) (by have := hl.out; omega) h)
      obtain ⟨b, o, rfl, hb, s0⟩ := (HS.out.keep hbel).cell (k := k) hkn
      generalize l.getD k 0 = W at *
      have D := fun w => decode_any W w
      have hdn := dec_n W
      have c1 := at_bad (N := l.length) (k := k) (W := W)
      have c2 := at_no (N := l.length) (k := k) (W := W)
      have c3 := at_br (N := l.length) (k := k) (W := W)
      have hdc : (A64.decode W).2 = 8 ∨ (A64.decode W).2 = 0 := by rcases dec_case W with h | h; exact .inl h.1; exact .inr h.1
      generalize (A64.decode W).2 = e2 at *
      generalize (A64.decode W).1 = s at *
      obtain ⟨s0_, s1_, s2_, s3_, s4_, s5_, s6_⟩ := s
      dsimp only at D hdn c1 c2 c3
      have D := Lib.hid D
      have HBel := Lib.hid hbel
      obtain ⟨d1, d2⟩ := hdn
      have hwr : Hid (IntKind.i64.wrap ((k : Int) + s6_) = k + s6_) := Lib.hid (IntWalk.i64_in _ ⟨by omega, by omega⟩)
      clear hbel
      rcases hdc with rfl | rfl
      · have hbb := Lib.hid (hbad.out (c1 rfl))
        clear c1 c2 c3
        go_wp2_with fail
        refine (D.out _).mono ?_
        rintro e w2 ⟨rfl, hb2⟩
        have B2 := HBel.out.trans (hb2.mono hsz)
        have B2' := B2.alloc (Nat.le_trans hsz hb2.size) (.cells #[.int .i64 s0_, .int .i64 s1_, .int .i64 s2_, .int .i64 s3_, .int .i64 s4_, .int .i64 s5_, .int .i64 s6_] 45)
        go_wp2_with fail
        go_ret
        exact ⟨retb (by rw [hbb.out]), B2'⟩
      · have c2 := c2 rfl
        have c3 := c3 rfl
        clear c1
        cases hbr : br s0_
        · have hgood := Lib.hid (c2 hbr)
          clear c2 c3
          have hbr' : ¬ (8 ≤ s0_ ∧ s0_ ≤ 11) := fun h => by unfold br at hbr; rw [decide_eq_true h.1, decide_eq_true h.2] at hbr; cases hbr
          obtain q | ⟨q, q2⟩ : s0_ < 8 ∨ (8 ≤ s0_ ∧ 11 < s0_) := by omega
          all_goals
            clear hbr'
            go_wp2_with fail
            refine (D.out _).mono ?_
            rintro e w2 ⟨rfl, hb2⟩
            have B2 := HBel.out.trans (hb2.mono hsz)
            have B2' := B2.alloc (Nat.le_trans hsz hb2.size) (.cells #[.int .i64 s0_, .int .i64 s1_, .int .i64 s2_, .int .i64 s3_, .int .i64 s4_, .int .i64 s5_, .int .i64 s6_] 45)
            have hwr2 := hwr.out
            go_wp2_with fail
            go_roundw
            case rel => exact ⟨k + 1, by omega, by go_num, by show codeTo l (k + 1) = true; rw [hos.out, hgood.out, HW]; rfl, B2'⟩
            case measure => simp [intOf]; omega
        · have c3 := c3 hbr
          clear c2
          have q : 8 ≤ s0_ := by
            unfold br at hbr; simp only [Bool.and_eq_true, decide_eq_true_eq] at hbr; exact hbr.1
          have q2 : s0_ ≤ 11 := by
            unfold br at hbr; simp only [Bool.and_eq_true, decide_eq_true_eq] at hbr; exact hbr.2
          by_cases y0 : 0 ≤ (k : Int) + s6_
          · by_cases y1 : (k : Int) + s6_ < n
            · have hgood : Hid (codeAt l.length k W = true) := Lib.hid (by rw [c3, hl.out, decide_eq_true y0, decide_eq_true y1]; rfl)
              clear c3
              go_wp2_with fail
              refine (D.out _).mono ?_
              rintro e w2 ⟨rfl, hb2⟩
              have B2 := HBel.out.trans (hb2.mono hsz)
              have B2' := B2.alloc (Nat.le_trans hsz hb2.size) (.cells #[.int .i64 s0_, .int .i64 s1_, .int .i64 s2_, .int .i64 s3_, .int .i64 s4_, .int .i64 s5_, .int .i64 s6_] 45)
              have hwr2 := hwr.out
              go_wp2_with fail
              go_roundw
              case rel => exact ⟨k + 1, by omega, by go_num, by show codeTo l (k + 1) = true; rw [hos.out, hgood.out, HW]; rfl, B2'⟩
              case measure => simp [intOf]; omega
            · have hbb := Lib.hid (hbad.out (by rw [c3, hl.out, decide_eq_false y1, Bool.and_false]))
              clear c3
              go_wp2_with fail
              refine (D.out _).mono ?_
              rintro e w2 ⟨rfl, hb2⟩
              have B2 := HBel.out.trans (hb2.mono hsz)
              have B2' := B2.alloc (Nat.le_trans hsz hb2.size) (.cells #[.int .i64 s0_, .int .i64 s1_, .int .i64 s2_, .int .i64 s3_, .int .i64 s4_, .int .i64 s5_, .int .i64 s6_] 45)
              have hwr2 := hwr.out
              go_wp2_with fail
              go_ret
              exact ⟨retb (by rw [hbb.out]), B2'⟩
          · have hbb := Lib.hid (hbad.out (by rw [c3, decide_eq_false y0]; rfl))
            clear c3
            go_wp2_with fail
            refine (D.out _).mono ?_
            rintro e w2 ⟨rfl, hb2⟩
            have B2 := HBel.out.trans (hb2.mono hsz)
            have B2' := B2.alloc (Nat.le_trans hsz hb2.size) (.cells #[.int .i64 s0_, .int .i64 s1_, .int .i64 s2_, .int .i64 s3_, .int .i64 s4_, .int .i64 s5_, .int .i64 s6_] 45)
            have hwr2 := hwr.out
            go_wp2_with fail
            go_ret
            exact ⟨retb (by rw [hbb.out]), B2'⟩
    · obtain rfl : k = n := by omega
      have e : codeOk l = true := by unfold codeOk; rw [hl.out]; exact HW
      go_wp2_with fail
      go_ret
      exact ⟨retb e.symm, hbel⟩
end Go.Proofs.Ytkohichiojmakaa.ImC
