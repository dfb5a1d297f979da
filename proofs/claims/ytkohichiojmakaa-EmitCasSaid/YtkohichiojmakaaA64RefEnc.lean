/-
  WALK: the document's Encode.
-/
import Derived.Test.YtkohichiojmakaaA64RefTop
namespace Go.Proofs.Ytkohichiojmakaa.A64G
set_option linter.unusedVariables false
set_option linter.unusedSimpArgs false
open Go.RowKit Cm Mm Ow A64 Fld FldW FldR A64W A64P A64C A64T A64R A64E A64F A64Q

theorem rpp_any (W : BitVec 32) (x : Bt) (v : Int) (w : World) (h : x.1 + x.2 ≤ 32) : Calls Try.prog 64 #[.int .u32 (W.toNat : Int), .int .i64 (x.1 : Nat), .int .i64 (x.2 : Nat), .int .i64 v] w fun e w' => e = .returned (.int .u32 ((putF W x v).toNat : Int)) ∧ w = w' := by
  have := rput_any (W.toNat : Int) W (x.1 : Int) (x.2 : Int) v w rfl (by omega) (by omega) (by omega) (by omega)
  rwa [ca_nat (by omega), cn_nat h] at this
theorem q_all {P : Program} {f : FuncId} {args : Array Value} {v : Value} (h : ∀ w : World, Calls P f args w fun e w' => e = .returned v ∧ w = w') (w : World) (n : Nat) :
    Calls P f args (w.drewN n) fun e w'' => e = .returned v ∧ ∃ m, w'' = w.drewN m := quiet_left (h _)
theorem q_all2 {P : Program} {f : FuncId} {args : Array Value} {v : Value} (h : ∀ w : World, Calls P f args w fun e w' => e = .returned v ∧ w = w') (w : World) (a n : Nat) :
    Calls P f args (w.drewN (a + n)) fun e w'' => e = .returned v ∧ ∃ m, w'' = w.drewN (a + m) := quiet_add_left (h _)

set_option maxRecDepth 20000 in
set_option maxHeartbeats 6400000 in
theorem rencode_any (i : In) (w : World) (hi : okIn i) :
    Calls Try.prog 37 #[.agg #[.int .i64 i.kind, .int .i64 i.d, .int .i64 i.a, .int .i64 i.b, .int .i64 i.s, .int .i64 i.c, .int .i64 i.n]] w fun e w' => e = .returned (.tuple #[.int .u32 ((encode i).1.toNat : Int), .int .i64 (encode i).2]) ∧ Below w.heap.size w w' := by
  obtain ⟨W, hW⟩ : ∃ W, W = w.alloc (.cells #[.int .i64 i.kind, .int .i64 i.d, .int .i64 i.a, .int .i64 i.b, .int .i64 i.s, .int .i64 i.c, .int .i64 i.n] 45) := ⟨_, rfl⟩
  have hB : Below w.heap.size w W := by rw [hW]; exact (Below.refl _ _).alloc (Nat.le_refl _) _
  have hV : Vi W w.heap.size i := by rw [hW]; exact vi_new _ _ _ _ rfl
  have HV := Lib.hid hV
  have HW := Lib.hid hW
  have HI := Lib.hid hi
  clear hV hW hi
  cases hr : right i
  · have he : encode i = (0, 1) := by unfold encode; rw [hr]; rfl
    have he := Lib.hid he
    go_enter Try.func37, Try.ntmps37
    go_wp2_with fail
    rw [← HW.out]
    refine (rright_any i _ HI.out).mono ?_
    rintro e w2 ⟨rfl, hb2⟩
    rw [hr]
    go_wp2_with fail
    go_ret2
    exact ⟨by rw [he.out]; rfl, hB.trans (hb2.mono hB.size)⟩
  · obtain ⟨k, hk24, hk, hrf⟩ := right_kind hr
    have he := encode_of k i hk24 hk hrf
    have hg := good_all k hk24
    have FO := fun w => formOf_at (form k) i.kind k w hk24 hk rfl
    generalize form k = f at *
    simp only [good, inside, Bool.and_eq_true, decide_eq_true_eq] at hg
    obtain ⟨⟨⟨⟨⟨⟨⟨⟨⟨⟨⟨l1, l2⟩, l3⟩, l4⟩, l5⟩, l6⟩, _⟩, _⟩, _⟩, _⟩, _⟩, ht⟩ := hg
    have hd : encF f i = putF (putF (putF (putF (putF (putF f.word f.d i.d) f.a i.a) f.b i.b) f.s i.s) f.n i.n) f.c (if f.turned then bits .xor .i64 i.c 1 else i.c) := rfl
    rw [hd] at he
    have HE := Lib.hid he
    have FO := Lib.hid FO
    have P1 := Lib.hid fun W v w => rpp_any W f.d v w l1
    have P2 := Lib.hid fun W v w => rpp_any W f.a v w l2
    have P3 := Lib.hid fun W v w => rpp_any W f.b v w l3
    have P4 := Lib.hid fun W v w => rpp_any W f.s v w l4
    have P5 := Lib.hid fun W v w => rpp_any W f.n v w l5
    have P6 := Lib.hid fun W v w => rpp_any W f.c v w l6
    clear l1 l2 l3 l4 l5 l6 ht hd he hrf hk
    cases htn : f.turned
    all_goals
      rw [htn] at HE
      simp only [if_true, if_false, Bool.false_eq_true] at HE
      go_enter Try.func37, Try.ntmps37
      go_wp2_with fail
      rw [← HW.out]
      refine (rright_any i _ HI.out).mono ?_
      rintro e w2 ⟨rfl, hb2⟩
      rw [hr]
      obtain ⟨c0, c1, c2, c3, c4, c5, c6⟩ := (HV.out.keep hb2).cells
      go_wp2_with fail
      refine (FO.out _).mono ?_
      rintro e w3 ⟨rfl, hb3⟩
      clear c0 c1 c2 c3 c4 c5 c6
      obtain ⟨c0, c1, c2, c3, c4, c5, c6⟩ := ((HV.out.keep hb2).keep hb3).cells
      have hlt := ((HV.out.keep hb2).keep hb3).lt
      go_wp2_with fail
      refine (P1.out f.word _ _).mono ?_
      rintro e w' ⟨rfl, rfl⟩
      go_wp2_with fail
      generalize putF f.word f.d i.d = W1 at *
      have A2 := Lib.hid (P2.out W1 i.a)
      have A3 := Lib.hid (P3.out (putF W1 f.a i.a) i.b)
      go_quiet ((first | (with_reducible exact q_all A2.out _ _) | (with_reducible exact q_all A3.out _ _)))
      clear A2 A3
      go_wp2_with fail
      generalize putF (putF W1 f.a i.a) f.b i.b = W3 at *
      have A4 := Lib.hid (P4.out W3 i.s)
      have A5 := Lib.hid (P5.out (putF W3 f.s i.s) i.n)
      go_quiet ((first | (with_reducible exact q_all2 A4.out _ _ _) | (with_reducible exact q_all2 A5.out _ _ _)))
      go_wp2_with fail
      refine (P6.out _ _ _).mono ?_
      rintro e w' ⟨rfl, rfl⟩
      go_wp2_with fail
      go_ret2
      exact ⟨by rw [HE.out]; rfl, by
        refine (hB.trans (hb2.mono hB.size)).trans ((hb3.trans ?_).mono (Nat.le_trans hB.size hb2.size))
        exact (below_drewN ((Below.refl _ _).alloc (Nat.le_refl _) _) _).mono hb3.size⟩
end Go.Proofs.Ytkohichiojmakaa.A64G
