/-
  WALKS: the program's run of steps: what is no action.
-/
import Derived.Test.YtapnnbbbgopobaaG27
set_option linter.unusedVariables false
set_option linter.unusedSimpArgs false
namespace Go.Proofs.Ytapnnbbbgopobaa.Pq
open Go.RowKit Cm Mm Ow Ow2 Me Stp StW Rm Sp Sr Pn Pa
open Sc (Stc)
theorem flag_any (b : Bool) (w : World) : Calls Try.prog 92 #[.bool b] w fun e w' => e = .returned (.int .u64 (bitV b)) ∧ w = w' := by
  cases b
  · go_enter Try.func92, Try.ntmps92
    go_wp2
    go_ret
    exact ⟨rfl, rfl⟩
  · go_enter Try.func92, Try.ntmps92
    go_wp2
    go_ret
    exact ⟨rfl, rfl⟩
set_option maxHeartbeats 1600000 in
theorem reckon_any (o a b : Int) (w : World) : Calls Try.prog 80 #[.int .u8 o, .int .u64 a, .int .u64 b] w fun e w' => e = .returned (.int .u64 (opV o a b)) ∧ w = w' := by
  obtain h | h | h | h | h | h | ⟨h1, h2, h3, h4, h5, h6⟩ : o = 43 ∨ o = 45 ∨ o = 42 ∨ o = 38 ∨ o = 61 ∨ o = 60 ∨ (¬ o = 43 ∧ ¬ o = 45 ∧ ¬ o = 42 ∧ ¬ o = 38 ∧ ¬ o = 61 ∧ ¬ o = 60) := by omega
  all_goals try subst h
  · have HR := Lib.hid (show opV 43 a b = (a + b) % 18446744073709551616 from rfl)
    go_enter Try.func80, Try.ntmps80
    go_wp2
    go_ret
    exact ⟨ret1 HR.out.symm, rfl⟩
  · have HR := Lib.hid (show opV 45 a b = (a - b) % 18446744073709551616 from rfl)
    go_enter Try.func80, Try.ntmps80
    go_wp2
    go_ret
    exact ⟨ret1 HR.out.symm, rfl⟩
  · have HR := Lib.hid (show opV 42 a b = (a * b) % 18446744073709551616 from rfl)
    go_enter Try.func80, Try.ntmps80
    go_wp2
    go_ret
    exact ⟨ret1 HR.out.symm, rfl⟩
  · have HR := Lib.hid (show opV 38 a b = bits .and .u64 a b from rfl)
    go_enter Try.func80, Try.ntmps80
    go_wp2
    go_ret
    exact ⟨ret1 HR.out.symm, rfl⟩
  · have HR := Lib.hid (show opV 61 a b = bitV (a == b) from rfl)
    go_enter Try.func80, Try.ntmps80
    go_wp2_with fail
    refine (flag_any _ _).mono ?_
    rintro e w2 ⟨rfl, rfl⟩
    go_wp2_with fail
    go_ret
    exact ⟨ret1 HR.out.symm, rfl⟩
  · have HR := Lib.hid (show opV 60 a b = bitV (decide (wrap64 a < wrap64 b)) from rfl)
    go_enter Try.func80, Try.ntmps80
    go_wp2_with fail
    refine (flag_any _ _).mono ?_
    rintro e w2 ⟨rfl, rfl⟩
    go_wp2_with fail
    go_ret
    exact ⟨ret1 HR.out.symm, rfl⟩
  · have HR := Lib.hid (show opV o a b = 0 by unfold opV; rw [if_neg h1, if_neg h2, if_neg h3, if_neg h4, if_neg h5, if_neg h6])
    go_enter Try.func80, Try.ntmps80
    go_wp2
    go_ret
    exact ⟨ret1 HR.out.symm, rfl⟩
theorem reckon_still (o a b : Int) (w : World) : Calls Try.prog 80 #[.int .u8 o, .int .u64 a, .int .u64 b] w fun e w' => e = .returned (.int .u64 (opV o a b)) ∧ w' = w :=
  (reckon_any o a b w).mono fun _ _ h => ⟨h.1, h.2.symm⟩
theorem opV_u (o a b : Int) : isU (opV o a b) := by
  have hb : ∀ c : Bool, isU (bitV c) := fun c => by cases c <;> exact ⟨by decide, by decide⟩
  unfold opV
  repeat' split
  · exact ⟨by omega, by omega⟩
  · exact ⟨by omega, by omega⟩
  · exact ⟨by omega, by omega⟩
  · have w : bits .and .u64 a b = IntKind.u64.wrap ((BitVec.ofInt 64 a &&& BitVec.ofInt 64 b).toNat : Int) := rfl
    have w2 : IntKind.u64.wrap ((BitVec.ofInt 64 a &&& BitVec.ofInt 64 b).toNat : Int) = ((BitVec.ofInt 64 a &&& BitVec.ofInt 64 b).toNat : Int) % 18446744073709551616 := rfl
    rw [w, w2]
    exact ⟨by omega, by omega⟩
  · exact hb _
  · exact hb _
  · exact ⟨by decide, by decide⟩
theorem pact_no (s : St) {w : World} {q p : Nat} {H : Hp} {Fm Fo Fl : List Nat} {B : Option Addr} {bc : Nat} {O : Option Addr} {oc : Nat} {now out : List Int} {x y : Int} {A : Option Addr} {n cap : Nat} {V : Option Addr} {cv : Nat} {v : List Int} {a st : Int}
    (hF : Fop w q H Fm Fo B bc O oc now out) (hL : ThAt w p Fl x y A n cap V cv v a st) (hv : ∀ z ∈ v, isU z) (hk : isAct s.kind = false) :
    Calls Try.prog 62 #[.pointer (some ⟨q, 0, none⟩), .pointer (some ⟨p, 0, none⟩), .agg #[.int .i64 s.kind, .int .i64 s.d, .int .i64 s.a, .int .i64 s.b, .int .i64 s.c, .int .i64 s.to, .int .i64 s.cell, .int .u64 s.n, .int .u8 s.op]] w fun e w' => e = .returned (.bool false) ∧ Below w.heap.size w w' := by
  obtain ⟨W, hW⟩ : ∃ W, W = w.alloc (.cells #[.int .i64 s.kind, .int .i64 s.d, .int .i64 s.a, .int .i64 s.b, .int .i64 s.c, .int .i64 s.to, .int .i64 s.cell, .int .u64 s.n, .int .u8 s.op] 55) := ⟨_, rfl⟩
  have hB : Below w.heap.size w W := by rw [hW]; exact (Below.refl _ _).alloc (Nat.le_refl _) _
  have SS : Hid (Stc W w.heap.size s) := Lib.hid (by rw [hW]; exact Sc.Stc.new w s)
  have FF := Lib.hid (hF.keep hB)
  have LL := Lib.hid (hL.keep hB)
  have HW := Lib.hid hW
  have HB := Lib.hid hB
  have UA := Lib.hid (getV_u hv s.a)
  clear hW hB hF hL hv
  unfold isAct at hk
  simp only [Bool.or_eq_false_iff] at hk
  obtain ⟨⟨⟨b3, b4⟩, b5⟩, b8⟩ := hk
  have x0 := SS.out.c0
  have x2 := SS.out.c2
  go_enter Try.func62, Try.ntmps62
  go_upto_region 1 with (fail)
  rw [← HW.out]
  go_wp2_with fail
  refine (pget_any s.a W LL.out).mono ?_
  rintro e w1 ⟨rfl, rfl⟩
  go_wp2_with fail
  refine (word_any FF.out _ UA.out).mono ?_
  rintro e w1 ⟨rfl, rfl⟩
  go_wp2_with fail
  go_ret
  exact ⟨rfl, HB.out⟩
set_option maxRecDepth 20000 in
set_option maxHeartbeats 6400000 in
theorem pquiet_any (s : St) {w : World} {p : Nat} {Fl : List Nat} {now out : List Int} {x y : Int} {A : Option Addr} {n cap : Nat} {V : Option Addr} {cv : Nat} {v : List Int} {a : Nat} {st : Int} {c : List St}
    (hL : ThAt w p Fl x y A n cap V cv v a st) (hC : IsSt w A n cap c) (hA : 0 < n → ∀ g, A.map (·.block) = some g → g ∉ Fl) (hn : n ≤ 65536) (ha : a ≤ 65536) (hk : isAct s.kind = false) (hk2 : ¬ s.kind = 12) :
    Calls Try.prog 63 #[.pointer (some ⟨p, 0, none⟩), .agg #[.int .i64 s.kind, .int .i64 s.d, .int .i64 s.a, .int .i64 s.b, .int .i64 s.c, .int .i64 s.to, .int .i64 s.cell, .int .u64 s.n, .int .u8 s.op]] w fun e w' => e = .returned (.tuple #[]) ∧ ThAt w' p Fl x y A n cap V cv (quietV c s ⟨a + 1, v, now, out⟩).v (quietV c s ⟨a + 1, v, now, out⟩).at_ st ∧ Only Fl w w' := by
  obtain ⟨W, hW⟩ : ∃ W, W = w.alloc (.cells #[.int .i64 s.kind, .int .i64 s.d, .int .i64 s.a, .int .i64 s.b, .int .i64 s.c, .int .i64 s.to, .int .i64 s.cell, .int .u64 s.n, .int .u8 s.op] 55) := ⟨_, rfl⟩
  have hB : Below w.heap.size w W := by rw [hW]; exact (Below.refl _ _).alloc (Nat.le_refl _) _
  have SS : Hid (Stc W w.heap.size s) := Lib.hid (by rw [hW]; exact Sc.Stc.new w s)
  have LL := Lib.hid (hL.keep hB)
  have CC := Lib.hid (hC.keep hB)
  have HW := Lib.hid hW
  have HB := Lib.hid hB
  have hpF := Lib.hid hL.pF
  have hvF := Lib.hid hL.vF
  have hlt := hL.lt
  have DA := Lib.hid hA
  have pne : w.heap.size ≠ p := fun e => by have := hlt p hpF.out; omega
  have y2 := LL.out.c4
  have fp := LL.out.free
  have T8 := LL.out.set 4 (.int .i64 ((a : Int) + 1)) (a' := ((a + 1 : Nat) : Int)) (st' := st) (by simp)
  have S8 := SS.out.far T8.2 (fun hm => pne (List.mem_singleton.1 hm))
  have O8 : Only Fl W (W.setCell ⟨p, 4, none⟩ (.int .i64 ((a : Int) + 1))) := T8.2.more (fun k hk => by rw [List.mem_singleton.1 hk]; exact hpF.out)
  have C8 := isSt_only0 CC.out O8 DA.out
  obtain ⟨W8, hW8⟩ : ∃ W8, W.setCell ⟨p, 4, none⟩ (.int .i64 ((a : Int) + 1)) = W8 := ⟨_, rfl⟩
  rw [hW8] at T8 S8 O8 C8
  have H8 := Lib.hid hW8
  have L8 := Lib.hid T8.1
  have C8 := Lib.hid C8
  have O8 := Lib.hid ((Only.of_below (F := Fl) HB.out).seq O8)
  have BD : Hid (Below W8.heap.size W8 W8.drew) := Lib.hid ((Below.refl _ _).drew)
  have LD := Lib.hid (L8.out.keep BD.out)
  have CD := Lib.hid (C8.out.keep BD.out)
  have OD : Hid (Only Fl w W8.drew) := Lib.hid (O8.out.seq (Only.of_below BD.out))
  have z0 := S8.c0
  have z1 := S8.c1
  have z2 := S8.c2
  have z3 := S8.c3
  have z5 := S8.c5
  have z7 := S8.c7
  have z8 := S8.c8
  clear hW hB hL hC hA T8 S8 hW8 hlt LL CC
  have hCases : s.kind = 0 ∨ s.kind = 1 ∨ s.kind = 2 ∨ s.kind = 10 ∨ s.kind = 11 ∨ (¬ s.kind = 0 ∧ ¬ s.kind = 1 ∧ ¬ s.kind = 2 ∧ ¬ s.kind = 10 ∧ ¬ s.kind = 11) := by omega
  rcases hCases with hk9 | hk9 | hk9 | hk9 | hk9 | hk9
  · have HK := Lib.hid hk9
    clear hk9
    have b0 : (s.kind == 0) = true := by rw [HK.out]; rfl
    go_enter Try.func63, Try.ntmps63
    go_upto_region 1 with (fail)
    rw [← HW.out]
    go_upto_region 2 with (fail)
    rw [H8.out]
    clear y2 fp
    go_wp2_with fail
    refine (pset_any s.d _ W8 L8.out).mono ?_
    rintro e w3 ⟨rfl, hL3, hO3⟩
    have L3 := Lib.hid hL3
    have HO3 : Hid (Only Fl W8 w3) := Lib.hid (hO3.more (fun k hk => hvF.out k (by simpa using hk)))
    clear hL3 hO3 z0 z1 z2 z3 z5 z7 z8
    go_wp2_with fail
    go_end0
    rw [Sg.quiet0 HK.out]
    exact ⟨rfl, L3.out, O8.out.seq HO3.out⟩
  · have HK := Lib.hid hk9
    clear hk9
    have b0 : (s.kind == 0) = false := by rw [HK.out]; rfl
    have b1 : (s.kind == 1) = true := by rw [HK.out]; rfl
    go_enter Try.func63, Try.ntmps63
    go_upto_region 1 with (fail)
    rw [← HW.out]
    go_upto_region 2 with (fail)
    rw [H8.out]
    clear y2 fp
    go_wp2_with fail
    go_still_tail 7, (by kernel_rfl)
    still_call (pget_still s.a W8.drew LD.out)
    refine wpStill_nil ?_
    go_wp2_with fail
    refine (pset_any s.d _ W8.drew LD.out).mono ?_
    rintro e w3 ⟨rfl, hL3, hO3⟩
    have L3 := Lib.hid hL3
    have HO3 : Hid (Only Fl W8.drew w3) := Lib.hid (hO3.more (fun k hk => hvF.out k (by simpa using hk)))
    clear hL3 hO3 z0 z1 z2 z3 z5 z7 z8
    go_wp2_with fail
    go_end0
    rw [Sg.quiet1 HK.out]
    exact ⟨rfl, L3.out, OD.out.seq HO3.out⟩
  · have HK := Lib.hid hk9
    clear hk9
    have b0 : (s.kind == 0) = false := by rw [HK.out]; rfl
    have b1 : (s.kind == 1) = false := by rw [HK.out]; rfl
    have b2 : (s.kind == 2) = true := by rw [HK.out]; rfl
    go_enter Try.func63, Try.ntmps63
    go_upto_region 1 with (fail)
    rw [← HW.out]
    go_upto_region 2 with (fail)
    rw [H8.out]
    clear y2 fp
    go_wp2_with fail
    go_still_tail 14, (by kernel_rfl)
    still_call (pget_still s.a W8.drew LD.out)
    repeat still_step
    still_call (pget_still s.b W8.drew LD.out)
    repeat still_step
    still_call (reckon_still s.op _ _ W8.drew)
    refine wpStill_nil ?_
    go_wp2_with fail
    refine (pset_any s.d _ W8.drew LD.out).mono ?_
    rintro e w3 ⟨rfl, hL3, hO3⟩
    have L3 := Lib.hid hL3
    have HO3 : Hid (Only Fl W8.drew w3) := Lib.hid (hO3.more (fun k hk => hvF.out k (by simpa using hk)))
    clear hL3 hO3 z0 z1 z2 z3 z5 z7 z8
    go_wp2_with fail
    go_end0
    rw [Sg.quiet2 HK.out]
    exact ⟨rfl, L3.out, OD.out.seq HO3.out⟩
  · have HK := Lib.hid hk9
    clear hk9
    have b0 : (s.kind == 0) = false := by rw [HK.out]; rfl
    have b1 : (s.kind == 1) = false := by rw [HK.out]; rfl
    have b2 : (s.kind == 2) = false := by rw [HK.out]; rfl
    have b10 : (s.kind == 10) = true := by rw [HK.out]; rfl
    go_enter Try.func63, Try.ntmps63
    go_upto_region 1 with (fail)
    rw [← HW.out]
    go_upto_region 2 with (fail)
    rw [H8.out]
    clear y2 fp
    go_wp2_with fail
    refine (pjump_any s.to W8 L8.out C8.out hn).mono ?_
    rintro e w3 ⟨rfl, hL3, hO3⟩
    have L3 := Lib.hid hL3
    have HO3 : Hid (Only Fl W8 w3) := Lib.hid (hO3.more (fun k hk => by rw [List.mem_singleton.1 hk]; exact hpF.out))
    clear hL3 hO3 z0 z1 z2 z3 z5 z7 z8
    go_wp2_with fail
    go_end0
    rw [Sg.quiet10 HK.out]
    exact ⟨rfl, L3.out, O8.out.seq HO3.out⟩
  · have HK := Lib.hid hk9
    clear hk9
    have b0 : (s.kind == 0) = false := by rw [HK.out]; rfl
    have b1 : (s.kind == 1) = false := by rw [HK.out]; rfl
    have b2 : (s.kind == 2) = false := by rw [HK.out]; rfl
    have b10 : (s.kind == 10) = false := by rw [HK.out]; rfl
    have b11 : (s.kind == 11) = true := by rw [HK.out]; rfl
    by_cases hz : getV v s.a = 0
    · have hz2 : (getV v s.a == 0) = true := by rw [beq_iff_eq]; exact hz
      have HZ := Lib.hid hz
      clear hz
      go_enter Try.func63, Try.ntmps63
      go_upto_region 1 with (fail)
      rw [← HW.out]
      go_upto_region 2 with (fail)
      rw [H8.out]
      clear y2 fp
      go_wp2_with fail
      refine (pget_any s.a W8 L8.out).mono ?_
      rintro e w1 ⟨rfl, rfl⟩
      go_wp2_with fail
      refine (pjump_any s.to W8 L8.out C8.out hn).mono ?_
      rintro e w3 ⟨rfl, hL3, hO3⟩
      have L3 := Lib.hid hL3
      have HO3 : Hid (Only Fl W8 w3) := Lib.hid (hO3.more (fun k hk => by rw [List.mem_singleton.1 hk]; exact hpF.out))
      clear hL3 hO3 z0 z1 z2 z3 z5 z7 z8
      go_wp2_with fail
      go_end0
      rw [Sg.quiet11 HK.out, if_pos HZ.out]
      exact ⟨rfl, L3.out, O8.out.seq HO3.out⟩
    · have hz2 : (getV v s.a == 0) = false := by rw [beq_eq_false_iff_ne]; exact hz
      have HZ := Lib.hid hz
      clear hz
      go_enter Try.func63, Try.ntmps63
      go_upto_region 1 with (fail)
      rw [← HW.out]
      go_upto_region 2 with (fail)
      rw [H8.out]
      clear y2 fp
      go_wp2_with fail
      refine (pget_any s.a W8 L8.out).mono ?_
      rintro e w1 ⟨rfl, rfl⟩
      go_wp2_with fail
      go_end0
      rw [Sg.quiet11 HK.out, if_neg HZ.out]
      exact ⟨rfl, L8.out, O8.out⟩
  · have HK := Lib.hid hk9
    clear hk9
    have b0 : (s.kind == 0) = false := by rw [beq_eq_false_iff_ne]; exact HK.out.1
    have b1 : (s.kind == 1) = false := by rw [beq_eq_false_iff_ne]; exact HK.out.2.1
    have b2 : (s.kind == 2) = false := by rw [beq_eq_false_iff_ne]; exact HK.out.2.2.1
    have b10 : (s.kind == 10) = false := by rw [beq_eq_false_iff_ne]; exact HK.out.2.2.2.1
    have b11 : (s.kind == 11) = false := by rw [beq_eq_false_iff_ne]; exact HK.out.2.2.2.2
    go_enter Try.func63, Try.ntmps63
    go_upto_region 1 with (fail)
    rw [← HW.out]
    go_upto_region 2 with (fail)
    rw [H8.out]
    clear y2 fp
    go_wp2_with fail
    go_end0
    rw [Sg.quietO ⟨HK.out.1, HK.out.2.1, HK.out.2.2.1, HK.out.2.2.2.1, HK.out.2.2.2.2, hk2⟩]
    exact ⟨rfl, L8.out, O8.out⟩
end Go.Proofs.Ytapnnbbbgopobaa.Pq
