/-
  WALKS: cofferdamref1's core: Exec.
-/
import Derived.Test.YtkohichiojmakaaEmitMemo
import Derived.Test.YtkohichiojmakaaA64RefDec
import Derived.Test.YtkohichiojmakaaGAluRef
import Derived.Test.YtkohichiojmakaaGHeld
namespace Go.Proofs.Ytkohichiojmakaa.EmX
set_option linter.unusedVariables false
set_option linter.unusedSimpArgs false
open Go.RowKit Cm Mm Ow Me Rm A64 A64W A64P A64D A64H Alu AluG Em EmM EmW Pat InW
attribute [local go_sem ↓] Go.wp_at_zero Go.wp_at_succ exec_load_regs exec_store_regs

theorem right_ok {i : In} (h : right i = true) : okIn i := by
  obtain ⟨h1, h2⟩ := decode_encode i h
  have := okIn_dec
  cases hk : kindOf (encode i).1 with
  | none =>
    unfold A64.decode at h1
    rw [hk] at h1
    simp at h1
  | some k =>
    obtain ⟨hk24, -, -⟩ := encode_decode (encode i).1 k hk
    unfold A64.decode at h1
    rw [hk] at h1
    simp only [Prod.mk.injEq] at h1
    rw [← h1.1]
    exact okIn_dec k _ hk24
theorem below_alw (w : World) (o : Obj) : Below w.heap.size w (w.alloc o) := (Below.refl _ _).alloc (Nat.le_refl _) _
/-- the words of a code -/
def IsCode (w : World) (A : Option Addr) (n cap : Nat) (code : List In) : Prop := IsWd w A n cap (wordsTo code code.length) ∧ code.length = n ∧ n ≤ 65536 ∧ AllR code
theorem IsCode.keep {w w' : World} {A : Option Addr} {n cap : Nat} {code : List In} (h : IsCode w A n cap code) (hb : Below w.heap.size w w') : IsCode w' A n cap code := ⟨h.1.keep hb, h.2⟩
theorem word_at (code : List In) {k : Nat} (hk : k < code.length) : (wordsTo code code.length).getD k 0 = (encode (code.getD k zeroIn)).1 := by
  unfold wordsTo
  simp [List.getD, hk]
theorem IsCode.at_ {w : World} {A : Option Addr} {n cap : Nat} {code : List In} (h : IsCode w A n cap code) {k : Nat} (hk : k < n) :
    ∃ b o, A = some ⟨b, o, none⟩ ∧ b < w.heap.size ∧ w.cell? ⟨b, o + k, none⟩ = some (.int .u32 ((encode (code.getD k zeroIn)).1.toNat : Int)) ∧ right (code.getD k zeroIn) = true := by
  obtain ⟨b, o, e, hb, hc⟩ := h.1.cell hk
  have hl := h.2.1
  rw [word_at code (by omega)] at hc
  refine ⟨b, o, e, hb, hc, h.2.2.2 _ ?_⟩
  rw [List.getD, List.getElem?_eq_getElem (by omega)]
  exact List.getElem_mem _
theorem rdec_at (i : In) (h : right i = true) (w : World) : Calls Try.prog 40 #[.int .u32 ((encode i).1.toNat : Int)] w fun e w' => e = .returned (.tuple #[.agg #[.int .i64 i.kind, .int .i64 i.d, .int .i64 i.a, .int .i64 i.b, .int .i64 i.s, .int .i64 i.c, .int .i64 i.n], .int .i64 0]) ∧ Below w.heap.size w w' := by
  have := A64V.rdecode_any (encode i).1 w
  rw [(decode_encode i h).1] at this
  exact this

set_option maxRecDepth 20000 in
set_option maxHeartbeats 3200000 in
theorem exec_alu {w : World} {q mq : Nat} {F : List Nat} {s : Cr} {A : Option Addr} {m cap : Nat} {code : List In} (h : Co w q mq F s) (hc : IsCode w A m cap code) (k : Nat) (hk : k < m) (hpc : s.pc = (k : Int)) (hst : s.st = 0) (kd d a b s0 c n : Int) (hi : code.getD k zeroIn = ⟨kd, d, a, b, s0, c, n⟩) (r' : Rg) (yy : Int) (hal : Alu.step s.r ⟨kd, d, a, b, s0, c, n⟩ = (r', yy, true)) (okr : okR r') (hby : -1000000000 ≤ yy ∧ yy ≤ 1000000000) :
    Calls Try.prog 33 #[.pointer (some ⟨q, 0, none⟩), .slice A m cap] w (Ans q mq F s w { s with r := r', pc := (k : Int) + yy } []) := by
  have hHF := Lib.hid (show ∀ k ∈ F, k < w.heap.size from by obtain ⟨kp, hm⟩ := h.mem; exact hm.lt)
  have hpcb : (k : Int) ≤ 65536 := by have := hc.2.2.1; omega
  have i1 : IntKind.i64.wrap ((k : Int) + yy) = (k : Int) + yy := IntWalk.i64_in _ ⟨by omega, by omega⟩
  obtain ⟨hA, hAn, hA6, hAr⟩ := id hc
  obtain ⟨bb, oo, rfl, hbb, wc, hrt⟩ := hc.at_ hk
  have H := Lib.hid h
  have hlt := h.lt
  have hnk : (k : Int) < (m : Int) := by omega
  have d1 : decide ((k : Int) < 0) = false := decide_eq_false (by omega)
  have d2 : decide ((m : Int) ≤ (k : Int)) = false := decide_eq_false (by omega)
  have p36 : w.cell? ⟨q, 36, none⟩ = some (.int .i64 0) := by rw [h.st, hst]
  have p35 : w.cell? ⟨q, 35, none⟩ = some (.int .i64 (k : Int)) := by rw [h.pc, hpc]
  have DE := Lib.hid (fun w => rdec_at (code.getD k zeroIn) hrt w)
  have RT := Lib.hid hrt
  obtain ⟨W0, hW0⟩ : ∃ W0, (encode (code.getD k zeroIn)).1 = W0 := ⟨_, rfl⟩
  rw [hW0] at DE wc
  rw [hi] at DE RT
  clear hW0 h hc hA hAn hAr hrt hst
  go_enter Try.func33, Try.ntmps33
  go_wp2_with fail
  refine (DE.out _).mono ?_
  rintro e w2 ⟨rfl, hb2⟩
  have C2 := Lib.hid ((Cg.start H.out).keep hb2)
  clear DE wc p35 p36 hb2 H
  go_upto_region 8 with fail
  have hb3 := below_alw w2 (.cells #[.int .i64 kd, .int .i64 d, .int .i64 a, .int .i64 b, .int .i64 s0, .int .i64 c, .int .i64 n] 45)
  have C3 := Lib.hid (C2.out.keep hb3)
  have X3 := Lib.hid (Bx.new w2 ⟨kd, d, a, b, s0, c, n⟩)
  obtain ⟨w3, hw3⟩ : ∃ w3, w2.alloc (.cells #[.int .i64 kd, .int .i64 d, .int .i64 a, .int .i64 b, .int .i64 s0, .int .i64 c, .int .i64 n] 45) = w3 := ⟨_, rfl⟩
  rw [show w2.alloc (.cells (insL ⟨kd, d, a, b, s0, c, n⟩).toArray 45) = w3 from hw3] at X3
  rw [hw3] at C3
  try rw [hw3]
  have hlt2 := C2.out.co.lt
  have hbq : w2.heap.size ≠ q := by omega
  clear hw3 hb3 C2 hlt2
  generalize w2.heap.size = bi at *
  have C4 := Lib.hid C3.out.drew
  have X4 := Lib.hid (X3.out.keep (Below.refl _ _).drew)
  clear C3 X3
  obtain ⟨r1, r2⟩ := Cohas C4.out.co
  have RA := Lib.hid (fun w => AluRA.ralu_any s.r ⟨kd, d, a, b, s0, c, n⟩ w C4.out.co.ok (right_ok RT.out))
  rw [hal] at RA
  clear hal
  refine Hh.start (fun w' => HasV w' (.pointer (some ⟨q, 2, none⟩)) ∧ cellsV w' (.pointer (some ⟨q, 2, none⟩)) = rgA s.r ∧ w'.cell? ⟨bi, 0, none⟩ = some (.int .i64 kd) ∧ w'.cell? ⟨bi, 1, none⟩ = some (.int .i64 d) ∧ w'.cell? ⟨bi, 2, none⟩ = some (.int .i64 a) ∧ w'.cell? ⟨bi, 3, none⟩ = some (.int .i64 b) ∧ w'.cell? ⟨bi, 4, none⟩ = some (.int .i64 s0) ∧ w'.cell? ⟨bi, 5, none⟩ = some (.int .i64 c) ∧ w'.cell? ⟨bi, 6, none⟩ = some (.int .i64 n)) (by kernel_rfl) ?_
  have SA : HasV w3.drew (.pointer (some ⟨q, 2, none⟩)) ∧ cellsV w3.drew (.pointer (some ⟨q, 2, none⟩)) = rgA s.r ∧ w3.drew.cell? ⟨bi, 0, none⟩ = some (.int .i64 kd) ∧ w3.drew.cell? ⟨bi, 1, none⟩ = some (.int .i64 d) ∧ w3.drew.cell? ⟨bi, 2, none⟩ = some (.int .i64 a) ∧ w3.drew.cell? ⟨bi, 3, none⟩ = some (.int .i64 b) ∧ w3.drew.cell? ⟨bi, 4, none⟩ = some (.int .i64 s0) ∧ w3.drew.cell? ⟨bi, 5, none⟩ = some (.int .i64 c) ∧ w3.drew.cell? ⟨bi, 6, none⟩ = some (.int .i64 n) := ⟨r1, r2, (X4.out.cell 0).trans rfl, (X4.out.cell 1).trans rfl, (X4.out.cell 2).trans rfl, (X4.out.cell 3).trans rfl, (X4.out.cell 4).trans rfl, (X4.out.cell 5).trans rfl, (X4.out.cell 6).trans rfl⟩
  refine Hh.take (i := 0) (v := ?v0) rfl (by decide +kernel) (by decide +kernel) (fun _ _ _ h => h) rfl ?hy0 SA ?rest0
  case hy0 =>
    intro wq hSw
    obtain ⟨s1, s2, s3, s4, s5, s6, s7, s8, s9⟩ := hSw
    go_simp
    try with_reducible rfl
  try simp only [Act.put, List.setIfInBounds_toArray, List.set_cons_zero, List.set_cons_succ]
  refine Hh.take (i := 1) (v := ?v1) rfl (by decide +kernel) (by decide +kernel) (fun _ _ _ h => h) rfl ?hy1 SA ?rest1
  case hy1 =>
    intro wq hSw
    obtain ⟨s1, s2, s3, s4, s5, s6, s7, s8, s9⟩ := hSw
    go_simp
    try with_reducible rfl
  try simp only [Act.put, List.setIfInBounds_toArray, List.set_cons_zero, List.set_cons_succ]
  refine Hh.take (i := 2) (v := ?v2) rfl (by decide +kernel) (by decide +kernel) (fun _ _ _ h => h) rfl ?hy2 SA ?rest2
  case hy2 =>
    intro wq hSw
    obtain ⟨s1, s2, s3, s4, s5, s6, s7, s8, s9⟩ := hSw
    go_simp
    try with_reducible rfl
  try simp only [Act.put, List.setIfInBounds_toArray, List.set_cons_zero, List.set_cons_succ]
  refine Hh.take (i := 3) (v := ?v3) rfl (by decide +kernel) (by decide +kernel) (fun _ _ _ h => h) rfl ?hy3 SA ?rest3
  case hy3 =>
    intro wq hSw
    obtain ⟨s1, s2, s3, s4, s5, s6, s7, s8, s9⟩ := hSw
    go_simp
    try with_reducible rfl
  try simp only [Act.put, List.setIfInBounds_toArray, List.set_cons_zero, List.set_cons_succ]
  refine Hh.take (i := 4) (v := ?v4) rfl (by decide +kernel) (by decide +kernel) (fun _ _ _ h => h) rfl ?hy4 SA ?rest4
  case hy4 =>
    intro wq hSw
    obtain ⟨s1, s2, s3, s4, s5, s6, s7, s8, s9⟩ := hSw
    go_simp
    try with_reducible rfl
  try simp only [Act.put, List.setIfInBounds_toArray, List.set_cons_zero, List.set_cons_succ]
  refine Hh.two (i := 5) (j := 10) rfl rfl (by kernel_rfl) rfl rfl (fun K hK => ?_) (fun K hK => ?_)
  · skip
    go_simp
    refine (RA.out _).mono ?_
    rintro e w5 ⟨rfl, hb5⟩
    have C5 := Lib.hid (C4.out.keep hb5)
    have X5 := Lib.hid (X4.out.keep hb5)
    have SB : HasV w5 (.pointer (some ⟨q, 2, none⟩)) ∧ cellsV w5 (.pointer (some ⟨q, 2, none⟩)) = rgA s.r ∧ w5.cell? ⟨bi, 0, none⟩ = some (.int .i64 kd) ∧ w5.cell? ⟨bi, 1, none⟩ = some (.int .i64 d) ∧ w5.cell? ⟨bi, 2, none⟩ = some (.int .i64 a) ∧ w5.cell? ⟨bi, 3, none⟩ = some (.int .i64 b) ∧ w5.cell? ⟨bi, 4, none⟩ = some (.int .i64 s0) ∧ w5.cell? ⟨bi, 5, none⟩ = some (.int .i64 c) ∧ w5.cell? ⟨bi, 6, none⟩ = some (.int .i64 n) := ⟨(Cohas C5.out.co).1, (Cohas C5.out.co).2, (X5.out.cell 0).trans rfl, (X5.out.cell 1).trans rfl, (X5.out.cell 2).trans rfl, (X5.out.cell 3).trans rfl, (X5.out.cell 4).trans rfl, (X5.out.cell 5).trans rfl, (X5.out.cell 6).trans rfl⟩
    refine hK _ _ SB ?_
    clear hK K hb5 SA r1 r2 C4 X4
    try simp only [Act.put, List.setIfInBounds_toArray, List.set_cons_zero, List.set_cons_succ]
    refine Hh.take (i := 6) (v := ?v6a) rfl (by decide +kernel) (by decide +kernel) (fun _ _ _ h => h) rfl ?hy6a SB ?rest6a
    case hy6a =>
      intro wq hSw
      obtain ⟨s1, s2, s3, s4, s5, s6, s7, s8, s9⟩ := hSw
      go_simp
      try with_reducible rfl
    try simp only [Act.put, List.setIfInBounds_toArray, List.set_cons_zero, List.set_cons_succ]
    refine Hh.take (i := 7) (v := ?v7a) rfl (by decide +kernel) (by decide +kernel) (fun _ _ _ h => h) rfl ?hy7a SB ?rest7a
    case hy7a =>
      intro wq hSw
      obtain ⟨s1, s2, s3, s4, s5, s6, s7, s8, s9⟩ := hSw
      go_simp
      try with_reducible rfl
    try simp only [Act.put, List.setIfInBounds_toArray, List.set_cons_zero, List.set_cons_succ]
    refine Hh.take (i := 8) (v := ?v8a) rfl (by decide +kernel) (by decide +kernel) (fun _ _ _ h => h) rfl ?hy8a SB ?rest8a
    case hy8a =>
      intro wq hSw
      obtain ⟨s1, s2, s3, s4, s5, s6, s7, s8, s9⟩ := hSw
      go_simp
      try with_reducible rfl
    try simp only [Act.put, List.setIfInBounds_toArray, List.set_cons_zero, List.set_cons_succ]
    refine Hh.take (i := 9) (v := ?v9a) rfl (by decide +kernel) (by decide +kernel) (fun _ _ _ h => h) rfl ?hy9a SB ?rest9a
    case hy9a =>
      intro wq hSw
      obtain ⟨s1, s2, s3, s4, s5, s6, s7, s8, s9⟩ := hSw
      go_simp
      try with_reducible rfl
    try simp only [Act.put, List.setIfInBounds_toArray, List.set_cons_zero, List.set_cons_succ]
    refine Hh.one (i := 10) rfl (by kernel_rfl) rfl (fun K hK => ?_)
    go_simp
    simp only [zeros_eq]
    have hr6 := RV.new w5 zeroR
    have hb6 := below_alw w5 (.cells (rgA zeroR) 75)
    obtain ⟨w6, hw6⟩ : ∃ w6, w5.alloc (.cells (rgA zeroR) 75) = w6 := ⟨_, rfl⟩
    rw [hw6] at hr6 hb6 ⊢
    clear hw6
    have hq8 : w5.heap.size ≠ q := by have := C5.out.co.lt; omega
    have hq9 : w5.heap.size ≠ bi := by have := X5.out.lt; omega
    have C6 := Lib.hid (C5.out.keep hb6)
    have X6 := Lib.hid (X5.out.keep hb6)
    have HB8 := Lib.hid (show w.heap.size ≤ w5.heap.size from C5.out.on.size)
    have SC : HasV w6 (.pointer (some ⟨q, 2, none⟩)) ∧ cellsV w6 (.pointer (some ⟨q, 2, none⟩)) = rgA s.r ∧ w6.cell? ⟨bi, 0, none⟩ = some (.int .i64 kd) ∧ w6.cell? ⟨bi, 1, none⟩ = some (.int .i64 d) ∧ w6.cell? ⟨bi, 2, none⟩ = some (.int .i64 a) ∧ w6.cell? ⟨bi, 3, none⟩ = some (.int .i64 b) ∧ w6.cell? ⟨bi, 4, none⟩ = some (.int .i64 s0) ∧ w6.cell? ⟨bi, 5, none⟩ = some (.int .i64 c) ∧ w6.cell? ⟨bi, 6, none⟩ = some (.int .i64 n) := ⟨(Cohas C6.out.co).1, (Cohas C6.out.co).2, (X6.out.cell 0).trans rfl, (X6.out.cell 1).trans rfl, (X6.out.cell 2).trans rfl, (X6.out.cell 3).trans rfl, (X6.out.cell 4).trans rfl, (X6.out.cell 5).trans rfl, (X6.out.cell 6).trans rfl⟩
    refine hK _ _ SC ?_
    clear hK K hb6 SB SC C5 X5
    generalize w5.heap.size = b8 at *
    try simp only [Act.put, List.setIfInBounds_toArray, List.set_cons_zero, List.set_cons_succ]
    refine Hh.one (i := 11) rfl (by kernel_rfl) rfl (fun K hK => ?_)
    have ht := RVthere hr6 zero_ok
    have hgd := good okr
    go_simp
    have hp7 := RVput hr6 zero_ok okr
    obtain ⟨w7, hw7⟩ : ∃ w7, putV w6 (.pointer (some ⟨b8, 0, none⟩)) (.agg (rgA r')) = w7 := ⟨_, rfl⟩
    rw [hw7] at hp7 ⊢
    clear hw7
    have z7 := hp7.below 0 w6 (Nat.zero_le _) (Below.refl _ _)
    have O7 : Only [b8] w6 w7 := ⟨z7.os, z7.tape, z7.output, z7.size, fun k hk hn => hp7.other k (by simpa using hn)⟩
    have C7 : Hid (Cg w q mq F s w7) := Lib.hid ⟨C6.out.co.only O7 (by simpa using fun e => hq8 e.symm) (fun k hk e => by have := hHF.out k hk; simp at e; have := HB8.out; omega), C6.out.on.trans (F' := [b8]) O7 (by simp; exact Or.inr HB8.out)⟩
    have X7 := Lib.hid (X6.out.only O7 (by simpa using fun e => hq9 e.symm))
    have hr7 := hp7.has
    have SD : HasV w7 (.pointer (some ⟨q, 2, none⟩)) ∧ cellsV w7 (.pointer (some ⟨q, 2, none⟩)) = rgA s.r ∧ w7.cell? ⟨bi, 0, none⟩ = some (.int .i64 kd) ∧ w7.cell? ⟨bi, 1, none⟩ = some (.int .i64 d) ∧ w7.cell? ⟨bi, 2, none⟩ = some (.int .i64 a) ∧ w7.cell? ⟨bi, 3, none⟩ = some (.int .i64 b) ∧ w7.cell? ⟨bi, 4, none⟩ = some (.int .i64 s0) ∧ w7.cell? ⟨bi, 5, none⟩ = some (.int .i64 c) ∧ w7.cell? ⟨bi, 6, none⟩ = some (.int .i64 n) := ⟨(Cohas C7.out.co).1, (Cohas C7.out.co).2, (X7.out.cell 0).trans rfl, (X7.out.cell 1).trans rfl, (X7.out.cell 2).trans rfl, (X7.out.cell 3).trans rfl, (X7.out.cell 4).trans rfl, (X7.out.cell 5).trans rfl, (X7.out.cell 6).trans rfl⟩
    refine hK _ _ SD ?_
    clear hK K ht hgd hp7 O7 z7 C6 X6 hr6
    try simp only [Act.put, List.setIfInBounds_toArray, List.set_cons_zero, List.set_cons_succ]
    refine Hh.one (i := 12) rfl (by kernel_rfl) rfl (fun K hK => ?_)
    go_simp
    refine hK _ _ SD ?_
    clear hK K
    try simp only [Act.put, List.setIfInBounds_toArray, List.set_cons_zero, List.set_cons_succ]
    refine Hh.one (i := 13) rfl (by kernel_rfl) rfl (fun K hK => ?_)
    go_simp
    refine hK _ _ SD ?_
    clear hK K
    try simp only [Act.put, List.setIfInBounds_toArray, List.set_cons_zero, List.set_cons_succ]
    refine Hh.done (by kernel_rfl) ?_ _
    clear SD
    obtain ⟨l1, l2⟩ := RVhas hr7 okr
    have ht := Cothere C7.out.co
    have hgd := good okr
    go_upto_region 11 with fail
    have C8 := Lib.hid (C7.out.regs okr)
    obtain ⟨w8, hw8⟩ : ∃ w8, putV w7 (.pointer (some ⟨q, 2, none⟩)) (.agg (rgA r')) = w8 := ⟨_, rfl⟩
    rw [hw8] at C8
    try rw [hw8]
    clear hw8 ht hgd l1 l2 C7 X7 hr7
    have p35 : w8.cell? ⟨q, 35, none⟩ = some (.int .i64 (k : Int)) := by rw [C8.out.co.pc]; exact congrArg (fun z => some (Value.int .i64 z)) hpc
    have f35 := C8.out.co.free 35
    go_wp2_with fail
    have C9 := Lib.hid (C8.out.pc ((k : Int) + yy))
    go_ret2
    exact ⟨none, 0, 0, rfl, isEv_nil _, C9.out⟩
  · skip
    go_simp
    simp only [zeros_eq]
    have hr5 := RV.new w3.drew zeroR
    have hb5 := below_alw w3.drew (.cells (rgA zeroR) 75)
    obtain ⟨w5, hw5⟩ : ∃ w5, w3.drew.alloc (.cells (rgA zeroR) 75) = w5 := ⟨_, rfl⟩
    have hw5' : (w3.alloc (.cells (rgA zeroR) 75)).drew = w5 := hw5
    rw [hw5] at hr5 hb5
    first | rw [hw5] | rw [hw5']
    clear hw5 hw5'
    have hq8 : w3.drew.heap.size ≠ q := by have := C4.out.co.lt; omega
    have hq9 : w3.drew.heap.size ≠ bi := by have := X4.out.lt; omega
    have C5 := Lib.hid (C4.out.keep hb5)
    have X5 := Lib.hid (X4.out.keep hb5)
    have HB8 := Lib.hid (show w.heap.size ≤ w3.drew.heap.size from C4.out.on.size)
    have SB : HasV w5 (.pointer (some ⟨q, 2, none⟩)) ∧ cellsV w5 (.pointer (some ⟨q, 2, none⟩)) = rgA s.r ∧ w5.cell? ⟨bi, 0, none⟩ = some (.int .i64 kd) ∧ w5.cell? ⟨bi, 1, none⟩ = some (.int .i64 d) ∧ w5.cell? ⟨bi, 2, none⟩ = some (.int .i64 a) ∧ w5.cell? ⟨bi, 3, none⟩ = some (.int .i64 b) ∧ w5.cell? ⟨bi, 4, none⟩ = some (.int .i64 s0) ∧ w5.cell? ⟨bi, 5, none⟩ = some (.int .i64 c) ∧ w5.cell? ⟨bi, 6, none⟩ = some (.int .i64 n) := ⟨(Cohas C5.out.co).1, (Cohas C5.out.co).2, (X5.out.cell 0).trans rfl, (X5.out.cell 1).trans rfl, (X5.out.cell 2).trans rfl, (X5.out.cell 3).trans rfl, (X5.out.cell 4).trans rfl, (X5.out.cell 5).trans rfl, (X5.out.cell 6).trans rfl⟩
    refine hK _ _ SB ?_
    clear hK K hb5 SA r1 r2 C4 X4
    have h38 : w3.drew.heap.size = w3.heap.size := rfl
    rw [h38] at hr5 hq8 hq9 HB8
    try rw [h38]
    clear h38
    generalize w3.heap.size = b8 at *
    try simp only [Act.put, List.setIfInBounds_toArray, List.set_cons_zero, List.set_cons_succ]
    refine Hh.one (i := 5) rfl (by kernel_rfl) rfl (fun K hK => ?_)
    go_simp
    refine (RA.out _).mono ?_
    rintro e w6 ⟨rfl, hb6⟩
    have C6 := Lib.hid (C5.out.keep hb6)
    have X6 := Lib.hid (X5.out.keep hb6)
    have hr6 := hr5.keep hb6
    have SC : HasV w6 (.pointer (some ⟨q, 2, none⟩)) ∧ cellsV w6 (.pointer (some ⟨q, 2, none⟩)) = rgA s.r ∧ w6.cell? ⟨bi, 0, none⟩ = some (.int .i64 kd) ∧ w6.cell? ⟨bi, 1, none⟩ = some (.int .i64 d) ∧ w6.cell? ⟨bi, 2, none⟩ = some (.int .i64 a) ∧ w6.cell? ⟨bi, 3, none⟩ = some (.int .i64 b) ∧ w6.cell? ⟨bi, 4, none⟩ = some (.int .i64 s0) ∧ w6.cell? ⟨bi, 5, none⟩ = some (.int .i64 c) ∧ w6.cell? ⟨bi, 6, none⟩ = some (.int .i64 n) := ⟨(Cohas C6.out.co).1, (Cohas C6.out.co).2, (X6.out.cell 0).trans rfl, (X6.out.cell 1).trans rfl, (X6.out.cell 2).trans rfl, (X6.out.cell 3).trans rfl, (X6.out.cell 4).trans rfl, (X6.out.cell 5).trans rfl, (X6.out.cell 6).trans rfl⟩
    refine hK _ _ SC ?_
    clear hK K hb6 SB hr5 C5 X5
    try simp only [Act.put, List.setIfInBounds_toArray, List.set_cons_zero, List.set_cons_succ]
    refine Hh.take (i := 6) (v := ?v6b) rfl (by decide +kernel) (by decide +kernel) (fun _ _ _ h => h) rfl ?hy6b SC ?rest6b
    case hy6b =>
      intro wq hSw
      obtain ⟨s1, s2, s3, s4, s5, s6, s7, s8, s9⟩ := hSw
      go_simp
      try with_reducible rfl
    try simp only [Act.put, List.setIfInBounds_toArray, List.set_cons_zero, List.set_cons_succ]
    refine Hh.take (i := 7) (v := ?v7b) rfl (by decide +kernel) (by decide +kernel) (fun _ _ _ h => h) rfl ?hy7b SC ?rest7b
    case hy7b =>
      intro wq hSw
      obtain ⟨s1, s2, s3, s4, s5, s6, s7, s8, s9⟩ := hSw
      go_simp
      try with_reducible rfl
    try simp only [Act.put, List.setIfInBounds_toArray, List.set_cons_zero, List.set_cons_succ]
    refine Hh.take (i := 8) (v := ?v8b) rfl (by decide +kernel) (by decide +kernel) (fun _ _ _ h => h) rfl ?hy8b SC ?rest8b
    case hy8b =>
      intro wq hSw
      obtain ⟨s1, s2, s3, s4, s5, s6, s7, s8, s9⟩ := hSw
      go_simp
      try with_reducible rfl
    try simp only [Act.put, List.setIfInBounds_toArray, List.set_cons_zero, List.set_cons_succ]
    refine Hh.take (i := 9) (v := ?v9b) rfl (by decide +kernel) (by decide +kernel) (fun _ _ _ h => h) rfl ?hy9b SC ?rest9b
    case hy9b =>
      intro wq hSw
      obtain ⟨s1, s2, s3, s4, s5, s6, s7, s8, s9⟩ := hSw
      go_simp
      try with_reducible rfl
    try simp only [Act.put, List.setIfInBounds_toArray, List.set_cons_zero, List.set_cons_succ]
    clear SC
    refine Hh.one (i := 11) rfl (by kernel_rfl) rfl (fun K hK => ?_)
    have ht := RVthere hr6 zero_ok
    have hgd := good okr
    go_simp
    have hp7 := RVput hr6 zero_ok okr
    obtain ⟨w7, hw7⟩ : ∃ w7, putV w6 (.pointer (some ⟨b8, 0, none⟩)) (.agg (rgA r')) = w7 := ⟨_, rfl⟩
    rw [hw7] at hp7 ⊢
    clear hw7
    have z7 := hp7.below 0 w6 (Nat.zero_le _) (Below.refl _ _)
    have O7 : Only [b8] w6 w7 := ⟨z7.os, z7.tape, z7.output, z7.size, fun k hk hn => hp7.other k (by simpa using hn)⟩
    have C7 : Hid (Cg w q mq F s w7) := Lib.hid ⟨C6.out.co.only O7 (by simpa using fun e => hq8 e.symm) (fun k hk e => by have := hHF.out k hk; simp at e; have := HB8.out; omega), C6.out.on.trans (F' := [b8]) O7 (by simp; exact Or.inr HB8.out)⟩
    have X7 := Lib.hid (X6.out.only O7 (by simpa using fun e => hq9 e.symm))
    have hr7 := hp7.has
    have SD : HasV w7 (.pointer (some ⟨q, 2, none⟩)) ∧ cellsV w7 (.pointer (some ⟨q, 2, none⟩)) = rgA s.r ∧ w7.cell? ⟨bi, 0, none⟩ = some (.int .i64 kd) ∧ w7.cell? ⟨bi, 1, none⟩ = some (.int .i64 d) ∧ w7.cell? ⟨bi, 2, none⟩ = some (.int .i64 a) ∧ w7.cell? ⟨bi, 3, none⟩ = some (.int .i64 b) ∧ w7.cell? ⟨bi, 4, none⟩ = some (.int .i64 s0) ∧ w7.cell? ⟨bi, 5, none⟩ = some (.int .i64 c) ∧ w7.cell? ⟨bi, 6, none⟩ = some (.int .i64 n) := ⟨(Cohas C7.out.co).1, (Cohas C7.out.co).2, (X7.out.cell 0).trans rfl, (X7.out.cell 1).trans rfl, (X7.out.cell 2).trans rfl, (X7.out.cell 3).trans rfl, (X7.out.cell 4).trans rfl, (X7.out.cell 5).trans rfl, (X7.out.cell 6).trans rfl⟩
    refine hK _ _ SD ?_
    clear hK K ht hgd hp7 O7 z7 C6 X6 hr6
    try simp only [Act.put, List.setIfInBounds_toArray, List.set_cons_zero, List.set_cons_succ]
    refine Hh.one (i := 12) rfl (by kernel_rfl) rfl (fun K hK => ?_)
    go_simp
    refine hK _ _ SD ?_
    clear hK K
    try simp only [Act.put, List.setIfInBounds_toArray, List.set_cons_zero, List.set_cons_succ]
    refine Hh.one (i := 13) rfl (by kernel_rfl) rfl (fun K hK => ?_)
    go_simp
    refine hK _ _ SD ?_
    clear hK K
    try simp only [Act.put, List.setIfInBounds_toArray, List.set_cons_zero, List.set_cons_succ]
    refine Hh.done (by kernel_rfl) ?_ _
    clear SD
    obtain ⟨l1, l2⟩ := RVhas hr7 okr
    have ht := Cothere C7.out.co
    have hgd := good okr
    go_upto_region 11 with fail
    have C8 := Lib.hid (C7.out.regs okr)
    obtain ⟨w8, hw8⟩ : ∃ w8, putV w7 (.pointer (some ⟨q, 2, none⟩)) (.agg (rgA r')) = w8 := ⟨_, rfl⟩
    rw [hw8] at C8
    try rw [hw8]
    clear hw8 ht hgd l1 l2 C7 X7 hr7
    have p35 : w8.cell? ⟨q, 35, none⟩ = some (.int .i64 (k : Int)) := by rw [C8.out.co.pc]; exact congrArg (fun z => some (Value.int .i64 z)) hpc
    have f35 := C8.out.co.free 35
    go_wp2_with fail
    have C9 := Lib.hid (C8.out.pc ((k : Int) + yy))
    go_ret2
    exact ⟨none, 0, 0, rfl, isEv_nil _, C9.out⟩

set_option maxRecDepth 20000 in
set_option maxHeartbeats 3200000 in
theorem exec_hlt {w : World} {q mq : Nat} {F : List Nat} {s : Cr} {A : Option Addr} {m cap : Nat} {code : List In} (h : Co w q mq F s) (hc : IsCode w A m cap code) (k : Nat) (hk : k < m) (hpc : s.pc = (k : Int)) (hst : s.st = 0) (d a b s0 c n : Int) (hi : code.getD k zeroIn = ⟨22, d, a, b, s0, c, n⟩) (hal : Alu.step s.r ⟨22, d, a, b, s0, c, n⟩ = (s.r, 0, false)) (okr : okR s.r) :
    Calls Try.prog 33 #[.pointer (some ⟨q, 0, none⟩), .slice A m cap] w (Ans q mq F s w { s with pc := (k : Int) + 1, st := 1 } [⟨10, 0, 0⟩]) := by
  have hHF := Lib.hid (show ∀ k ∈ F, k < w.heap.size from by obtain ⟨kp, hm⟩ := h.mem; exact hm.lt)
  have hpcb : (k : Int) ≤ 65536 := by have := hc.2.2.1; omega
  have i1 : IntKind.i64.wrap ((k : Int) + 1) = (k : Int) + 1 := IntWalk.i64_in _ ⟨by omega, by omega⟩
  obtain ⟨hA, hAn, hA6, hAr⟩ := id hc
  obtain ⟨bb, oo, rfl, hbb, wc, hrt⟩ := hc.at_ hk
  have H := Lib.hid h
  have hlt := h.lt
  have hnk : (k : Int) < (m : Int) := by omega
  have d1 : decide ((k : Int) < 0) = false := decide_eq_false (by omega)
  have d2 : decide ((m : Int) ≤ (k : Int)) = false := decide_eq_false (by omega)
  have p36 : w.cell? ⟨q, 36, none⟩ = some (.int .i64 0) := by rw [h.st, hst]
  have p35 : w.cell? ⟨q, 35, none⟩ = some (.int .i64 (k : Int)) := by rw [h.pc, hpc]
  have DE := Lib.hid (fun w => rdec_at (code.getD k zeroIn) hrt w)
  have RT := Lib.hid hrt
  obtain ⟨W0, hW0⟩ : ∃ W0, (encode (code.getD k zeroIn)).1 = W0 := ⟨_, rfl⟩
  rw [hW0] at DE wc
  rw [hi] at DE RT
  clear hW0 h hc hA hAn hAr hrt hst
  go_enter Try.func33, Try.ntmps33
  go_wp2_with fail
  refine (DE.out _).mono ?_
  rintro e w2 ⟨rfl, hb2⟩
  have C2 := Lib.hid ((Cg.start H.out).keep hb2)
  clear DE wc p35 p36 hb2 H
  go_upto_region 8 with fail
  have hb3 := below_alw w2 (.cells #[.int .i64 22, .int .i64 d, .int .i64 a, .int .i64 b, .int .i64 s0, .int .i64 c, .int .i64 n] 45)
  have C3 := Lib.hid (C2.out.keep hb3)
  have X3 := Lib.hid (Bx.new w2 ⟨22, d, a, b, s0, c, n⟩)
  obtain ⟨w3, hw3⟩ : ∃ w3, w2.alloc (.cells #[.int .i64 22, .int .i64 d, .int .i64 a, .int .i64 b, .int .i64 s0, .int .i64 c, .int .i64 n] 45) = w3 := ⟨_, rfl⟩
  rw [show w2.alloc (.cells (insL ⟨22, d, a, b, s0, c, n⟩).toArray 45) = w3 from hw3] at X3
  rw [hw3] at C3
  try rw [hw3]
  have hlt2 := C2.out.co.lt
  have hbq : w2.heap.size ≠ q := by omega
  clear hw3 hb3 C2 hlt2
  generalize w2.heap.size = bi at *
  have C4 := Lib.hid C3.out.drew
  have X4 := Lib.hid (X3.out.keep (Below.refl _ _).drew)
  clear C3 X3
  obtain ⟨r1, r2⟩ := Cohas C4.out.co
  have RA := Lib.hid (fun w => AluRA.ralu_any s.r ⟨22, d, a, b, s0, c, n⟩ w C4.out.co.ok (right_ok RT.out))
  rw [hal] at RA
  clear hal
  refine Hh.start (fun w' => HasV w' (.pointer (some ⟨q, 2, none⟩)) ∧ cellsV w' (.pointer (some ⟨q, 2, none⟩)) = rgA s.r ∧ w'.cell? ⟨bi, 0, none⟩ = some (.int .i64 22) ∧ w'.cell? ⟨bi, 1, none⟩ = some (.int .i64 d) ∧ w'.cell? ⟨bi, 2, none⟩ = some (.int .i64 a) ∧ w'.cell? ⟨bi, 3, none⟩ = some (.int .i64 b) ∧ w'.cell? ⟨bi, 4, none⟩ = some (.int .i64 s0) ∧ w'.cell? ⟨bi, 5, none⟩ = some (.int .i64 c) ∧ w'.cell? ⟨bi, 6, none⟩ = some (.int .i64 n)) (by kernel_rfl) ?_
  have SA : HasV w3.drew (.pointer (some ⟨q, 2, none⟩)) ∧ cellsV w3.drew (.pointer (some ⟨q, 2, none⟩)) = rgA s.r ∧ w3.drew.cell? ⟨bi, 0, none⟩ = some (.int .i64 22) ∧ w3.drew.cell? ⟨bi, 1, none⟩ = some (.int .i64 d) ∧ w3.drew.cell? ⟨bi, 2, none⟩ = some (.int .i64 a) ∧ w3.drew.cell? ⟨bi, 3, none⟩ = some (.int .i64 b) ∧ w3.drew.cell? ⟨bi, 4, none⟩ = some (.int .i64 s0) ∧ w3.drew.cell? ⟨bi, 5, none⟩ = some (.int .i64 c) ∧ w3.drew.cell? ⟨bi, 6, none⟩ = some (.int .i64 n) := ⟨r1, r2, (X4.out.cell 0).trans rfl, (X4.out.cell 1).trans rfl, (X4.out.cell 2).trans rfl, (X4.out.cell 3).trans rfl, (X4.out.cell 4).trans rfl, (X4.out.cell 5).trans rfl, (X4.out.cell 6).trans rfl⟩
  refine Hh.take (i := 0) (v := ?v0) rfl (by decide +kernel) (by decide +kernel) (fun _ _ _ h => h) rfl ?hy0 SA ?rest0
  case hy0 =>
    intro wq hSw
    obtain ⟨s1, s2, s3, s4, s5, s6, s7, s8, s9⟩ := hSw
    go_simp
    try with_reducible rfl
  try simp only [Act.put, List.setIfInBounds_toArray, List.set_cons_zero, List.set_cons_succ]
  refine Hh.take (i := 1) (v := ?v1) rfl (by decide +kernel) (by decide +kernel) (fun _ _ _ h => h) rfl ?hy1 SA ?rest1
  case hy1 =>
    intro wq hSw
    obtain ⟨s1, s2, s3, s4, s5, s6, s7, s8, s9⟩ := hSw
    go_simp
    try with_reducible rfl
  try simp only [Act.put, List.setIfInBounds_toArray, List.set_cons_zero, List.set_cons_succ]
  refine Hh.take (i := 2) (v := ?v2) rfl (by decide +kernel) (by decide +kernel) (fun _ _ _ h => h) rfl ?hy2 SA ?rest2
  case hy2 =>
    intro wq hSw
    obtain ⟨s1, s2, s3, s4, s5, s6, s7, s8, s9⟩ := hSw
    go_simp
    try with_reducible rfl
  try simp only [Act.put, List.setIfInBounds_toArray, List.set_cons_zero, List.set_cons_succ]
  refine Hh.take (i := 3) (v := ?v3) rfl (by decide +kernel) (by decide +kernel) (fun _ _ _ h => h) rfl ?hy3 SA ?rest3
  case hy3 =>
    intro wq hSw
    obtain ⟨s1, s2, s3, s4, s5, s6, s7, s8, s9⟩ := hSw
    go_simp
    try with_reducible rfl
  try simp only [Act.put, List.setIfInBounds_toArray, List.set_cons_zero, List.set_cons_succ]
  refine Hh.take (i := 4) (v := ?v4) rfl (by decide +kernel) (by decide +kernel) (fun _ _ _ h => h) rfl ?hy4 SA ?rest4
  case hy4 =>
    intro wq hSw
    obtain ⟨s1, s2, s3, s4, s5, s6, s7, s8, s9⟩ := hSw
    go_simp
    try with_reducible rfl
  try simp only [Act.put, List.setIfInBounds_toArray, List.set_cons_zero, List.set_cons_succ]
  refine Hh.two (i := 5) (j := 10) rfl rfl (by kernel_rfl) rfl rfl (fun K hK => ?_) (fun K hK => ?_)
  · skip
    go_simp
    refine (RA.out _).mono ?_
    rintro e w5 ⟨rfl, hb5⟩
    have C5 := Lib.hid (C4.out.keep hb5)
    have X5 := Lib.hid (X4.out.keep hb5)
    have SB : HasV w5 (.pointer (some ⟨q, 2, none⟩)) ∧ cellsV w5 (.pointer (some ⟨q, 2, none⟩)) = rgA s.r ∧ w5.cell? ⟨bi, 0, none⟩ = some (.int .i64 22) ∧ w5.cell? ⟨bi, 1, none⟩ = some (.int .i64 d) ∧ w5.cell? ⟨bi, 2, none⟩ = some (.int .i64 a) ∧ w5.cell? ⟨bi, 3, none⟩ = some (.int .i64 b) ∧ w5.cell? ⟨bi, 4, none⟩ = some (.int .i64 s0) ∧ w5.cell? ⟨bi, 5, none⟩ = some (.int .i64 c) ∧ w5.cell? ⟨bi, 6, none⟩ = some (.int .i64 n) := ⟨(Cohas C5.out.co).1, (Cohas C5.out.co).2, (X5.out.cell 0).trans rfl, (X5.out.cell 1).trans rfl, (X5.out.cell 2).trans rfl, (X5.out.cell 3).trans rfl, (X5.out.cell 4).trans rfl, (X5.out.cell 5).trans rfl, (X5.out.cell 6).trans rfl⟩
    refine hK _ _ SB ?_
    clear hK K hb5 SA r1 r2 C4 X4
    try simp only [Act.put, List.setIfInBounds_toArray, List.set_cons_zero, List.set_cons_succ]
    refine Hh.take (i := 6) (v := ?v6a) rfl (by decide +kernel) (by decide +kernel) (fun _ _ _ h => h) rfl ?hy6a SB ?rest6a
    case hy6a =>
      intro wq hSw
      obtain ⟨s1, s2, s3, s4, s5, s6, s7, s8, s9⟩ := hSw
      go_simp
      try with_reducible rfl
    try simp only [Act.put, List.setIfInBounds_toArray, List.set_cons_zero, List.set_cons_succ]
    refine Hh.take (i := 7) (v := ?v7a) rfl (by decide +kernel) (by decide +kernel) (fun _ _ _ h => h) rfl ?hy7a SB ?rest7a
    case hy7a =>
      intro wq hSw
      obtain ⟨s1, s2, s3, s4, s5, s6, s7, s8, s9⟩ := hSw
      go_simp
      try with_reducible rfl
    try simp only [Act.put, List.setIfInBounds_toArray, List.set_cons_zero, List.set_cons_succ]
    refine Hh.take (i := 8) (v := ?v8a) rfl (by decide +kernel) (by decide +kernel) (fun _ _ _ h => h) rfl ?hy8a SB ?rest8a
    case hy8a =>
      intro wq hSw
      obtain ⟨s1, s2, s3, s4, s5, s6, s7, s8, s9⟩ := hSw
      go_simp
      try with_reducible rfl
    try simp only [Act.put, List.setIfInBounds_toArray, List.set_cons_zero, List.set_cons_succ]
    refine Hh.take (i := 9) (v := ?v9a) rfl (by decide +kernel) (by decide +kernel) (fun _ _ _ h => h) rfl ?hy9a SB ?rest9a
    case hy9a =>
      intro wq hSw
      obtain ⟨s1, s2, s3, s4, s5, s6, s7, s8, s9⟩ := hSw
      go_simp
      try with_reducible rfl
    try simp only [Act.put, List.setIfInBounds_toArray, List.set_cons_zero, List.set_cons_succ]
    refine Hh.one (i := 10) rfl (by kernel_rfl) rfl (fun K hK => ?_)
    go_simp
    simp only [zeros_eq]
    have hr6 := RV.new w5 zeroR
    have hb6 := below_alw w5 (.cells (rgA zeroR) 75)
    obtain ⟨w6, hw6⟩ : ∃ w6, w5.alloc (.cells (rgA zeroR) 75) = w6 := ⟨_, rfl⟩
    rw [hw6] at hr6 hb6 ⊢
    clear hw6
    have hq8 : w5.heap.size ≠ q := by have := C5.out.co.lt; omega
    have hq9 : w5.heap.size ≠ bi := by have := X5.out.lt; omega
    have C6 := Lib.hid (C5.out.keep hb6)
    have X6 := Lib.hid (X5.out.keep hb6)
    have HB8 := Lib.hid (show w.heap.size ≤ w5.heap.size from C5.out.on.size)
    have SC : HasV w6 (.pointer (some ⟨q, 2, none⟩)) ∧ cellsV w6 (.pointer (some ⟨q, 2, none⟩)) = rgA s.r ∧ w6.cell? ⟨bi, 0, none⟩ = some (.int .i64 22) ∧ w6.cell? ⟨bi, 1, none⟩ = some (.int .i64 d) ∧ w6.cell? ⟨bi, 2, none⟩ = some (.int .i64 a) ∧ w6.cell? ⟨bi, 3, none⟩ = some (.int .i64 b) ∧ w6.cell? ⟨bi, 4, none⟩ = some (.int .i64 s0) ∧ w6.cell? ⟨bi, 5, none⟩ = some (.int .i64 c) ∧ w6.cell? ⟨bi, 6, none⟩ = some (.int .i64 n) := ⟨(Cohas C6.out.co).1, (Cohas C6.out.co).2, (X6.out.cell 0).trans rfl, (X6.out.cell 1).trans rfl, (X6.out.cell 2).trans rfl, (X6.out.cell 3).trans rfl, (X6.out.cell 4).trans rfl, (X6.out.cell 5).trans rfl, (X6.out.cell 6).trans rfl⟩
    refine hK _ _ SC ?_
    clear hK K hb6 SB SC C5 X5
    generalize w5.heap.size = b8 at *
    try simp only [Act.put, List.setIfInBounds_toArray, List.set_cons_zero, List.set_cons_succ]
    refine Hh.one (i := 11) rfl (by kernel_rfl) rfl (fun K hK => ?_)
    have ht := RVthere hr6 zero_ok
    have hgd := good okr
    go_simp
    have hp7 := RVput hr6 zero_ok okr
    obtain ⟨w7, hw7⟩ : ∃ w7, putV w6 (.pointer (some ⟨b8, 0, none⟩)) (.agg (rgA s.r)) = w7 := ⟨_, rfl⟩
    rw [hw7] at hp7 ⊢
    clear hw7
    have z7 := hp7.below 0 w6 (Nat.zero_le _) (Below.refl _ _)
    have O7 : Only [b8] w6 w7 := ⟨z7.os, z7.tape, z7.output, z7.size, fun k hk hn => hp7.other k (by simpa using hn)⟩
    have C7 : Hid (Cg w q mq F s w7) := Lib.hid ⟨C6.out.co.only O7 (by simpa using fun e => hq8 e.symm) (fun k hk e => by have := hHF.out k hk; simp at e; have := HB8.out; omega), C6.out.on.trans (F' := [b8]) O7 (by simp; exact Or.inr HB8.out)⟩
    have X7 := Lib.hid (X6.out.only O7 (by simpa using fun e => hq9 e.symm))
    have hr7 := hp7.has
    have SD : HasV w7 (.pointer (some ⟨q, 2, none⟩)) ∧ cellsV w7 (.pointer (some ⟨q, 2, none⟩)) = rgA s.r ∧ w7.cell? ⟨bi, 0, none⟩ = some (.int .i64 22) ∧ w7.cell? ⟨bi, 1, none⟩ = some (.int .i64 d) ∧ w7.cell? ⟨bi, 2, none⟩ = some (.int .i64 a) ∧ w7.cell? ⟨bi, 3, none⟩ = some (.int .i64 b) ∧ w7.cell? ⟨bi, 4, none⟩ = some (.int .i64 s0) ∧ w7.cell? ⟨bi, 5, none⟩ = some (.int .i64 c) ∧ w7.cell? ⟨bi, 6, none⟩ = some (.int .i64 n) := ⟨(Cohas C7.out.co).1, (Cohas C7.out.co).2, (X7.out.cell 0).trans rfl, (X7.out.cell 1).trans rfl, (X7.out.cell 2).trans rfl, (X7.out.cell 3).trans rfl, (X7.out.cell 4).trans rfl, (X7.out.cell 5).trans rfl, (X7.out.cell 6).trans rfl⟩
    refine hK _ _ SD ?_
    clear hK K ht hgd hp7 O7 z7 C6 X6 hr6
    try simp only [Act.put, List.setIfInBounds_toArray, List.set_cons_zero, List.set_cons_succ]
    refine Hh.one (i := 12) rfl (by kernel_rfl) rfl (fun K hK => ?_)
    go_simp
    refine hK _ _ SD ?_
    clear hK K
    try simp only [Act.put, List.setIfInBounds_toArray, List.set_cons_zero, List.set_cons_succ]
    refine Hh.one (i := 13) rfl (by kernel_rfl) rfl (fun K hK => ?_)
    go_simp
    refine hK _ _ SD ?_
    clear hK K
    try simp only [Act.put, List.setIfInBounds_toArray, List.set_cons_zero, List.set_cons_succ]
    refine Hh.done (by kernel_rfl) ?_ _
    clear SD
    have x0 : w7.cell? ⟨bi, 0, none⟩ = some (.int .i64 22) := (X7.out.cell 0).trans rfl
    have p35 : w7.cell? ⟨q, 35, none⟩ = some (.int .i64 (k : Int)) := by rw [C7.out.co.pc]; exact congrArg (fun z => some (Value.int .i64 z)) hpc
    have f35 := C7.out.co.free 35
    go_upto_region 24 with fail
    have C8 := Lib.hid (C7.out.pc ((k : Int) + 1))
    obtain ⟨w8, hw8⟩ : ∃ w8, w7.setCell ⟨q, 35, none⟩ (.int .i64 ((k : Int) + 1)) = w8 := ⟨_, rfl⟩
    rw [hw8] at C8
    try rw [hw8]
    clear hw8 p35 f35 x0 C7 X7 hr7
    have p36 := C8.out.co.st
    have f36 := C8.out.co.free 36
    go_upto_region 25 with fail
    have C9 := Lib.hid (C8.out.st 1)
    obtain ⟨w9, hw9⟩ : ∃ w9, w8.setCell ⟨q, 36, none⟩ (.int .i64 1) = w9 := ⟨_, rfl⟩
    rw [hw9] at C9
    try rw [hw9]
    clear hw9 p36 f36 C8
    go_wp2_with fail
    refine (event_any C9.out.co 10 0 0#64).mono ?_
    rintro e w10 ⟨E, rfl, hev, hb10⟩
    have HEV := Lib.hid hev
    have C10 := Lib.hid (C9.out.keep hb10)
    clear hev hb10
    go_wp2_with fail
    go_ret2
    exact ⟨E, 1, 1, rfl, HEV.out, C10.out⟩
  · skip
    go_simp
    simp only [zeros_eq]
    have hr5 := RV.new w3.drew zeroR
    have hb5 := below_alw w3.drew (.cells (rgA zeroR) 75)
    obtain ⟨w5, hw5⟩ : ∃ w5, w3.drew.alloc (.cells (rgA zeroR) 75) = w5 := ⟨_, rfl⟩
    have hw5' : (w3.alloc (.cells (rgA zeroR) 75)).drew = w5 := hw5
    rw [hw5] at hr5 hb5
    first | rw [hw5] | rw [hw5']
    clear hw5 hw5'
    have hq8 : w3.drew.heap.size ≠ q := by have := C4.out.co.lt; omega
    have hq9 : w3.drew.heap.size ≠ bi := by have := X4.out.lt; omega
    have C5 := Lib.hid (C4.out.keep hb5)
    have X5 := Lib.hid (X4.out.keep hb5)
    have HB8 := Lib.hid (show w.heap.size ≤ w3.drew.heap.size from C4.out.on.size)
    have SB : HasV w5 (.pointer (some ⟨q, 2, none⟩)) ∧ cellsV w5 (.pointer (some ⟨q, 2, none⟩)) = rgA s.r ∧ w5.cell? ⟨bi, 0, none⟩ = some (.int .i64 22) ∧ w5.cell? ⟨bi, 1, none⟩ = some (.int .i64 d) ∧ w5.cell? ⟨bi, 2, none⟩ = some (.int .i64 a) ∧ w5.cell? ⟨bi, 3, none⟩ = some (.int .i64 b) ∧ w5.cell? ⟨bi, 4, none⟩ = some (.int .i64 s0) ∧ w5.cell? ⟨bi, 5, none⟩ = some (.int .i64 c) ∧ w5.cell? ⟨bi, 6, none⟩ = some (.int .i64 n) := ⟨(Cohas C5.out.co).1, (Cohas C5.out.co).2, (X5.out.cell 0).trans rfl, (X5.out.cell 1).trans rfl, (X5.out.cell 2).trans rfl, (X5.out.cell 3).trans rfl, (X5.out.cell 4).trans rfl, (X5.out.cell 5).trans rfl, (X5.out.cell 6).trans rfl⟩
    refine hK _ _ SB ?_
    clear hK K hb5 SA r1 r2 C4 X4
    have h38 : w3.drew.heap.size = w3.heap.size := rfl
    rw [h38] at hr5 hq8 hq9 HB8
    try rw [h38]
    clear h38
    generalize w3.heap.size = b8 at *
    try simp only [Act.put, List.setIfInBounds_toArray, List.set_cons_zero, List.set_cons_succ]
    refine Hh.one (i := 5) rfl (by kernel_rfl) rfl (fun K hK => ?_)
    go_simp
    refine (RA.out _).mono ?_
    rintro e w6 ⟨rfl, hb6⟩
    have C6 := Lib.hid (C5.out.keep hb6)
    have X6 := Lib.hid (X5.out.keep hb6)
    have hr6 := hr5.keep hb6
    have SC : HasV w6 (.pointer (some ⟨q, 2, none⟩)) ∧ cellsV w6 (.pointer (some ⟨q, 2, none⟩)) = rgA s.r ∧ w6.cell? ⟨bi, 0, none⟩ = some (.int .i64 22) ∧ w6.cell? ⟨bi, 1, none⟩ = some (.int .i64 d) ∧ w6.cell? ⟨bi, 2, none⟩ = some (.int .i64 a) ∧ w6.cell? ⟨bi, 3, none⟩ = some (.int .i64 b) ∧ w6.cell? ⟨bi, 4, none⟩ = some (.int .i64 s0) ∧ w6.cell? ⟨bi, 5, none⟩ = some (.int .i64 c) ∧ w6.cell? ⟨bi, 6, none⟩ = some (.int .i64 n) := ⟨(Cohas C6.out.co).1, (Cohas C6.out.co).2, (X6.out.cell 0).trans rfl, (X6.out.cell 1).trans rfl, (X6.out.cell 2).trans rfl, (X6.out.cell 3).trans rfl, (X6.out.cell 4).trans rfl, (X6.out.cell 5).trans rfl, (X6.out.cell 6).trans rfl⟩
    refine hK _ _ SC ?_
    clear hK K hb6 SB hr5 C5 X5
    try simp only [Act.put, List.setIfInBounds_toArray, List.set_cons_zero, List.set_cons_succ]
    refine Hh.take (i := 6) (v := ?v6b) rfl (by decide +kernel) (by decide +kernel) (fun _ _ _ h => h) rfl ?hy6b SC ?rest6b
    case hy6b =>
      intro wq hSw
      obtain ⟨s1, s2, s3, s4, s5, s6, s7, s8, s9⟩ := hSw
      go_simp
      try with_reducible rfl
    try simp only [Act.put, List.setIfInBounds_toArray, List.set_cons_zero, List.set_cons_succ]
    refine Hh.take (i := 7) (v := ?v7b) rfl (by decide +kernel) (by decide +kernel) (fun _ _ _ h => h) rfl ?hy7b SC ?rest7b
    case hy7b =>
      intro wq hSw
      obtain ⟨s1, s2, s3, s4, s5, s6, s7, s8, s9⟩ := hSw
      go_simp
      try with_reducible rfl
    try simp only [Act.put, List.setIfInBounds_toArray, List.set_cons_zero, List.set_cons_succ]
    refine Hh.take (i := 8) (v := ?v8b) rfl (by decide +kernel) (by decide +kernel) (fun _ _ _ h => h) rfl ?hy8b SC ?rest8b
    case hy8b =>
      intro wq hSw
      obtain ⟨s1, s2, s3, s4, s5, s6, s7, s8, s9⟩ := hSw
      go_simp
      try with_reducible rfl
    try simp only [Act.put, List.setIfInBounds_toArray, List.set_cons_zero, List.set_cons_succ]
    refine Hh.take (i := 9) (v := ?v9b) rfl (by decide +kernel) (by decide +kernel) (fun _ _ _ h => h) rfl ?hy9b SC ?rest9b
    case hy9b =>
      intro wq hSw
      obtain ⟨s1, s2, s3, s4, s5, s6, s7, s8, s9⟩ := hSw
      go_simp
      try with_reducible rfl
    try simp only [Act.put, List.setIfInBounds_toArray, List.set_cons_zero, List.set_cons_succ]
    clear SC
    refine Hh.one (i := 11) rfl (by kernel_rfl) rfl (fun K hK => ?_)
    have ht := RVthere hr6 zero_ok
    have hgd := good okr
    go_simp
    have hp7 := RVput hr6 zero_ok okr
    obtain ⟨w7, hw7⟩ : ∃ w7, putV w6 (.pointer (some ⟨b8, 0, none⟩)) (.agg (rgA s.r)) = w7 := ⟨_, rfl⟩
    rw [hw7] at hp7 ⊢
    clear hw7
    have z7 := hp7.below 0 w6 (Nat.zero_le _) (Below.refl _ _)
    have O7 : Only [b8] w6 w7 := ⟨z7.os, z7.tape, z7.output, z7.size, fun k hk hn => hp7.other k (by simpa using hn)⟩
    have C7 : Hid (Cg w q mq F s w7) := Lib.hid ⟨C6.out.co.only O7 (by simpa using fun e => hq8 e.symm) (fun k hk e => by have := hHF.out k hk; simp at e; have := HB8.out; omega), C6.out.on.trans (F' := [b8]) O7 (by simp; exact Or.inr HB8.out)⟩
    have X7 := Lib.hid (X6.out.only O7 (by simpa using fun e => hq9 e.symm))
    have hr7 := hp7.has
    have SD : HasV w7 (.pointer (some ⟨q, 2, none⟩)) ∧ cellsV w7 (.pointer (some ⟨q, 2, none⟩)) = rgA s.r ∧ w7.cell? ⟨bi, 0, none⟩ = some (.int .i64 22) ∧ w7.cell? ⟨bi, 1, none⟩ = some (.int .i64 d) ∧ w7.cell? ⟨bi, 2, none⟩ = some (.int .i64 a) ∧ w7.cell? ⟨bi, 3, none⟩ = some (.int .i64 b) ∧ w7.cell? ⟨bi, 4, none⟩ = some (.int .i64 s0) ∧ w7.cell? ⟨bi, 5, none⟩ = some (.int .i64 c) ∧ w7.cell? ⟨bi, 6, none⟩ = some (.int .i64 n) := ⟨(Cohas C7.out.co).1, (Cohas C7.out.co).2, (X7.out.cell 0).trans rfl, (X7.out.cell 1).trans rfl, (X7.out.cell 2).trans rfl, (X7.out.cell 3).trans rfl, (X7.out.cell 4).trans rfl, (X7.out.cell 5).trans rfl, (X7.out.cell 6).trans rfl⟩
    refine hK _ _ SD ?_
    clear hK K ht hgd hp7 O7 z7 C6 X6 hr6
    try simp only [Act.put, List.setIfInBounds_toArray, List.set_cons_zero, List.set_cons_succ]
    refine Hh.one (i := 12) rfl (by kernel_rfl) rfl (fun K hK => ?_)
    go_simp
    refine hK _ _ SD ?_
    clear hK K
    try simp only [Act.put, List.setIfInBounds_toArray, List.set_cons_zero, List.set_cons_succ]
    refine Hh.one (i := 13) rfl (by kernel_rfl) rfl (fun K hK => ?_)
    go_simp
    refine hK _ _ SD ?_
    clear hK K
    try simp only [Act.put, List.setIfInBounds_toArray, List.set_cons_zero, List.set_cons_succ]
    refine Hh.done (by kernel_rfl) ?_ _
    clear SD
    have x0 : w7.cell? ⟨bi, 0, none⟩ = some (.int .i64 22) := (X7.out.cell 0).trans rfl
    have p35 : w7.cell? ⟨q, 35, none⟩ = some (.int .i64 (k : Int)) := by rw [C7.out.co.pc]; exact congrArg (fun z => some (Value.int .i64 z)) hpc
    have f35 := C7.out.co.free 35
    go_upto_region 24 with fail
    have C8 := Lib.hid (C7.out.pc ((k : Int) + 1))
    obtain ⟨w8, hw8⟩ : ∃ w8, w7.setCell ⟨q, 35, none⟩ (.int .i64 ((k : Int) + 1)) = w8 := ⟨_, rfl⟩
    rw [hw8] at C8
    try rw [hw8]
    clear hw8 p35 f35 x0 C7 X7 hr7
    have p36 := C8.out.co.st
    have f36 := C8.out.co.free 36
    go_upto_region 25 with fail
    have C9 := Lib.hid (C8.out.st 1)
    obtain ⟨w9, hw9⟩ : ∃ w9, w8.setCell ⟨q, 36, none⟩ (.int .i64 1) = w9 := ⟨_, rfl⟩
    rw [hw9] at C9
    try rw [hw9]
    clear hw9 p36 f36 C8
    go_wp2_with fail
    refine (event_any C9.out.co 10 0 0#64).mono ?_
    rintro e w10 ⟨E, rfl, hev, hb10⟩
    have HEV := Lib.hid hev
    have C10 := Lib.hid (C9.out.keep hb10)
    clear hev hb10
    go_wp2_with fail
    go_ret2
    exact ⟨E, 1, 1, rfl, HEV.out, C10.out⟩

set_option maxRecDepth 20000 in
set_option maxHeartbeats 3200000 in
theorem exec_svc {w : World} {q mq : Nat} {F : List Nat} {s : Cr} {A : Option Addr} {m cap : Nat} {code : List In} (h : Co w q mq F s) (hc : IsCode w A m cap code) (k : Nat) (hk : k < m) (hpc : s.pc = (k : Int)) (hst : s.st = 0) (d a b s0 c n : Int) (hi : code.getD k zeroIn = ⟨23, d, a, b, s0, c, n⟩) (hal : Alu.step s.r ⟨23, d, a, b, s0, c, n⟩ = (s.r, 0, false)) (okr : okR s.r) :
    Calls Try.prog 33 #[.pointer (some ⟨q, 0, none⟩), .slice A m cap] w (Ans q mq F s w { s with pc := (k : Int) + 1 } [⟨4, 0, reg s.r 0⟩]) := by
  have hHF := Lib.hid (show ∀ k ∈ F, k < w.heap.size from by obtain ⟨kp, hm⟩ := h.mem; exact hm.lt)
  have hpcb : (k : Int) ≤ 65536 := by have := hc.2.2.1; omega
  have i1 : IntKind.i64.wrap ((k : Int) + 1) = (k : Int) + 1 := IntWalk.i64_in _ ⟨by omega, by omega⟩
  obtain ⟨hA, hAn, hA6, hAr⟩ := id hc
  obtain ⟨bb, oo, rfl, hbb, wc, hrt⟩ := hc.at_ hk
  have H := Lib.hid h
  have hlt := h.lt
  have hnk : (k : Int) < (m : Int) := by omega
  have d1 : decide ((k : Int) < 0) = false := decide_eq_false (by omega)
  have d2 : decide ((m : Int) ≤ (k : Int)) = false := decide_eq_false (by omega)
  have p36 : w.cell? ⟨q, 36, none⟩ = some (.int .i64 0) := by rw [h.st, hst]
  have p35 : w.cell? ⟨q, 35, none⟩ = some (.int .i64 (k : Int)) := by rw [h.pc, hpc]
  have DE := Lib.hid (fun w => rdec_at (code.getD k zeroIn) hrt w)
  have RT := Lib.hid hrt
  obtain ⟨W0, hW0⟩ : ∃ W0, (encode (code.getD k zeroIn)).1 = W0 := ⟨_, rfl⟩
  rw [hW0] at DE wc
  rw [hi] at DE RT
  clear hW0 h hc hA hAn hAr hrt hst
  go_enter Try.func33, Try.ntmps33
  go_wp2_with fail
  refine (DE.out _).mono ?_
  rintro e w2 ⟨rfl, hb2⟩
  have C2 := Lib.hid ((Cg.start H.out).keep hb2)
  clear DE wc p35 p36 hb2 H
  go_upto_region 8 with fail
  have hb3 := below_alw w2 (.cells #[.int .i64 23, .int .i64 d, .int .i64 a, .int .i64 b, .int .i64 s0, .int .i64 c, .int .i64 n] 45)
  have C3 := Lib.hid (C2.out.keep hb3)
  have X3 := Lib.hid (Bx.new w2 ⟨23, d, a, b, s0, c, n⟩)
  obtain ⟨w3, hw3⟩ : ∃ w3, w2.alloc (.cells #[.int .i64 23, .int .i64 d, .int .i64 a, .int .i64 b, .int .i64 s0, .int .i64 c, .int .i64 n] 45) = w3 := ⟨_, rfl⟩
  rw [show w2.alloc (.cells (insL ⟨23, d, a, b, s0, c, n⟩).toArray 45) = w3 from hw3] at X3
  rw [hw3] at C3
  try rw [hw3]
  have hlt2 := C2.out.co.lt
  have hbq : w2.heap.size ≠ q := by omega
  clear hw3 hb3 C2 hlt2
  generalize w2.heap.size = bi at *
  have C4 := Lib.hid C3.out.drew
  have X4 := Lib.hid (X3.out.keep (Below.refl _ _).drew)
  clear C3 X3
  obtain ⟨r1, r2⟩ := Cohas C4.out.co
  have RA := Lib.hid (fun w => AluRA.ralu_any s.r ⟨23, d, a, b, s0, c, n⟩ w C4.out.co.ok (right_ok RT.out))
  rw [hal] at RA
  clear hal
  refine Hh.start (fun w' => HasV w' (.pointer (some ⟨q, 2, none⟩)) ∧ cellsV w' (.pointer (some ⟨q, 2, none⟩)) = rgA s.r ∧ w'.cell? ⟨bi, 0, none⟩ = some (.int .i64 23) ∧ w'.cell? ⟨bi, 1, none⟩ = some (.int .i64 d) ∧ w'.cell? ⟨bi, 2, none⟩ = some (.int .i64 a) ∧ w'.cell? ⟨bi, 3, none⟩ = some (.int .i64 b) ∧ w'.cell? ⟨bi, 4, none⟩ = some (.int .i64 s0) ∧ w'.cell? ⟨bi, 5, none⟩ = some (.int .i64 c) ∧ w'.cell? ⟨bi, 6, none⟩ = some (.int .i64 n)) (by kernel_rfl) ?_
  have SA : HasV w3.drew (.pointer (some ⟨q, 2, none⟩)) ∧ cellsV w3.drew (.pointer (some ⟨q, 2, none⟩)) = rgA s.r ∧ w3.drew.cell? ⟨bi, 0, none⟩ = some (.int .i64 23) ∧ w3.drew.cell? ⟨bi, 1, none⟩ = some (.int .i64 d) ∧ w3.drew.cell? ⟨bi, 2, none⟩ = some (.int .i64 a) ∧ w3.drew.cell? ⟨bi, 3, none⟩ = some (.int .i64 b) ∧ w3.drew.cell? ⟨bi, 4, none⟩ = some (.int .i64 s0) ∧ w3.drew.cell? ⟨bi, 5, none⟩ = some (.int .i64 c) ∧ w3.drew.cell? ⟨bi, 6, none⟩ = some (.int .i64 n) := ⟨r1, r2, (X4.out.cell 0).trans rfl, (X4.out.cell 1).trans rfl, (X4.out.cell 2).trans rfl, (X4.out.cell 3).trans rfl, (X4.out.cell 4).trans rfl, (X4.out.cell 5).trans rfl, (X4.out.cell 6).trans rfl⟩
  refine Hh.take (i := 0) (v := ?v0) rfl (by decide +kernel) (by decide +kernel) (fun _ _ _ h => h) rfl ?hy0 SA ?rest0
  case hy0 =>
    intro wq hSw
    obtain ⟨s1, s2, s3, s4, s5, s6, s7, s8, s9⟩ := hSw
    go_simp
    try with_reducible rfl
  try simp only [Act.put, List.setIfInBounds_toArray, List.set_cons_zero, List.set_cons_succ]
  refine Hh.take (i := 1) (v := ?v1) rfl (by decide +kernel) (by decide +kernel) (fun _ _ _ h => h) rfl ?hy1 SA ?rest1
  case hy1 =>
    intro wq hSw
    obtain ⟨s1, s2, s3, s4, s5, s6, s7, s8, s9⟩ := hSw
    go_simp
    try with_reducible rfl
  try simp only [Act.put, List.setIfInBounds_toArray, List.set_cons_zero, List.set_cons_succ]
  refine Hh.take (i := 2) (v := ?v2) rfl (by decide +kernel) (by decide +kernel) (fun _ _ _ h => h) rfl ?hy2 SA ?rest2
  case hy2 =>
    intro wq hSw
    obtain ⟨s1, s2, s3, s4, s5, s6, s7, s8, s9⟩ := hSw
    go_simp
    try with_reducible rfl
  try simp only [Act.put, List.setIfInBounds_toArray, List.set_cons_zero, List.set_cons_succ]
  refine Hh.take (i := 3) (v := ?v3) rfl (by decide +kernel) (by decide +kernel) (fun _ _ _ h => h) rfl ?hy3 SA ?rest3
  case hy3 =>
    intro wq hSw
    obtain ⟨s1, s2, s3, s4, s5, s6, s7, s8, s9⟩ := hSw
    go_simp
    try with_reducible rfl
  try simp only [Act.put, List.setIfInBounds_toArray, List.set_cons_zero, List.set_cons_succ]
  refine Hh.take (i := 4) (v := ?v4) rfl (by decide +kernel) (by decide +kernel) (fun _ _ _ h => h) rfl ?hy4 SA ?rest4
  case hy4 =>
    intro wq hSw
    obtain ⟨s1, s2, s3, s4, s5, s6, s7, s8, s9⟩ := hSw
    go_simp
    try with_reducible rfl
  try simp only [Act.put, List.setIfInBounds_toArray, List.set_cons_zero, List.set_cons_succ]
  refine Hh.two (i := 5) (j := 10) rfl rfl (by kernel_rfl) rfl rfl (fun K hK => ?_) (fun K hK => ?_)
  · skip
    go_simp
    refine (RA.out _).mono ?_
    rintro e w5 ⟨rfl, hb5⟩
    have C5 := Lib.hid (C4.out.keep hb5)
    have X5 := Lib.hid (X4.out.keep hb5)
    have SB : HasV w5 (.pointer (some ⟨q, 2, none⟩)) ∧ cellsV w5 (.pointer (some ⟨q, 2, none⟩)) = rgA s.r ∧ w5.cell? ⟨bi, 0, none⟩ = some (.int .i64 23) ∧ w5.cell? ⟨bi, 1, none⟩ = some (.int .i64 d) ∧ w5.cell? ⟨bi, 2, none⟩ = some (.int .i64 a) ∧ w5.cell? ⟨bi, 3, none⟩ = some (.int .i64 b) ∧ w5.cell? ⟨bi, 4, none⟩ = some (.int .i64 s0) ∧ w5.cell? ⟨bi, 5, none⟩ = some (.int .i64 c) ∧ w5.cell? ⟨bi, 6, none⟩ = some (.int .i64 n) := ⟨(Cohas C5.out.co).1, (Cohas C5.out.co).2, (X5.out.cell 0).trans rfl, (X5.out.cell 1).trans rfl, (X5.out.cell 2).trans rfl, (X5.out.cell 3).trans rfl, (X5.out.cell 4).trans rfl, (X5.out.cell 5).trans rfl, (X5.out.cell 6).trans rfl⟩
    refine hK _ _ SB ?_
    clear hK K hb5 SA r1 r2 C4 X4
    try simp only [Act.put, List.setIfInBounds_toArray, List.set_cons_zero, List.set_cons_succ]
    refine Hh.take (i := 6) (v := ?v6a) rfl (by decide +kernel) (by decide +kernel) (fun _ _ _ h => h) rfl ?hy6a SB ?rest6a
    case hy6a =>
      intro wq hSw
      obtain ⟨s1, s2, s3, s4, s5, s6, s7, s8, s9⟩ := hSw
      go_simp
      try with_reducible rfl
    try simp only [Act.put, List.setIfInBounds_toArray, List.set_cons_zero, List.set_cons_succ]
    refine Hh.take (i := 7) (v := ?v7a) rfl (by decide +kernel) (by decide +kernel) (fun _ _ _ h => h) rfl ?hy7a SB ?rest7a
    case hy7a =>
      intro wq hSw
      obtain ⟨s1, s2, s3, s4, s5, s6, s7, s8, s9⟩ := hSw
      go_simp
      try with_reducible rfl
    try simp only [Act.put, List.setIfInBounds_toArray, List.set_cons_zero, List.set_cons_succ]
    refine Hh.take (i := 8) (v := ?v8a) rfl (by decide +kernel) (by decide +kernel) (fun _ _ _ h => h) rfl ?hy8a SB ?rest8a
    case hy8a =>
      intro wq hSw
      obtain ⟨s1, s2, s3, s4, s5, s6, s7, s8, s9⟩ := hSw
      go_simp
      try with_reducible rfl
    try simp only [Act.put, List.setIfInBounds_toArray, List.set_cons_zero, List.set_cons_succ]
    refine Hh.take (i := 9) (v := ?v9a) rfl (by decide +kernel) (by decide +kernel) (fun _ _ _ h => h) rfl ?hy9a SB ?rest9a
    case hy9a =>
      intro wq hSw
      obtain ⟨s1, s2, s3, s4, s5, s6, s7, s8, s9⟩ := hSw
      go_simp
      try with_reducible rfl
    try simp only [Act.put, List.setIfInBounds_toArray, List.set_cons_zero, List.set_cons_succ]
    refine Hh.one (i := 10) rfl (by kernel_rfl) rfl (fun K hK => ?_)
    go_simp
    simp only [zeros_eq]
    have hr6 := RV.new w5 zeroR
    have hb6 := below_alw w5 (.cells (rgA zeroR) 75)
    obtain ⟨w6, hw6⟩ : ∃ w6, w5.alloc (.cells (rgA zeroR) 75) = w6 := ⟨_, rfl⟩
    rw [hw6] at hr6 hb6 ⊢
    clear hw6
    have hq8 : w5.heap.size ≠ q := by have := C5.out.co.lt; omega
    have hq9 : w5.heap.size ≠ bi := by have := X5.out.lt; omega
    have C6 := Lib.hid (C5.out.keep hb6)
    have X6 := Lib.hid (X5.out.keep hb6)
    have HB8 := Lib.hid (show w.heap.size ≤ w5.heap.size from C5.out.on.size)
    have SC : HasV w6 (.pointer (some ⟨q, 2, none⟩)) ∧ cellsV w6 (.pointer (some ⟨q, 2, none⟩)) = rgA s.r ∧ w6.cell? ⟨bi, 0, none⟩ = some (.int .i64 23) ∧ w6.cell? ⟨bi, 1, none⟩ = some (.int .i64 d) ∧ w6.cell? ⟨bi, 2, none⟩ = some (.int .i64 a) ∧ w6.cell? ⟨bi, 3, none⟩ = some (.int .i64 b) ∧ w6.cell? ⟨bi, 4, none⟩ = some (.int .i64 s0) ∧ w6.cell? ⟨bi, 5, none⟩ = some (.int .i64 c) ∧ w6.cell? ⟨bi, 6, none⟩ = some (.int .i64 n) := ⟨(Cohas C6.out.co).1, (Cohas C6.out.co).2, (X6.out.cell 0).trans rfl, (X6.out.cell 1).trans rfl, (X6.out.cell 2).trans rfl, (X6.out.cell 3).trans rfl, (X6.out.cell 4).trans rfl, (X6.out.cell 5).trans rfl, (X6.out.cell 6).trans rfl⟩
    refine hK _ _ SC ?_
    clear hK K hb6 SB SC C5 X5
    generalize w5.heap.size = b8 at *
    try simp only [Act.put, List.setIfInBounds_toArray, List.set_cons_zero, List.set_cons_succ]
    refine Hh.one (i := 11) rfl (by kernel_rfl) rfl (fun K hK => ?_)
    have ht := RVthere hr6 zero_ok
    have hgd := good okr
    go_simp
    have hp7 := RVput hr6 zero_ok okr
    obtain ⟨w7, hw7⟩ : ∃ w7, putV w6 (.pointer (some ⟨b8, 0, none⟩)) (.agg (rgA s.r)) = w7 := ⟨_, rfl⟩
    rw [hw7] at hp7 ⊢
    clear hw7
    have z7 := hp7.below 0 w6 (Nat.zero_le _) (Below.refl _ _)
    have O7 : Only [b8] w6 w7 := ⟨z7.os, z7.tape, z7.output, z7.size, fun k hk hn => hp7.other k (by simpa using hn)⟩
    have C7 : Hid (Cg w q mq F s w7) := Lib.hid ⟨C6.out.co.only O7 (by simpa using fun e => hq8 e.symm) (fun k hk e => by have := hHF.out k hk; simp at e; have := HB8.out; omega), C6.out.on.trans (F' := [b8]) O7 (by simp; exact Or.inr HB8.out)⟩
    have X7 := Lib.hid (X6.out.only O7 (by simpa using fun e => hq9 e.symm))
    have hr7 := hp7.has
    have SD : HasV w7 (.pointer (some ⟨q, 2, none⟩)) ∧ cellsV w7 (.pointer (some ⟨q, 2, none⟩)) = rgA s.r ∧ w7.cell? ⟨bi, 0, none⟩ = some (.int .i64 23) ∧ w7.cell? ⟨bi, 1, none⟩ = some (.int .i64 d) ∧ w7.cell? ⟨bi, 2, none⟩ = some (.int .i64 a) ∧ w7.cell? ⟨bi, 3, none⟩ = some (.int .i64 b) ∧ w7.cell? ⟨bi, 4, none⟩ = some (.int .i64 s0) ∧ w7.cell? ⟨bi, 5, none⟩ = some (.int .i64 c) ∧ w7.cell? ⟨bi, 6, none⟩ = some (.int .i64 n) := ⟨(Cohas C7.out.co).1, (Cohas C7.out.co).2, (X7.out.cell 0).trans rfl, (X7.out.cell 1).trans rfl, (X7.out.cell 2).trans rfl, (X7.out.cell 3).trans rfl, (X7.out.cell 4).trans rfl, (X7.out.cell 5).trans rfl, (X7.out.cell 6).trans rfl⟩
    refine hK _ _ SD ?_
    clear hK K ht hgd hp7 O7 z7 C6 X6 hr6
    try simp only [Act.put, List.setIfInBounds_toArray, List.set_cons_zero, List.set_cons_succ]
    refine Hh.one (i := 12) rfl (by kernel_rfl) rfl (fun K hK => ?_)
    go_simp
    refine hK _ _ SD ?_
    clear hK K
    try simp only [Act.put, List.setIfInBounds_toArray, List.set_cons_zero, List.set_cons_succ]
    refine Hh.one (i := 13) rfl (by kernel_rfl) rfl (fun K hK => ?_)
    go_simp
    refine hK _ _ SD ?_
    clear hK K
    try simp only [Act.put, List.setIfInBounds_toArray, List.set_cons_zero, List.set_cons_succ]
    refine Hh.done (by kernel_rfl) ?_ _
    clear SD
    have x0 : w7.cell? ⟨bi, 0, none⟩ = some (.int .i64 23) := (X7.out.cell 0).trans rfl
    have p35 : w7.cell? ⟨q, 35, none⟩ = some (.int .i64 (k : Int)) := by rw [C7.out.co.pc]; exact congrArg (fun z => some (Value.int .i64 z)) hpc
    have f35 := C7.out.co.free 35
    go_upto_region 28 with fail
    have C8 := Lib.hid (C7.out.pc ((k : Int) + 1))
    obtain ⟨w8, hw8⟩ : ∃ w8, w7.setCell ⟨q, 35, none⟩ (.int .i64 ((k : Int) + 1)) = w8 := ⟨_, rfl⟩
    rw [hw8] at C8
    try rw [hw8]
    clear hw8 p35 f35 x0 C7 X7 hr7
    have px := C8.out.co.x0
    go_wp2_with fail
    refine (event_any C8.out.co 4 0 (reg s.r 0)).mono ?_
    rintro e w10 ⟨E, rfl, hev, hb10⟩
    have HEV := Lib.hid hev
    have C10 := Lib.hid (C8.out.keep hb10)
    clear hev hb10
    go_wp2_with fail
    go_ret2
    exact ⟨E, 1, 1, rfl, HEV.out, C10.out⟩
  · skip
    go_simp
    simp only [zeros_eq]
    have hr5 := RV.new w3.drew zeroR
    have hb5 := below_alw w3.drew (.cells (rgA zeroR) 75)
    obtain ⟨w5, hw5⟩ : ∃ w5, w3.drew.alloc (.cells (rgA zeroR) 75) = w5 := ⟨_, rfl⟩
    have hw5' : (w3.alloc (.cells (rgA zeroR) 75)).drew = w5 := hw5
    rw [hw5] at hr5 hb5
    first | rw [hw5] | rw [hw5']
    clear hw5 hw5'
    have hq8 : w3.drew.heap.size ≠ q := by have := C4.out.co.lt; omega
    have hq9 : w3.drew.heap.size ≠ bi := by have := X4.out.lt; omega
    have C5 := Lib.hid (C4.out.keep hb5)
    have X5 := Lib.hid (X4.out.keep hb5)
    have HB8 := Lib.hid (show w.heap.size ≤ w3.drew.heap.size from C4.out.on.size)
    have SB : HasV w5 (.pointer (some ⟨q, 2, none⟩)) ∧ cellsV w5 (.pointer (some ⟨q, 2, none⟩)) = rgA s.r ∧ w5.cell? ⟨bi, 0, none⟩ = some (.int .i64 23) ∧ w5.cell? ⟨bi, 1, none⟩ = some (.int .i64 d) ∧ w5.cell? ⟨bi, 2, none⟩ = some (.int .i64 a) ∧ w5.cell? ⟨bi, 3, none⟩ = some (.int .i64 b) ∧ w5.cell? ⟨bi, 4, none⟩ = some (.int .i64 s0) ∧ w5.cell? ⟨bi, 5, none⟩ = some (.int .i64 c) ∧ w5.cell? ⟨bi, 6, none⟩ = some (.int .i64 n) := ⟨(Cohas C5.out.co).1, (Cohas C5.out.co).2, (X5.out.cell 0).trans rfl, (X5.out.cell 1).trans rfl, (X5.out.cell 2).trans rfl, (X5.out.cell 3).trans rfl, (X5.out.cell 4).trans rfl, (X5.out.cell 5).trans rfl, (X5.out.cell 6).trans rfl⟩
    refine hK _ _ SB ?_
    clear hK K hb5 SA r1 r2 C4 X4
    have h38 : w3.drew.heap.size = w3.heap.size := rfl
    rw [h38] at hr5 hq8 hq9 HB8
    try rw [h38]
    clear h38
    generalize w3.heap.size = b8 at *
    try simp only [Act.put, List.setIfInBounds_toArray, List.set_cons_zero, List.set_cons_succ]
    refine Hh.one (i := 5) rfl (by kernel_rfl) rfl (fun K hK => ?_)
    go_simp
    refine (RA.out _).mono ?_
    rintro e w6 ⟨rfl, hb6⟩
    have C6 := Lib.hid (C5.out.keep hb6)
    have X6 := Lib.hid (X5.out.keep hb6)
    have hr6 := hr5.keep hb6
    have SC : HasV w6 (.pointer (some ⟨q, 2, none⟩)) ∧ cellsV w6 (.pointer (some ⟨q, 2, none⟩)) = rgA s.r ∧ w6.cell? ⟨bi, 0, none⟩ = some (.int .i64 23) ∧ w6.cell? ⟨bi, 1, none⟩ = some (.int .i64 d) ∧ w6.cell? ⟨bi, 2, none⟩ = some (.int .i64 a) ∧ w6.cell? ⟨bi, 3, none⟩ = some (.int .i64 b) ∧ w6.cell? ⟨bi, 4, none⟩ = some (.int .i64 s0) ∧ w6.cell? ⟨bi, 5, none⟩ = some (.int .i64 c) ∧ w6.cell? ⟨bi, 6, none⟩ = some (.int .i64 n) := ⟨(Cohas C6.out.co).1, (Cohas C6.out.co).2, (X6.out.cell 0).trans rfl, (X6.out.cell 1).trans rfl, (X6.out.cell 2).trans rfl, (X6.out.cell 3).trans rfl, (X6.out.cell 4).trans rfl, (X6.out.cell 5).trans rfl, (X6.out.cell 6).trans rfl⟩
    refine hK _ _ SC ?_
    clear hK K hb6 SB hr5 C5 X5
    try simp only [Act.put, List.setIfInBounds_toArray, List.set_cons_zero, List.set_cons_succ]
    refine Hh.take (i := 6) (v := ?v6b) rfl (by decide +kernel) (by decide +kernel) (fun _ _ _ h => h) rfl ?hy6b SC ?rest6b
    case hy6b =>
      intro wq hSw
      obtain ⟨s1, s2, s3, s4, s5, s6, s7, s8, s9⟩ := hSw
      go_simp
      try with_reducible rfl
    try simp only [Act.put, List.setIfInBounds_toArray, List.set_cons_zero, List.set_cons_succ]
    refine Hh.take (i := 7) (v := ?v7b) rfl (by decide +kernel) (by decide +kernel) (fun _ _ _ h => h) rfl ?hy7b SC ?rest7b
    case hy7b =>
      intro wq hSw
      obtain ⟨s1, s2, s3, s4, s5, s6, s7, s8, s9⟩ := hSw
      go_simp
      try with_reducible rfl
    try simp only [Act.put, List.setIfInBounds_toArray, List.set_cons_zero, List.set_cons_succ]
    refine Hh.take (i := 8) (v := ?v8b) rfl (by decide +kernel) (by decide +kernel) (fun _ _ _ h => h) rfl ?hy8b SC ?rest8b
    case hy8b =>
      intro wq hSw
      obtain ⟨s1, s2, s3, s4, s5, s6, s7, s8, s9⟩ := hSw
      go_simp
      try with_reducible rfl
    try simp only [Act.put, List.setIfInBounds_toArray, List.set_cons_zero, List.set_cons_succ]
    refine Hh.take (i := 9) (v := ?v9b) rfl (by decide +kernel) (by decide +kernel) (fun _ _ _ h => h) rfl ?hy9b SC ?rest9b
    case hy9b =>
      intro wq hSw
      obtain ⟨s1, s2, s3, s4, s5, s6, s7, s8, s9⟩ := hSw
      go_simp
      try with_reducible rfl
    try simp only [Act.put, List.setIfInBounds_toArray, List.set_cons_zero, List.set_cons_succ]
    clear SC
    refine Hh.one (i := 11) rfl (by kernel_rfl) rfl (fun K hK => ?_)
    have ht := RVthere hr6 zero_ok
    have hgd := good okr
    go_simp
    have hp7 := RVput hr6 zero_ok okr
    obtain ⟨w7, hw7⟩ : ∃ w7, putV w6 (.pointer (some ⟨b8, 0, none⟩)) (.agg (rgA s.r)) = w7 := ⟨_, rfl⟩
    rw [hw7] at hp7 ⊢
    clear hw7
    have z7 := hp7.below 0 w6 (Nat.zero_le _) (Below.refl _ _)
    have O7 : Only [b8] w6 w7 := ⟨z7.os, z7.tape, z7.output, z7.size, fun k hk hn => hp7.other k (by simpa using hn)⟩
    have C7 : Hid (Cg w q mq F s w7) := Lib.hid ⟨C6.out.co.only O7 (by simpa using fun e => hq8 e.symm) (fun k hk e => by have := hHF.out k hk; simp at e; have := HB8.out; omega), C6.out.on.trans (F' := [b8]) O7 (by simp; exact Or.inr HB8.out)⟩
    have X7 := Lib.hid (X6.out.only O7 (by simpa using fun e => hq9 e.symm))
    have hr7 := hp7.has
    have SD : HasV w7 (.pointer (some ⟨q, 2, none⟩)) ∧ cellsV w7 (.pointer (some ⟨q, 2, none⟩)) = rgA s.r ∧ w7.cell? ⟨bi, 0, none⟩ = some (.int .i64 23) ∧ w7.cell? ⟨bi, 1, none⟩ = some (.int .i64 d) ∧ w7.cell? ⟨bi, 2, none⟩ = some (.int .i64 a) ∧ w7.cell? ⟨bi, 3, none⟩ = some (.int .i64 b) ∧ w7.cell? ⟨bi, 4, none⟩ = some (.int .i64 s0) ∧ w7.cell? ⟨bi, 5, none⟩ = some (.int .i64 c) ∧ w7.cell? ⟨bi, 6, none⟩ = some (.int .i64 n) := ⟨(Cohas C7.out.co).1, (Cohas C7.out.co).2, (X7.out.cell 0).trans rfl, (X7.out.cell 1).trans rfl, (X7.out.cell 2).trans rfl, (X7.out.cell 3).trans rfl, (X7.out.cell 4).trans rfl, (X7.out.cell 5).trans rfl, (X7.out.cell 6).trans rfl⟩
    refine hK _ _ SD ?_
    clear hK K ht hgd hp7 O7 z7 C6 X6 hr6
    try simp only [Act.put, List.setIfInBounds_toArray, List.set_cons_zero, List.set_cons_succ]
    refine Hh.one (i := 12) rfl (by kernel_rfl) rfl (fun K hK => ?_)
    go_simp
    refine hK _ _ SD ?_
    clear hK K
    try simp only [Act.put, List.setIfInBounds_toArray, List.set_cons_zero, List.set_cons_succ]
    refine Hh.one (i := 13) rfl (by kernel_rfl) rfl (fun K hK => ?_)
    go_simp
    refine hK _ _ SD ?_
    clear hK K
    try simp only [Act.put, List.setIfInBounds_toArray, List.set_cons_zero, List.set_cons_succ]
    refine Hh.done (by kernel_rfl) ?_ _
    clear SD
    have x0 : w7.cell? ⟨bi, 0, none⟩ = some (.int .i64 23) := (X7.out.cell 0).trans rfl
    have p35 : w7.cell? ⟨q, 35, none⟩ = some (.int .i64 (k : Int)) := by rw [C7.out.co.pc]; exact congrArg (fun z => some (Value.int .i64 z)) hpc
    have f35 := C7.out.co.free 35
    go_upto_region 28 with fail
    have C8 := Lib.hid (C7.out.pc ((k : Int) + 1))
    obtain ⟨w8, hw8⟩ : ∃ w8, w7.setCell ⟨q, 35, none⟩ (.int .i64 ((k : Int) + 1)) = w8 := ⟨_, rfl⟩
    rw [hw8] at C8
    try rw [hw8]
    clear hw8 p35 f35 x0 C7 X7 hr7
    have px := C8.out.co.x0
    go_wp2_with fail
    refine (event_any C8.out.co 4 0 (reg s.r 0)).mono ?_
    rintro e w10 ⟨E, rfl, hev, hb10⟩
    have HEV := Lib.hid hev
    have C10 := Lib.hid (C8.out.keep hb10)
    clear hev hb10
    go_wp2_with fail
    go_ret2
    exact ⟨E, 1, 1, rfl, HEV.out, C10.out⟩

set_option maxRecDepth 20000 in
set_option maxHeartbeats 3200000 in
theorem exec_mem12 {w : World} {q mq : Nat} {F : List Nat} {s : Cr} {A : Option Addr} {m cap : Nat} {code : List In} (h : Co w q mq F s) (hc : IsCode w A m cap code) (k : Nat) (hk : k < m) (hpc : s.pc = (k : Int)) (hst : s.st = 0) (d a b s0 c n : Int) (hi : code.getD k zeroIn = ⟨12, d, a, b, s0, c, n⟩) (s2 : Cr) (ev : List Ev) (hal : Alu.step s.r ⟨12, d, a, b, s0, c, n⟩ = (s.r, 0, false)) (okr : okR s.r) (hme : ∀ w1 : World, Co w1 q mq F s → Calls Try.prog 60 #[.pointer (some ⟨q, 0, none⟩), .agg #[.int .i64 12, .int .i64 d, .int .i64 a, .int .i64 b, .int .i64 s0, .int .i64 c, .int .i64 n]] w1 (Ans q mq F s w1 s2 ev)) :
    Calls Try.prog 33 #[.pointer (some ⟨q, 0, none⟩), .slice A m cap] w (Ans q mq F s w s2 ev) := by
  have HME := Lib.hid hme
  clear hme
  have hHF := Lib.hid (show ∀ k ∈ F, k < w.heap.size from by obtain ⟨kp, hm⟩ := h.mem; exact hm.lt)
  have hpcb : (k : Int) ≤ 65536 := by have := hc.2.2.1; omega
  have i1 : IntKind.i64.wrap ((k : Int) + 1) = (k : Int) + 1 := IntWalk.i64_in _ ⟨by omega, by omega⟩
  obtain ⟨hA, hAn, hA6, hAr⟩ := id hc
  obtain ⟨bb, oo, rfl, hbb, wc, hrt⟩ := hc.at_ hk
  have H := Lib.hid h
  have hlt := h.lt
  have hnk : (k : Int) < (m : Int) := by omega
  have d1 : decide ((k : Int) < 0) = false := decide_eq_false (by omega)
  have d2 : decide ((m : Int) ≤ (k : Int)) = false := decide_eq_false (by omega)
  have p36 : w.cell? ⟨q, 36, none⟩ = some (.int .i64 0) := by rw [h.st, hst]
  have p35 : w.cell? ⟨q, 35, none⟩ = some (.int .i64 (k : Int)) := by rw [h.pc, hpc]
  have DE := Lib.hid (fun w => rdec_at (code.getD k zeroIn) hrt w)
  have RT := Lib.hid hrt
  obtain ⟨W0, hW0⟩ : ∃ W0, (encode (code.getD k zeroIn)).1 = W0 := ⟨_, rfl⟩
  rw [hW0] at DE wc
  rw [hi] at DE RT
  clear hW0 h hc hA hAn hAr hrt hst
  go_enter Try.func33, Try.ntmps33
  go_wp2_with fail
  refine (DE.out _).mono ?_
  rintro e w2 ⟨rfl, hb2⟩
  have C2 := Lib.hid ((Cg.start H.out).keep hb2)
  clear DE wc p35 p36 hb2 H
  go_upto_region 8 with fail
  have hb3 := below_alw w2 (.cells #[.int .i64 12, .int .i64 d, .int .i64 a, .int .i64 b, .int .i64 s0, .int .i64 c, .int .i64 n] 45)
  have C3 := Lib.hid (C2.out.keep hb3)
  have X3 := Lib.hid (Bx.new w2 ⟨12, d, a, b, s0, c, n⟩)
  obtain ⟨w3, hw3⟩ : ∃ w3, w2.alloc (.cells #[.int .i64 12, .int .i64 d, .int .i64 a, .int .i64 b, .int .i64 s0, .int .i64 c, .int .i64 n] 45) = w3 := ⟨_, rfl⟩
  rw [show w2.alloc (.cells (insL ⟨12, d, a, b, s0, c, n⟩).toArray 45) = w3 from hw3] at X3
  rw [hw3] at C3
  try rw [hw3]
  have hlt2 := C2.out.co.lt
  have hbq : w2.heap.size ≠ q := by omega
  clear hw3 hb3 C2 hlt2
  generalize w2.heap.size = bi at *
  have C4 := Lib.hid C3.out.drew
  have X4 := Lib.hid (X3.out.keep (Below.refl _ _).drew)
  clear C3 X3
  obtain ⟨r1, r2⟩ := Cohas C4.out.co
  have RA := Lib.hid (fun w => AluRA.ralu_any s.r ⟨12, d, a, b, s0, c, n⟩ w C4.out.co.ok (right_ok RT.out))
  rw [hal] at RA
  clear hal
  refine Hh.start (fun w' => HasV w' (.pointer (some ⟨q, 2, none⟩)) ∧ cellsV w' (.pointer (some ⟨q, 2, none⟩)) = rgA s.r ∧ w'.cell? ⟨bi, 0, none⟩ = some (.int .i64 12) ∧ w'.cell? ⟨bi, 1, none⟩ = some (.int .i64 d) ∧ w'.cell? ⟨bi, 2, none⟩ = some (.int .i64 a) ∧ w'.cell? ⟨bi, 3, none⟩ = some (.int .i64 b) ∧ w'.cell? ⟨bi, 4, none⟩ = some (.int .i64 s0) ∧ w'.cell? ⟨bi, 5, none⟩ = some (.int .i64 c) ∧ w'.cell? ⟨bi, 6, none⟩ = some (.int .i64 n)) (by kernel_rfl) ?_
  have SA : HasV w3.drew (.pointer (some ⟨q, 2, none⟩)) ∧ cellsV w3.drew (.pointer (some ⟨q, 2, none⟩)) = rgA s.r ∧ w3.drew.cell? ⟨bi, 0, none⟩ = some (.int .i64 12) ∧ w3.drew.cell? ⟨bi, 1, none⟩ = some (.int .i64 d) ∧ w3.drew.cell? ⟨bi, 2, none⟩ = some (.int .i64 a) ∧ w3.drew.cell? ⟨bi, 3, none⟩ = some (.int .i64 b) ∧ w3.drew.cell? ⟨bi, 4, none⟩ = some (.int .i64 s0) ∧ w3.drew.cell? ⟨bi, 5, none⟩ = some (.int .i64 c) ∧ w3.drew.cell? ⟨bi, 6, none⟩ = some (.int .i64 n) := ⟨r1, r2, (X4.out.cell 0).trans rfl, (X4.out.cell 1).trans rfl, (X4.out.cell 2).trans rfl, (X4.out.cell 3).trans rfl, (X4.out.cell 4).trans rfl, (X4.out.cell 5).trans rfl, (X4.out.cell 6).trans rfl⟩
  refine Hh.take (i := 0) (v := ?v0) rfl (by decide +kernel) (by decide +kernel) (fun _ _ _ h => h) rfl ?hy0 SA ?rest0
  case hy0 =>
    intro wq hSw
    obtain ⟨s1, s2, s3, s4, s5, s6, s7, s8, s9⟩ := hSw
    go_simp
    try with_reducible rfl
  try simp only [Act.put, List.setIfInBounds_toArray, List.set_cons_zero, List.set_cons_succ]
  refine Hh.take (i := 1) (v := ?v1) rfl (by decide +kernel) (by decide +kernel) (fun _ _ _ h => h) rfl ?hy1 SA ?rest1
  case hy1 =>
    intro wq hSw
    obtain ⟨s1, s2, s3, s4, s5, s6, s7, s8, s9⟩ := hSw
    go_simp
    try with_reducible rfl
  try simp only [Act.put, List.setIfInBounds_toArray, List.set_cons_zero, List.set_cons_succ]
  refine Hh.take (i := 2) (v := ?v2) rfl (by decide +kernel) (by decide +kernel) (fun _ _ _ h => h) rfl ?hy2 SA ?rest2
  case hy2 =>
    intro wq hSw
    obtain ⟨s1, s2, s3, s4, s5, s6, s7, s8, s9⟩ := hSw
    go_simp
    try with_reducible rfl
  try simp only [Act.put, List.setIfInBounds_toArray, List.set_cons_zero, List.set_cons_succ]
  refine Hh.take (i := 3) (v := ?v3) rfl (by decide +kernel) (by decide +kernel) (fun _ _ _ h => h) rfl ?hy3 SA ?rest3
  case hy3 =>
    intro wq hSw
    obtain ⟨s1, s2, s3, s4, s5, s6, s7, s8, s9⟩ := hSw
    go_simp
    try with_reducible rfl
  try simp only [Act.put, List.setIfInBounds_toArray, List.set_cons_zero, List.set_cons_succ]
  refine Hh.take (i := 4) (v := ?v4) rfl (by decide +kernel) (by decide +kernel) (fun _ _ _ h => h) rfl ?hy4 SA ?rest4
  case hy4 =>
    intro wq hSw
    obtain ⟨s1, s2, s3, s4, s5, s6, s7, s8, s9⟩ := hSw
    go_simp
    try with_reducible rfl
  try simp only [Act.put, List.setIfInBounds_toArray, List.set_cons_zero, List.set_cons_succ]
  refine Hh.two (i := 5) (j := 10) rfl rfl (by kernel_rfl) rfl rfl (fun K hK => ?_) (fun K hK => ?_)
  · skip
    go_simp
    refine (RA.out _).mono ?_
    rintro e w5 ⟨rfl, hb5⟩
    have C5 := Lib.hid (C4.out.keep hb5)
    have X5 := Lib.hid (X4.out.keep hb5)
    have SB : HasV w5 (.pointer (some ⟨q, 2, none⟩)) ∧ cellsV w5 (.pointer (some ⟨q, 2, none⟩)) = rgA s.r ∧ w5.cell? ⟨bi, 0, none⟩ = some (.int .i64 12) ∧ w5.cell? ⟨bi, 1, none⟩ = some (.int .i64 d) ∧ w5.cell? ⟨bi, 2, none⟩ = some (.int .i64 a) ∧ w5.cell? ⟨bi, 3, none⟩ = some (.int .i64 b) ∧ w5.cell? ⟨bi, 4, none⟩ = some (.int .i64 s0) ∧ w5.cell? ⟨bi, 5, none⟩ = some (.int .i64 c) ∧ w5.cell? ⟨bi, 6, none⟩ = some (.int .i64 n) := ⟨(Cohas C5.out.co).1, (Cohas C5.out.co).2, (X5.out.cell 0).trans rfl, (X5.out.cell 1).trans rfl, (X5.out.cell 2).trans rfl, (X5.out.cell 3).trans rfl, (X5.out.cell 4).trans rfl, (X5.out.cell 5).trans rfl, (X5.out.cell 6).trans rfl⟩
    refine hK _ _ SB ?_
    clear hK K hb5 SA r1 r2 C4 X4
    try simp only [Act.put, List.setIfInBounds_toArray, List.set_cons_zero, List.set_cons_succ]
    refine Hh.take (i := 6) (v := ?v6a) rfl (by decide +kernel) (by decide +kernel) (fun _ _ _ h => h) rfl ?hy6a SB ?rest6a
    case hy6a =>
      intro wq hSw
      obtain ⟨s1, s2, s3, s4, s5, s6, s7, s8, s9⟩ := hSw
      go_simp
      try with_reducible rfl
    try simp only [Act.put, List.setIfInBounds_toArray, List.set_cons_zero, List.set_cons_succ]
    refine Hh.take (i := 7) (v := ?v7a) rfl (by decide +kernel) (by decide +kernel) (fun _ _ _ h => h) rfl ?hy7a SB ?rest7a
    case hy7a =>
      intro wq hSw
      obtain ⟨s1, s2, s3, s4, s5, s6, s7, s8, s9⟩ := hSw
      go_simp
      try with_reducible rfl
    try simp only [Act.put, List.setIfInBounds_toArray, List.set_cons_zero, List.set_cons_succ]
    refine Hh.take (i := 8) (v := ?v8a) rfl (by decide +kernel) (by decide +kernel) (fun _ _ _ h => h) rfl ?hy8a SB ?rest8a
    case hy8a =>
      intro wq hSw
      obtain ⟨s1, s2, s3, s4, s5, s6, s7, s8, s9⟩ := hSw
      go_simp
      try with_reducible rfl
    try simp only [Act.put, List.setIfInBounds_toArray, List.set_cons_zero, List.set_cons_succ]
    refine Hh.take (i := 9) (v := ?v9a) rfl (by decide +kernel) (by decide +kernel) (fun _ _ _ h => h) rfl ?hy9a SB ?rest9a
    case hy9a =>
      intro wq hSw
      obtain ⟨s1, s2, s3, s4, s5, s6, s7, s8, s9⟩ := hSw
      go_simp
      try with_reducible rfl
    try simp only [Act.put, List.setIfInBounds_toArray, List.set_cons_zero, List.set_cons_succ]
    refine Hh.one (i := 10) rfl (by kernel_rfl) rfl (fun K hK => ?_)
    go_simp
    simp only [zeros_eq]
    have hr6 := RV.new w5 zeroR
    have hb6 := below_alw w5 (.cells (rgA zeroR) 75)
    obtain ⟨w6, hw6⟩ : ∃ w6, w5.alloc (.cells (rgA zeroR) 75) = w6 := ⟨_, rfl⟩
    rw [hw6] at hr6 hb6 ⊢
    clear hw6
    have hq8 : w5.heap.size ≠ q := by have := C5.out.co.lt; omega
    have hq9 : w5.heap.size ≠ bi := by have := X5.out.lt; omega
    have C6 := Lib.hid (C5.out.keep hb6)
    have X6 := Lib.hid (X5.out.keep hb6)
    have HB8 := Lib.hid (show w.heap.size ≤ w5.heap.size from C5.out.on.size)
    have SC : HasV w6 (.pointer (some ⟨q, 2, none⟩)) ∧ cellsV w6 (.pointer (some ⟨q, 2, none⟩)) = rgA s.r ∧ w6.cell? ⟨bi, 0, none⟩ = some (.int .i64 12) ∧ w6.cell? ⟨bi, 1, none⟩ = some (.int .i64 d) ∧ w6.cell? ⟨bi, 2, none⟩ = some (.int .i64 a) ∧ w6.cell? ⟨bi, 3, none⟩ = some (.int .i64 b) ∧ w6.cell? ⟨bi, 4, none⟩ = some (.int .i64 s0) ∧ w6.cell? ⟨bi, 5, none⟩ = some (.int .i64 c) ∧ w6.cell? ⟨bi, 6, none⟩ = some (.int .i64 n) := ⟨(Cohas C6.out.co).1, (Cohas C6.out.co).2, (X6.out.cell 0).trans rfl, (X6.out.cell 1).trans rfl, (X6.out.cell 2).trans rfl, (X6.out.cell 3).trans rfl, (X6.out.cell 4).trans rfl, (X6.out.cell 5).trans rfl, (X6.out.cell 6).trans rfl⟩
    refine hK _ _ SC ?_
    clear hK K hb6 SB SC C5 X5
    generalize w5.heap.size = b8 at *
    try simp only [Act.put, List.setIfInBounds_toArray, List.set_cons_zero, List.set_cons_succ]
    refine Hh.one (i := 11) rfl (by kernel_rfl) rfl (fun K hK => ?_)
    have ht := RVthere hr6 zero_ok
    have hgd := good okr
    go_simp
    have hp7 := RVput hr6 zero_ok okr
    obtain ⟨w7, hw7⟩ : ∃ w7, putV w6 (.pointer (some ⟨b8, 0, none⟩)) (.agg (rgA s.r)) = w7 := ⟨_, rfl⟩
    rw [hw7] at hp7 ⊢
    clear hw7
    have z7 := hp7.below 0 w6 (Nat.zero_le _) (Below.refl _ _)
    have O7 : Only [b8] w6 w7 := ⟨z7.os, z7.tape, z7.output, z7.size, fun k hk hn => hp7.other k (by simpa using hn)⟩
    have C7 : Hid (Cg w q mq F s w7) := Lib.hid ⟨C6.out.co.only O7 (by simpa using fun e => hq8 e.symm) (fun k hk e => by have := hHF.out k hk; simp at e; have := HB8.out; omega), C6.out.on.trans (F' := [b8]) O7 (by simp; exact Or.inr HB8.out)⟩
    have X7 := Lib.hid (X6.out.only O7 (by simpa using fun e => hq9 e.symm))
    have hr7 := hp7.has
    have SD : HasV w7 (.pointer (some ⟨q, 2, none⟩)) ∧ cellsV w7 (.pointer (some ⟨q, 2, none⟩)) = rgA s.r ∧ w7.cell? ⟨bi, 0, none⟩ = some (.int .i64 12) ∧ w7.cell? ⟨bi, 1, none⟩ = some (.int .i64 d) ∧ w7.cell? ⟨bi, 2, none⟩ = some (.int .i64 a) ∧ w7.cell? ⟨bi, 3, none⟩ = some (.int .i64 b) ∧ w7.cell? ⟨bi, 4, none⟩ = some (.int .i64 s0) ∧ w7.cell? ⟨bi, 5, none⟩ = some (.int .i64 c) ∧ w7.cell? ⟨bi, 6, none⟩ = some (.int .i64 n) := ⟨(Cohas C7.out.co).1, (Cohas C7.out.co).2, (X7.out.cell 0).trans rfl, (X7.out.cell 1).trans rfl, (X7.out.cell 2).trans rfl, (X7.out.cell 3).trans rfl, (X7.out.cell 4).trans rfl, (X7.out.cell 5).trans rfl, (X7.out.cell 6).trans rfl⟩
    refine hK _ _ SD ?_
    clear hK K ht hgd hp7 O7 z7 C6 X6 hr6
    try simp only [Act.put, List.setIfInBounds_toArray, List.set_cons_zero, List.set_cons_succ]
    refine Hh.one (i := 12) rfl (by kernel_rfl) rfl (fun K hK => ?_)
    go_simp
    refine hK _ _ SD ?_
    clear hK K
    try simp only [Act.put, List.setIfInBounds_toArray, List.set_cons_zero, List.set_cons_succ]
    refine Hh.one (i := 13) rfl (by kernel_rfl) rfl (fun K hK => ?_)
    go_simp
    refine hK _ _ SD ?_
    clear hK K
    try simp only [Act.put, List.setIfInBounds_toArray, List.set_cons_zero, List.set_cons_succ]
    refine Hh.done (by kernel_rfl) ?_ _
    clear SD
    have x0 : w7.cell? ⟨bi, 0, none⟩ = some (.int .i64 12) := (X7.out.cell 0).trans rfl
    have x1 : w7.cell? ⟨bi, 1, none⟩ = some (.int .i64 d) := (X7.out.cell 1).trans rfl
    have x2 : w7.cell? ⟨bi, 2, none⟩ = some (.int .i64 a) := (X7.out.cell 2).trans rfl
    have x3 : w7.cell? ⟨bi, 3, none⟩ = some (.int .i64 b) := (X7.out.cell 3).trans rfl
    have x4 : w7.cell? ⟨bi, 4, none⟩ = some (.int .i64 s0) := (X7.out.cell 4).trans rfl
    have x5 : w7.cell? ⟨bi, 5, none⟩ = some (.int .i64 c) := (X7.out.cell 5).trans rfl
    have x6 : w7.cell? ⟨bi, 6, none⟩ = some (.int .i64 n) := (X7.out.cell 6).trans rfl
    go_wp2_with fail
    refine (HME.out _ C7.out.co).mono ?_
    rintro e w8 ⟨E, en, ec, rfl, hev, hc8⟩
    have HEV := Lib.hid hev
    have C8 := Lib.hid (C7.out.then hc8)
    clear hev hc8
    go_wp2_with fail
    go_ret2
    exact ⟨E, en, ec, rfl, HEV.out, C8.out⟩
  · skip
    go_simp
    simp only [zeros_eq]
    have hr5 := RV.new w3.drew zeroR
    have hb5 := below_alw w3.drew (.cells (rgA zeroR) 75)
    obtain ⟨w5, hw5⟩ : ∃ w5, w3.drew.alloc (.cells (rgA zeroR) 75) = w5 := ⟨_, rfl⟩
    have hw5' : (w3.alloc (.cells (rgA zeroR) 75)).drew = w5 := hw5
    rw [hw5] at hr5 hb5
    first | rw [hw5] | rw [hw5']
    clear hw5 hw5'
    have hq8 : w3.drew.heap.size ≠ q := by have := C4.out.co.lt; omega
    have hq9 : w3.drew.heap.size ≠ bi := by have := X4.out.lt; omega
    have C5 := Lib.hid (C4.out.keep hb5)
    have X5 := Lib.hid (X4.out.keep hb5)
    have HB8 := Lib.hid (show w.heap.size ≤ w3.drew.heap.size from C4.out.on.size)
    have SB : HasV w5 (.pointer (some ⟨q, 2, none⟩)) ∧ cellsV w5 (.pointer (some ⟨q, 2, none⟩)) = rgA s.r ∧ w5.cell? ⟨bi, 0, none⟩ = some (.int .i64 12) ∧ w5.cell? ⟨bi, 1, none⟩ = some (.int .i64 d) ∧ w5.cell? ⟨bi, 2, none⟩ = some (.int .i64 a) ∧ w5.cell? ⟨bi, 3, none⟩ = some (.int .i64 b) ∧ w5.cell? ⟨bi, 4, none⟩ = some (.int .i64 s0) ∧ w5.cell? ⟨bi, 5, none⟩ = some (.int .i64 c) ∧ w5.cell? ⟨bi, 6, none⟩ = some (.int .i64 n) := ⟨(Cohas C5.out.co).1, (Cohas C5.out.co).2, (X5.out.cell 0).trans rfl, (X5.out.cell 1).trans rfl, (X5.out.cell 2).trans rfl, (X5.out.cell 3).trans rfl, (X5.out.cell 4).trans rfl, (X5.out.cell 5).trans rfl, (X5.out.cell 6).trans rfl⟩
    refine hK _ _ SB ?_
    clear hK K hb5 SA r1 r2 C4 X4
    have h38 : w3.drew.heap.size = w3.heap.size := rfl
    rw [h38] at hr5 hq8 hq9 HB8
    try rw [h38]
    clear h38
    generalize w3.heap.size = b8 at *
    try simp only [Act.put, List.setIfInBounds_toArray, List.set_cons_zero, List.set_cons_succ]
    refine Hh.one (i := 5) rfl (by kernel_rfl) rfl (fun K hK => ?_)
    go_simp
    refine (RA.out _).mono ?_
    rintro e w6 ⟨rfl, hb6⟩
    have C6 := Lib.hid (C5.out.keep hb6)
    have X6 := Lib.hid (X5.out.keep hb6)
    have hr6 := hr5.keep hb6
    have SC : HasV w6 (.pointer (some ⟨q, 2, none⟩)) ∧ cellsV w6 (.pointer (some ⟨q, 2, none⟩)) = rgA s.r ∧ w6.cell? ⟨bi, 0, none⟩ = some (.int .i64 12) ∧ w6.cell? ⟨bi, 1, none⟩ = some (.int .i64 d) ∧ w6.cell? ⟨bi, 2, none⟩ = some (.int .i64 a) ∧ w6.cell? ⟨bi, 3, none⟩ = some (.int .i64 b) ∧ w6.cell? ⟨bi, 4, none⟩ = some (.int .i64 s0) ∧ w6.cell? ⟨bi, 5, none⟩ = some (.int .i64 c) ∧ w6.cell? ⟨bi, 6, none⟩ = some (.int .i64 n) := ⟨(Cohas C6.out.co).1, (Cohas C6.out.co).2, (X6.out.cell 0).trans rfl, (X6.out.cell 1).trans rfl, (X6.out.cell 2).trans rfl, (X6.out.cell 3).trans rfl, (X6.out.cell 4).trans rfl, (X6.out.cell 5).trans rfl, (X6.out.cell 6).trans rfl⟩
    refine hK _ _ SC ?_
    clear hK K hb6 SB hr5 C5 X5
    try simp only [Act.put, List.setIfInBounds_toArray, List.set_cons_zero, List.set_cons_succ]
    refine Hh.take (i := 6) (v := ?v6b) rfl (by decide +kernel) (by decide +kernel) (fun _ _ _ h => h) rfl ?hy6b SC ?rest6b
    case hy6b =>
      intro wq hSw
      obtain ⟨s1, s2, s3, s4, s5, s6, s7, s8, s9⟩ := hSw
      go_simp
      try with_reducible rfl
    try simp only [Act.put, List.setIfInBounds_toArray, List.set_cons_zero, List.set_cons_succ]
    refine Hh.take (i := 7) (v := ?v7b) rfl (by decide +kernel) (by decide +kernel) (fun _ _ _ h => h) rfl ?hy7b SC ?rest7b
    case hy7b =>
      intro wq hSw
      obtain ⟨s1, s2, s3, s4, s5, s6, s7, s8, s9⟩ := hSw
      go_simp
      try with_reducible rfl
    try simp only [Act.put, List.setIfInBounds_toArray, List.set_cons_zero, List.set_cons_succ]
    refine Hh.take (i := 8) (v := ?v8b) rfl (by decide +kernel) (by decide +kernel) (fun _ _ _ h => h) rfl ?hy8b SC ?rest8b
    case hy8b =>
      intro wq hSw
      obtain ⟨s1, s2, s3, s4, s5, s6, s7, s8, s9⟩ := hSw
      go_simp
      try with_reducible rfl
    try simp only [Act.put, List.setIfInBounds_toArray, List.set_cons_zero, List.set_cons_succ]
    refine Hh.take (i := 9) (v := ?v9b) rfl (by decide +kernel) (by decide +kernel) (fun _ _ _ h => h) rfl ?hy9b SC ?rest9b
    case hy9b =>
      intro wq hSw
      obtain ⟨s1, s2, s3, s4, s5, s6, s7, s8, s9⟩ := hSw
      go_simp
      try with_reducible rfl
    try simp only [Act.put, List.setIfInBounds_toArray, List.set_cons_zero, List.set_cons_succ]
    clear SC
    refine Hh.one (i := 11) rfl (by kernel_rfl) rfl (fun K hK => ?_)
    have ht := RVthere hr6 zero_ok
    have hgd := good okr
    go_simp
    have hp7 := RVput hr6 zero_ok okr
    obtain ⟨w7, hw7⟩ : ∃ w7, putV w6 (.pointer (some ⟨b8, 0, none⟩)) (.agg (rgA s.r)) = w7 := ⟨_, rfl⟩
    rw [hw7] at hp7 ⊢
    clear hw7
    have z7 := hp7.below 0 w6 (Nat.zero_le _) (Below.refl _ _)
    have O7 : Only [b8] w6 w7 := ⟨z7.os, z7.tape, z7.output, z7.size, fun k hk hn => hp7.other k (by simpa using hn)⟩
    have C7 : Hid (Cg w q mq F s w7) := Lib.hid ⟨C6.out.co.only O7 (by simpa using fun e => hq8 e.symm) (fun k hk e => by have := hHF.out k hk; simp at e; have := HB8.out; omega), C6.out.on.trans (F' := [b8]) O7 (by simp; exact Or.inr HB8.out)⟩
    have X7 := Lib.hid (X6.out.only O7 (by simpa using fun e => hq9 e.symm))
    have hr7 := hp7.has
    have SD : HasV w7 (.pointer (some ⟨q, 2, none⟩)) ∧ cellsV w7 (.pointer (some ⟨q, 2, none⟩)) = rgA s.r ∧ w7.cell? ⟨bi, 0, none⟩ = some (.int .i64 12) ∧ w7.cell? ⟨bi, 1, none⟩ = some (.int .i64 d) ∧ w7.cell? ⟨bi, 2, none⟩ = some (.int .i64 a) ∧ w7.cell? ⟨bi, 3, none⟩ = some (.int .i64 b) ∧ w7.cell? ⟨bi, 4, none⟩ = some (.int .i64 s0) ∧ w7.cell? ⟨bi, 5, none⟩ = some (.int .i64 c) ∧ w7.cell? ⟨bi, 6, none⟩ = some (.int .i64 n) := ⟨(Cohas C7.out.co).1, (Cohas C7.out.co).2, (X7.out.cell 0).trans rfl, (X7.out.cell 1).trans rfl, (X7.out.cell 2).trans rfl, (X7.out.cell 3).trans rfl, (X7.out.cell 4).trans rfl, (X7.out.cell 5).trans rfl, (X7.out.cell 6).trans rfl⟩
    refine hK _ _ SD ?_
    clear hK K ht hgd hp7 O7 z7 C6 X6 hr6
    try simp only [Act.put, List.setIfInBounds_toArray, List.set_cons_zero, List.set_cons_succ]
    refine Hh.one (i := 12) rfl (by kernel_rfl) rfl (fun K hK => ?_)
    go_simp
    refine hK _ _ SD ?_
    clear hK K
    try simp only [Act.put, List.setIfInBounds_toArray, List.set_cons_zero, List.set_cons_succ]
    refine Hh.one (i := 13) rfl (by kernel_rfl) rfl (fun K hK => ?_)
    go_simp
    refine hK _ _ SD ?_
    clear hK K
    try simp only [Act.put, List.setIfInBounds_toArray, List.set_cons_zero, List.set_cons_succ]
    refine Hh.done (by kernel_rfl) ?_ _
    clear SD
    have x0 : w7.cell? ⟨bi, 0, none⟩ = some (.int .i64 12) := (X7.out.cell 0).trans rfl
    have x1 : w7.cell? ⟨bi, 1, none⟩ = some (.int .i64 d) := (X7.out.cell 1).trans rfl
    have x2 : w7.cell? ⟨bi, 2, none⟩ = some (.int .i64 a) := (X7.out.cell 2).trans rfl
    have x3 : w7.cell? ⟨bi, 3, none⟩ = some (.int .i64 b) := (X7.out.cell 3).trans rfl
    have x4 : w7.cell? ⟨bi, 4, none⟩ = some (.int .i64 s0) := (X7.out.cell 4).trans rfl
    have x5 : w7.cell? ⟨bi, 5, none⟩ = some (.int .i64 c) := (X7.out.cell 5).trans rfl
    have x6 : w7.cell? ⟨bi, 6, none⟩ = some (.int .i64 n) := (X7.out.cell 6).trans rfl
    go_wp2_with fail
    refine (HME.out _ C7.out.co).mono ?_
    rintro e w8 ⟨E, en, ec, rfl, hev, hc8⟩
    have HEV := Lib.hid hev
    have C8 := Lib.hid (C7.out.then hc8)
    clear hev hc8
    go_wp2_with fail
    go_ret2
    exact ⟨E, en, ec, rfl, HEV.out, C8.out⟩

set_option maxRecDepth 20000 in
set_option maxHeartbeats 3200000 in
theorem exec_mem13 {w : World} {q mq : Nat} {F : List Nat} {s : Cr} {A : Option Addr} {m cap : Nat} {code : List In} (h : Co w q mq F s) (hc : IsCode w A m cap code) (k : Nat) (hk : k < m) (hpc : s.pc = (k : Int)) (hst : s.st = 0) (d a b s0 c n : Int) (hi : code.getD k zeroIn = ⟨13, d, a, b, s0, c, n⟩) (s2 : Cr) (ev : List Ev) (hal : Alu.step s.r ⟨13, d, a, b, s0, c, n⟩ = (s.r, 0, false)) (okr : okR s.r) (hme : ∀ w1 : World, Co w1 q mq F s → Calls Try.prog 60 #[.pointer (some ⟨q, 0, none⟩), .agg #[.int .i64 13, .int .i64 d, .int .i64 a, .int .i64 b, .int .i64 s0, .int .i64 c, .int .i64 n]] w1 (Ans q mq F s w1 s2 ev)) :
    Calls Try.prog 33 #[.pointer (some ⟨q, 0, none⟩), .slice A m cap] w (Ans q mq F s w s2 ev) := by
  have HME := Lib.hid hme
  clear hme
  have hHF := Lib.hid (show ∀ k ∈ F, k < w.heap.size from by obtain ⟨kp, hm⟩ := h.mem; exact hm.lt)
  have hpcb : (k : Int) ≤ 65536 := by have := hc.2.2.1; omega
  have i1 : IntKind.i64.wrap ((k : Int) + 1) = (k : Int) + 1 := IntWalk.i64_in _ ⟨by omega, by omega⟩
  obtain ⟨hA, hAn, hA6, hAr⟩ := id hc
  obtain ⟨bb, oo, rfl, hbb, wc, hrt⟩ := hc.at_ hk
  have H := Lib.hid h
  have hlt := h.lt
  have hnk : (k : Int) < (m : Int) := by omega
  have d1 : decide ((k : Int) < 0) = false := decide_eq_false (by omega)
  have d2 : decide ((m : Int) ≤ (k : Int)) = false := decide_eq_false (by omega)
  have p36 : w.cell? ⟨q, 36, none⟩ = some (.int .i64 0) := by rw [h.st, hst]
  have p35 : w.cell? ⟨q, 35, none⟩ = some (.int .i64 (k : Int)) := by rw [h.pc, hpc]
  have DE := Lib.hid (fun w => rdec_at (code.getD k zeroIn) hrt w)
  have RT := Lib.hid hrt
  obtain ⟨W0, hW0⟩ : ∃ W0, (encode (code.getD k zeroIn)).1 = W0 := ⟨_, rfl⟩
  rw [hW0] at DE wc
  rw [hi] at DE RT
  clear hW0 h hc hA hAn hAr hrt hst
  go_enter Try.func33, Try.ntmps33
  go_wp2_with fail
  refine (DE.out _).mono ?_
  rintro e w2 ⟨rfl, hb2⟩
  have C2 := Lib.hid ((Cg.start H.out).keep hb2)
  clear DE wc p35 p36 hb2 H
  go_upto_region 8 with fail
  have hb3 := below_alw w2 (.cells #[.int .i64 13, .int .i64 d, .int .i64 a, .int .i64 b, .int .i64 s0, .int .i64 c, .int .i64 n] 45)
  have C3 := Lib.hid (C2.out.keep hb3)
  have X3 := Lib.hid (Bx.new w2 ⟨13, d, a, b, s0, c, n⟩)
  obtain ⟨w3, hw3⟩ : ∃ w3, w2.alloc (.cells #[.int .i64 13, .int .i64 d, .int .i64 a, .int .i64 b, .int .i64 s0, .int .i64 c, .int .i64 n] 45) = w3 := ⟨_, rfl⟩
  rw [show w2.alloc (.cells (insL ⟨13, d, a, b, s0, c, n⟩).toArray 45) = w3 from hw3] at X3
  rw [hw3] at C3
  try rw [hw3]
  have hlt2 := C2.out.co.lt
  have hbq : w2.heap.size ≠ q := by omega
  clear hw3 hb3 C2 hlt2
  generalize w2.heap.size = bi at *
  have C4 := Lib.hid C3.out.drew
  have X4 := Lib.hid (X3.out.keep (Below.refl _ _).drew)
  clear C3 X3
  obtain ⟨r1, r2⟩ := Cohas C4.out.co
  have RA := Lib.hid (fun w => AluRA.ralu_any s.r ⟨13, d, a, b, s0, c, n⟩ w C4.out.co.ok (right_ok RT.out))
  rw [hal] at RA
  clear hal
  refine Hh.start (fun w' => HasV w' (.pointer (some ⟨q, 2, none⟩)) ∧ cellsV w' (.pointer (some ⟨q, 2, none⟩)) = rgA s.r ∧ w'.cell? ⟨bi, 0, none⟩ = some (.int .i64 13) ∧ w'.cell? ⟨bi, 1, none⟩ = some (.int .i64 d) ∧ w'.cell? ⟨bi, 2, none⟩ = some (.int .i64 a) ∧ w'.cell? ⟨bi, 3, none⟩ = some (.int .i64 b) ∧ w'.cell? ⟨bi, 4, none⟩ = some (.int .i64 s0) ∧ w'.cell? ⟨bi, 5, none⟩ = some (.int .i64 c) ∧ w'.cell? ⟨bi, 6, none⟩ = some (.int .i64 n)) (by kernel_rfl) ?_
  have SA : HasV w3.drew (.pointer (some ⟨q, 2, none⟩)) ∧ cellsV w3.drew (.pointer (some ⟨q, 2, none⟩)) = rgA s.r ∧ w3.drew.cell? ⟨bi, 0, none⟩ = some (.int .i64 13) ∧ w3.drew.cell? ⟨bi, 1, none⟩ = some (.int .i64 d) ∧ w3.drew.cell? ⟨bi, 2, none⟩ = some (.int .i64 a) ∧ w3.drew.cell? ⟨bi, 3, none⟩ = some (.int .i64 b) ∧ w3.drew.cell? ⟨bi, 4, none⟩ = some (.int .i64 s0) ∧ w3.drew.cell? ⟨bi, 5, none⟩ = some (.int .i64 c) ∧ w3.drew.cell? ⟨bi, 6, none⟩ = some (.int .i64 n) := ⟨r1, r2, (X4.out.cell 0).trans rfl, (X4.out.cell 1).trans rfl, (X4.out.cell 2).trans rfl, (X4.out.cell 3).trans rfl, (X4.out.cell 4).trans rfl, (X4.out.cell 5).trans rfl, (X4.out.cell 6).trans rfl⟩
  refine Hh.take (i := 0) (v := ?v0) rfl (by decide +kernel) (by decide +kernel) (fun _ _ _ h => h) rfl ?hy0 SA ?rest0
  case hy0 =>
    intro wq hSw
    obtain ⟨s1, s2, s3, s4, s5, s6, s7, s8, s9⟩ := hSw
    go_simp
    try with_reducible rfl
  try simp only [Act.put, List.setIfInBounds_toArray, List.set_cons_zero, List.set_cons_succ]
  refine Hh.take (i := 1) (v := ?v1) rfl (by decide +kernel) (by decide +kernel) (fun _ _ _ h => h) rfl ?hy1 SA ?rest1
  case hy1 =>
    intro wq hSw
    obtain ⟨s1, s2, s3, s4, s5, s6, s7, s8, s9⟩ := hSw
    go_simp
    try with_reducible rfl
  try simp only [Act.put, List.setIfInBounds_toArray, List.set_cons_zero, List.set_cons_succ]
  refine Hh.take (i := 2) (v := ?v2) rfl (by decide +kernel) (by decide +kernel) (fun _ _ _ h => h) rfl ?hy2 SA ?rest2
  case hy2 =>
    intro wq hSw
    obtain ⟨s1, s2, s3, s4, s5, s6, s7, s8, s9⟩ := hSw
    go_simp
    try with_reducible rfl
  try simp only [Act.put, List.setIfInBounds_toArray, List.set_cons_zero, List.set_cons_succ]
  refine Hh.take (i := 3) (v := ?v3) rfl (by decide +kernel) (by decide +kernel) (fun _ _ _ h => h) rfl ?hy3 SA ?rest3
  case hy3 =>
    intro wq hSw
    obtain ⟨s1, s2, s3, s4, s5, s6, s7, s8, s9⟩ := hSw
    go_simp
    try with_reducible rfl
  try simp only [Act.put, List.setIfInBounds_toArray, List.set_cons_zero, List.set_cons_succ]
  refine Hh.take (i := 4) (v := ?v4) rfl (by decide +kernel) (by decide +kernel) (fun _ _ _ h => h) rfl ?hy4 SA ?rest4
  case hy4 =>
    intro wq hSw
    obtain ⟨s1, s2, s3, s4, s5, s6, s7, s8, s9⟩ := hSw
    go_simp
    try with_reducible rfl
  try simp only [Act.put, List.setIfInBounds_toArray, List.set_cons_zero, List.set_cons_succ]
  refine Hh.two (i := 5) (j := 10) rfl rfl (by kernel_rfl) rfl rfl (fun K hK => ?_) (fun K hK => ?_)
  · skip
    go_simp
    refine (RA.out _).mono ?_
    rintro e w5 ⟨rfl, hb5⟩
    have C5 := Lib.hid (C4.out.keep hb5)
    have X5 := Lib.hid (X4.out.keep hb5)
    have SB : HasV w5 (.pointer (some ⟨q, 2, none⟩)) ∧ cellsV w5 (.pointer (some ⟨q, 2, none⟩)) = rgA s.r ∧ w5.cell? ⟨bi, 0, none⟩ = some (.int .i64 13) ∧ w5.cell? ⟨bi, 1, none⟩ = some (.int .i64 d) ∧ w5.cell? ⟨bi, 2, none⟩ = some (.int .i64 a) ∧ w5.cell? ⟨bi, 3, none⟩ = some (.int .i64 b) ∧ w5.cell? ⟨bi, 4, none⟩ = some (.int .i64 s0) ∧ w5.cell? ⟨bi, 5, none⟩ = some (.int .i64 c) ∧ w5.cell? ⟨bi, 6, none⟩ = some (.int .i64 n) := ⟨(Cohas C5.out.co).1, (Cohas C5.out.co).2, (X5.out.cell 0).trans rfl, (X5.out.cell 1).trans rfl, (X5.out.cell 2).trans rfl, (X5.out.cell 3).trans rfl, (X5.out.cell 4).trans rfl, (X5.out.cell 5).trans rfl, (X5.out.cell 6).trans rfl⟩
    refine hK _ _ SB ?_
    clear hK K hb5 SA r1 r2 C4 X4
    try simp only [Act.put, List.setIfInBounds_toArray, List.set_cons_zero, List.set_cons_succ]
    refine Hh.take (i := 6) (v := ?v6a) rfl (by decide +kernel) (by decide +kernel) (fun _ _ _ h => h) rfl ?hy6a SB ?rest6a
    case hy6a =>
      intro wq hSw
      obtain ⟨s1, s2, s3, s4, s5, s6, s7, s8, s9⟩ := hSw
      go_simp
      try with_reducible rfl
    try simp only [Act.put, List.setIfInBounds_toArray, List.set_cons_zero, List.set_cons_succ]
    refine Hh.take (i := 7) (v := ?v7a) rfl (by decide +kernel) (by decide +kernel) (fun _ _ _ h => h) rfl ?hy7a SB ?rest7a
    case hy7a =>
      intro wq hSw
      obtain ⟨s1, s2, s3, s4, s5, s6, s7, s8, s9⟩ := hSw
      go_simp
      try with_reducible rfl
    try simp only [Act.put, List.setIfInBounds_toArray, List.set_cons_zero, List.set_cons_succ]
    refine Hh.take (i := 8) (v := ?v8a) rfl (by decide +kernel) (by decide +kernel) (fun _ _ _ h => h) rfl ?hy8a SB ?rest8a
    case hy8a =>
      intro wq hSw
      obtain ⟨s1, s2, s3, s4, s5, s6, s7, s8, s9⟩ := hSw
      go_simp
      try with_reducible rfl
    try simp only [Act.put, List.setIfInBounds_toArray, List.set_cons_zero, List.set_cons_succ]
    refine Hh.take (i := 9) (v := ?v9a) rfl (by decide +kernel) (by decide +kernel) (fun _ _ _ h => h) rfl ?hy9a SB ?rest9a
    case hy9a =>
      intro wq hSw
      obtain ⟨s1, s2, s3, s4, s5, s6, s7, s8, s9⟩ := hSw
      go_simp
      try with_reducible rfl
    try simp only [Act.put, List.setIfInBounds_toArray, List.set_cons_zero, List.set_cons_succ]
    refine Hh.one (i := 10) rfl (by kernel_rfl) rfl (fun K hK => ?_)
    go_simp
    simp only [zeros_eq]
    have hr6 := RV.new w5 zeroR
    have hb6 := below_alw w5 (.cells (rgA zeroR) 75)
    obtain ⟨w6, hw6⟩ : ∃ w6, w5.alloc (.cells (rgA zeroR) 75) = w6 := ⟨_, rfl⟩
    rw [hw6] at hr6 hb6 ⊢
    clear hw6
    have hq8 : w5.heap.size ≠ q := by have := C5.out.co.lt; omega
    have hq9 : w5.heap.size ≠ bi := by have := X5.out.lt; omega
    have C6 := Lib.hid (C5.out.keep hb6)
    have X6 := Lib.hid (X5.out.keep hb6)
    have HB8 := Lib.hid (show w.heap.size ≤ w5.heap.size from C5.out.on.size)
    have SC : HasV w6 (.pointer (some ⟨q, 2, none⟩)) ∧ cellsV w6 (.pointer (some ⟨q, 2, none⟩)) = rgA s.r ∧ w6.cell? ⟨bi, 0, none⟩ = some (.int .i64 13) ∧ w6.cell? ⟨bi, 1, none⟩ = some (.int .i64 d) ∧ w6.cell? ⟨bi, 2, none⟩ = some (.int .i64 a) ∧ w6.cell? ⟨bi, 3, none⟩ = some (.int .i64 b) ∧ w6.cell? ⟨bi, 4, none⟩ = some (.int .i64 s0) ∧ w6.cell? ⟨bi, 5, none⟩ = some (.int .i64 c) ∧ w6.cell? ⟨bi, 6, none⟩ = some (.int .i64 n) := ⟨(Cohas C6.out.co).1, (Cohas C6.out.co).2, (X6.out.cell 0).trans rfl, (X6.out.cell 1).trans rfl, (X6.out.cell 2).trans rfl, (X6.out.cell 3).trans rfl, (X6.out.cell 4).trans rfl, (X6.out.cell 5).trans rfl, (X6.out.cell 6).trans rfl⟩
    refine hK _ _ SC ?_
    clear hK K hb6 SB SC C5 X5
    generalize w5.heap.size = b8 at *
    try simp only [Act.put, List.setIfInBounds_toArray, List.set_cons_zero, List.set_cons_succ]
    refine Hh.one (i := 11) rfl (by kernel_rfl) rfl (fun K hK => ?_)
    have ht := RVthere hr6 zero_ok
    have hgd := good okr
    go_simp
    have hp7 := RVput hr6 zero_ok okr
    obtain ⟨w7, hw7⟩ : ∃ w7, putV w6 (.pointer (some ⟨b8, 0, none⟩)) (.agg (rgA s.r)) = w7 := ⟨_, rfl⟩
    rw [hw7] at hp7 ⊢
    clear hw7
    have z7 := hp7.below 0 w6 (Nat.zero_le _) (Below.refl _ _)
    have O7 : Only [b8] w6 w7 := ⟨z7.os, z7.tape, z7.output, z7.size, fun k hk hn => hp7.other k (by simpa using hn)⟩
    have C7 : Hid (Cg w q mq F s w7) := Lib.hid ⟨C6.out.co.only O7 (by simpa using fun e => hq8 e.symm) (fun k hk e => by have := hHF.out k hk; simp at e; have := HB8.out; omega), C6.out.on.trans (F' := [b8]) O7 (by simp; exact Or.inr HB8.out)⟩
    have X7 := Lib.hid (X6.out.only O7 (by simpa using fun e => hq9 e.symm))
    have hr7 := hp7.has
    have SD : HasV w7 (.pointer (some ⟨q, 2, none⟩)) ∧ cellsV w7 (.pointer (some ⟨q, 2, none⟩)) = rgA s.r ∧ w7.cell? ⟨bi, 0, none⟩ = some (.int .i64 13) ∧ w7.cell? ⟨bi, 1, none⟩ = some (.int .i64 d) ∧ w7.cell? ⟨bi, 2, none⟩ = some (.int .i64 a) ∧ w7.cell? ⟨bi, 3, none⟩ = some (.int .i64 b) ∧ w7.cell? ⟨bi, 4, none⟩ = some (.int .i64 s0) ∧ w7.cell? ⟨bi, 5, none⟩ = some (.int .i64 c) ∧ w7.cell? ⟨bi, 6, none⟩ = some (.int .i64 n) := ⟨(Cohas C7.out.co).1, (Cohas C7.out.co).2, (X7.out.cell 0).trans rfl, (X7.out.cell 1).trans rfl, (X7.out.cell 2).trans rfl, (X7.out.cell 3).trans rfl, (X7.out.cell 4).trans rfl, (X7.out.cell 5).trans rfl, (X7.out.cell 6).trans rfl⟩
    refine hK _ _ SD ?_
    clear hK K ht hgd hp7 O7 z7 C6 X6 hr6
    try simp only [Act.put, List.setIfInBounds_toArray, List.set_cons_zero, List.set_cons_succ]
    refine Hh.one (i := 12) rfl (by kernel_rfl) rfl (fun K hK => ?_)
    go_simp
    refine hK _ _ SD ?_
    clear hK K
    try simp only [Act.put, List.setIfInBounds_toArray, List.set_cons_zero, List.set_cons_succ]
    refine Hh.one (i := 13) rfl (by kernel_rfl) rfl (fun K hK => ?_)
    go_simp
    refine hK _ _ SD ?_
    clear hK K
    try simp only [Act.put, List.setIfInBounds_toArray, List.set_cons_zero, List.set_cons_succ]
    refine Hh.done (by kernel_rfl) ?_ _
    clear SD
    have x0 : w7.cell? ⟨bi, 0, none⟩ = some (.int .i64 13) := (X7.out.cell 0).trans rfl
    have x1 : w7.cell? ⟨bi, 1, none⟩ = some (.int .i64 d) := (X7.out.cell 1).trans rfl
    have x2 : w7.cell? ⟨bi, 2, none⟩ = some (.int .i64 a) := (X7.out.cell 2).trans rfl
    have x3 : w7.cell? ⟨bi, 3, none⟩ = some (.int .i64 b) := (X7.out.cell 3).trans rfl
    have x4 : w7.cell? ⟨bi, 4, none⟩ = some (.int .i64 s0) := (X7.out.cell 4).trans rfl
    have x5 : w7.cell? ⟨bi, 5, none⟩ = some (.int .i64 c) := (X7.out.cell 5).trans rfl
    have x6 : w7.cell? ⟨bi, 6, none⟩ = some (.int .i64 n) := (X7.out.cell 6).trans rfl
    go_wp2_with fail
    refine (HME.out _ C7.out.co).mono ?_
    rintro e w8 ⟨E, en, ec, rfl, hev, hc8⟩
    have HEV := Lib.hid hev
    have C8 := Lib.hid (C7.out.then hc8)
    clear hev hc8
    go_wp2_with fail
    go_ret2
    exact ⟨E, en, ec, rfl, HEV.out, C8.out⟩
  · skip
    go_simp
    simp only [zeros_eq]
    have hr5 := RV.new w3.drew zeroR
    have hb5 := below_alw w3.drew (.cells (rgA zeroR) 75)
    obtain ⟨w5, hw5⟩ : ∃ w5, w3.drew.alloc (.cells (rgA zeroR) 75) = w5 := ⟨_, rfl⟩
    have hw5' : (w3.alloc (.cells (rgA zeroR) 75)).drew = w5 := hw5
    rw [hw5] at hr5 hb5
    first | rw [hw5] | rw [hw5']
    clear hw5 hw5'
    have hq8 : w3.drew.heap.size ≠ q := by have := C4.out.co.lt; omega
    have hq9 : w3.drew.heap.size ≠ bi := by have := X4.out.lt; omega
    have C5 := Lib.hid (C4.out.keep hb5)
    have X5 := Lib.hid (X4.out.keep hb5)
    have HB8 := Lib.hid (show w.heap.size ≤ w3.drew.heap.size from C4.out.on.size)
    have SB : HasV w5 (.pointer (some ⟨q, 2, none⟩)) ∧ cellsV w5 (.pointer (some ⟨q, 2, none⟩)) = rgA s.r ∧ w5.cell? ⟨bi, 0, none⟩ = some (.int .i64 13) ∧ w5.cell? ⟨bi, 1, none⟩ = some (.int .i64 d) ∧ w5.cell? ⟨bi, 2, none⟩ = some (.int .i64 a) ∧ w5.cell? ⟨bi, 3, none⟩ = some (.int .i64 b) ∧ w5.cell? ⟨bi, 4, none⟩ = some (.int .i64 s0) ∧ w5.cell? ⟨bi, 5, none⟩ = some (.int .i64 c) ∧ w5.cell? ⟨bi, 6, none⟩ = some (.int .i64 n) := ⟨(Cohas C5.out.co).1, (Cohas C5.out.co).2, (X5.out.cell 0).trans rfl, (X5.out.cell 1).trans rfl, (X5.out.cell 2).trans rfl, (X5.out.cell 3).trans rfl, (X5.out.cell 4).trans rfl, (X5.out.cell 5).trans rfl, (X5.out.cell 6).trans rfl⟩
    refine hK _ _ SB ?_
    clear hK K hb5 SA r1 r2 C4 X4
    have h38 : w3.drew.heap.size = w3.heap.size := rfl
    rw [h38] at hr5 hq8 hq9 HB8
    try rw [h38]
    clear h38
    generalize w3.heap.size = b8 at *
    try simp only [Act.put, List.setIfInBounds_toArray, List.set_cons_zero, List.set_cons_succ]
    refine Hh.one (i := 5) rfl (by kernel_rfl) rfl (fun K hK => ?_)
    go_simp
    refine (RA.out _).mono ?_
    rintro e w6 ⟨rfl, hb6⟩
    have C6 := Lib.hid (C5.out.keep hb6)
    have X6 := Lib.hid (X5.out.keep hb6)
    have hr6 := hr5.keep hb6
    have SC : HasV w6 (.pointer (some ⟨q, 2, none⟩)) ∧ cellsV w6 (.pointer (some ⟨q, 2, none⟩)) = rgA s.r ∧ w6.cell? ⟨bi, 0, none⟩ = some (.int .i64 13) ∧ w6.cell? ⟨bi, 1, none⟩ = some (.int .i64 d) ∧ w6.cell? ⟨bi, 2, none⟩ = some (.int .i64 a) ∧ w6.cell? ⟨bi, 3, none⟩ = some (.int .i64 b) ∧ w6.cell? ⟨bi, 4, none⟩ = some (.int .i64 s0) ∧ w6.cell? ⟨bi, 5, none⟩ = some (.int .i64 c) ∧ w6.cell? ⟨bi, 6, none⟩ = some (.int .i64 n) := ⟨(Cohas C6.out.co).1, (Cohas C6.out.co).2, (X6.out.cell 0).trans rfl, (X6.out.cell 1).trans rfl, (X6.out.cell 2).trans rfl, (X6.out.cell 3).trans rfl, (X6.out.cell 4).trans rfl, (X6.out.cell 5).trans rfl, (X6.out.cell 6).trans rfl⟩
    refine hK _ _ SC ?_
    clear hK K hb6 SB hr5 C5 X5
    try simp only [Act.put, List.setIfInBounds_toArray, List.set_cons_zero, List.set_cons_succ]
    refine Hh.take (i := 6) (v := ?v6b) rfl (by decide +kernel) (by decide +kernel) (fun _ _ _ h => h) rfl ?hy6b SC ?rest6b
    case hy6b =>
      intro wq hSw
      obtain ⟨s1, s2, s3, s4, s5, s6, s7, s8, s9⟩ := hSw
      go_simp
      try with_reducible rfl
    try simp only [Act.put, List.setIfInBounds_toArray, List.set_cons_zero, List.set_cons_succ]
    refine Hh.take (i := 7) (v := ?v7b) rfl (by decide +kernel) (by decide +kernel) (fun _ _ _ h => h) rfl ?hy7b SC ?rest7b
    case hy7b =>
      intro wq hSw
      obtain ⟨s1, s2, s3, s4, s5, s6, s7, s8, s9⟩ := hSw
      go_simp
      try with_reducible rfl
    try simp only [Act.put, List.setIfInBounds_toArray, List.set_cons_zero, List.set_cons_succ]
    refine Hh.take (i := 8) (v := ?v8b) rfl (by decide +kernel) (by decide +kernel) (fun _ _ _ h => h) rfl ?hy8b SC ?rest8b
    case hy8b =>
      intro wq hSw
      obtain ⟨s1, s2, s3, s4, s5, s6, s7, s8, s9⟩ := hSw
      go_simp
      try with_reducible rfl
    try simp only [Act.put, List.setIfInBounds_toArray, List.set_cons_zero, List.set_cons_succ]
    refine Hh.take (i := 9) (v := ?v9b) rfl (by decide +kernel) (by decide +kernel) (fun _ _ _ h => h) rfl ?hy9b SC ?rest9b
    case hy9b =>
      intro wq hSw
      obtain ⟨s1, s2, s3, s4, s5, s6, s7, s8, s9⟩ := hSw
      go_simp
      try with_reducible rfl
    try simp only [Act.put, List.setIfInBounds_toArray, List.set_cons_zero, List.set_cons_succ]
    clear SC
    refine Hh.one (i := 11) rfl (by kernel_rfl) rfl (fun K hK => ?_)
    have ht := RVthere hr6 zero_ok
    have hgd := good okr
    go_simp
    have hp7 := RVput hr6 zero_ok okr
    obtain ⟨w7, hw7⟩ : ∃ w7, putV w6 (.pointer (some ⟨b8, 0, none⟩)) (.agg (rgA s.r)) = w7 := ⟨_, rfl⟩
    rw [hw7] at hp7 ⊢
    clear hw7
    have z7 := hp7.below 0 w6 (Nat.zero_le _) (Below.refl _ _)
    have O7 : Only [b8] w6 w7 := ⟨z7.os, z7.tape, z7.output, z7.size, fun k hk hn => hp7.other k (by simpa using hn)⟩
    have C7 : Hid (Cg w q mq F s w7) := Lib.hid ⟨C6.out.co.only O7 (by simpa using fun e => hq8 e.symm) (fun k hk e => by have := hHF.out k hk; simp at e; have := HB8.out; omega), C6.out.on.trans (F' := [b8]) O7 (by simp; exact Or.inr HB8.out)⟩
    have X7 := Lib.hid (X6.out.only O7 (by simpa using fun e => hq9 e.symm))
    have hr7 := hp7.has
    have SD : HasV w7 (.pointer (some ⟨q, 2, none⟩)) ∧ cellsV w7 (.pointer (some ⟨q, 2, none⟩)) = rgA s.r ∧ w7.cell? ⟨bi, 0, none⟩ = some (.int .i64 13) ∧ w7.cell? ⟨bi, 1, none⟩ = some (.int .i64 d) ∧ w7.cell? ⟨bi, 2, none⟩ = some (.int .i64 a) ∧ w7.cell? ⟨bi, 3, none⟩ = some (.int .i64 b) ∧ w7.cell? ⟨bi, 4, none⟩ = some (.int .i64 s0) ∧ w7.cell? ⟨bi, 5, none⟩ = some (.int .i64 c) ∧ w7.cell? ⟨bi, 6, none⟩ = some (.int .i64 n) := ⟨(Cohas C7.out.co).1, (Cohas C7.out.co).2, (X7.out.cell 0).trans rfl, (X7.out.cell 1).trans rfl, (X7.out.cell 2).trans rfl, (X7.out.cell 3).trans rfl, (X7.out.cell 4).trans rfl, (X7.out.cell 5).trans rfl, (X7.out.cell 6).trans rfl⟩
    refine hK _ _ SD ?_
    clear hK K ht hgd hp7 O7 z7 C6 X6 hr6
    try simp only [Act.put, List.setIfInBounds_toArray, List.set_cons_zero, List.set_cons_succ]
    refine Hh.one (i := 12) rfl (by kernel_rfl) rfl (fun K hK => ?_)
    go_simp
    refine hK _ _ SD ?_
    clear hK K
    try simp only [Act.put, List.setIfInBounds_toArray, List.set_cons_zero, List.set_cons_succ]
    refine Hh.one (i := 13) rfl (by kernel_rfl) rfl (fun K hK => ?_)
    go_simp
    refine hK _ _ SD ?_
    clear hK K
    try simp only [Act.put, List.setIfInBounds_toArray, List.set_cons_zero, List.set_cons_succ]
    refine Hh.done (by kernel_rfl) ?_ _
    clear SD
    have x0 : w7.cell? ⟨bi, 0, none⟩ = some (.int .i64 13) := (X7.out.cell 0).trans rfl
    have x1 : w7.cell? ⟨bi, 1, none⟩ = some (.int .i64 d) := (X7.out.cell 1).trans rfl
    have x2 : w7.cell? ⟨bi, 2, none⟩ = some (.int .i64 a) := (X7.out.cell 2).trans rfl
    have x3 : w7.cell? ⟨bi, 3, none⟩ = some (.int .i64 b) := (X7.out.cell 3).trans rfl
    have x4 : w7.cell? ⟨bi, 4, none⟩ = some (.int .i64 s0) := (X7.out.cell 4).trans rfl
    have x5 : w7.cell? ⟨bi, 5, none⟩ = some (.int .i64 c) := (X7.out.cell 5).trans rfl
    have x6 : w7.cell? ⟨bi, 6, none⟩ = some (.int .i64 n) := (X7.out.cell 6).trans rfl
    go_wp2_with fail
    refine (HME.out _ C7.out.co).mono ?_
    rintro e w8 ⟨E, en, ec, rfl, hev, hc8⟩
    have HEV := Lib.hid hev
    have C8 := Lib.hid (C7.out.then hc8)
    clear hev hc8
    go_wp2_with fail
    go_ret2
    exact ⟨E, en, ec, rfl, HEV.out, C8.out⟩

set_option maxRecDepth 20000 in
set_option maxHeartbeats 3200000 in
theorem exec_mem16 {w : World} {q mq : Nat} {F : List Nat} {s : Cr} {A : Option Addr} {m cap : Nat} {code : List In} (h : Co w q mq F s) (hc : IsCode w A m cap code) (k : Nat) (hk : k < m) (hpc : s.pc = (k : Int)) (hst : s.st = 0) (d a b s0 c n : Int) (hi : code.getD k zeroIn = ⟨16, d, a, b, s0, c, n⟩) (s2 : Cr) (ev : List Ev) (hal : Alu.step s.r ⟨16, d, a, b, s0, c, n⟩ = (s.r, 0, false)) (okr : okR s.r) (hme : ∀ w1 : World, Co w1 q mq F s → Calls Try.prog 60 #[.pointer (some ⟨q, 0, none⟩), .agg #[.int .i64 16, .int .i64 d, .int .i64 a, .int .i64 b, .int .i64 s0, .int .i64 c, .int .i64 n]] w1 (Ans q mq F s w1 s2 ev)) :
    Calls Try.prog 33 #[.pointer (some ⟨q, 0, none⟩), .slice A m cap] w (Ans q mq F s w s2 ev) := by
  have HME := Lib.hid hme
  clear hme
  have hHF := Lib.hid (show ∀ k ∈ F, k < w.heap.size from by obtain ⟨kp, hm⟩ := h.mem; exact hm.lt)
  have hpcb : (k : Int) ≤ 65536 := by have := hc.2.2.1; omega
  have i1 : IntKind.i64.wrap ((k : Int) + 1) = (k : Int) + 1 := IntWalk.i64_in _ ⟨by omega, by omega⟩
  obtain ⟨hA, hAn, hA6, hAr⟩ := id hc
  obtain ⟨bb, oo, rfl, hbb, wc, hrt⟩ := hc.at_ hk
  have H := Lib.hid h
  have hlt := h.lt
  have hnk : (k : Int) < (m : Int) := by omega
  have d1 : decide ((k : Int) < 0) = false := decide_eq_false (by omega)
  have d2 : decide ((m : Int) ≤ (k : Int)) = false := decide_eq_false (by omega)
  have p36 : w.cell? ⟨q, 36, none⟩ = some (.int .i64 0) := by rw [h.st, hst]
  have p35 : w.cell? ⟨q, 35, none⟩ = some (.int .i64 (k : Int)) := by rw [h.pc, hpc]
  have DE := Lib.hid (fun w => rdec_at (code.getD k zeroIn) hrt w)
  have RT := Lib.hid hrt
  obtain ⟨W0, hW0⟩ : ∃ W0, (encode (code.getD k zeroIn)).1 = W0 := ⟨_, rfl⟩
  rw [hW0] at DE wc
  rw [hi] at DE RT
  clear hW0 h hc hA hAn hAr hrt hst
  go_enter Try.func33, Try.ntmps33
  go_wp2_with fail
  refine (DE.out _).mono ?_
  rintro e w2 ⟨rfl, hb2⟩
  have C2 := Lib.hid ((Cg.start H.out).keep hb2)
  clear DE wc p35 p36 hb2 H
  go_upto_region 8 with fail
  have hb3 := below_alw w2 (.cells #[.int .i64 16, .int .i64 d, .int .i64 a, .int .i64 b, .int .i64 s0, .int .i64 c, .int .i64 n] 45)
  have C3 := Lib.hid (C2.out.keep hb3)
  have X3 := Lib.hid (Bx.new w2 ⟨16, d, a, b, s0, c, n⟩)
  obtain ⟨w3, hw3⟩ : ∃ w3, w2.alloc (.cells #[.int .i64 16, .int .i64 d, .int .i64 a, .int .i64 b, .int .i64 s0, .int .i64 c, .int .i64 n] 45) = w3 := ⟨_, rfl⟩
  rw [show w2.alloc (.cells (insL ⟨16, d, a, b, s0, c, n⟩).toArray 45) = w3 from hw3] at X3
  rw [hw3] at C3
  try rw [hw3]
  have hlt2 := C2.out.co.lt
  have hbq : w2.heap.size ≠ q := by omega
  clear hw3 hb3 C2 hlt2
  generalize w2.heap.size = bi at *
  have C4 := Lib.hid C3.out.drew
  have X4 := Lib.hid (X3.out.keep (Below.refl _ _).drew)
  clear C3 X3
  obtain ⟨r1, r2⟩ := Cohas C4.out.co
  have RA := Lib.hid (fun w => AluRA.ralu_any s.r ⟨16, d, a, b, s0, c, n⟩ w C4.out.co.ok (right_ok RT.out))
  rw [hal] at RA
  clear hal
  refine Hh.start (fun w' => HasV w' (.pointer (some ⟨q, 2, none⟩)) ∧ cellsV w' (.pointer (some ⟨q, 2, none⟩)) = rgA s.r ∧ w'.cell? ⟨bi, 0, none⟩ = some (.int .i64 16) ∧ w'.cell? ⟨bi, 1, none⟩ = some (.int .i64 d) ∧ w'.cell? ⟨bi, 2, none⟩ = some (.int .i64 a) ∧ w'.cell? ⟨bi, 3, none⟩ = some (.int .i64 b) ∧ w'.cell? ⟨bi, 4, none⟩ = some (.int .i64 s0) ∧ w'.cell? ⟨bi, 5, none⟩ = some (.int .i64 c) ∧ w'.cell? ⟨bi, 6, none⟩ = some (.int .i64 n)) (by kernel_rfl) ?_
  have SA : HasV w3.drew (.pointer (some ⟨q, 2, none⟩)) ∧ cellsV w3.drew (.pointer (some ⟨q, 2, none⟩)) = rgA s.r ∧ w3.drew.cell? ⟨bi, 0, none⟩ = some (.int .i64 16) ∧ w3.drew.cell? ⟨bi, 1, none⟩ = some (.int .i64 d) ∧ w3.drew.cell? ⟨bi, 2, none⟩ = some (.int .i64 a) ∧ w3.drew.cell? ⟨bi, 3, none⟩ = some (.int .i64 b) ∧ w3.drew.cell? ⟨bi, 4, none⟩ = some (.int .i64 s0) ∧ w3.drew.cell? ⟨bi, 5, none⟩ = some (.int .i64 c) ∧ w3.drew.cell? ⟨bi, 6, none⟩ = some (.int .i64 n) := ⟨r1, r2, (X4.out.cell 0).trans rfl, (X4.out.cell 1).trans rfl, (X4.out.cell 2).trans rfl, (X4.out.cell 3).trans rfl, (X4.out.cell 4).trans rfl, (X4.out.cell 5).trans rfl, (X4.out.cell 6).trans rfl⟩
  refine Hh.take (i := 0) (v := ?v0) rfl (by decide +kernel) (by decide +kernel) (fun _ _ _ h => h) rfl ?hy0 SA ?rest0
  case hy0 =>
    intro wq hSw
    obtain ⟨s1, s2, s3, s4, s5, s6, s7, s8, s9⟩ := hSw
    go_simp
    try with_reducible rfl
  try simp only [Act.put, List.setIfInBounds_toArray, List.set_cons_zero, List.set_cons_succ]
  refine Hh.take (i := 1) (v := ?v1) rfl (by decide +kernel) (by decide +kernel) (fun _ _ _ h => h) rfl ?hy1 SA ?rest1
  case hy1 =>
    intro wq hSw
    obtain ⟨s1, s2, s3, s4, s5, s6, s7, s8, s9⟩ := hSw
    go_simp
    try with_reducible rfl
  try simp only [Act.put, List.setIfInBounds_toArray, List.set_cons_zero, List.set_cons_succ]
  refine Hh.take (i := 2) (v := ?v2) rfl (by decide +kernel) (by decide +kernel) (fun _ _ _ h => h) rfl ?hy2 SA ?rest2
  case hy2 =>
    intro wq hSw
    obtain ⟨s1, s2, s3, s4, s5, s6, s7, s8, s9⟩ := hSw
    go_simp
    try with_reducible rfl
  try simp only [Act.put, List.setIfInBounds_toArray, List.set_cons_zero, List.set_cons_succ]
  refine Hh.take (i := 3) (v := ?v3) rfl (by decide +kernel) (by decide +kernel) (fun _ _ _ h => h) rfl ?hy3 SA ?rest3
  case hy3 =>
    intro wq hSw
    obtain ⟨s1, s2, s3, s4, s5, s6, s7, s8, s9⟩ := hSw
    go_simp
    try with_reducible rfl
  try simp only [Act.put, List.setIfInBounds_toArray, List.set_cons_zero, List.set_cons_succ]
  refine Hh.take (i := 4) (v := ?v4) rfl (by decide +kernel) (by decide +kernel) (fun _ _ _ h => h) rfl ?hy4 SA ?rest4
  case hy4 =>
    intro wq hSw
    obtain ⟨s1, s2, s3, s4, s5, s6, s7, s8, s9⟩ := hSw
    go_simp
    try with_reducible rfl
  try simp only [Act.put, List.setIfInBounds_toArray, List.set_cons_zero, List.set_cons_succ]
  refine Hh.two (i := 5) (j := 10) rfl rfl (by kernel_rfl) rfl rfl (fun K hK => ?_) (fun K hK => ?_)
  · skip
    go_simp
    refine (RA.out _).mono ?_
    rintro e w5 ⟨rfl, hb5⟩
    have C5 := Lib.hid (C4.out.keep hb5)
    have X5 := Lib.hid (X4.out.keep hb5)
    have SB : HasV w5 (.pointer (some ⟨q, 2, none⟩)) ∧ cellsV w5 (.pointer (some ⟨q, 2, none⟩)) = rgA s.r ∧ w5.cell? ⟨bi, 0, none⟩ = some (.int .i64 16) ∧ w5.cell? ⟨bi, 1, none⟩ = some (.int .i64 d) ∧ w5.cell? ⟨bi, 2, none⟩ = some (.int .i64 a) ∧ w5.cell? ⟨bi, 3, none⟩ = some (.int .i64 b) ∧ w5.cell? ⟨bi, 4, none⟩ = some (.int .i64 s0) ∧ w5.cell? ⟨bi, 5, none⟩ = some (.int .i64 c) ∧ w5.cell? ⟨bi, 6, none⟩ = some (.int .i64 n) := ⟨(Cohas C5.out.co).1, (Cohas C5.out.co).2, (X5.out.cell 0).trans rfl, (X5.out.cell 1).trans rfl, (X5.out.cell 2).trans rfl, (X5.out.cell 3).trans rfl, (X5.out.cell 4).trans rfl, (X5.out.cell 5).trans rfl, (X5.out.cell 6).trans rfl⟩
    refine hK _ _ SB ?_
    clear hK K hb5 SA r1 r2 C4 X4
    try simp only [Act.put, List.setIfInBounds_toArray, List.set_cons_zero, List.set_cons_succ]
    refine Hh.take (i := 6) (v := ?v6a) rfl (by decide +kernel) (by decide +kernel) (fun _ _ _ h => h) rfl ?hy6a SB ?rest6a
    case hy6a =>
      intro wq hSw
      obtain ⟨s1, s2, s3, s4, s5, s6, s7, s8, s9⟩ := hSw
      go_simp
      try with_reducible rfl
    try simp only [Act.put, List.setIfInBounds_toArray, List.set_cons_zero, List.set_cons_succ]
    refine Hh.take (i := 7) (v := ?v7a) rfl (by decide +kernel) (by decide +kernel) (fun _ _ _ h => h) rfl ?hy7a SB ?rest7a
    case hy7a =>
      intro wq hSw
      obtain ⟨s1, s2, s3, s4, s5, s6, s7, s8, s9⟩ := hSw
      go_simp
      try with_reducible rfl
    try simp only [Act.put, List.setIfInBounds_toArray, List.set_cons_zero, List.set_cons_succ]
    refine Hh.take (i := 8) (v := ?v8a) rfl (by decide +kernel) (by decide +kernel) (fun _ _ _ h => h) rfl ?hy8a SB ?rest8a
    case hy8a =>
      intro wq hSw
      obtain ⟨s1, s2, s3, s4, s5, s6, s7, s8, s9⟩ := hSw
      go_simp
      try with_reducible rfl
    try simp only [Act.put, List.setIfInBounds_toArray, List.set_cons_zero, List.set_cons_succ]
    refine Hh.take (i := 9) (v := ?v9a) rfl (by decide +kernel) (by decide +kernel) (fun _ _ _ h => h) rfl ?hy9a SB ?rest9a
    case hy9a =>
      intro wq hSw
      obtain ⟨s1, s2, s3, s4, s5, s6, s7, s8, s9⟩ := hSw
      go_simp
      try with_reducible rfl
    try simp only [Act.put, List.setIfInBounds_toArray, List.set_cons_zero, List.set_cons_succ]
    refine Hh.one (i := 10) rfl (by kernel_rfl) rfl (fun K hK => ?_)
    go_simp
    simp only [zeros_eq]
    have hr6 := RV.new w5 zeroR
    have hb6 := below_alw w5 (.cells (rgA zeroR) 75)
    obtain ⟨w6, hw6⟩ : ∃ w6, w5.alloc (.cells (rgA zeroR) 75) = w6 := ⟨_, rfl⟩
    rw [hw6] at hr6 hb6 ⊢
    clear hw6
    have hq8 : w5.heap.size ≠ q := by have := C5.out.co.lt; omega
    have hq9 : w5.heap.size ≠ bi := by have := X5.out.lt; omega
    have C6 := Lib.hid (C5.out.keep hb6)
    have X6 := Lib.hid (X5.out.keep hb6)
    have HB8 := Lib.hid (show w.heap.size ≤ w5.heap.size from C5.out.on.size)
    have SC : HasV w6 (.pointer (some ⟨q, 2, none⟩)) ∧ cellsV w6 (.pointer (some ⟨q, 2, none⟩)) = rgA s.r ∧ w6.cell? ⟨bi, 0, none⟩ = some (.int .i64 16) ∧ w6.cell? ⟨bi, 1, none⟩ = some (.int .i64 d) ∧ w6.cell? ⟨bi, 2, none⟩ = some (.int .i64 a) ∧ w6.cell? ⟨bi, 3, none⟩ = some (.int .i64 b) ∧ w6.cell? ⟨bi, 4, none⟩ = some (.int .i64 s0) ∧ w6.cell? ⟨bi, 5, none⟩ = some (.int .i64 c) ∧ w6.cell? ⟨bi, 6, none⟩ = some (.int .i64 n) := ⟨(Cohas C6.out.co).1, (Cohas C6.out.co).2, (X6.out.cell 0).trans rfl, (X6.out.cell 1).trans rfl, (X6.out.cell 2).trans rfl, (X6.out.cell 3).trans rfl, (X6.out.cell 4).trans rfl, (X6.out.cell 5).trans rfl, (X6.out.cell 6).trans rfl⟩
    refine hK _ _ SC ?_
    clear hK K hb6 SB SC C5 X5
    generalize w5.heap.size = b8 at *
    try simp only [Act.put, List.setIfInBounds_toArray, List.set_cons_zero, List.set_cons_succ]
    refine Hh.one (i := 11) rfl (by kernel_rfl) rfl (fun K hK => ?_)
    have ht := RVthere hr6 zero_ok
    have hgd := good okr
    go_simp
    have hp7 := RVput hr6 zero_ok okr
    obtain ⟨w7, hw7⟩ : ∃ w7, putV w6 (.pointer (some ⟨b8, 0, none⟩)) (.agg (rgA s.r)) = w7 := ⟨_, rfl⟩
    rw [hw7] at hp7 ⊢
    clear hw7
    have z7 := hp7.below 0 w6 (Nat.zero_le _) (Below.refl _ _)
    have O7 : Only [b8] w6 w7 := ⟨z7.os, z7.tape, z7.output, z7.size, fun k hk hn => hp7.other k (by simpa using hn)⟩
    have C7 : Hid (Cg w q mq F s w7) := Lib.hid ⟨C6.out.co.only O7 (by simpa using fun e => hq8 e.symm) (fun k hk e => by have := hHF.out k hk; simp at e; have := HB8.out; omega), C6.out.on.trans (F' := [b8]) O7 (by simp; exact Or.inr HB8.out)⟩
    have X7 := Lib.hid (X6.out.only O7 (by simpa using fun e => hq9 e.symm))
    have hr7 := hp7.has
    have SD : HasV w7 (.pointer (some ⟨q, 2, none⟩)) ∧ cellsV w7 (.pointer (some ⟨q, 2, none⟩)) = rgA s.r ∧ w7.cell? ⟨bi, 0, none⟩ = some (.int .i64 16) ∧ w7.cell? ⟨bi, 1, none⟩ = some (.int .i64 d) ∧ w7.cell? ⟨bi, 2, none⟩ = some (.int .i64 a) ∧ w7.cell? ⟨bi, 3, none⟩ = some (.int .i64 b) ∧ w7.cell? ⟨bi, 4, none⟩ = some (.int .i64 s0) ∧ w7.cell? ⟨bi, 5, none⟩ = some (.int .i64 c) ∧ w7.cell? ⟨bi, 6, none⟩ = some (.int .i64 n) := ⟨(Cohas C7.out.co).1, (Cohas C7.out.co).2, (X7.out.cell 0).trans rfl, (X7.out.cell 1).trans rfl, (X7.out.cell 2).trans rfl, (X7.out.cell 3).trans rfl, (X7.out.cell 4).trans rfl, (X7.out.cell 5).trans rfl, (X7.out.cell 6).trans rfl⟩
    refine hK _ _ SD ?_
    clear hK K ht hgd hp7 O7 z7 C6 X6 hr6
    try simp only [Act.put, List.setIfInBounds_toArray, List.set_cons_zero, List.set_cons_succ]
    refine Hh.one (i := 12) rfl (by kernel_rfl) rfl (fun K hK => ?_)
    go_simp
    refine hK _ _ SD ?_
    clear hK K
    try simp only [Act.put, List.setIfInBounds_toArray, List.set_cons_zero, List.set_cons_succ]
    refine Hh.one (i := 13) rfl (by kernel_rfl) rfl (fun K hK => ?_)
    go_simp
    refine hK _ _ SD ?_
    clear hK K
    try simp only [Act.put, List.setIfInBounds_toArray, List.set_cons_zero, List.set_cons_succ]
    refine Hh.done (by kernel_rfl) ?_ _
    clear SD
    have x0 : w7.cell? ⟨bi, 0, none⟩ = some (.int .i64 16) := (X7.out.cell 0).trans rfl
    have x1 : w7.cell? ⟨bi, 1, none⟩ = some (.int .i64 d) := (X7.out.cell 1).trans rfl
    have x2 : w7.cell? ⟨bi, 2, none⟩ = some (.int .i64 a) := (X7.out.cell 2).trans rfl
    have x3 : w7.cell? ⟨bi, 3, none⟩ = some (.int .i64 b) := (X7.out.cell 3).trans rfl
    have x4 : w7.cell? ⟨bi, 4, none⟩ = some (.int .i64 s0) := (X7.out.cell 4).trans rfl
    have x5 : w7.cell? ⟨bi, 5, none⟩ = some (.int .i64 c) := (X7.out.cell 5).trans rfl
    have x6 : w7.cell? ⟨bi, 6, none⟩ = some (.int .i64 n) := (X7.out.cell 6).trans rfl
    go_wp2_with fail
    refine (HME.out _ C7.out.co).mono ?_
    rintro e w8 ⟨E, en, ec, rfl, hev, hc8⟩
    have HEV := Lib.hid hev
    have C8 := Lib.hid (C7.out.then hc8)
    clear hev hc8
    go_wp2_with fail
    go_ret2
    exact ⟨E, en, ec, rfl, HEV.out, C8.out⟩
  · skip
    go_simp
    simp only [zeros_eq]
    have hr5 := RV.new w3.drew zeroR
    have hb5 := below_alw w3.drew (.cells (rgA zeroR) 75)
    obtain ⟨w5, hw5⟩ : ∃ w5, w3.drew.alloc (.cells (rgA zeroR) 75) = w5 := ⟨_, rfl⟩
    have hw5' : (w3.alloc (.cells (rgA zeroR) 75)).drew = w5 := hw5
    rw [hw5] at hr5 hb5
    first | rw [hw5] | rw [hw5']
    clear hw5 hw5'
    have hq8 : w3.drew.heap.size ≠ q := by have := C4.out.co.lt; omega
    have hq9 : w3.drew.heap.size ≠ bi := by have := X4.out.lt; omega
    have C5 := Lib.hid (C4.out.keep hb5)
    have X5 := Lib.hid (X4.out.keep hb5)
    have HB8 := Lib.hid (show w.heap.size ≤ w3.drew.heap.size from C4.out.on.size)
    have SB : HasV w5 (.pointer (some ⟨q, 2, none⟩)) ∧ cellsV w5 (.pointer (some ⟨q, 2, none⟩)) = rgA s.r ∧ w5.cell? ⟨bi, 0, none⟩ = some (.int .i64 16) ∧ w5.cell? ⟨bi, 1, none⟩ = some (.int .i64 d) ∧ w5.cell? ⟨bi, 2, none⟩ = some (.int .i64 a) ∧ w5.cell? ⟨bi, 3, none⟩ = some (.int .i64 b) ∧ w5.cell? ⟨bi, 4, none⟩ = some (.int .i64 s0) ∧ w5.cell? ⟨bi, 5, none⟩ = some (.int .i64 c) ∧ w5.cell? ⟨bi, 6, none⟩ = some (.int .i64 n) := ⟨(Cohas C5.out.co).1, (Cohas C5.out.co).2, (X5.out.cell 0).trans rfl, (X5.out.cell 1).trans rfl, (X5.out.cell 2).trans rfl, (X5.out.cell 3).trans rfl, (X5.out.cell 4).trans rfl, (X5.out.cell 5).trans rfl, (X5.out.cell 6).trans rfl⟩
    refine hK _ _ SB ?_
    clear hK K hb5 SA r1 r2 C4 X4
    have h38 : w3.drew.heap.size = w3.heap.size := rfl
    rw [h38] at hr5 hq8 hq9 HB8
    try rw [h38]
    clear h38
    generalize w3.heap.size = b8 at *
    try simp only [Act.put, List.setIfInBounds_toArray, List.set_cons_zero, List.set_cons_succ]
    refine Hh.one (i := 5) rfl (by kernel_rfl) rfl (fun K hK => ?_)
    go_simp
    refine (RA.out _).mono ?_
    rintro e w6 ⟨rfl, hb6⟩
    have C6 := Lib.hid (C5.out.keep hb6)
    have X6 := Lib.hid (X5.out.keep hb6)
    have hr6 := hr5.keep hb6
    have SC : HasV w6 (.pointer (some ⟨q, 2, none⟩)) ∧ cellsV w6 (.pointer (some ⟨q, 2, none⟩)) = rgA s.r ∧ w6.cell? ⟨bi, 0, none⟩ = some (.int .i64 16) ∧ w6.cell? ⟨bi, 1, none⟩ = some (.int .i64 d) ∧ w6.cell? ⟨bi, 2, none⟩ = some (.int .i64 a) ∧ w6.cell? ⟨bi, 3, none⟩ = some (.int .i64 b) ∧ w6.cell? ⟨bi, 4, none⟩ = some (.int .i64 s0) ∧ w6.cell? ⟨bi, 5, none⟩ = some (.int .i64 c) ∧ w6.cell? ⟨bi, 6, none⟩ = some (.int .i64 n) := ⟨(Cohas C6.out.co).1, (Cohas C6.out.co).2, (X6.out.cell 0).trans rfl, (X6.out.cell 1).trans rfl, (X6.out.cell 2).trans rfl, (X6.out.cell 3).trans rfl, (X6.out.cell 4).trans rfl, (X6.out.cell 5).trans rfl, (X6.out.cell 6).trans rfl⟩
    refine hK _ _ SC ?_
    clear hK K hb6 SB hr5 C5 X5
    try simp only [Act.put, List.setIfInBounds_toArray, List.set_cons_zero, List.set_cons_succ]
    refine Hh.take (i := 6) (v := ?v6b) rfl (by decide +kernel) (by decide +kernel) (fun _ _ _ h => h) rfl ?hy6b SC ?rest6b
    case hy6b =>
      intro wq hSw
      obtain ⟨s1, s2, s3, s4, s5, s6, s7, s8, s9⟩ := hSw
      go_simp
      try with_reducible rfl
    try simp only [Act.put, List.setIfInBounds_toArray, List.set_cons_zero, List.set_cons_succ]
    refine Hh.take (i := 7) (v := ?v7b) rfl (by decide +kernel) (by decide +kernel) (fun _ _ _ h => h) rfl ?hy7b SC ?rest7b
    case hy7b =>
      intro wq hSw
      obtain ⟨s1, s2, s3, s4, s5, s6, s7, s8, s9⟩ := hSw
      go_simp
      try with_reducible rfl
    try simp only [Act.put, List.setIfInBounds_toArray, List.set_cons_zero, List.set_cons_succ]
    refine Hh.take (i := 8) (v := ?v8b) rfl (by decide +kernel) (by decide +kernel) (fun _ _ _ h => h) rfl ?hy8b SC ?rest8b
    case hy8b =>
      intro wq hSw
      obtain ⟨s1, s2, s3, s4, s5, s6, s7, s8, s9⟩ := hSw
      go_simp
      try with_reducible rfl
    try simp only [Act.put, List.setIfInBounds_toArray, List.set_cons_zero, List.set_cons_succ]
    refine Hh.take (i := 9) (v := ?v9b) rfl (by decide +kernel) (by decide +kernel) (fun _ _ _ h => h) rfl ?hy9b SC ?rest9b
    case hy9b =>
      intro wq hSw
      obtain ⟨s1, s2, s3, s4, s5, s6, s7, s8, s9⟩ := hSw
      go_simp
      try with_reducible rfl
    try simp only [Act.put, List.setIfInBounds_toArray, List.set_cons_zero, List.set_cons_succ]
    clear SC
    refine Hh.one (i := 11) rfl (by kernel_rfl) rfl (fun K hK => ?_)
    have ht := RVthere hr6 zero_ok
    have hgd := good okr
    go_simp
    have hp7 := RVput hr6 zero_ok okr
    obtain ⟨w7, hw7⟩ : ∃ w7, putV w6 (.pointer (some ⟨b8, 0, none⟩)) (.agg (rgA s.r)) = w7 := ⟨_, rfl⟩
    rw [hw7] at hp7 ⊢
    clear hw7
    have z7 := hp7.below 0 w6 (Nat.zero_le _) (Below.refl _ _)
    have O7 : Only [b8] w6 w7 := ⟨z7.os, z7.tape, z7.output, z7.size, fun k hk hn => hp7.other k (by simpa using hn)⟩
    have C7 : Hid (Cg w q mq F s w7) := Lib.hid ⟨C6.out.co.only O7 (by simpa using fun e => hq8 e.symm) (fun k hk e => by have := hHF.out k hk; simp at e; have := HB8.out; omega), C6.out.on.trans (F' := [b8]) O7 (by simp; exact Or.inr HB8.out)⟩
    have X7 := Lib.hid (X6.out.only O7 (by simpa using fun e => hq9 e.symm))
    have hr7 := hp7.has
    have SD : HasV w7 (.pointer (some ⟨q, 2, none⟩)) ∧ cellsV w7 (.pointer (some ⟨q, 2, none⟩)) = rgA s.r ∧ w7.cell? ⟨bi, 0, none⟩ = some (.int .i64 16) ∧ w7.cell? ⟨bi, 1, none⟩ = some (.int .i64 d) ∧ w7.cell? ⟨bi, 2, none⟩ = some (.int .i64 a) ∧ w7.cell? ⟨bi, 3, none⟩ = some (.int .i64 b) ∧ w7.cell? ⟨bi, 4, none⟩ = some (.int .i64 s0) ∧ w7.cell? ⟨bi, 5, none⟩ = some (.int .i64 c) ∧ w7.cell? ⟨bi, 6, none⟩ = some (.int .i64 n) := ⟨(Cohas C7.out.co).1, (Cohas C7.out.co).2, (X7.out.cell 0).trans rfl, (X7.out.cell 1).trans rfl, (X7.out.cell 2).trans rfl, (X7.out.cell 3).trans rfl, (X7.out.cell 4).trans rfl, (X7.out.cell 5).trans rfl, (X7.out.cell 6).trans rfl⟩
    refine hK _ _ SD ?_
    clear hK K ht hgd hp7 O7 z7 C6 X6 hr6
    try simp only [Act.put, List.setIfInBounds_toArray, List.set_cons_zero, List.set_cons_succ]
    refine Hh.one (i := 12) rfl (by kernel_rfl) rfl (fun K hK => ?_)
    go_simp
    refine hK _ _ SD ?_
    clear hK K
    try simp only [Act.put, List.setIfInBounds_toArray, List.set_cons_zero, List.set_cons_succ]
    refine Hh.one (i := 13) rfl (by kernel_rfl) rfl (fun K hK => ?_)
    go_simp
    refine hK _ _ SD ?_
    clear hK K
    try simp only [Act.put, List.setIfInBounds_toArray, List.set_cons_zero, List.set_cons_succ]
    refine Hh.done (by kernel_rfl) ?_ _
    clear SD
    have x0 : w7.cell? ⟨bi, 0, none⟩ = some (.int .i64 16) := (X7.out.cell 0).trans rfl
    have x1 : w7.cell? ⟨bi, 1, none⟩ = some (.int .i64 d) := (X7.out.cell 1).trans rfl
    have x2 : w7.cell? ⟨bi, 2, none⟩ = some (.int .i64 a) := (X7.out.cell 2).trans rfl
    have x3 : w7.cell? ⟨bi, 3, none⟩ = some (.int .i64 b) := (X7.out.cell 3).trans rfl
    have x4 : w7.cell? ⟨bi, 4, none⟩ = some (.int .i64 s0) := (X7.out.cell 4).trans rfl
    have x5 : w7.cell? ⟨bi, 5, none⟩ = some (.int .i64 c) := (X7.out.cell 5).trans rfl
    have x6 : w7.cell? ⟨bi, 6, none⟩ = some (.int .i64 n) := (X7.out.cell 6).trans rfl
    go_wp2_with fail
    refine (HME.out _ C7.out.co).mono ?_
    rintro e w8 ⟨E, en, ec, rfl, hev, hc8⟩
    have HEV := Lib.hid hev
    have C8 := Lib.hid (C7.out.then hc8)
    clear hev hc8
    go_wp2_with fail
    go_ret2
    exact ⟨E, en, ec, rfl, HEV.out, C8.out⟩

set_option maxRecDepth 20000 in
set_option maxHeartbeats 3200000 in
theorem exec_mem17 {w : World} {q mq : Nat} {F : List Nat} {s : Cr} {A : Option Addr} {m cap : Nat} {code : List In} (h : Co w q mq F s) (hc : IsCode w A m cap code) (k : Nat) (hk : k < m) (hpc : s.pc = (k : Int)) (hst : s.st = 0) (d a b s0 c n : Int) (hi : code.getD k zeroIn = ⟨17, d, a, b, s0, c, n⟩) (s2 : Cr) (ev : List Ev) (hal : Alu.step s.r ⟨17, d, a, b, s0, c, n⟩ = (s.r, 0, false)) (okr : okR s.r) (hme : ∀ w1 : World, Co w1 q mq F s → Calls Try.prog 60 #[.pointer (some ⟨q, 0, none⟩), .agg #[.int .i64 17, .int .i64 d, .int .i64 a, .int .i64 b, .int .i64 s0, .int .i64 c, .int .i64 n]] w1 (Ans q mq F s w1 s2 ev)) :
    Calls Try.prog 33 #[.pointer (some ⟨q, 0, none⟩), .slice A m cap] w (Ans q mq F s w s2 ev) := by
  have HME := Lib.hid hme
  clear hme
  have hHF := Lib.hid (show ∀ k ∈ F, k < w.heap.size from by obtain ⟨kp, hm⟩ := h.mem; exact hm.lt)
  have hpcb : (k : Int) ≤ 65536 := by have := hc.2.2.1; omega
  have i1 : IntKind.i64.wrap ((k : Int) + 1) = (k : Int) + 1 := IntWalk.i64_in _ ⟨by omega, by omega⟩
  obtain ⟨hA, hAn, hA6, hAr⟩ := id hc
  obtain ⟨bb, oo, rfl, hbb, wc, hrt⟩ := hc.at_ hk
  have H := Lib.hid h
  have hlt := h.lt
  have hnk : (k : Int) < (m : Int) := by omega
  have d1 : decide ((k : Int) < 0) = false := decide_eq_false (by omega)
  have d2 : decide ((m : Int) ≤ (k : Int)) = false := decide_eq_false (by omega)
  have p36 : w.cell? ⟨q, 36, none⟩ = some (.int .i64 0) := by rw [h.st, hst]
  have p35 : w.cell? ⟨q, 35, none⟩ = some (.int .i64 (k : Int)) := by rw [h.pc, hpc]
  have DE := Lib.hid (fun w => rdec_at (code.getD k zeroIn) hrt w)
  have RT := Lib.hid hrt
  obtain ⟨W0, hW0⟩ : ∃ W0, (encode (code.getD k zeroIn)).1 = W0 := ⟨_, rfl⟩
  rw [hW0] at DE wc
  rw [hi] at DE RT
  clear hW0 h hc hA hAn hAr hrt hst
  go_enter Try.func33, Try.ntmps33
  go_wp2_with fail
  refine (DE.out _).mono ?_
  rintro e w2 ⟨rfl, hb2⟩
  have C2 := Lib.hid ((Cg.start H.out).keep hb2)
  clear DE wc p35 p36 hb2 H
  go_upto_region 8 with fail
  have hb3 := below_alw w2 (.cells #[.int .i64 17, .int .i64 d, .int .i64 a, .int .i64 b, .int .i64 s0, .int .i64 c, .int .i64 n] 45)
  have C3 := Lib.hid (C2.out.keep hb3)
  have X3 := Lib.hid (Bx.new w2 ⟨17, d, a, b, s0, c, n⟩)
  obtain ⟨w3, hw3⟩ : ∃ w3, w2.alloc (.cells #[.int .i64 17, .int .i64 d, .int .i64 a, .int .i64 b, .int .i64 s0, .int .i64 c, .int .i64 n] 45) = w3 := ⟨_, rfl⟩
  rw [show w2.alloc (.cells (insL ⟨17, d, a, b, s0, c, n⟩).toArray 45) = w3 from hw3] at X3
  rw [hw3] at C3
  try rw [hw3]
  have hlt2 := C2.out.co.lt
  have hbq : w2.heap.size ≠ q := by omega
  clear hw3 hb3 C2 hlt2
  generalize w2.heap.size = bi at *
  have C4 := Lib.hid C3.out.drew
  have X4 := Lib.hid (X3.out.keep (Below.refl _ _).drew)
  clear C3 X3
  obtain ⟨r1, r2⟩ := Cohas C4.out.co
  have RA := Lib.hid (fun w => AluRA.ralu_any s.r ⟨17, d, a, b, s0, c, n⟩ w C4.out.co.ok (right_ok RT.out))
  rw [hal] at RA
  clear hal
  refine Hh.start (fun w' => HasV w' (.pointer (some ⟨q, 2, none⟩)) ∧ cellsV w' (.pointer (some ⟨q, 2, none⟩)) = rgA s.r ∧ w'.cell? ⟨bi, 0, none⟩ = some (.int .i64 17) ∧ w'.cell? ⟨bi, 1, none⟩ = some (.int .i64 d) ∧ w'.cell? ⟨bi, 2, none⟩ = some (.int .i64 a) ∧ w'.cell? ⟨bi, 3, none⟩ = some (.int .i64 b) ∧ w'.cell? ⟨bi, 4, none⟩ = some (.int .i64 s0) ∧ w'.cell? ⟨bi, 5, none⟩ = some (.int .i64 c) ∧ w'.cell? ⟨bi, 6, none⟩ = some (.int .i64 n)) (by kernel_rfl) ?_
  have SA : HasV w3.drew (.pointer (some ⟨q, 2, none⟩)) ∧ cellsV w3.drew (.pointer (some ⟨q, 2, none⟩)) = rgA s.r ∧ w3.drew.cell? ⟨bi, 0, none⟩ = some (.int .i64 17) ∧ w3.drew.cell? ⟨bi, 1, none⟩ = some (.int .i64 d) ∧ w3.drew.cell? ⟨bi, 2, none⟩ = some (.int .i64 a) ∧ w3.drew.cell? ⟨bi, 3, none⟩ = some (.int .i64 b) ∧ w3.drew.cell? ⟨bi, 4, none⟩ = some (.int .i64 s0) ∧ w3.drew.cell? ⟨bi, 5, none⟩ = some (.int .i64 c) ∧ w3.drew.cell? ⟨bi, 6, none⟩ = some (.int .i64 n) := ⟨r1, r2, (X4.out.cell 0).trans rfl, (X4.out.cell 1).trans rfl, (X4.out.cell 2).trans rfl, (X4.out.cell 3).trans rfl, (X4.out.cell 4).trans rfl, (X4.out.cell 5).trans rfl, (X4.out.cell 6).trans rfl⟩
  refine Hh.take (i := 0) (v := ?v0) rfl (by decide +kernel) (by decide +kernel) (fun _ _ _ h => h) rfl ?hy0 SA ?rest0
  case hy0 =>
    intro wq hSw
    obtain ⟨s1, s2, s3, s4, s5, s6, s7, s8, s9⟩ := hSw
    go_simp
    try with_reducible rfl
  try simp only [Act.put, List.setIfInBounds_toArray, List.set_cons_zero, List.set_cons_succ]
  refine Hh.take (i := 1) (v := ?v1) rfl (by decide +kernel) (by decide +kernel) (fun _ _ _ h => h) rfl ?hy1 SA ?rest1
  case hy1 =>
    intro wq hSw
    obtain ⟨s1, s2, s3, s4, s5, s6, s7, s8, s9⟩ := hSw
    go_simp
    try with_reducible rfl
  try simp only [Act.put, List.setIfInBounds_toArray, List.set_cons_zero, List.set_cons_succ]
  refine Hh.take (i := 2) (v := ?v2) rfl (by decide +kernel) (by decide +kernel) (fun _ _ _ h => h) rfl ?hy2 SA ?rest2
  case hy2 =>
    intro wq hSw
    obtain ⟨s1, s2, s3, s4, s5, s6, s7, s8, s9⟩ := hSw
    go_simp
    try with_reducible rfl
  try simp only [Act.put, List.setIfInBounds_toArray, List.set_cons_zero, List.set_cons_succ]
  refine Hh.take (i := 3) (v := ?v3) rfl (by decide +kernel) (by decide +kernel) (fun _ _ _ h => h) rfl ?hy3 SA ?rest3
  case hy3 =>
    intro wq hSw
    obtain ⟨s1, s2, s3, s4, s5, s6, s7, s8, s9⟩ := hSw
    go_simp
    try with_reducible rfl
  try simp only [Act.put, List.setIfInBounds_toArray, List.set_cons_zero, List.set_cons_succ]
  refine Hh.take (i := 4) (v := ?v4) rfl (by decide +kernel) (by decide +kernel) (fun _ _ _ h => h) rfl ?hy4 SA ?rest4
  case hy4 =>
    intro wq hSw
    obtain ⟨s1, s2, s3, s4, s5, s6, s7, s8, s9⟩ := hSw
    go_simp
    try with_reducible rfl
  try simp only [Act.put, List.setIfInBounds_toArray, List.set_cons_zero, List.set_cons_succ]
  refine Hh.two (i := 5) (j := 10) rfl rfl (by kernel_rfl) rfl rfl (fun K hK => ?_) (fun K hK => ?_)
  · skip
    go_simp
    refine (RA.out _).mono ?_
    rintro e w5 ⟨rfl, hb5⟩
    have C5 := Lib.hid (C4.out.keep hb5)
    have X5 := Lib.hid (X4.out.keep hb5)
    have SB : HasV w5 (.pointer (some ⟨q, 2, none⟩)) ∧ cellsV w5 (.pointer (some ⟨q, 2, none⟩)) = rgA s.r ∧ w5.cell? ⟨bi, 0, none⟩ = some (.int .i64 17) ∧ w5.cell? ⟨bi, 1, none⟩ = some (.int .i64 d) ∧ w5.cell? ⟨bi, 2, none⟩ = some (.int .i64 a) ∧ w5.cell? ⟨bi, 3, none⟩ = some (.int .i64 b) ∧ w5.cell? ⟨bi, 4, none⟩ = some (.int .i64 s0) ∧ w5.cell? ⟨bi, 5, none⟩ = some (.int .i64 c) ∧ w5.cell? ⟨bi, 6, none⟩ = some (.int .i64 n) := ⟨(Cohas C5.out.co).1, (Cohas C5.out.co).2, (X5.out.cell 0).trans rfl, (X5.out.cell 1).trans rfl, (X5.out.cell 2).trans rfl, (X5.out.cell 3).trans rfl, (X5.out.cell 4).trans rfl, (X5.out.cell 5).trans rfl, (X5.out.cell 6).trans rfl⟩
    refine hK _ _ SB ?_
    clear hK K hb5 SA r1 r2 C4 X4
    try simp only [Act.put, List.setIfInBounds_toArray, List.set_cons_zero, List.set_cons_succ]
    refine Hh.take (i := 6) (v := ?v6a) rfl (by decide +kernel) (by decide +kernel) (fun _ _ _ h => h) rfl ?hy6a SB ?rest6a
    case hy6a =>
      intro wq hSw
      obtain ⟨s1, s2, s3, s4, s5, s6, s7, s8, s9⟩ := hSw
      go_simp
      try with_reducible rfl
    try simp only [Act.put, List.setIfInBounds_toArray, List.set_cons_zero, List.set_cons_succ]
    refine Hh.take (i := 7) (v := ?v7a) rfl (by decide +kernel) (by decide +kernel) (fun _ _ _ h => h) rfl ?hy7a SB ?rest7a
    case hy7a =>
      intro wq hSw
      obtain ⟨s1, s2, s3, s4, s5, s6, s7, s8, s9⟩ := hSw
      go_simp
      try with_reducible rfl
    try simp only [Act.put, List.setIfInBounds_toArray, List.set_cons_zero, List.set_cons_succ]
    refine Hh.take (i := 8) (v := ?v8a) rfl (by decide +kernel) (by decide +kernel) (fun _ _ _ h => h) rfl ?hy8a SB ?rest8a
    case hy8a =>
      intro wq hSw
      obtain ⟨s1, s2, s3, s4, s5, s6, s7, s8, s9⟩ := hSw
      go_simp
      try with_reducible rfl
    try simp only [Act.put, List.setIfInBounds_toArray, List.set_cons_zero, List.set_cons_succ]
    refine Hh.take (i := 9) (v := ?v9a) rfl (by decide +kernel) (by decide +kernel) (fun _ _ _ h => h) rfl ?hy9a SB ?rest9a
    case hy9a =>
      intro wq hSw
      obtain ⟨s1, s2, s3, s4, s5, s6, s7, s8, s9⟩ := hSw
      go_simp
      try with_reducible rfl
    try simp only [Act.put, List.setIfInBounds_toArray, List.set_cons_zero, List.set_cons_succ]
    refine Hh.one (i := 10) rfl (by kernel_rfl) rfl (fun K hK => ?_)
    go_simp
    simp only [zeros_eq]
    have hr6 := RV.new w5 zeroR
    have hb6 := below_alw w5 (.cells (rgA zeroR) 75)
    obtain ⟨w6, hw6⟩ : ∃ w6, w5.alloc (.cells (rgA zeroR) 75) = w6 := ⟨_, rfl⟩
    rw [hw6] at hr6 hb6 ⊢
    clear hw6
    have hq8 : w5.heap.size ≠ q := by have := C5.out.co.lt; omega
    have hq9 : w5.heap.size ≠ bi := by have := X5.out.lt; omega
    have C6 := Lib.hid (C5.out.keep hb6)
    have X6 := Lib.hid (X5.out.keep hb6)
    have HB8 := Lib.hid (show w.heap.size ≤ w5.heap.size from C5.out.on.size)
    have SC : HasV w6 (.pointer (some ⟨q, 2, none⟩)) ∧ cellsV w6 (.pointer (some ⟨q, 2, none⟩)) = rgA s.r ∧ w6.cell? ⟨bi, 0, none⟩ = some (.int .i64 17) ∧ w6.cell? ⟨bi, 1, none⟩ = some (.int .i64 d) ∧ w6.cell? ⟨bi, 2, none⟩ = some (.int .i64 a) ∧ w6.cell? ⟨bi, 3, none⟩ = some (.int .i64 b) ∧ w6.cell? ⟨bi, 4, none⟩ = some (.int .i64 s0) ∧ w6.cell? ⟨bi, 5, none⟩ = some (.int .i64 c) ∧ w6.cell? ⟨bi, 6, none⟩ = some (.int .i64 n) := ⟨(Cohas C6.out.co).1, (Cohas C6.out.co).2, (X6.out.cell 0).trans rfl, (X6.out.cell 1).trans rfl, (X6.out.cell 2).trans rfl, (X6.out.cell 3).trans rfl, (X6.out.cell 4).trans rfl, (X6.out.cell 5).trans rfl, (X6.out.cell 6).trans rfl⟩
    refine hK _ _ SC ?_
    clear hK K hb6 SB SC C5 X5
    generalize w5.heap.size = b8 at *
    try simp only [Act.put, List.setIfInBounds_toArray, List.set_cons_zero, List.set_cons_succ]
    refine Hh.one (i := 11) rfl (by kernel_rfl) rfl (fun K hK => ?_)
    have ht := RVthere hr6 zero_ok
    have hgd := good okr
    go_simp
    have hp7 := RVput hr6 zero_ok okr
    obtain ⟨w7, hw7⟩ : ∃ w7, putV w6 (.pointer (some ⟨b8, 0, none⟩)) (.agg (rgA s.r)) = w7 := ⟨_, rfl⟩
    rw [hw7] at hp7 ⊢
    clear hw7
    have z7 := hp7.below 0 w6 (Nat.zero_le _) (Below.refl _ _)
    have O7 : Only [b8] w6 w7 := ⟨z7.os, z7.tape, z7.output, z7.size, fun k hk hn => hp7.other k (by simpa using hn)⟩
    have C7 : Hid (Cg w q mq F s w7) := Lib.hid ⟨C6.out.co.only O7 (by simpa using fun e => hq8 e.symm) (fun k hk e => by have := hHF.out k hk; simp at e; have := HB8.out; omega), C6.out.on.trans (F' := [b8]) O7 (by simp; exact Or.inr HB8.out)⟩
    have X7 := Lib.hid (X6.out.only O7 (by simpa using fun e => hq9 e.symm))
    have hr7 := hp7.has
    have SD : HasV w7 (.pointer (some ⟨q, 2, none⟩)) ∧ cellsV w7 (.pointer (some ⟨q, 2, none⟩)) = rgA s.r ∧ w7.cell? ⟨bi, 0, none⟩ = some (.int .i64 17) ∧ w7.cell? ⟨bi, 1, none⟩ = some (.int .i64 d) ∧ w7.cell? ⟨bi, 2, none⟩ = some (.int .i64 a) ∧ w7.cell? ⟨bi, 3, none⟩ = some (.int .i64 b) ∧ w7.cell? ⟨bi, 4, none⟩ = some (.int .i64 s0) ∧ w7.cell? ⟨bi, 5, none⟩ = some (.int .i64 c) ∧ w7.cell? ⟨bi, 6, none⟩ = some (.int .i64 n) := ⟨(Cohas C7.out.co).1, (Cohas C7.out.co).2, (X7.out.cell 0).trans rfl, (X7.out.cell 1).trans rfl, (X7.out.cell 2).trans rfl, (X7.out.cell 3).trans rfl, (X7.out.cell 4).trans rfl, (X7.out.cell 5).trans rfl, (X7.out.cell 6).trans rfl⟩
    refine hK _ _ SD ?_
    clear hK K ht hgd hp7 O7 z7 C6 X6 hr6
    try simp only [Act.put, List.setIfInBounds_toArray, List.set_cons_zero, List.set_cons_succ]
    refine Hh.one (i := 12) rfl (by kernel_rfl) rfl (fun K hK => ?_)
    go_simp
    refine hK _ _ SD ?_
    clear hK K
    try simp only [Act.put, List.setIfInBounds_toArray, List.set_cons_zero, List.set_cons_succ]
    refine Hh.one (i := 13) rfl (by kernel_rfl) rfl (fun K hK => ?_)
    go_simp
    refine hK _ _ SD ?_
    clear hK K
    try simp only [Act.put, List.setIfInBounds_toArray, List.set_cons_zero, List.set_cons_succ]
    refine Hh.done (by kernel_rfl) ?_ _
    clear SD
    have x0 : w7.cell? ⟨bi, 0, none⟩ = some (.int .i64 17) := (X7.out.cell 0).trans rfl
    have x1 : w7.cell? ⟨bi, 1, none⟩ = some (.int .i64 d) := (X7.out.cell 1).trans rfl
    have x2 : w7.cell? ⟨bi, 2, none⟩ = some (.int .i64 a) := (X7.out.cell 2).trans rfl
    have x3 : w7.cell? ⟨bi, 3, none⟩ = some (.int .i64 b) := (X7.out.cell 3).trans rfl
    have x4 : w7.cell? ⟨bi, 4, none⟩ = some (.int .i64 s0) := (X7.out.cell 4).trans rfl
    have x5 : w7.cell? ⟨bi, 5, none⟩ = some (.int .i64 c) := (X7.out.cell 5).trans rfl
    have x6 : w7.cell? ⟨bi, 6, none⟩ = some (.int .i64 n) := (X7.out.cell 6).trans rfl
    go_wp2_with fail
    refine (HME.out _ C7.out.co).mono ?_
    rintro e w8 ⟨E, en, ec, rfl, hev, hc8⟩
    have HEV := Lib.hid hev
    have C8 := Lib.hid (C7.out.then hc8)
    clear hev hc8
    go_wp2_with fail
    go_ret2
    exact ⟨E, en, ec, rfl, HEV.out, C8.out⟩
  · skip
    go_simp
    simp only [zeros_eq]
    have hr5 := RV.new w3.drew zeroR
    have hb5 := below_alw w3.drew (.cells (rgA zeroR) 75)
    obtain ⟨w5, hw5⟩ : ∃ w5, w3.drew.alloc (.cells (rgA zeroR) 75) = w5 := ⟨_, rfl⟩
    have hw5' : (w3.alloc (.cells (rgA zeroR) 75)).drew = w5 := hw5
    rw [hw5] at hr5 hb5
    first | rw [hw5] | rw [hw5']
    clear hw5 hw5'
    have hq8 : w3.drew.heap.size ≠ q := by have := C4.out.co.lt; omega
    have hq9 : w3.drew.heap.size ≠ bi := by have := X4.out.lt; omega
    have C5 := Lib.hid (C4.out.keep hb5)
    have X5 := Lib.hid (X4.out.keep hb5)
    have HB8 := Lib.hid (show w.heap.size ≤ w3.drew.heap.size from C4.out.on.size)
    have SB : HasV w5 (.pointer (some ⟨q, 2, none⟩)) ∧ cellsV w5 (.pointer (some ⟨q, 2, none⟩)) = rgA s.r ∧ w5.cell? ⟨bi, 0, none⟩ = some (.int .i64 17) ∧ w5.cell? ⟨bi, 1, none⟩ = some (.int .i64 d) ∧ w5.cell? ⟨bi, 2, none⟩ = some (.int .i64 a) ∧ w5.cell? ⟨bi, 3, none⟩ = some (.int .i64 b) ∧ w5.cell? ⟨bi, 4, none⟩ = some (.int .i64 s0) ∧ w5.cell? ⟨bi, 5, none⟩ = some (.int .i64 c) ∧ w5.cell? ⟨bi, 6, none⟩ = some (.int .i64 n) := ⟨(Cohas C5.out.co).1, (Cohas C5.out.co).2, (X5.out.cell 0).trans rfl, (X5.out.cell 1).trans rfl, (X5.out.cell 2).trans rfl, (X5.out.cell 3).trans rfl, (X5.out.cell 4).trans rfl, (X5.out.cell 5).trans rfl, (X5.out.cell 6).trans rfl⟩
    refine hK _ _ SB ?_
    clear hK K hb5 SA r1 r2 C4 X4
    have h38 : w3.drew.heap.size = w3.heap.size := rfl
    rw [h38] at hr5 hq8 hq9 HB8
    try rw [h38]
    clear h38
    generalize w3.heap.size = b8 at *
    try simp only [Act.put, List.setIfInBounds_toArray, List.set_cons_zero, List.set_cons_succ]
    refine Hh.one (i := 5) rfl (by kernel_rfl) rfl (fun K hK => ?_)
    go_simp
    refine (RA.out _).mono ?_
    rintro e w6 ⟨rfl, hb6⟩
    have C6 := Lib.hid (C5.out.keep hb6)
    have X6 := Lib.hid (X5.out.keep hb6)
    have hr6 := hr5.keep hb6
    have SC : HasV w6 (.pointer (some ⟨q, 2, none⟩)) ∧ cellsV w6 (.pointer (some ⟨q, 2, none⟩)) = rgA s.r ∧ w6.cell? ⟨bi, 0, none⟩ = some (.int .i64 17) ∧ w6.cell? ⟨bi, 1, none⟩ = some (.int .i64 d) ∧ w6.cell? ⟨bi, 2, none⟩ = some (.int .i64 a) ∧ w6.cell? ⟨bi, 3, none⟩ = some (.int .i64 b) ∧ w6.cell? ⟨bi, 4, none⟩ = some (.int .i64 s0) ∧ w6.cell? ⟨bi, 5, none⟩ = some (.int .i64 c) ∧ w6.cell? ⟨bi, 6, none⟩ = some (.int .i64 n) := ⟨(Cohas C6.out.co).1, (Cohas C6.out.co).2, (X6.out.cell 0).trans rfl, (X6.out.cell 1).trans rfl, (X6.out.cell 2).trans rfl, (X6.out.cell 3).trans rfl, (X6.out.cell 4).trans rfl, (X6.out.cell 5).trans rfl, (X6.out.cell 6).trans rfl⟩
    refine hK _ _ SC ?_
    clear hK K hb6 SB hr5 C5 X5
    try simp only [Act.put, List.setIfInBounds_toArray, List.set_cons_zero, List.set_cons_succ]
    refine Hh.take (i := 6) (v := ?v6b) rfl (by decide +kernel) (by decide +kernel) (fun _ _ _ h => h) rfl ?hy6b SC ?rest6b
    case hy6b =>
      intro wq hSw
      obtain ⟨s1, s2, s3, s4, s5, s6, s7, s8, s9⟩ := hSw
      go_simp
      try with_reducible rfl
    try simp only [Act.put, List.setIfInBounds_toArray, List.set_cons_zero, List.set_cons_succ]
    refine Hh.take (i := 7) (v := ?v7b) rfl (by decide +kernel) (by decide +kernel) (fun _ _ _ h => h) rfl ?hy7b SC ?rest7b
    case hy7b =>
      intro wq hSw
      obtain ⟨s1, s2, s3, s4, s5, s6, s7, s8, s9⟩ := hSw
      go_simp
      try with_reducible rfl
    try simp only [Act.put, List.setIfInBounds_toArray, List.set_cons_zero, List.set_cons_succ]
    refine Hh.take (i := 8) (v := ?v8b) rfl (by decide +kernel) (by decide +kernel) (fun _ _ _ h => h) rfl ?hy8b SC ?rest8b
    case hy8b =>
      intro wq hSw
      obtain ⟨s1, s2, s3, s4, s5, s6, s7, s8, s9⟩ := hSw
      go_simp
      try with_reducible rfl
    try simp only [Act.put, List.setIfInBounds_toArray, List.set_cons_zero, List.set_cons_succ]
    refine Hh.take (i := 9) (v := ?v9b) rfl (by decide +kernel) (by decide +kernel) (fun _ _ _ h => h) rfl ?hy9b SC ?rest9b
    case hy9b =>
      intro wq hSw
      obtain ⟨s1, s2, s3, s4, s5, s6, s7, s8, s9⟩ := hSw
      go_simp
      try with_reducible rfl
    try simp only [Act.put, List.setIfInBounds_toArray, List.set_cons_zero, List.set_cons_succ]
    clear SC
    refine Hh.one (i := 11) rfl (by kernel_rfl) rfl (fun K hK => ?_)
    have ht := RVthere hr6 zero_ok
    have hgd := good okr
    go_simp
    have hp7 := RVput hr6 zero_ok okr
    obtain ⟨w7, hw7⟩ : ∃ w7, putV w6 (.pointer (some ⟨b8, 0, none⟩)) (.agg (rgA s.r)) = w7 := ⟨_, rfl⟩
    rw [hw7] at hp7 ⊢
    clear hw7
    have z7 := hp7.below 0 w6 (Nat.zero_le _) (Below.refl _ _)
    have O7 : Only [b8] w6 w7 := ⟨z7.os, z7.tape, z7.output, z7.size, fun k hk hn => hp7.other k (by simpa using hn)⟩
    have C7 : Hid (Cg w q mq F s w7) := Lib.hid ⟨C6.out.co.only O7 (by simpa using fun e => hq8 e.symm) (fun k hk e => by have := hHF.out k hk; simp at e; have := HB8.out; omega), C6.out.on.trans (F' := [b8]) O7 (by simp; exact Or.inr HB8.out)⟩
    have X7 := Lib.hid (X6.out.only O7 (by simpa using fun e => hq9 e.symm))
    have hr7 := hp7.has
    have SD : HasV w7 (.pointer (some ⟨q, 2, none⟩)) ∧ cellsV w7 (.pointer (some ⟨q, 2, none⟩)) = rgA s.r ∧ w7.cell? ⟨bi, 0, none⟩ = some (.int .i64 17) ∧ w7.cell? ⟨bi, 1, none⟩ = some (.int .i64 d) ∧ w7.cell? ⟨bi, 2, none⟩ = some (.int .i64 a) ∧ w7.cell? ⟨bi, 3, none⟩ = some (.int .i64 b) ∧ w7.cell? ⟨bi, 4, none⟩ = some (.int .i64 s0) ∧ w7.cell? ⟨bi, 5, none⟩ = some (.int .i64 c) ∧ w7.cell? ⟨bi, 6, none⟩ = some (.int .i64 n) := ⟨(Cohas C7.out.co).1, (Cohas C7.out.co).2, (X7.out.cell 0).trans rfl, (X7.out.cell 1).trans rfl, (X7.out.cell 2).trans rfl, (X7.out.cell 3).trans rfl, (X7.out.cell 4).trans rfl, (X7.out.cell 5).trans rfl, (X7.out.cell 6).trans rfl⟩
    refine hK _ _ SD ?_
    clear hK K ht hgd hp7 O7 z7 C6 X6 hr6
    try simp only [Act.put, List.setIfInBounds_toArray, List.set_cons_zero, List.set_cons_succ]
    refine Hh.one (i := 12) rfl (by kernel_rfl) rfl (fun K hK => ?_)
    go_simp
    refine hK _ _ SD ?_
    clear hK K
    try simp only [Act.put, List.setIfInBounds_toArray, List.set_cons_zero, List.set_cons_succ]
    refine Hh.one (i := 13) rfl (by kernel_rfl) rfl (fun K hK => ?_)
    go_simp
    refine hK _ _ SD ?_
    clear hK K
    try simp only [Act.put, List.setIfInBounds_toArray, List.set_cons_zero, List.set_cons_succ]
    refine Hh.done (by kernel_rfl) ?_ _
    clear SD
    have x0 : w7.cell? ⟨bi, 0, none⟩ = some (.int .i64 17) := (X7.out.cell 0).trans rfl
    have x1 : w7.cell? ⟨bi, 1, none⟩ = some (.int .i64 d) := (X7.out.cell 1).trans rfl
    have x2 : w7.cell? ⟨bi, 2, none⟩ = some (.int .i64 a) := (X7.out.cell 2).trans rfl
    have x3 : w7.cell? ⟨bi, 3, none⟩ = some (.int .i64 b) := (X7.out.cell 3).trans rfl
    have x4 : w7.cell? ⟨bi, 4, none⟩ = some (.int .i64 s0) := (X7.out.cell 4).trans rfl
    have x5 : w7.cell? ⟨bi, 5, none⟩ = some (.int .i64 c) := (X7.out.cell 5).trans rfl
    have x6 : w7.cell? ⟨bi, 6, none⟩ = some (.int .i64 n) := (X7.out.cell 6).trans rfl
    go_wp2_with fail
    refine (HME.out _ C7.out.co).mono ?_
    rintro e w8 ⟨E, en, ec, rfl, hev, hc8⟩
    have HEV := Lib.hid hev
    have C8 := Lib.hid (C7.out.then hc8)
    clear hev hc8
    go_wp2_with fail
    go_ret2
    exact ⟨E, en, ec, rfl, HEV.out, C8.out⟩
end Go.Proofs.Ytkohichiojmakaa.EmX
