/-
  WALKS: cofferdamref1's core: Exec, as the plain core does.
-/
import Derived.Test.YtkohichiojmakaaEmitExec
namespace Go.Proofs.Ytkohichiojmakaa.EmX
set_option linter.unusedVariables false
set_option linter.unusedSimpArgs false
open Go.RowKit Cm Mm Ow Me Rm Fld A64 A64W A64P A64D A64H Alu AluG Em EmM EmW Pat InW

theorem wide_n : ∀ k : Nat, k < 24 → (form k).n.2 ≤ 26 := by decide +kernel
theorem right_n {i : In} (h : right i = true) : -1000000000 ≤ i.n ∧ i.n ≤ 1000000000 := by
  obtain ⟨k, hk24, hkk, hf⟩ := right_kind h
  have hw := wide_n k hk24
  simp only [rightF, Bool.and_eq_true] at hf
  obtain ⟨⟨_, hn⟩, _⟩ := hf
  have hp : (2 : Int) ^ (form k).n.2 ≤ 2 ^ 26 := by
    have := Nat.pow_le_pow_right (show 0 < 2 by omega) hw
    have h2 : ((2 ^ (form k).n.2 : Nat) : Int) ≤ ((2 ^ 26 : Nat) : Int) := Int.ofNat_le.2 this
    simpa using h2
  have hp2 : (2 : Int) ^ ((form k).n.2 - 1) ≤ 2 ^ 26 := by
    have := Nat.pow_le_pow_right (show 0 < 2 by omega) (show (form k).n.2 - 1 ≤ 26 by omega)
    have h2 : ((2 ^ ((form k).n.2 - 1) : Nat) : Int) ≤ ((2 ^ 26 : Nat) : Int) := Int.ofNat_le.2 this
    simpa using h2
  unfold fitN at hn
  split at hn
  · unfold fitsS at hn
    split at hn
    · have := of_decide_eq_true hn
      omega
    · have := of_decide_eq_true hn
      omega
  · unfold fits at hn
    simp at hn
    omega
theorem step_by {r : Rg} {i : In} (h : right i = true) : -1000000000 ≤ (Alu.step r i).2.1 ∧ (Alu.step r i).2.1 ≤ 1000000000 := by
  have := right_n h
  unfold Alu.step
  repeat' split
  all_goals first | exact this | (simp only; omega)
theorem step_true {r : Rg} {i : In} (h : inAlu i = true) : (Alu.step r i).2.2 = true := by
  unfold Alu.step
  rw [if_neg (by simp [h])]
  repeat' split
  all_goals rfl
theorem step_false {r : Rg} {i : In} (h : inAlu i = false) : Alu.step r i = (r, 0, false) := by
  unfold Alu.step
  rw [if_pos h]

theorem exec_any {w : World} {q mq : Nat} {F : List Nat} {s s' : Cr} {ev : List Ev} {A : Option Addr} {m cap : Nat} {code : List In} (h : Co w q mq F s) (hc : IsCode w A m cap code) (hx : execX code s = some (s', ev)) (hvb : ∀ v0, s.ver = [v0] → -1000000 ≤ v0 ∧ v0 ≤ 1000000) :
    Calls Try.prog 33 #[.pointer (some ⟨q, 0, none⟩), .slice A m cap] w (Ans q mq F s w s' ev) := by
  unfold execX at hx
  split at hx
  case isFalse => cases hx
  rename_i hpre
  obtain ⟨hst, hp0, hp1⟩ := hpre
  have hcl := hc.2.1
  have hcm := hc.2.2.1
  obtain ⟨k, hpc⟩ := Int.eq_ofNat_of_zero_le hp0
  have hk : k < m := by omega
  rw [hpc, Int.toNat_natCast] at hx
  have hrt : right (code.getD k zeroIn) = true := by obtain ⟨b, o, _, _, _, hr⟩ := hc.at_ hk; exact hr
  have hpb : -1000000 ≤ s.pc ∧ s.pc ≤ 1000000 := by omega
  cases hi : code.getD k zeroIn with
  | mk kd d a b s0 c n =>
  rw [hi] at hx hrt
  unfold execI at hx
  split at hx
  · rename_i hin
    simp only [Option.some.injEq, Prod.mk.injEq] at hx
    obtain ⟨rfl, rfl⟩ := hx
    have hby := step_by (r := s.r) hrt
    have hok := step_ok h.ok ⟨kd, d, a, b, s0, c, n⟩
    have htr := step_true (r := s.r) hin
    cases hs : Alu.step s.r ⟨kd, d, a, b, s0, c, n⟩ with
    | mk r' z =>
    obtain ⟨yy, tt⟩ := z
    rw [hs] at hby hok htr
    simp only at hby hok htr
    subst htr
    have := exec_alu h hc k hk hpc hst kd d a b s0 c n hi r' yy hs hok hby
    rw [← hpc] at this
    exact this
  · rename_i hin
    have hs := step_false (r := s.r) (i := ⟨kd, d, a, b, s0, c, n⟩) (by simpa using hin)
    rw [if_neg (by rw [hrt]; simp)] at hx
    split at hx
    · rename_i hk22
      simp only at hk22
      subst hk22
      simp only [Option.some.injEq, Prod.mk.injEq] at hx
      obtain ⟨rfl, rfl⟩ := hx
      have := exec_hlt h hc k hk hpc hst d a b s0 c n hi hs h.ok
      rw [← hpc] at this
      exact this
    split at hx
    · rename_i hk23
      simp only at hk23
      subst hk23
      simp only [Option.some.injEq, Prod.mk.injEq] at hx
      obtain ⟨rfl, rfl⟩ := hx
      have := exec_svc h hc k hk hpc hst d a b s0 c n hi hs h.ok
      rw [← hpc] at this
      exact this
    unfold memX at hx
    simp only at hx
    split at hx
    · rename_i hk1
      subst hk1
      split at hx
      case isFalse => cases hx
      rename_i hcnd
      simp only [Bool.and_eq_true, decide_eq_true_eq] at hcnd
      obtain ⟨ha, hn0, hn1⟩ := hcnd
      obtain ⟨j, rfl⟩ := Int.eq_ofNat_of_zero_le hn0
      simp only [Option.some.injEq, Prod.mk.injEq, Int.toNat_natCast] at hx
      obtain ⟨rfl, rfl⟩ := hx
      exact exec_mem12 h hc k hk hpc hst d a b s0 c (j : Int) hi _ _ hs h.ok (fun w1 h1 => memory_12 h1 d a b s0 c j _ rfl ha (by omega) hpb)
    split at hx
    · rename_i hk1
      subst hk1
      split at hx
      case isFalse => cases hx
      rename_i hcnd
      simp only [Bool.and_eq_true, decide_eq_true_eq] at hcnd
      obtain ⟨ha, hn0, hn1⟩ := hcnd
      obtain ⟨j, rfl⟩ := Int.eq_ofNat_of_zero_le hn0
      simp only [Option.some.injEq, Prod.mk.injEq, Int.toNat_natCast] at hx
      obtain ⟨rfl, rfl⟩ := hx
      exact exec_mem13 h hc k hk hpc hst d a b s0 c (j : Int) hi _ _ hs h.ok (fun w1 h1 => memory_13 h1 d a b s0 c j ha (by omega) hpb)
    split at hx
    · rename_i hk1
      subst hk1
      split at hx
      case isFalse => cases hx
      rename_i hcnd
      simp only [Bool.and_eq_true, decide_eq_true_eq] at hcnd
      obtain ⟨ha, hn1⟩ := hcnd
      obtain ⟨x, hnow⟩ := List.length_eq_one_iff.1 hn1
      obtain ⟨v0, hver⟩ : ∃ v0, s.ver = [v0] := by
        obtain ⟨kp, hm⟩ := h.mem
        exact List.length_eq_one_iff.1 (hm.lens.2.2.1.trans hn1)
      have hv0 : s.ver.getD 0 0 = v0 := by rw [hver]; rfl
      have hn0 : s.now.getD 0 0 = x := by rw [hnow]; rfl
      rw [hv0, hn0] at hx
      simp only [Option.some.injEq, Prod.mk.injEq] at hx
      obtain ⟨rfl, rfl⟩ := hx
      have := exec_mem16 h hc k hk hpc hst d a b s0 c n hi _ _ hs h.ok (fun w1 h1 => memory_16 h1 d a b s0 c n x v0 ha hnow hver hpb)
      exact this
    split at hx
    · rename_i hk1
      subst hk1
      split at hx
      case isFalse => cases hx
      rename_i hcnd
      simp only [Bool.and_eq_true, decide_eq_true_eq] at hcnd
      obtain ⟨ha, hn1, hmk, hsn⟩ := hcnd
      obtain ⟨x, hnow⟩ := List.length_eq_one_iff.1 hn1
      obtain ⟨v0, hver⟩ : ∃ v0, s.ver = [v0] := by
        obtain ⟨kp, hm⟩ := h.mem
        exact List.length_eq_one_iff.1 (hm.lens.2.2.1.trans hn1)
      have hv0 : s.ver.getD 0 0 = v0 := by rw [hver]; rfl
      rw [hv0] at hx hsn
      simp only [Option.some.injEq, Prod.mk.injEq] at hx
      obtain ⟨rfl, rfl⟩ := hx
      exact exec_mem17 h hc k hk hpc hst d a b s0 c n hi _ _ hs h.ok (fun w1 h1 => memory_17 h1 d a b s0 c n x v0 ha hnow hver hmk hsn (hvb v0 hver) hpb)
    cases hx
end Go.Proofs.Ytkohichiojmakaa.EmX
