/-
  WALKS: what the laws of chapter 20 share: alive; a core that runs, and what was put out.
-/
import Derived.Test.YtkohichiojmakaaEmitRun
import Derived.Test.YtkohichiojmakaaEmitNew
import Derived.Test.YtkohichiojmakaaEmitCode
import Derived.Test.YtkohichiojmakaaGEm
import Derived.Test.YtkohichiojmakaaPatWords
import Derived.Test.YtkohichiojmakaaPatRef
namespace Go.Proofs.Ytkohichiojmakaa.EmL
set_option linter.unusedVariables false
set_option linter.unusedSimpArgs false
open Go.RowKit Cm Mm Ow Me Rm Fld A64 A64W Stp Alu AluG Em EmM EmW EmP EmR EmS EmT EmN EmC EmX Pat InW PatW

theorem u64_word {a : Int} (h : (Lit.int .u64 a).wf = true) : ∃ x : BitVec 64, a = (x.toNat : Int) := by
  have hb : 0 ≤ a ∧ a ≤ 18446744073709551615 := by simpa [Lit.wf, IntKind.min, IntKind.max, IntKind.signed, IntKind.bits] using h
  exact ⟨BitVec.ofInt 64 a, by rw [BitVec.toNat_ofInt]; omega⟩
/-! plain -/
theorem rdI_le (p : List Pl) (v k : Int) : (rdI p v k).length ≤ 1 := rdI_len p v k
theorem kpI_le (p : List Pl) (v : Int) : (kpI p v).length ≤ 1 := by unfold kpI; split <;> simp
theorem movk_le (d : Int) (v : BitVec 64) (k : Nat) : (movk d v k).length ≤ 1 := by unfold movk; split <;> simp
theorem constI_le (d : Int) (v : BitVec 64) : (constI d v).length ≤ 4 := by
  unfold constI
  have h1 := movk_le d v 1
  have h2 := movk_le d v 2
  have h3 := movk_le d v 3
  simp only [List.length_cons, List.length_append]
  omega
theorem opI_le (o d a b : Int) : (opI o d a b).length ≤ 2 := by
  unfold opI
  repeat' split
  all_goals simp
theorem emS_le (p : List Pl) (s : St) : (emS p s).length ≤ 12 := by
  have h1 := rdI_le p s.a 0
  have h2 := rdI_le p s.b 1
  have h3 := rdI_le p s.c 2
  have h4 := kpI_le p s.d
  have h5 := constI_le (tgR p s.d) (BitVec.ofInt 64 s.n)
  have h6 := opI_le s.op (tgR p s.d) (rdR p s.a 0) (rdR p s.b 1)
  unfold emS
  repeat' split
  all_goals simp only [List.length_append, List.length_cons, List.length_nil, casI, outI]
  all_goals omega
theorem emL_le (p : List Pl) : ∀ l : List St, (emL p l).length ≤ 12 * l.length
  | [] => by simp [emL]
  | s :: t => by
    have := emL_le p t
    have := emS_le p s
    have e : emL p (s :: t) = emS p s ++ emL p t := by simp [emL]
    rw [e, List.length_append, List.length_cons]
    omega
theorem emL_take_le (p : List Pl) (l : List St) (h : l.length ≤ 50) (k : Nat) : (emL p (l.take k)).length ≤ 2000 := by
  have := emL_le p (l.take k)
  have : (l.take k).length ≤ 50 := by rw [List.length_take]; omega
  omega
theorem few_of {p : List Pl} (h : ∀ x ∈ p, 0 ≤ x.n ∧ x.n ≤ 1000) : Few p := fun v => by
  unfold placeOf
  split
  · rename_i hv
    rw [List.getD, List.getElem?_eq_getElem (by omega)]
    exact h _ (List.getElem_mem _)
  · exact ⟨by simp [noPl], by simp [noPl]⟩
theorem Goes.fun {code : List In} {s s1 s2 : Cr} {k : Nat} {e1 e2 : List Ev} (h1 : Goes code s k s1 e1) (h2 : Goes code s k s2 e2) : s1 = s2 ∧ e1 = e2 := by
  unfold Goes at *
  rw [h1] at h2
  simpa using h2
theorem Goes.st0 {code : List In} {s s1 : Cr} {e : List Ev} (h : execX code s = some (s1, e)) : s.st = 0 := by
  unfold execX at h
  split at h
  · rename_i hh; exact hh.1
  · cases h
/-- what a core may do to the count -/
theorem ver_step {code : List In} {s sa : Cr} {ea : List Ev} (hx : execX code s = some (sa, ea)) : sa.ver = s.ver ∨ sa.ver = [s.ver.getD 0 0 + 1] := by
  unfold execX at hx
  split at hx
  case isFalse => cases hx
  unfold execI at hx
  split at hx
  · simp only [Option.some.injEq, Prod.mk.injEq] at hx; obtain ⟨rfl, -⟩ := hx; exact .inl rfl
  split at hx
  · cases hx
  split at hx
  · simp only [Option.some.injEq, Prod.mk.injEq] at hx; obtain ⟨rfl, -⟩ := hx; exact .inl rfl
  split at hx
  · simp only [Option.some.injEq, Prod.mk.injEq] at hx; obtain ⟨rfl, -⟩ := hx; exact .inl rfl
  unfold memX at hx
  repeat' split at hx
  all_goals first
    | (cases hx; done)
    | (simp only [Option.some.injEq, Prod.mk.injEq] at hx; obtain ⟨rfl, -⟩ := hx; exact .inl rfl)
    | (simp only [Option.some.injEq, Prod.mk.injEq] at hx; obtain ⟨rfl, -⟩ := hx; exact .inr rfl)
theorem ver_bound {code : List In} : ∀ {k : Nat} {s s' : Cr} {e : List Ev} {v : Int}, Goes code s k s' e → (0 ≤ s.ver.getD 0 0 ∧ s.ver.getD 0 0 ≤ v) → 0 ≤ s'.ver.getD 0 0 ∧ s'.ver.getD 0 0 ≤ v + k
  | 0, s, s', e, v, h, hv => by
    unfold Goes runX at h
    simp only [Option.some.injEq, Prod.mk.injEq] at h
    obtain ⟨rfl, rfl⟩ := h
    omega
  | k + 1, s, s', e, v, h, hv => by
    unfold Goes at h
    unfold runX at h
    cases hx : execX code s with
    | none => rw [hx] at h; cases h
    | some y =>
      obtain ⟨sa, ea⟩ := y
      rw [hx] at h
      simp only at h
      cases hy : runX code k sa with
      | none => rw [hy] at h; cases h
      | some z =>
        obtain ⟨sb, eb⟩ := z
        rw [hy] at h
        simp only [Option.some.injEq, Prod.mk.injEq] at h
        obtain ⟨rfl, rfl⟩ := h
        have h1 : 0 ≤ sa.ver.getD 0 0 ∧ sa.ver.getD 0 0 ≤ v + 1 := by
          rcases ver_step hx with e1 | e1
          · rw [e1]; omega
          · rw [e1]; simp only [List.getD_cons_zero]; omega
        have := ver_bound (k := k) hy h1
        omega
theorem ver_ok {code : List In} {k : Nat} {s s' : Cr} {e : List Ev} (h : Goes code s k s' e) (hk : k ≤ 1000) (h0 : 0 ≤ s.ver.getD 0 0 ∧ s.ver.getD 0 0 ≤ 1000) : ∀ v0, s'.ver = [v0] → -1000000 ≤ v0 ∧ v0 ≤ 1000000 := fun v0 e0 => by
  have := ver_bound h h0
  rw [e0] at this
  simp only [List.getD_cons_zero] at this
  omega

theorem ev_le1 {code : List In} {s sa : Cr} {ea : List Ev} (hx : execX code s = some (sa, ea)) : ea.length ≤ 1 := by
  unfold execX at hx
  split at hx
  case isFalse => cases hx
  unfold execI at hx
  split at hx
  · simp only [Option.some.injEq, Prod.mk.injEq] at hx; obtain ⟨-, rfl⟩ := hx; simp
  split at hx
  · cases hx
  split at hx
  · simp only [Option.some.injEq, Prod.mk.injEq] at hx; obtain ⟨-, rfl⟩ := hx; simp
  split at hx
  · simp only [Option.some.injEq, Prod.mk.injEq] at hx; obtain ⟨-, rfl⟩ := hx; simp
  unfold memX at hx
  repeat' split at hx
  all_goals first
    | (cases hx; done)
    | (simp only [Option.some.injEq, Prod.mk.injEq] at hx; obtain ⟨-, rfl⟩ := hx; simp)
theorem ev_le {code : List In} : ∀ {k : Nat} {s s' : Cr} {e : List Ev}, Goes code s k s' e → e.length ≤ k
  | 0, s, s', e, h => by
    unfold Goes runX at h
    simp only [Option.some.injEq, Prod.mk.injEq] at h
    obtain ⟨rfl, rfl⟩ := h
    simp
  | k + 1, s, s', e, h => by
    unfold Goes at h
    unfold runX at h
    cases hx : execX code s with
    | none => rw [hx] at h; cases h
    | some y =>
      obtain ⟨sa, ea⟩ := y
      rw [hx] at h
      simp only at h
      cases hy : runX code k sa with
      | none => rw [hy] at h; cases h
      | some z =>
        obtain ⟨sb, eb⟩ := z
        rw [hy] at h
        simp only [Option.some.injEq, Prod.mk.injEq] at h
        obtain ⟨rfl, rfl⟩ := h
        have h1 := ev_le1 hx
        have h2 := ev_le (k := k) hy
        rw [List.length_append]
        omega
/-! events that are put out -/
theorem elEv : El Try.prog 71 83 4 32 := by
  obtain ⟨i, h1, h2, h3, h4⟩ := info_parts (P := Try.prog) (e := 83) (z := .agg #[.int .i64 0, .int .i64 0, .int .i64 0, .int .u64 0]) (size := 4) (bytes := 32) (by kernel_rfl)
  exact ⟨Try.underlying71, ⟨i, _, h1, h2, h3, h4, rfl⟩, by decide⟩
theorem ev_one (s : Ev) : ∀ u ∈ evL s, u.oneCell' = true := fun u hu => by
  simp only [evL, List.mem_cons, List.mem_nil_iff, or_false] at hu
  rcases hu with rfl | rfl | rfl | rfl <;> rfl
theorem ev_range (l : List Ev) : (List.range l.length).map (fun i => evL (l.getD i zeroEv)) = l.map evL := by
  apply List.ext_getElem
  · simp
  · intro j h1 h2
    simp at h1 h2
    simp [List.getD, h2]
theorem grown_only {w w' : World} {A : Option Addr} (h : w.grownBy w' (A.map (·.block))) : Only (A.map (·.block)).toList w w' := Only.of_grown h (fun g hg => by rw [hg]; simp)

/-- a core that has run, beside what was put out (rows L of elements e) -/
structure Lr (wC : World) (base q mq : Nat) (F : List Nat) (s : Cr) (e : TypeId) (sz : Nat) (E : Option Addr) (n c : Nat) (L : List (List Value)) (wr : World) : Prop where
  co : Co wr q mq F s
  out : Own wr base e sz E n c L
  bl : Below wC.heap.size wC wr
  sz : base ≤ wr.heap.size
  lq : wC.heap.size ≤ q ∧ q < base
  lF : ∀ k ∈ F, wC.heap.size ≤ k ∧ k < base
section
variable {wC wr w' : World} {base q mq : Nat} {F : List Nat} {s : Cr} {e : TypeId} {sz : Nat} {E : Option Addr} {n c : Nat} {L : List (List Value)}
theorem Lr.exec (h : Lr wC base q mq F s e sz E n c L wr) {s' : Cr} (k : Cg wr q mq F s' w') : Lr wC base q mq F s' e sz E n c L w' :=
  ⟨k.co, own_only h.out k.on (fun g hg => by
    rcases List.mem_cons.1 hg with rfl | hg
    · exact h.lq.2
    · exact (h.lF g hg).2), h.bl.trans (k.on.below (fun x hx => by
    rcases List.mem_cons.1 hx with rfl | hx
    · exact h.lq.1
    · exact (h.lF x hx).1) h.bl.size), Nat.le_trans h.sz k.on.size, h.lq, h.lF⟩
theorem Lr.keep (h : Lr wC base q mq F s e sz E n c L wr) (hb : Below wr.heap.size wr w') : Lr wC base q mq F s e sz E n c L w' :=
  ⟨h.co.keep hb, h.out.keep hb, h.bl.trans (hb.mono h.bl.size), Nat.le_trans h.sz hb.size, h.lq, h.lF⟩
theorem Lr.app (h : Lr wC base q mq F s e sz E n c L wr) {E2 : Option Addr} {n2 c2 : Nat} {L2 : List (List Value)} (ho : Own w' base e sz E2 n2 c2 L2) (hg : wr.grownBy w' (E.map (·.block))) : Lr wC base q mq F s e sz E2 n2 c2 L2 w' := by
  have hO := grown_only hg
  have hE : ∀ g ∈ (E.map (·.block)).toList, base ≤ g := fun g hg => (h.out.lt g (by simpa using hg)).1
  refine ⟨h.co.only hO (fun hq => by have := hE q hq; have := h.lq.2; omega) (fun k hk hx => by have := hE k hx; have := (h.lF k hk).2; omega), ho, h.bl.trans (hO.below (fun x hx => by have := hE x hx; have := h.lq; omega) h.bl.size), Nat.le_trans h.sz hO.size, h.lq, h.lF⟩
end

/-! emit.Code of a code and places that lie anywhere -/
theorem code_run (W : World) (SA PA : Option Addr) (n k : Nat) (l : List St) (p : List Pl) (hS : IsSt W SA n n l) (hP : IsPl W PA k k p) (hl : n ≤ 50) (hk : k ≤ 60) (hf : ∀ x ∈ p, 0 ≤ x.n ∧ x.n ≤ 1000) (hok : ∀ s ∈ l, StepOk2 s) (m : Nat) (hm : mostN l n = (m : Int)) :
    Calls Try.prog 31 #[.agg #[.int .i64 0, .int .i64 0, .slice SA n n], .slice PA k k] W (GaveC W p l m) := by
  have hn := hS.1
  refine code_any W SA n n 0 0 l PA k k p hS hP (by omega) (few_of hf) hl (fun j hj => ?_) (fun j hj => emL_take_le p l (by omega) j) m hm
  rw [List.getD, List.getElem?_eq_getElem (by omega)]
  exact hok _ (List.getElem_mem _)
theorem size_al (w : World) (o : Obj) : (w.alloc o).heap.size = w.heap.size + 1 := by simp
theorem ok_const (d : Int) (v : BitVec 64) : StepOk2 (stC d v.toNat) := StepOk.two (step_0 d 0 0 0 0 0 _ 0 v rfl)
theorem ok_out (a : Int) : StepOk2 (stO a) := StepOk.two (step_8 0 a 0 0 0 0 0 0)
theorem ok_op (d a b o : Int) (ho : o = 43 ∨ o = 45 ∨ o = 42 ∨ o = 38 ∨ o = 61 ∨ o = 60) : StepOk2 (stP d a b o) := by
  by_cases h : o = 61 ∨ o = 60
  · exact StepOk.two (step_2c d a b 0 0 0 0 o h)
  · exact StepOk.two (step_2t d a b 0 0 0 0 o (by omega))
theorem ok_cas (d a b c : Int) : StepOk2 (stK d a b c) := StepOk.two (step_5 d a b c 0 0 0 0)
theorem ok_label (tj : Int) : StepOk2 (stLb tj) := step_9 0 0 0 0 tj 0 0 0
theorem ok_zero (a tj : Int) : StepOk2 (stZr a tj) := StepOk.two (step_11 0 a 0 0 tj 0 0 0)
theorem ok_jump (tj : Int) : StepOk2 (stJm tj) := StepOk.two (step_10 0 0 0 0 tj 0 0 0)
theorem ok_end : StepOk2 stEn := StepOk.two (step_12 0 0 0 0 0 0 0 0)

/-! alive -/
set_option maxRecDepth 20000 in
set_option maxHeartbeats 3200000 in
theorem alive_any (w : World) : Calls Try.prog 30 #[] w fun e w' => e = .returned (.bool true) ∧ Below w.heap.size w w' := by
  have A1 := Lib.hid (fun w => code_any w none 0 0 0 0 [] none 0 0 [] ⟨rfl, Sl.nil _ _ _⟩ ⟨rfl, Sl.nil _ _ _⟩ (by omega) (few_of (fun x hx => by cases hx)) (by omega) (fun k hk => absurd hk (by omega)) (fun k _ => emL_take_le _ _ (by decide) k) 0 rfl)
  go_enter Try.func30, Try.ntmps30
  go_wp2_with fail
  refine (A1.out _).mono ?_
  rintro e w1 ⟨A, n, c, LB, rfl, hin, hlb, hb1⟩
  obtain rfl : n = 1 := by have := hin.1; simpa [emC, emL] using this.symm
  have H1 := Lib.hid hin
  have B1 := Lib.hid hb1
  clear A1 hin hlb hb1
  go_wp2_with fail
  have hS := (isSt_lit w1 [stC 0 5] (by decide)).keep (EmW.below_al _ (.cells (([⟨false, 2⟩] : List Pl).map plL).flatten.toArray 67))
  have hP := isPl_lit (w1.alloc (.cells (([stC 0 5] : List St).map stL).flatten.toArray 62)) [⟨false, 2⟩] (by decide)
  rw [size_al] at hP
  refine (code_run _ _ _ 1 1 [stC 0 5] [⟨false, 2⟩] hS hP (by omega) (by omega) (by decide) (fun s hs => by simp at hs; subst hs; exact ok_const 0 5#64) 0 rfl).mono ?_
  rintro e w2 ⟨A2, n2, c2, LB2, rfl, hin2, hlb2, hb2⟩
  have hem : emC [⟨false, 2⟩] [stC 0 5] = [⟨0, 3, 0, 0, 0, 0, 5⟩, hltI] := by decide
  rw [hem] at hin2
  obtain rfl : n2 = 2 := hin2.1.symm
  obtain ⟨b2, o2, rfl, hbb2, x0, x1, x2, x3, x4, x5, x6⟩ := hin2.cell (k := 0) (by omega)
  have b12 := ((EmW.below_al w1 _).trans ((EmW.below_al _ _).mono (by simp))).trans (hb2.mono (by simp; omega))
  have B2 := Lib.hid (B1.out.trans (b12.mono B1.out.size))
  have hem1 : emC [] [] = [hltI] := by decide
  rw [hem1] at H1
  obtain ⟨b1, o1, rfl, hbb1, y0, y1, y2, y3, y4, y5, y6⟩ := (H1.out.keep b12).cell (k := 0) (by omega)
  clear b12 H1 hin2 hlb2 hb2 hS hP hem hem1
  simp only [Nat.zero_mul, Nat.add_zero, List.getD_cons_zero, hltI] at x0 x1 x2 x3 x4 x5 x6 y0
  go_wp2_with fail
  go_ret
  exact ⟨rfl, B2.out⟩
end Go.Proofs.Ytkohichiojmakaa.EmL
