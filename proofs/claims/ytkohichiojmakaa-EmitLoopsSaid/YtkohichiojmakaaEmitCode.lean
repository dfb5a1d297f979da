/-
  WALKS: package emit: Code.
-/
import Derived.Test.YtkohichiojmakaaEmitStep2
import Derived.Test.YtkohichiojmakaaEmitNone
import Derived.RegionTactic
namespace Go.Proofs.Ytkohichiojmakaa.EmC
set_option linter.unusedVariables false
set_option linter.unusedSimpArgs false
open Go.RowKit Cm Mm Ow A64 A64W Stp Alu Em InW EmW EmP EmR EmS EmT EmN

theorem emL_take (p : List Pl) (l : List St) {k : Nat} (hk : k < l.length) : emL p (l.take (k + 1)) = emL p (l.take k) ++ emS p (l.getD k zeroSt) := by
  unfold emL
  rw [List.take_add_one, List.map_append, List.flatten_append]
  simp [List.getD, hk]
/-- what emit.Code gave -/
def GaveC (w : World) (p : List Pl) (l : List St) (m : Nat) (e : Ending) (w' : World) : Prop :=
  ∃ A n c LB, e = .returned (.tuple #[.slice A n c, .slice LB m m]) ∧ IsIn w' A n c (emC p l) ∧ IsI w' LB m m (lbL p (List.replicate m (-1)) l l.length) ∧ Below w.heap.size w w'
theorem lbS_len (lb : List Int) (s : St) (n : Nat) : (lbS lb s n).length = lb.length := by
  unfold lbS; split <;> simp
theorem lbL_len (p : List Pl) (lb : List Int) (l : List St) : ∀ k, (lbL p lb l k).length = lb.length
  | 0 => rfl
  | k + 1 => by unfold lbL; rw [lbS_len, lbL_len p lb l k]
theorem lb_isI {w : World} {B q : Nat} {LB : Option Addr} {m : Nat} {lb : List Int} (h : Lb w B q LB m lb) : IsI w LB m m lb := by
  obtain ⟨h1, h2, h3⟩ := h
  refine ⟨h1, Nat.le_refl _, by unfold maxLen; omega, fun hn => ?_⟩
  rcases h3 with ⟨rfl, e⟩ | ⟨g, rfl, k1, k2, k3⟩
  · omega
  · refine ⟨g, 0, rfl, (Array.getElem?_eq_some_iff.1 k3).1, fun i hi j hj => ?_⟩
    obtain rfl : j = 0 := by omega
    simp only [World.cell?, k3]
    have : i < lb.length := by omega
    simp [lbA, List.getD, this]
theorem Mk.new (w : World) (PA : Option Addr) (pn pc : Nat) (LB : Option Addr) (ln : Nat) (T : TypeId) : Mk (w.alloc (.cells #[.slice PA pn pc, .slice none 0 0, .slice LB ln ln] T)) w.heap.size PA pn pc none 0 0 LB ln := by
  have h := heap_alloc_new w (.cells #[.slice PA pn pc, .slice none 0 0, .slice LB ln ln] T)
  exact ⟨by simp only [World.cell?, h]; simp, by simp only [World.cell?, h]; simp, by simp only [World.cell?, h]; simp, fun o => by simp only [World.frozen?, h]; simp⟩
set_option maxHeartbeats 3200000 in
theorem code_any (w : World) (SA : Option Addr) (sn sc : Nat) (v0 v1 : Int) (l : List St) (PA : Option Addr) (pn pc : Nat) (p : List Pl) (hS : IsSt w SA sn sc l) (hP : IsPl w PA pn pc p) (hpn : pn ≤ 65536) (hf : Few p) (hn : sn ≤ 50)
    (hok : ∀ k, k < sn → StepOk2 (l.getD k zeroSt)) (hlen : ∀ k, k ≤ sn → (emL p (l.take k)).length ≤ 2000) (m : Nat) (hm : mostN l sn = (m : Int)) :
    Calls Try.prog 31 #[.agg #[.int .i64 v0, .int .i64 v1, .slice SA sn sc], .slice PA pn pc] w (GaveC w p l m) := by
  have HN := Lib.hid (fun w' h => none_any SA sn sc v0 v1 l w' h (by omega) m hm)
  have HS := Lib.hid hS
  have HP := Lib.hid hP
  have HF := Lib.hid hf
  have HOK := Lib.hid hok
  have HLN := Lib.hid hlen
  have hm4 : m ≤ 401 := by have := mostN_le l sn; omega
  have hll := hS.1
  clear hS hP hok hlen hm hf
  go_enter Try.func31, Try.ntmps31
  obtain ⟨W, hW⟩ : ∃ W, w.alloc (.cells #[.int .i64 v0, .int .i64 v1, .slice SA sn sc] 65) = W := ⟨_, rfl⟩
  have BW := Lib.hid (show Below w.heap.size w W by rw [← hW]; exact below_al w _)
  have hbx := heap_alloc_new w (.cells #[.int .i64 v0, .int .i64 v1, .slice SA sn sc] 65)
  rw [hW] at hbx
  have x0 : W.cell? ⟨w.heap.size, 0, none⟩ = some (.int .i64 v0) := by simp only [World.cell?, hbx]; simp
  have x1 : W.cell? ⟨w.heap.size, 1, none⟩ = some (.int .i64 v1) := by simp only [World.cell?, hbx]; simp
  have x2 : W.cell? ⟨w.heap.size, 2, none⟩ = some (.slice SA sn sc) := by simp only [World.cell?, hbx]; simp
  have hwl : w.heap.size < W.heap.size := by rw [← hW]; simp
  go_wp2_with fail
  try rw [hW]
  clear hW hbx
  refine (HN.out W (HS.out.keep BW.out)).mono ?_
  rintro e w2 ⟨g, rfl, hg1, hg2, hg3, hb2⟩
  have B2 := Lib.hid hb2
  have G2 := Lib.hid hg3
  have y2 := (hb2.cell (p := ⟨w.heap.size, 2, none⟩) hwl).trans x2
  have hql : w.heap.size < w2.heap.size := Nat.lt_of_lt_of_le hwl hb2.size
  clear hg3 hb2 x0 x1 x2 HN
  have MK := Lib.hid (Mk.new w2 PA pn pc (some ⟨g, 0, none⟩) m 119)
  obtain ⟨W3, hW3⟩ : ∃ W3, w2.alloc (.cells #[.slice PA pn pc, .slice none 0 0, .slice (some ⟨g, 0, none⟩) m m] 119) = W3 := ⟨_, rfl⟩
  have B3 := Lib.hid (show Below w2.heap.size w2 W3 by rw [← hW3]; exact below_al w2 _)
  have BX : Hid (Below w.heap.size w W3) := Lib.hid ((BW.out.trans (B2.out.mono BW.out.size)).trans (B3.out.mono (by omega)))
  rw [hW3] at MK
  have HM0 : Hid (Ms w W3 w2.heap.size w2.heap.size PA pn pc p (emL p (l.take 0)) (lbL p (List.replicate m (-1)) l 0)) := Lib.hid ⟨none, 0, 0, some ⟨g, 0, none⟩, m, MK.out, HP.out, hpn, (by simp [emL]; exact Own.nil _ _ _ _), (fun g' h => by cases h), ⟨by simp [lbL], by omega, .inr ⟨g, rfl, by have := BW.out.size; omega, hg2, (B3.out.block g hg2).trans G2.out⟩⟩, BX.out, by omega, by have := MK.out.lt; omega⟩
  have y3 := (B3.out.cell (p := ⟨w.heap.size, 2, none⟩) hql).trans y2
  go_wp2_with fail
  try rw [hW3]
  clear hW3 y2
  go_loopw [17] (fun i wr => ∃ (k X' : Nat), k ≤ sn ∧ i = .int .i64 k ∧ Ms w wr w2.heap.size X' PA pn pc p (emL p (l.take k)) (lbL p (List.replicate m (-1)) l k)) (fun i _ => sn - (intOf i).toNat)
  case atStart => exact ⟨0, _, by omega, rfl, HM0.out⟩
  case round =>
    obtain ⟨k, X', hk, rfl, hM⟩ := hrel
    have MM := Lib.hid hM
    have hqr := hM.lt
    clear hM HM0 MK
    by_cases hkn : k < sn
    · have d0 : decide ((k : Int) < (sn : Int)) = true := decide_eq_true (by omega)
      have hki : (k : Int) < (sn : Int) := by omega
      obtain ⟨b, o, rfl, hbl, s0, s1, s2, s3, s4, s5, s6, s7, s8⟩ := (HS.out.keep MM.out.below).cell hkn
      have HT := Lib.hid (emL_take p l (k := k) (by omega))
      have HK := Lib.hid (HOK.out k hkn)
      have HLB : Hid (lbL p (List.replicate m (-1)) l (k + 1) = lbS (lbL p (List.replicate m (-1)) l k) (l.getD k zeroSt) (emL p (l.take k)).length) := Lib.hid rfl
      generalize l.getD k zeroSt = s at *
      obtain ⟨kd, sd, sa, sb, sc', st, sce, sn', so⟩ := s
      dsimp only at s0 s1 s2 s3 s4 s5 s6 s7 s8
      have hl2 := HLN.out k (by omega)
      have b2 := Lib.hid (below_al wr (.cells #[.int .i64 kd, .int .i64 sd, .int .i64 sa, .int .i64 sb, .int .i64 sc', .int .i64 st, .int .i64 sce, .int .u64 sn', .int .u8 so] 62))
      go_wp2_with fail
      refine (HK.out.go (MM.out.keep b2.out) HF.out hl2).mono ?_
      rintro e w5 ⟨rfl, X5, hM5⟩
      have M5 := Lib.hid hM5
      clear hM5
      go_wp2_with fail
      go_roundw
      case rel => exact ⟨k + 1, X5, by omega, by go_num, by rw [HT.out, HLB.out]; exact M5.out⟩
      case measure => simp [intOf]; omega
    · obtain rfl : k = sn := by omega
      have hl2 := HLN.out k (by omega)
      have HT : Hid (l.take k = l) := Lib.hid (List.take_of_length_le (by omega))
      go_wp2_with fail
      refine (put_any MM.out 22 0 0 0 0 0 0 (by omega)).mono ?_
      rintro e w5 ⟨rfl, X5, hM5, hF5⟩
      have HB5 := Lib.hid hM5.below
      obtain ⟨A, n, c, LB, ln, hK5, hP5, hpn5, hO5, hX5, hL5, -⟩ := hM5
      have z1 := hK5.c1
      have z2 := hK5.c2
      have hlm : ln = m := by have := hL5.1; rw [lbL_len] at this; simpa using this.symm
      subst hlm
      have HIN := Lib.hid (isIn_own hO5)
      have HLI := Lib.hid (lb_isI hL5)
      clear hK5 hP5 hO5 hX5 hL5 hF5 MM HS HP HOK HLN
      rw [HT.out] at HIN
      go_wp2_with fail
      refine Hd.start 9 (fun w' => w'.cell? ⟨w2.heap.size, 1, none⟩ = some (.slice A n c) ∧ w'.cell? ⟨w2.heap.size, 2, none⟩ = some (.slice LB ln ln)) (by kernel_rfl) ?_
      have SA : w5.drew.cell? ⟨w2.heap.size, 1, none⟩ = some (.slice A n c) ∧ w5.drew.cell? ⟨w2.heap.size, 2, none⟩ = some (.slice LB ln ln) := ⟨z1, z2⟩
      refine Hd.take (i := 0) (v := ?v0) rfl (by decide +kernel) (by decide +kernel) (fun _ _ _ h => h) rfl ?hy0 SA ?rest0
      case hy0 =>
        intro wq hSw
        obtain ⟨s1, s2⟩ := hSw
        go_simp
        try with_reducible rfl
      try simp only [Act.put, List.setIfInBounds_toArray, List.set_cons_zero, List.set_cons_succ]
      refine Hd.take (i := 1) (v := ?v1) rfl (by decide +kernel) (by decide +kernel) (fun _ _ _ h => h) rfl ?hy1 SA ?rest1
      case hy1 =>
        intro wq hSw
        obtain ⟨s1, s2⟩ := hSw
        go_simp
        try with_reducible rfl
      try simp only [Act.put, List.setIfInBounds_toArray, List.set_cons_zero, List.set_cons_succ]
      refine Hd.take (i := 2) (v := ?v2) rfl (by decide +kernel) (by decide +kernel) (fun _ _ _ h => h) rfl ?hy2 SA ?rest2
      case hy2 =>
        intro wq hSw
        obtain ⟨s1, s2⟩ := hSw
        go_simp
        try with_reducible rfl
      try simp only [Act.put, List.setIfInBounds_toArray, List.set_cons_zero, List.set_cons_succ]
      refine Hd.take (i := 3) (v := ?v3) rfl (by decide +kernel) (by decide +kernel) (fun _ _ _ h => h) rfl ?hy3 SA ?rest3
      case hy3 =>
        intro wq hSw
        obtain ⟨s1, s2⟩ := hSw
        go_simp
        try with_reducible rfl
      try simp only [Act.put, List.setIfInBounds_toArray, List.set_cons_zero, List.set_cons_succ]
      refine Hd.take (i := 4) (v := ?v4) rfl (by decide +kernel) (by decide +kernel) (fun _ _ _ h => h) rfl ?hy4 SA ?rest4
      case hy4 =>
        intro wq hSw
        obtain ⟨s1, s2⟩ := hSw
        go_simp
        try with_reducible rfl
      try simp only [Act.put, List.setIfInBounds_toArray, List.set_cons_zero, List.set_cons_succ]
      refine Hd.take (i := 5) (v := ?v5) rfl (by decide +kernel) (by decide +kernel) (fun _ _ _ h => h) rfl ?hy5 SA ?rest5
      case hy5 =>
        intro wq hSw
        obtain ⟨s1, s2⟩ := hSw
        go_simp
        try with_reducible rfl
      try simp only [Act.put, List.setIfInBounds_toArray, List.set_cons_zero, List.set_cons_succ]
      refine Hd.take (i := 6) (v := ?v6) rfl (by decide +kernel) (by decide +kernel) (fun _ _ _ h => h) rfl ?hy6 SA ?rest6
      case hy6 =>
        intro wq hSw
        obtain ⟨s1, s2⟩ := hSw
        go_simp
        try with_reducible rfl
      try simp only [Act.put, List.setIfInBounds_toArray, List.set_cons_zero, List.set_cons_succ]
      refine Hd.take (i := 7) (v := ?v7) rfl (by decide +kernel) (by decide +kernel) (fun _ _ _ h => h) rfl ?hy7 SA ?rest7
      case hy7 =>
        intro wq hSw
        obtain ⟨s1, s2⟩ := hSw
        go_simp
        try with_reducible rfl
      try simp only [Act.put, List.setIfInBounds_toArray, List.set_cons_zero, List.set_cons_succ]
      refine Hd.take (i := 8) (v := ?v8) rfl (by decide +kernel) (by decide +kernel) (fun _ _ _ h => h) rfl ?hy8 SA ?rest8
      case hy8 =>
        intro wq hSw
        obtain ⟨s1, s2⟩ := hSw
        go_simp
        try with_reducible rfl
      try simp only [Act.put, List.setIfInBounds_toArray, List.set_cons_zero, List.set_cons_succ]
      refine Hd.one (i := 9) rfl (by kernel_rfl) rfl (fun K hK => ?_)
      go_simp
      refine hK _ _ (fun h => absurd h (by omega)) ?_
      clear hK K
      try simp only [Act.put, List.setIfInBounds_toArray, List.set_cons_zero, List.set_cons_succ]
      refine Hd.done (by kernel_rfl) ?_ _
      go_wp2_with fail
      go_ret2
      have hkl : k = l.length := hll.symm
      refine ⟨A, n, c, LB, rfl, ?_, ?_, ?_⟩
      · exact HIN.out.keep ((Below.refl _ _).drew)
      · rw [← hkl]; exact HLI.out.keep ((Below.refl _ _).drew)
      · exact HB5.out.drew
end Go.Proofs.Ytkohichiojmakaa.EmC
