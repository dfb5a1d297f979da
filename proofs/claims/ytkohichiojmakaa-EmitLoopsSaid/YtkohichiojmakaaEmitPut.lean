/-
  WALKS: package emit: place and put.
-/
import Derived.Test.YtkohichiojmakaaEmitRows
import Derived.Test.YtkohichiojmakaaGHeld
namespace Go.Proofs.Ytkohichiojmakaa.EmP
set_option linter.unusedVariables false
set_option linter.unusedSimpArgs false
open Go.RowKit Cm Mm Ow A64 A64W Stp Em InW EmW

section
variable {w0 w : World} {q X : Nat} {PA : Option Addr} {pn pc : Nat} {p : List Pl} {L : List In} {lb : List Int}
set_option maxHeartbeats 1600000 in
theorem place_any (h : Ms w0 w q X PA pn pc p L lb) (v : Int) :
    Calls Try.prog 104 #[.pointer (some ⟨q, 0, none⟩), .int .i64 v] w fun e w' => e = .returned (.agg #[.bool (placeOf p v).slot, .int .i64 (placeOf p v).n]) ∧ Below w.heap.size w w' := by
  obtain ⟨A, m, cp, LB, ln, hK, hP, hpn, hO, hX, hLb, hB, hq, hXw⟩ := h
  have hpl := hP.1
  have z0 := hK.c0
  have hlt := hK.lt
  have hPw := hP.keep hB
  by_cases h1 : v < 0
  · have d0 : decide (v < 0) = true := decide_eq_true h1
    rw [placeOf_out (Or.inl h1)]
    clear hP hO hX hLb hB hPw
    go_enter Try.func104, Try.ntmps104
    go_wp2_with fail
    refine bodyPost_ret (v := (.agg #[.bool noPl.slot, .int .i64 noPl.n])) (by simp [results, Try.results104, go_sem, noPl]) rfl ?_
    exact ⟨rfl, by go_grown⟩
  by_cases h2 : (pn : Int) ≤ v
  · have d0 : decide (v < 0) = false := decide_eq_false h1
    have d1 : decide ((pn : Int) ≤ v) = true := decide_eq_true h2
    rw [placeOf_out (Or.inr (by rw [hpl]; exact h2))]
    clear hP hO hX hLb hB hPw
    go_enter Try.func104, Try.ntmps104
    go_wp2_with fail
    refine bodyPost_ret (v := (.agg #[.bool noPl.slot, .int .i64 noPl.n])) (by simp [results, Try.results104, go_sem, noPl]) rfl ?_
    exact ⟨rfl, by go_grown⟩
  · obtain ⟨k, rfl⟩ := Int.eq_ofNat_of_zero_le (show 0 ≤ v by omega)
    have hk : k < pn := by omega
    have d0 : decide ((k : Int) < 0) = false := decide_eq_false h1
    have d1 : decide ((pn : Int) ≤ (k : Int)) = false := decide_eq_false h2
    rw [placeOf_in rfl (by rw [hpl]; exact hk)]
    obtain ⟨b, o, rfl, hb, x0, x1⟩ := hPw.cell hk
    generalize p.getD k noPl = pl at *
    clear hP hO hX hLb hB hPw h1 h2
    go_enter Try.func104, Try.ntmps104
    go_wp2_with fail
    refine bodyPost_ret (v := (.agg #[.bool pl.slot, .int .i64 pl.n])) (by simp [results, Try.results104, go_sem, noPl]) rfl ?_
    exact ⟨rfl, by go_grown⟩

set_option maxHeartbeats 1600000 in
theorem put_any (h : Ms w0 w q X PA pn pc p L lb) (kd d a b s c n : Int) (hL : L.length ≤ 4000) :
    Calls Try.prog 56 #[.pointer (some ⟨q, 0, none⟩), .agg #[.int .i64 kd, .int .i64 d, .int .i64 a, .int .i64 b, .int .i64 s, .int .i64 c, .int .i64 n]] w fun e w' => e = .returned (.tuple #[]) ∧ ∃ X', Ms w0 w' q X' PA pn pc p (L ++ [⟨kd, d, a, b, s, c, n⟩]) lb ∧ Far w w' q X X' := by
  obtain ⟨A, m, cp, LB, ln, hK, hP, hpn, hO, hX, hLb, hB, hq, hXw⟩ := h
  have hm : m = L.length := by have := hO.len; simpa using this.symm
  have hm4 : m ≤ 4000 := by omega
  have K1 := Lib.hid (hK.keep (below_al w (.cells #[.int .i64 kd, .int .i64 d, .int .i64 a, .int .i64 b, .int .i64 s, .int .i64 c, .int .i64 n] 45)))
  have y1 := K1.out.c1
  have y3 := K1.out.fr
  have hlt := hK.lt
  have HO := Lib.hid hO
  have HX := Lib.hid hX
  have HL := Lib.hid hLb
  have HP := Lib.hid hP
  have HB := Lib.hid hB
  have HR := Lib.hid hO.lt
  clear hO hX hLb hP hB hK hm
  go_enter Try.func56, Try.ntmps56
  have hbx := heap_alloc_new w (.cells #[.int .i64 kd, .int .i64 d, .int .i64 a, .int .i64 b, .int .i64 s, .int .i64 c, .int .i64 n] 45)
  obtain ⟨W, hW⟩ : ∃ W, w.alloc (.cells #[.int .i64 kd, .int .i64 d, .int .i64 a, .int .i64 b, .int .i64 s, .int .i64 c, .int .i64 n] 45) = W := ⟨_, rfl⟩
  have hWs : W.heap.size = w.heap.size + 1 := by rw [← hW]; simp
  have BW := Lib.hid (show Below w.heap.size w W by rw [← hW]; exact below_al w _)
  rw [hW] at K1 y1 y3 hbx
  go_wp2_with fail
  try rw [hW]
  clear hW
  have bx : ∀ (k : Nat) (v : Value), (#[.int .i64 kd, .int .i64 d, .int .i64 a, .int .i64 b, .int .i64 s, .int .i64 c, .int .i64 n] : Array Value)[k]? = some v → W.cell? ⟨w.heap.size, k, none⟩ = some v := fun k v hv => by simp only [World.cell?, hbx]; simpa using hv
  have SW : Hid (Below W.heap.size W W.drew) := Lib.hid ((Below.refl _ _).drew)
  have hwl : w.heap.size < W.heap.size := by omega
  refine Hd.start 8 (fun w' => w'.cell? ⟨q, 1, none⟩ = some (.slice A m cp) ∧ w'.cell? ⟨w.heap.size, 0, none⟩ = some (.int .i64 kd) ∧ w'.cell? ⟨w.heap.size, 1, none⟩ = some (.int .i64 d) ∧ w'.cell? ⟨w.heap.size, 2, none⟩ = some (.int .i64 a) ∧ w'.cell? ⟨w.heap.size, 3, none⟩ = some (.int .i64 b) ∧ w'.cell? ⟨w.heap.size, 4, none⟩ = some (.int .i64 s) ∧ w'.cell? ⟨w.heap.size, 5, none⟩ = some (.int .i64 c) ∧ w'.cell? ⟨w.heap.size, 6, none⟩ = some (.int .i64 n)) (by kernel_rfl) ?_
  have SA : W.drew.cell? ⟨q, 1, none⟩ = some (.slice A m cp) ∧ W.drew.cell? ⟨w.heap.size, 0, none⟩ = some (.int .i64 kd) ∧ W.drew.cell? ⟨w.heap.size, 1, none⟩ = some (.int .i64 d) ∧ W.drew.cell? ⟨w.heap.size, 2, none⟩ = some (.int .i64 a) ∧ W.drew.cell? ⟨w.heap.size, 3, none⟩ = some (.int .i64 b) ∧ W.drew.cell? ⟨w.heap.size, 4, none⟩ = some (.int .i64 s) ∧ W.drew.cell? ⟨w.heap.size, 5, none⟩ = some (.int .i64 c) ∧ W.drew.cell? ⟨w.heap.size, 6, none⟩ = some (.int .i64 n) := ⟨y1, bx 0 _ rfl, bx 1 _ rfl, bx 2 _ rfl, bx 3 _ rfl, bx 4 _ rfl, bx 5 _ rfl, bx 6 _ rfl⟩
  refine Hd.take (i := 0) (v := ?v0) rfl (by decide +kernel) (by decide +kernel) (fun _ _ _ h => h) rfl ?hy0 SA ?rest0
  case hy0 =>
    intro wq hSw
    obtain ⟨s1, s2, s3, s4, s5, s6, s7, s8⟩ := hSw
    go_simp
    try with_reducible rfl
  try simp only [Act.put, List.setIfInBounds_toArray, List.set_cons_zero, List.set_cons_succ]
  refine Hd.take (i := 1) (v := ?v1) rfl (by decide +kernel) (by decide +kernel) (fun _ _ _ h => h) rfl ?hy1 SA ?rest1
  case hy1 =>
    intro wq hSw
    obtain ⟨s1, s2, s3, s4, s5, s6, s7, s8⟩ := hSw
    go_simp
    try with_reducible rfl
  try simp only [Act.put, List.setIfInBounds_toArray, List.set_cons_zero, List.set_cons_succ]
  refine Hd.take (i := 2) (v := ?v2) rfl (by decide +kernel) (by decide +kernel) (fun _ _ _ h => h) rfl ?hy2 SA ?rest2
  case hy2 =>
    intro wq hSw
    obtain ⟨s1, s2, s3, s4, s5, s6, s7, s8⟩ := hSw
    go_simp
    try with_reducible rfl
  try simp only [Act.put, List.setIfInBounds_toArray, List.set_cons_zero, List.set_cons_succ]
  refine Hd.take (i := 3) (v := ?v3) rfl (by decide +kernel) (by decide +kernel) (fun _ _ _ h => h) rfl ?hy3 SA ?rest3
  case hy3 =>
    intro wq hSw
    obtain ⟨s1, s2, s3, s4, s5, s6, s7, s8⟩ := hSw
    go_simp
    try with_reducible rfl
  try simp only [Act.put, List.setIfInBounds_toArray, List.set_cons_zero, List.set_cons_succ]
  refine Hd.take (i := 4) (v := ?v4) rfl (by decide +kernel) (by decide +kernel) (fun _ _ _ h => h) rfl ?hy4 SA ?rest4
  case hy4 =>
    intro wq hSw
    obtain ⟨s1, s2, s3, s4, s5, s6, s7, s8⟩ := hSw
    go_simp
    try with_reducible rfl
  try simp only [Act.put, List.setIfInBounds_toArray, List.set_cons_zero, List.set_cons_succ]
  refine Hd.take (i := 5) (v := ?v5) rfl (by decide +kernel) (by decide +kernel) (fun _ _ _ h => h) rfl ?hy5 SA ?rest5
  case hy5 =>
    intro wq hSw
    obtain ⟨s1, s2, s3, s4, s5, s6, s7, s8⟩ := hSw
    go_simp
    try with_reducible rfl
  try simp only [Act.put, List.setIfInBounds_toArray, List.set_cons_zero, List.set_cons_succ]
  refine Hd.one (i := 6) rfl (by kernel_rfl) rfl (fun K hK => ?_)
  go_simp
  have SB : (W.drew.alloc (.cells #[.int .i64 kd, .int .i64 d, .int .i64 a, .int .i64 b, .int .i64 s, .int .i64 c, .int .i64 n] 45)).cell? ⟨q, 1, none⟩ = some (.slice A m cp) ∧ (W.drew.alloc (.cells #[.int .i64 kd, .int .i64 d, .int .i64 a, .int .i64 b, .int .i64 s, .int .i64 c, .int .i64 n] 45)).cell? ⟨w.heap.size, 0, none⟩ = some (.int .i64 kd) ∧ (W.drew.alloc (.cells #[.int .i64 kd, .int .i64 d, .int .i64 a, .int .i64 b, .int .i64 s, .int .i64 c, .int .i64 n] 45)).cell? ⟨w.heap.size, 1, none⟩ = some (.int .i64 d) ∧ (W.drew.alloc (.cells #[.int .i64 kd, .int .i64 d, .int .i64 a, .int .i64 b, .int .i64 s, .int .i64 c, .int .i64 n] 45)).cell? ⟨w.heap.size, 2, none⟩ = some (.int .i64 a) ∧ (W.drew.alloc (.cells #[.int .i64 kd, .int .i64 d, .int .i64 a, .int .i64 b, .int .i64 s, .int .i64 c, .int .i64 n] 45)).cell? ⟨w.heap.size, 3, none⟩ = some (.int .i64 b) ∧ (W.drew.alloc (.cells #[.int .i64 kd, .int .i64 d, .int .i64 a, .int .i64 b, .int .i64 s, .int .i64 c, .int .i64 n] 45)).cell? ⟨w.heap.size, 4, none⟩ = some (.int .i64 s) ∧ (W.drew.alloc (.cells #[.int .i64 kd, .int .i64 d, .int .i64 a, .int .i64 b, .int .i64 s, .int .i64 c, .int .i64 n] 45)).cell? ⟨w.heap.size, 5, none⟩ = some (.int .i64 c) ∧ (W.drew.alloc (.cells #[.int .i64 kd, .int .i64 d, .int .i64 a, .int .i64 b, .int .i64 s, .int .i64 c, .int .i64 n] 45)).cell? ⟨w.heap.size, 6, none⟩ = some (.int .i64 n) := ⟨(World.cell?_alloc_lt _ _ _ K1.out.lt).trans SA.1, (World.cell?_alloc_lt _ _ _ hwl).trans SA.2.1, (World.cell?_alloc_lt _ _ _ hwl).trans SA.2.2.1, (World.cell?_alloc_lt _ _ _ hwl).trans SA.2.2.2.1, (World.cell?_alloc_lt _ _ _ hwl).trans SA.2.2.2.2.1, (World.cell?_alloc_lt _ _ _ hwl).trans SA.2.2.2.2.2.1, (World.cell?_alloc_lt _ _ _ hwl).trans SA.2.2.2.2.2.2.1, (World.cell?_alloc_lt _ _ _ hwl).trans SA.2.2.2.2.2.2.2⟩
  refine hK _ _ (fun _ => SB) ?_
  clear hK K
  try simp only [Act.put, List.setIfInBounds_toArray, List.set_cons_zero, List.set_cons_succ]
  refine Hd.one (i := 7) rfl (by kernel_rfl) rfl (fun K hK => ?_)
  have BW3 : Hid (Below W.heap.size W (W.drew.alloc (.cells #[.int .i64 kd, .int .i64 d, .int .i64 a, .int .i64 b, .int .i64 s, .int .i64 c, .int .i64 n] 45))) := Lib.hid (SW.out.alloc SW.out.size _)
  have hsl : Sl (W.drew.alloc (.cells #[.int .i64 kd, .int .i64 d, .int .i64 a, .int .i64 b, .int .i64 s, .int .i64 c, .int .i64 n] 45)) (some ⟨w.heap.size + 1, 0, none⟩) 1 1 7 (fun _ => insL ⟨kd, d, a, b, s, c, n⟩) := by have := sl_one W.drew (insL ⟨kd, d, a, b, s, c, n⟩) 45; rwa [show W.drew.heap.size = w.heap.size + 1 from hWs] at this
  refine wp_app _ _ _ rfl elIn (q + 1) A m cp _ rfl ((HO.out.keep BW.out).keep BW3.out) (some ⟨w.heap.size + 1, 0, none⟩) 1 1 (fun _ => insL ⟨kd, d, a, b, s, c, n⟩) rfl hsl (fun _ _ => rfl) (fun _ _ => in_one ⟨kd, d, a, b, s, c, n⟩) (by unfold maxLen; omega) (by omega) (Nat.le_trans (show q + 1 ≤ W.heap.size by omega) BW3.out.size) ?_
  intro A2 c2 w2 hown2 hg2 hat2
  have hkp2 : ∀ b', b' < W.heap.size → A.map (·.block) ≠ some b' → w2.heap[b']? = W.heap[b']? := fun b' hb hne => (hg2.block b' (Nat.lt_of_lt_of_le hb BW3.out.size) (fun e => hne e.symm)).trans (BW3.out.block b' hb)
  have hq2 := hkp2 q K1.out.lt (fun e => by have := (HR.out _ e).1; omega)
  have hx2 := hkp2 w.heap.size hwl (fun e => by have := (HR.out _ e).2; omega)
  have hbel2 : Below (q + 1) W w2 := (BW3.out.mono (by omega)).trans ((Below.refl _ _).grown hg2 (by have := BW3.out.size; omega) (fun k hk => (HR.out k hk).1))
  have K2 := Lib.hid (K1.out.same hq2)
  have vv1 := K2.out.c1
  have vv3 := K2.out.fr
  have HO2 := Lib.hid hown2
  have HB2 := Lib.hid hbel2
  have HK2 := Lib.hid hkp2
  have HA2 : Hid (A2.map (·.block) = A.map (·.block) ∨ ∀ b', A2.map (·.block) = some b' → W.heap.size ≤ b') := Lib.hid (hat2.imp id (fun e k hk => by rw [e] at hk; cases hk; exact BW3.out.size))
  have SC : w2.cell? ⟨q, 1, none⟩ = some (.slice A m cp) ∧ w2.cell? ⟨w.heap.size, 0, none⟩ = some (.int .i64 kd) ∧ w2.cell? ⟨w.heap.size, 1, none⟩ = some (.int .i64 d) ∧ w2.cell? ⟨w.heap.size, 2, none⟩ = some (.int .i64 a) ∧ w2.cell? ⟨w.heap.size, 3, none⟩ = some (.int .i64 b) ∧ w2.cell? ⟨w.heap.size, 4, none⟩ = some (.int .i64 s) ∧ w2.cell? ⟨w.heap.size, 5, none⟩ = some (.int .i64 c) ∧ w2.cell? ⟨w.heap.size, 6, none⟩ = some (.int .i64 n) := ⟨vv1, ((Ow2.blk_same hx2).1 0).trans (bx 0 _ rfl), ((Ow2.blk_same hx2).1 1).trans (bx 1 _ rfl), ((Ow2.blk_same hx2).1 2).trans (bx 2 _ rfl), ((Ow2.blk_same hx2).1 3).trans (bx 3 _ rfl), ((Ow2.blk_same hx2).1 4).trans (bx 4 _ rfl), ((Ow2.blk_same hx2).1 5).trans (bx 5 _ rfl), ((Ow2.blk_same hx2).1 6).trans (bx 6 _ rfl)⟩
  have hz2 := hbel2.size
  refine hK _ _ (fun _ => SC) ?_
  clear hown2 hg2 hat2 hq2 hx2 hsl SB SA SC hkp2 hbel2
  clear hK K
  try simp only [Act.put, List.setIfInBounds_toArray, List.set_cons_zero, List.set_cons_succ]
  refine Hd.one (i := 8) rfl (by kernel_rfl) rfl (fun K hK => ?_)
  go_simp
  refine hK _ _ (fun h => absurd h (by omega)) ?_
  clear hK K
  try simp only [Act.put, List.setIfInBounds_toArray, List.set_cons_zero, List.set_cons_succ]
  refine Hd.one (i := 9) rfl (by kernel_rfl) rfl (fun K hK => ?_)
  go_simp
  refine hK _ _ (fun h => absurd h (by omega)) ?_
  clear hK K
  try simp only [Act.put, List.setIfInBounds_toArray, List.set_cons_zero, List.set_cons_succ]
  refine Hd.one (i := 10) rfl (by kernel_rfl) rfl (fun K hK => ?_)
  go_simp
  refine hK _ _ (fun h => absurd h (by omega)) ?_
  clear hK K
  try simp only [Act.put, List.setIfInBounds_toArray, List.set_cons_zero, List.set_cons_succ]
  refine Hd.done (by kernel_rfl) ?_ _
  go_wp2_with fail
  go_end0
  refine ⟨rfl, ?_⟩
  obtain ⟨g, rfl⟩ := Ow3.own_head HO2.out (by omega)
  have hg := HO2.out.lt g rfl
  have hsz : (w2.setCell ⟨q, 1, none⟩ (.slice (some ⟨g, 0, none⟩) (m + 1) c2)).heap.size = w2.heap.size := by simp
  have hblk : ∀ b', b' < w.heap.size → b' ≠ q → A.map (·.block) ≠ some b' → (w2.setCell ⟨q, 1, none⟩ (.slice (some ⟨g, 0, none⟩) (m + 1) c2)).heap[b']? = w.heap[b']? := fun b' hb hq' hne => by
    rw [Below.heap_setCell _ _ _ _ (by simpa using hq'), HK2.out b' (by omega) hne]
    exact BW.out.block b' hb
  have hAb : ∀ b', b' < q + 1 → A.map (·.block) ≠ some b' := fun b' hb e => by have := (HR.out _ e).1; omega
  have hbel : Below w0.heap.size w0 (w2.setCell ⟨q, 1, none⟩ (.slice (some ⟨g, 0, none⟩) (m + 1) c2)) := by
    refine Below.setCell ?_ (show w0.heap.size ≤ q from hq) _
    exact (HB.out.trans (BW.out.mono HB.out.size)).trans (HB2.out.mono (by omega))
  refine ⟨g, ⟨some ⟨g, 0, none⟩, m + 1, c2, LB, ln, K2.out.set _ _ _, HP.out, hpn, ?_, fun g' e => ?_, HL.out.same (fun g' hg' => hblk g' (by omega) (by omega) (hAb g' (by omega))), hbel, hq, by rw [hsz]; exact hg.2⟩, ?_, fun b' hb h1 h2 => hblk b' hb h1 (fun e => h2 (HX.out b' e)), fun b' hb h1 h2 => ?_⟩
  · rw [List.map_append]
    have ho := Ow2.own_set HO2.out (a := ⟨q, 1, none⟩) (Nat.lt_succ_self q) (.slice (some ⟨g, 0, none⟩) (m + 1) c2)
    simpa using ho
  · simp at e; exact e.symm
  · rw [hsz]; omega
  · rcases HA2.out with e | e
    · intro hbg
      subst hbg
      exact h2 (HX.out b' (by rw [← e]; rfl))
    · have := e g rfl
      omega
end
end Go.Proofs.Ytkohichiojmakaa.EmP
