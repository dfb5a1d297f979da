/-
  WALK: the run of steps: a run made.
-/
import Derived.Test.YtdhihmeknoofoaaStmStep
namespace Go.Proofs.Ytdhihmeknoofoaa.Sr
set_option linter.unusedVariables false
set_option linter.unusedSimpArgs false
open Go.RowKit Cm Mm Ow Ow2 Me Stp StW Rm Sp Sn Sa Sc Sg Sd Sx
open ElM (Cd zeroCd cdL okCd IsCd)

set_option maxRecDepth 20000 in
set_option maxHeartbeats 3200000 in
theorem new_any (x y : Int) (A : Option Addr) (n cap : Nat) (l : List St) (CA : Option Addr) (cc : Nat) (cs : List Cd) (a : Int) (w : World) (C : Nat → Prop) (hC : ∀ k, C k → k < w.heap.size) (hc : Cod w C ⟨x, y, A, n, cap, l⟩) (hcs : IsCd w CA cs.length cc cs) (hcod : ∀ i, i < cs.length → Cod w C (cs.getD i zeroCd)) (hcf : 0 < cs.length → ∀ g, CA.map (·.block) = some g → C g) :
    Calls Try.prog 22 #[.agg #[.int .i64 x, .int .i64 y, .slice A n cap], .slice CA cs.length cc, .int .i64 a] w fun e w' =>
      ∃ q G t, e = .returned (.pointer (some ⟨q, 0, none⟩)) ∧ RunP w' q C G ⟨x, y, A, n, cap, l⟩ cs ⟨some (lnOf ⟨x, y, A, n, cap, l⟩), [], zeros (words a), []⟩ t ∧ (∀ k ∈ G, w.heap.size ≤ k) ∧ Below w.heap.size w w' := by
  have hcut : ∀ w : World, Calls Try.prog 65 #[.int .i64 a, .int .i64 0, .int .i64 64] w fun e w' => e = .returned (.int .i64 (words a)) ∧ w = w' := fun w => by rw [← words_int]; exact ElM.rcut_any a 0 64 w (by decide)
  have HC := Lib.hid hcut; clear hcut
  have C1 := Lib.hid hc
  have HS := Lib.hid hcs
  have HN := Lib.hid hcod
  have HF := Lib.hid hcf
  have HL := Lib.hid hC
  have hle := hcs.2.1.le
  clear hc hcs hcod hcf hC
  obtain ⟨W, hW⟩ : ∃ W, W = w.alloc (.cells #[.int .i64 x, .int .i64 y, .slice A n cap] 24) := ⟨_, rfl⟩
  have B0 : Hid (Below w.heap.size w W) := Lib.hid (by rw [hW]; exact (Below.refl _ _).alloc (Nat.le_refl _) _)
  have s0 : W.cell? ⟨w.heap.size, 0, none⟩ = some (.int .i64 x) := by rw [hW]; simp
  have s1 : W.cell? ⟨w.heap.size, 1, none⟩ = some (.int .i64 y) := by rw [hW]; simp
  have s2 : W.cell? ⟨w.heap.size, 2, none⟩ = some (.slice A n cap) := by rw [hW]; simp
  have hlt : w.heap.size < W.heap.size := by rw [hW]; simp
  have HW := Lib.hid hW; clear hW
  go_enter Try.func22, Try.ntmps22
  go_wp2_with fail
  rw [← HW.out]
  refine Hd.start 4 (fun w' => w'.cell? ⟨w.heap.size, 0, none⟩ = some (.int .i64 x) ∧ w'.cell? ⟨w.heap.size, 1, none⟩ = some (.int .i64 y) ∧ w'.cell? ⟨w.heap.size, 2, none⟩ = some (.slice A n cap)) (by kernel_rfl) ?_
  have SA : W.drew.cell? ⟨w.heap.size, 0, none⟩ = some (.int .i64 x) ∧ W.drew.cell? ⟨w.heap.size, 1, none⟩ = some (.int .i64 y) ∧ W.drew.cell? ⟨w.heap.size, 2, none⟩ = some (.slice A n cap) := ⟨s0, s1, s2⟩
  refine Hd.take (i := 0) (v := ?v1) rfl (by decide +kernel) (by decide +kernel) (fun _ _ _ h => h) rfl ?hy1 SA ?rest1
  case hy1 =>
    intro wq hSw
    obtain ⟨s0, s1, s2⟩ := hSw
    go_simp
    try with_reducible rfl
  try simp only [Act.put, List.setIfInBounds_toArray, List.set_cons_zero, List.set_cons_succ]
  refine Hd.take (i := 1) (v := ?v2) rfl (by decide +kernel) (by decide +kernel) (fun _ _ _ h => h) rfl ?hy2 SA ?rest2
  case hy2 =>
    intro wq hSw
    go_simp
    try with_reducible rfl
  try simp only [Act.put, List.setIfInBounds_toArray, List.set_cons_zero, List.set_cons_succ]
  refine Hd.take (i := 2) (v := ?v3) rfl (by decide +kernel) (by decide +kernel) (fun _ _ _ h => h) rfl ?hy3 SA ?rest3
  case hy3 =>
    intro wq hSw
    go_simp
    try with_reducible rfl
  try simp only [Act.put, List.setIfInBounds_toArray, List.set_cons_zero, List.set_cons_succ]
  refine Hd.one (i := 3) rfl (by kernel_rfl) rfl (fun K hK => ?_)
  go_simp
  refine (rnew_any a W.drew HC.out).mono ?_
  rintro e w2 ⟨p, Fm, rfl, hM, hFm, hb2⟩
  have SB : w2.cell? ⟨w.heap.size, 0, none⟩ = some (.int .i64 x) ∧ w2.cell? ⟨w.heap.size, 1, none⟩ = some (.int .i64 y) ∧ w2.cell? ⟨w.heap.size, 2, none⟩ = some (.slice A n cap) := ⟨(hb2.cell (p := ⟨w.heap.size, 0, none⟩) hlt).trans SA.1, (hb2.cell (p := ⟨w.heap.size, 1, none⟩) hlt).trans SA.2.1, (hb2.cell (p := ⟨w.heap.size, 2, none⟩) hlt).trans SA.2.2⟩
  refine hK _ _ (fun _ => SB) ?_
  clear hK K
  try simp only [Act.put, List.setIfInBounds_toArray, List.set_cons_zero, List.set_cons_succ]
  refine Hd.one (i := 4) rfl (by kernel_rfl) rfl (fun K hK => ?_)
  go_simp
  refine hK _ _ (fun h => absurd h (by omega)) ?_
  clear hK K
  try simp only [Act.put, List.setIfInBounds_toArray, List.set_cons_zero, List.set_cons_succ]
  refine Hd.one (i := 5) rfl (by kernel_rfl) rfl (fun K hK => ?_)
  go_simp
  refine hK _ _ (fun h => absurd h (by omega)) ?_
  clear hK K
  try simp only [Act.put, List.setIfInBounds_toArray, List.set_cons_zero, List.set_cons_succ]
  refine Hd.one (i := 6) rfl (by kernel_rfl) rfl (fun K hK => ?_)
  go_simp
  refine hK _ _ (fun h => absurd h (by omega)) ?_
  clear hK K
  try simp only [Act.put, List.setIfInBounds_toArray, List.set_cons_zero, List.set_cons_succ]
  refine Hd.done (by kernel_rfl) ?_ _
  obtain ⟨H, hH⟩ : ∃ H : Hm, H = ⟨.int .i64 x, .int .i64 y, .slice A n cap, .slice CA cs.length cc, p, .pointer none, .slice none 0 0, false⟩ := ⟨_, rfl⟩
  obtain ⟨W4, hW4⟩ : ∃ W4, W4 = w2.alloc (.cells #[.int .i64 x, .int .i64 y, .slice A n cap, .slice CA cs.length cc, .pointer (some ⟨p, 0, none⟩), .slice none 0 0, .pointer none, .slice none 0 0, .bool false] 85) := ⟨_, rfl⟩
  have b24 : Below w2.heap.size w2 W4 := by rw [hW4]; exact (Below.refl _ _).alloc (Nat.le_refl _) _
  have bW2 : Below W.heap.size W w2 := (below_drawn W 1).trans hb2
  have hsz2 : W.heap.size ≤ w2.heap.size := hb2.size
  have hzl : (zeros (words a)).length = words a := by simp [zeros]
  have hMlt := hM.lt
  have FO : Foc W4 w2.heap.size H Fm [] none 0 (zeros (words a)) (zeros (words a)) (zeros (words a)) [] := by
    refine ⟨?_, ?_, Own.nil _ _ _ _, fun g hg => (by cases hg), ?_, fun k hk => (by cases hk), fun hm => (by have := hMlt _ hm; omega), (by simp), fun k _ hk => (by cases hk)⟩
    · rw [hW4, hH]; exact heap_alloc_new _ _
    · rw [hzl, hH]; exact hM.far (Only.of_below b24 (F := [])) (fun k _ hk => by cases hk)
    · rw [hW4]; simp
  have bw4 : Below w.heap.size w W4 := (B0.out.trans (bW2.mono B0.out.size)).trans (b24.mono (Nat.le_trans B0.out.size hsz2))
  have hFm' : ∀ k ∈ Fm, W.heap.size ≤ k := hFm
  have KK : Hid (∀ e w', Crd W4 w2.heap.size H Fm [] none 0 (zeros (words a)) (zeros (words a)) (zeros (words a)) [] x y A n cap e w' → Kept W4 w2.heap.size C (w2.heap.size :: Fm) ⟨x, y, A, n, cap, l⟩ cs ⟨some (lnOf ⟨x, y, A, n, cap, l⟩), [], zeros (words a), []⟩ w') := Lib.hid (fun e w' hC => by
    have ob := Only.of_below bw4 (F := [])
    refine runP_crd (s := ⟨x, y, A, n, cap, l⟩) (CA := CA) (cc := cc) (lab := fun k => if k = w2.heap.size then 0 else 1) FO (by rw [hH]) (by rw [hH]) (by rw [hH]) (by rw [hH]) (by rw [hH]) (C1.out.far ob (fun _ hx => by cases hx)) (isCd_far HS.out HN.out HF.out ob (fun _ hx => by cases hx)) (fun i hi => (HN.out i hi).far ob (fun _ hx => by cases hx)) HF.out ?_ ?_ ?_ ?_ ?_ ?_ ?_ ?_ ?_ hC
    · simp
    · intro k hk; have := hMlt k hk; show (if k = w2.heap.size then 0 else 1) = 1; rw [if_neg (by omega)]
    · intro k hk; cases hk
    · simp
    · intro k hk; simp [hk]
    · intro k hk; cases hk
    · intro k hk hc
      have := HL.out k hc
      rcases List.mem_cons.1 hk with e | e
      · omega
      · have := hFm' k e; omega
    · intro k hk hc
      have := HL.out k hc
      have := b24.size; omega
    · intro k hk
      have hz4 : W4.heap.size = w2.heap.size + 1 := by rw [hW4]; simp
      rcases List.mem_cons.1 hk with e | e
      · omega
      · have := hMlt k e; omega)
  have KB := Lib.hid (show ∀ k ∈ w2.heap.size :: Fm, w.heap.size ≤ k from fun k hk => by
    rcases List.mem_cons.1 hk with e | e
    · omega
    · have := hFm' k e; omega)
  have CC := Lib.hid (crash_any (x := x) (y := y) (A := A) (n := n) (cap := cap) FO (by rw [hH]) (by rw [hH]) (by rw [hH]))
  have BB := Lib.hid bw4
  have BZ := Lib.hid hsz2
  have HW4 := Lib.hid hW4
  clear hM hFm hb2 SB SA b24 bW2 hMlt FO bw4 hFm' hH hW4 hzl
  go_wp2_with fail
  rw [← HW4.out]
  refine CC.out.mono ?_
  intro e w' hC
  have K1 := KK.out e w' hC
  obtain ⟨_, _, _, _, rfl, -⟩ := hC
  go_wp2_with fail
  go_ret
  obtain ⟨G', t', h1, h2, h3⟩ := K1
  have hs4 := BB.out.size
  refine ⟨_, G', t', rfl, h1, fun k hk => ?_, BB.out.trans (h3.below KB.out hs4)⟩
  rcases h2 k hk with e | e
  · exact KB.out k e
  · omega
theorem new_len {cs : List Cd} {nc : Nat} (hnc : cs.length = nc) (x y : Int) (A : Option Addr) (n cap : Nat) (l : List St) (CA : Option Addr) (cc : Nat) (a : Int) (w : World) (C : Nat → Prop) (hC : ∀ k, C k → k < w.heap.size) (hc : Cod w C ⟨x, y, A, n, cap, l⟩) (hcs : IsCd w CA nc cc cs) (hcod : ∀ i, i < cs.length → Cod w C (cs.getD i zeroCd)) (hcf : 0 < cs.length → ∀ g, CA.map (·.block) = some g → C g) :
    Calls Try.prog 22 #[.agg #[.int .i64 x, .int .i64 y, .slice A n cap], .slice CA nc cc, .int .i64 a] w fun e w' =>
      ∃ q G t, e = .returned (.pointer (some ⟨q, 0, none⟩)) ∧ RunP w' q C G ⟨x, y, A, n, cap, l⟩ cs ⟨some (lnOf ⟨x, y, A, n, cap, l⟩), [], zeros (words a), []⟩ t ∧ (∀ k ∈ G, w.heap.size ≤ k) ∧ Below w.heap.size w w' := by
  subst hnc
  exact new_any x y A n cap l CA cc cs a w C hC hc hcs hcod hcf
end Go.Proofs.Ytdhihmeknoofoaa.Sr
