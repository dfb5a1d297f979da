/-
  WALK: the program's run of steps: all begun anew.
-/
import Derived.Test.YtdhihmeknoofoaaPrgBegin
import Derived.Test.YtdhihmeknoofoaaHeld2
namespace Go.Proofs.Ytdhihmeknoofoaa.Ph
set_option linter.unusedVariables false
set_option linter.unusedSimpArgs false
open Go.RowKit Cm Mm Ow Ow2 Me Stp StW Rm Sp Sd Sx Sr Pn Pa Pq Pr Pm
open ElM (Cd zeroCd cdL okCd IsCd)

/-- a run of which only the codes, the words and what was put out are there -/
structure Bare (w : World) (q : Nat) (C : Nat → Prop) (G : List Nat) (s : Cd) (cs : List Cd) (now out : List Int) (H : Hp) (Fm Fo : List Nat) (B : Option Addr) (bc : Nat) (O : Option Addr) (oc : Nat) (CA : Option Addr) (cc : Nat) (lab : Nat → Nat) : Prop where
  foc : Fop w q H Fm Fo B bc O oc now out
  ill : H.ill = false
  h0 : H.s0 = .int .i64 s.x
  h1 : H.s1 = .int .i64 s.y
  h2 : H.s2 = .slice s.A s.n s.cap
  h3 : H.l = .slice CA cs.length cc
  code : Cod w C s
  cu : CodeU s.l
  codes : IsCd w CA cs.length cc cs
  cod : ∀ i, i < cs.length → Cod w C (cs.getD i zeroCd)
  cus : ∀ i, i < cs.length → CodeU (cs.getD i zeroCd).l
  cf : 0 < cs.length → ∀ g, CA.map (·.block) = some g → C g
  lq : lab q = 0
  lm : ∀ k ∈ Fm, lab k = 1
  lo : ∀ k ∈ Fo, lab k = 2
  gq : q ∈ G
  gm : ∀ k ∈ Fm, k ∈ G
  go : ∀ k ∈ Fo, k ∈ G
  gB : ∀ k ∈ G, ¬ C k
  Bw : ∀ k, w.heap.size ≤ k → ¬ C k
  gLt : ∀ k ∈ G, k < w.heap.size
section
variable {w w' : World} {q : Nat} {C : Nat → Prop} {G : List Nat} {s : Cd} {cs : List Cd} {now out : List Int} {H : Hp} {Fm Fo : List Nat} {B : Option Addr} {bc : Nat} {O : Option Addr} {oc : Nat} {CA : Option Addr} {cc : Nat} {lab : Nat → Nat}
theorem RunQ.bare {rc : Ln} {sd : Bool} {tl : List Ln} {t : Prq} (h : RunQ w q C G s cs rc sd tl now out t) : Bare w q C G s cs now out t.H t.Fm t.Fo t.B t.bc t.O t.oc t.CA t.cc t.lab :=
  ⟨h.foc, h.ill, h.h0, h.h1, h.h2, h.h3, h.code, h.cu, h.codes, h.cod, h.cus, h.cf, h.lq, h.lm, h.lo, h.gq, h.gm, h.go, h.gB, h.Bw, h.gLt⟩
theorem Bare.begun (h : Bare w q C G s cs now out H Fm Fo B bc O oc CA cc lab) {w2 : World} {p : Nat} {Fl : List Nat} {V : Option Addr} {cv : Nat} (hb : Below w.heap.size w w2) (hL : ThAt w2 p Fl s.x s.y s.A s.n s.cap V cv (freshV s.x) 0 0) (hFl : ∀ k ∈ Fl, w.heap.size ≤ k) :
    KeptQ w q C G s cs (lnOf s) false [] now out (((w2.setCell ⟨q, 6, none⟩ (.pointer (some ⟨p, 0, none⟩))).setCell ⟨q, 7, none⟩ (.slice none 0 0)).setCell ⟨q, 8, none⟩ (.bool false)) := by
  have F2 := h.foc.keep hb
  have T3 := fop_set F2 6 (.pointer (some ⟨p, 0, none⟩)) (H' := { H with rc := .pointer (some ⟨p, 0, none⟩) }) rfl
  have T4 := fop_set T3.1 7 (.slice none 0 0) (H' := { H with rc := .pointer (some ⟨p, 0, none⟩), th := .slice none 0 0 }) rfl
  have T5 := fop_set T4.1 8 (.bool false) (H' := { H with rc := .pointer (some ⟨p, 0, none⟩), th := .slice none 0 0, sd := false }) rfl
  have o2 := (T3.2.seq T4.2).seq T5.2
  have ho : Only [q] w (((w2.setCell ⟨q, 6, none⟩ (.pointer (some ⟨p, 0, none⟩))).setCell ⟨q, 7, none⟩ (.slice none 0 0)).setCell ⟨q, 8, none⟩ (.bool false)) := (Only.of_below hb).seq o2
  have lr := h.foc.qlt
  have lm := h.foc.mLt
  have lo := h.foc.oLt
  have hB : ∀ k ∈ [q], ¬ C k := fun k hk => by rw [List.mem_singleton.1 hk]; exact h.gB q h.gq
  have hL5 := hL.far o2 (fun k hk hm => by have := hFl k hk; have := List.mem_singleton.1 hm; omega)
  refine ⟨G ++ Fl, ⟨{ H with rc := .pointer (some ⟨p, 0, none⟩), th := .slice none 0 0, sd := false }, Fm, Fo, Fl, B, bc, O, oc, none, 0, [], CA, cc, fun k => if k < w.heap.size then lab k else 3⟩, ?_, fun k hk => ?_, ho.more (fun k hk => by rw [List.mem_singleton.1 hk]; exact h.gq)⟩
  · exact {
      foc := T5.1, ill := h.ill, hsd := rfl, h0 := h.h0, h1 := h.h1, h2 := h.h2, h3 := h.h3, code := h.code.far ho hB, cu := h.cu, codes := isCd_far h.codes h.cod h.cf ho hB, cod := fun i hi => (h.cod i hi).far ho hB, cus := h.cus, cf := h.cf
      rc := ⟨p, s.x, s.y, s.A, s.n, s.cap, V, cv, 0, 0, rfl, hL5, h.code.far ho hB, h.cu, freshV_u s.x, .inl ⟨rfl, rfl, rfl, Nat.zero_le _⟩⟩
      hl := rfl, lr := Own.nil _ _ _ _, ul := rfl, ll := fun i hi => absurd hi (by simp)
      lq := by show (if q < w.heap.size then lab q else 3) = 0; rw [if_pos lr]; exact h.lq
      lm := fun k hk => by show (if k < w.heap.size then lab k else 3) = 1; rw [if_pos (lm k hk)]; exact h.lm k hk
      lo := fun k hk => by show (if k < w.heap.size then lab k else 3) = 2; rw [if_pos (lo k hk)]; exact h.lo k hk
      lf := fun k hk => by show (if k < w.heap.size then lab k else 3) = 3; rw [if_neg (by have := hFl k hk; omega)]
      lL := fun g hg => by cases hg
      lu := fun i hi => absurd hi (by simp)
      gq := List.mem_append_left _ h.gq, gm := fun k hk => List.mem_append_left _ (h.gm k hk), go := fun k hk => List.mem_append_left _ (h.go k hk), gf := fun k hk => List.mem_append_right _ hk, gL := fun g hg => by cases hg
      gu := fun i hi => absurd hi (by simp)
      gB := fun k hk => by
        rcases List.mem_append.1 hk with e | e
        · exact h.gB k e
        · exact h.Bw k (hFl k e)
      Bw := fun k hk => h.Bw k (Nat.le_trans ho.size hk)
      gLt := fun k hk => by
        rcases List.mem_append.1 hk with e | e
        · exact Nat.lt_of_lt_of_le (h.gLt k e) ho.size
        · exact hL5.lt k e }
  · rcases List.mem_append.1 hk with e | e
    · exact .inl e
    · exact .inr (hFl k e)
theorem RunQ.c3 {rc : Ln} {sd : Bool} {tl : List Ln} {t : Prq} (h : RunQ w q C G s cs rc sd tl now out t) : w.cell? ⟨q, 3, none⟩ = some (.slice t.CA cs.length t.cc) := by have := h.foc.cs.2.2.2.1; rw [h.h3] at this; exact this
theorem RunQ.c7 {rc : Ln} {sd : Bool} {tl : List Ln} {t : Prq} (h : RunQ w q C G s cs rc sd tl now out t) : w.cell? ⟨q, 7, none⟩ = some (.slice t.LA tl.length t.lc) := by have := h.foc.cs.2.2.2.2.2.2.2.1; rw [h.hl] at this; exact this
theorem RunQ.lmax {rc : Ln} {sd : Bool} {tl : List Ln} {t : Prq} (h : RunQ w q C G s cs rc sd tl now out t) : tl.length ≤ t.lc ∧ t.lc ≤ maxLen := ⟨h.lr.sl.le, h.lr.sl.cap_le⟩

set_option maxRecDepth 200000 in
set_option maxHeartbeats 12800000 in
theorem rbegin_any (h : Bare w q C G s cs now out H Fm Fo B bc O oc CA cc lab) (hlen : cs.length ≤ 65536) :
    Calls Try.prog 70 #[.pointer (some ⟨q, 0, none⟩)] w fun e w' => e = .returned (.tuple #[]) ∧ KeptQ w q C G s cs (lnOf s) false (cs.map lnOf) now out w' := by
  have c0 := h.foc.cs.1
  have c1 := h.foc.cs.2.1
  have c2 := h.foc.cs.2.2.1
  rw [h.h0] at c0
  rw [h.h1] at c1
  rw [h.h2] at c2
  have HH := Lib.hid h
  clear h
  go_enter Try.func70, Try.ntmps70
  go_wp2_with fail
  refine (pbegin_any s.x s.y s.A s.n s.cap w).mono ?_
  rintro e w2 ⟨p, Fl, V, cv, rfl, hL, hFl, hb⟩
  have F2 := HH.out.foc.keep hb
  have T3 := fop_set F2 6 (.pointer (some ⟨p, 0, none⟩)) (H' := { H with rc := .pointer (some ⟨p, 0, none⟩) }) rfl
  have T4 := fop_set T3.1 7 (.slice none 0 0) (H' := { H with rc := .pointer (some ⟨p, 0, none⟩), th := .slice none 0 0 }) rfl
  have c6 := F2.cs.2.2.2.2.2.2.1
  have c7 := T3.1.cs.2.2.2.2.2.2.2.1
  have c8 := T4.1.cs.2.2.2.2.2.2.2.2.1
  have fq := F2.free'
  have fq3 := T3.1.free'
  have fq4 := T4.1.free'
  have KB := Lib.hid (HH.out.begun hb hL hFl)
  clear F2 T3 T4 hL hFl hb c0 c1 c2
  obtain ⟨W4, hW4⟩ : ∃ W4, ((w2.setCell ⟨q, 6, none⟩ (.pointer (some ⟨p, 0, none⟩))).setCell ⟨q, 7, none⟩ (.slice none 0 0)).setCell ⟨q, 8, none⟩ (.bool false) = W4 := ⟨_, rfl⟩
  rw [hW4] at KB
  have HW4 := Lib.hid hW4
  clear hW4
  go_upto_region 1 with (fail)
  rw [HW4.out]
  clear c6 c7 c8 fq fq3 fq4 HW4
  obtain ⟨G1, t1, R1, hG1, ho1⟩ := KB.out
  have z3 := R1.c3
  have hcc := R1.codes.2.1.le
  have hcc2 := R1.codes.2.1.cap_le
  obtain ⟨CA1, hCA1⟩ : ∃ CA1, t1.CA = CA1 := ⟨_, rfl⟩
  obtain ⟨cc1, hcc1⟩ : ∃ cc1, t1.cc = cc1 := ⟨_, rfl⟩
  rw [hCA1, hcc1] at z3
  rw [hcc1] at hcc hcc2
  have K0 : Hid (∃ G' t', RunQ W4 q C G' s cs (lnOf s) false ((cs.take 0).map lnOf) now out t' ∧ (∀ k ∈ G', k ∈ G ∨ w.heap.size ≤ k) ∧ Only G w W4 ∧ t'.CA = CA1 ∧ t'.cc = cc1) := Lib.hid ⟨G1, t1, R1, hG1, ho1, hCA1, hcc1⟩
  clear R1 hG1 ho1 hCA1 hcc1 KB
  go_wp2_with fail
  go_loopw [23] (fun i wr => ∃ (k : Nat), i = .int .i64 k ∧ k ≤ cs.length ∧ ∃ G' t', RunQ wr q C G' s cs (lnOf s) false ((cs.take k).map lnOf) now out t' ∧ (∀ k ∈ G', k ∈ G ∨ w.heap.size ≤ k) ∧ Only G w wr ∧ t'.CA = CA1 ∧ t'.cc = cc1) (fun i _ => cs.length - (intOf i).toNat)
  case atStart => exact ⟨0, rfl, by omega, K0.out⟩
  case round =>
    obtain ⟨k, rfl, hkn, G1, t1, R1, hG1, ho1, hCA1, hcc1⟩ := hrel
    have RR := Lib.hid R1
    have HG := Lib.hid hG1
    have HO := Lib.hid ho1
    have HCA := Lib.hid hCA1
    have HCC := Lib.hid hcc1
    clear R1 hG1 ho1 z3 K0
    by_cases hc : k < cs.length
    · obtain ⟨b, o, hCA, hb, s0, s1, s2, hx, hy, hI⟩ := RR.out.codes.cell (k := k) hc
      have CO := Lib.hid (RR.out.cod k hc)
      have CUu := Lib.hid (RR.out.cus k hc)
      have BS := Lib.hid (begun_snoc hc)
      rw [hCA1] at hCA
      clear hCA1 hcc1
      subst hCA
      generalize cs.getD k zeroCd = cd at *
      obtain ⟨x, y, A, n, cap, c⟩ := cd
      have z7 := RR.out.c7
      have zl := RR.out.lmax
      have e1 : ((cs.take k).map lnOf).length = k := by simp; omega
      rw [e1] at z7 zl
      have d0 : decide ((k : Int) < (cs.length : Int)) = true := decide_eq_true (by omega)
      have d2 : (k : Int) < (cs.length : Int) := by omega
      have FQ := Lib.hid RR.out.foc
      clear hx hy hI
      dsimp only at s0 s1 s2
      go_wp2_with fail
      obtain ⟨WA, hWA⟩ : ∃ WA, wr.alloc (.cells #[.int .i64 x, .int .i64 y, .slice A n cap] 24) = WA := ⟨_, rfl⟩
      have bWA : Below wr.heap.size wr WA := by rw [← hWA]; exact (Below.refl _ _).alloc (Nat.le_refl _) _
      have a0 : WA.cell? ⟨wr.heap.size, 0, none⟩ = some (.int .i64 x) := by rw [← hWA]; simp
      have a1 : WA.cell? ⟨wr.heap.size, 1, none⟩ = some (.int .i64 y) := by rw [← hWA]; simp
      have a2 : WA.cell? ⟨wr.heap.size, 2, none⟩ = some (.slice A n cap) := by rw [← hWA]; simp
      have a7 : WA.cell? ⟨q, 7, none⟩ = some (.slice t1.LA k t1.lc) := (bWA.cell (p := ⟨q, 7, none⟩) FQ.out.qlt).trans z7
      have hzA : WA.heap.size = wr.heap.size + 1 := by rw [← hWA]; simp
      rw [hWA]
      clear hWA z7 s0 s1 s2
      refine Hd.start 9 (fun w' => w'.cell? ⟨q, 7, none⟩ = some (.slice t1.LA k t1.lc) ∧ w'.cell? ⟨wr.heap.size, 0, none⟩ = some (.int .i64 x) ∧ w'.cell? ⟨wr.heap.size, 1, none⟩ = some (.int .i64 y) ∧ w'.cell? ⟨wr.heap.size, 2, none⟩ = some (.slice A n cap)) (by kernel_rfl) ?_
      have SA : WA.drew.cell? ⟨q, 7, none⟩ = some (.slice t1.LA k t1.lc) ∧ WA.drew.cell? ⟨wr.heap.size, 0, none⟩ = some (.int .i64 x) ∧ WA.drew.cell? ⟨wr.heap.size, 1, none⟩ = some (.int .i64 y) ∧ WA.drew.cell? ⟨wr.heap.size, 2, none⟩ = some (.slice A n cap) := ⟨a7, a0, a1, a2⟩
      refine Hd.take (i := 0) (v := ?v1) rfl (by decide +kernel) (by decide +kernel) (fun _ _ _ h => h) rfl ?hy1 SA ?rest1
      case hy1 =>
        intro wq hSw
        obtain ⟨t7, x0, x1, x2⟩ := hSw
        go_simp
        try with_reducible rfl
      try simp only [Act.put, List.setIfInBounds_toArray, List.set_cons_zero, List.set_cons_succ]
      refine Hd.take (i := 1) (v := ?v2) rfl (by decide +kernel) (by decide +kernel) (fun _ _ _ h => h) rfl ?hy2 SA ?rest2
      case hy2 =>
        intro wq hSw
        obtain ⟨t7, x0, x1, x2⟩ := hSw
        go_simp
        try with_reducible rfl
      try simp only [Act.put, List.setIfInBounds_toArray, List.set_cons_zero, List.set_cons_succ]
      refine Hd.take (i := 2) (v := ?v3) rfl (by decide +kernel) (by decide +kernel) (fun _ _ _ h => h) rfl ?hy3 SA ?rest3
      case hy3 =>
        intro wq hSw
        obtain ⟨t7, x0, x1, x2⟩ := hSw
        go_simp
        try with_reducible rfl
      try simp only [Act.put, List.setIfInBounds_toArray, List.set_cons_zero, List.set_cons_succ]
      refine Hd.take (i := 3) (v := ?v4) rfl (by decide +kernel) (by decide +kernel) (fun _ _ _ h => h) rfl ?hy4 SA ?rest4
      case hy4 =>
        intro wq hSw
        obtain ⟨t7, x0, x1, x2⟩ := hSw
        go_simp
        try with_reducible rfl
      try simp only [Act.put, List.setIfInBounds_toArray, List.set_cons_zero, List.set_cons_succ]
      refine Hd.take (i := 4) (v := ?v5) rfl (by decide +kernel) (by decide +kernel) (fun _ _ _ h => h) rfl ?hy5 SA ?rest5
      case hy5 =>
        intro wq hSw
        obtain ⟨t7, x0, x1, x2⟩ := hSw
        go_simp
        try with_reducible rfl
      try simp only [Act.put, List.setIfInBounds_toArray, List.set_cons_zero, List.set_cons_succ]
      refine Hd.take (i := 5) (v := ?v6) rfl (by decide +kernel) (by decide +kernel) (fun _ _ _ h => h) rfl ?hy6 SA ?rest6
      case hy6 =>
        intro wq hSw
        obtain ⟨t7, x0, x1, x2⟩ := hSw
        go_simp
        try with_reducible rfl
      try simp only [Act.put, List.setIfInBounds_toArray, List.set_cons_zero, List.set_cons_succ]
      refine Hd.one (i := 6) rfl (by kernel_rfl) rfl (fun K hK => ?_)
      go_simp
      refine (pbegin_any x y A n cap WA.drew).mono ?_
      rintro e w6 ⟨p2, Fl, V, cv, rfl, hL6, hFl6, hb6⟩
      have hqA : q < WA.drew.heap.size := by have := FQ.out.qlt; show q < WA.heap.size; omega
      have hcA : wr.heap.size < WA.drew.heap.size := by show wr.heap.size < WA.heap.size; omega
      have SB : w6.cell? ⟨q, 7, none⟩ = some (.slice t1.LA k t1.lc) ∧ w6.cell? ⟨wr.heap.size, 0, none⟩ = some (.int .i64 x) ∧ w6.cell? ⟨wr.heap.size, 1, none⟩ = some (.int .i64 y) ∧ w6.cell? ⟨wr.heap.size, 2, none⟩ = some (.slice A n cap) := ⟨(hb6.cell (p := ⟨q, 7, none⟩) hqA).trans SA.1, (hb6.cell (p := ⟨wr.heap.size, 0, none⟩) hcA).trans SA.2.1, (hb6.cell (p := ⟨wr.heap.size, 1, none⟩) hcA).trans SA.2.2.1, (hb6.cell (p := ⟨wr.heap.size, 2, none⟩) hcA).trans SA.2.2.2⟩
      have hsz6 := hb6.size
      have hq6 : q < w6.heap.size := Nat.lt_of_lt_of_le hqA hsz6
      have hc6 : wr.heap.size < w6.heap.size := Nat.lt_of_lt_of_le hcA hsz6
      have hFl7 : ∀ k ∈ Fl, wr.heap.size ≤ k := fun k hk => by have := hFl6 k hk; have : WA.drew.heap.size = WA.heap.size := rfl; omega
      have b66 : Below wr.heap.size wr w6 := bWA.trans (((below_drawn WA 1).trans hb6).mono bWA.size)
      refine hK _ _ (fun _ => SB) ?_
      clear hK K
      try simp only [Act.put, List.setIfInBounds_toArray, List.set_cons_zero, List.set_cons_succ]
      refine Hd.one (i := 7) rfl (by kernel_rfl) rfl (fun K hK => ?_)
      go_simp
      have SC : (w6.alloc (.cells #[.pointer (some ⟨p2, 0, none⟩)] 102)).cell? ⟨q, 7, none⟩ = some (.slice t1.LA k t1.lc) ∧ (w6.alloc (.cells #[.pointer (some ⟨p2, 0, none⟩)] 102)).cell? ⟨wr.heap.size, 0, none⟩ = some (.int .i64 x) ∧ (w6.alloc (.cells #[.pointer (some ⟨p2, 0, none⟩)] 102)).cell? ⟨wr.heap.size, 1, none⟩ = some (.int .i64 y) ∧ (w6.alloc (.cells #[.pointer (some ⟨p2, 0, none⟩)] 102)).cell? ⟨wr.heap.size, 2, none⟩ = some (.slice A n cap) := ⟨(World.cell?_alloc_lt _ _ _ hq6).trans SB.1, (World.cell?_alloc_lt _ _ _ hc6).trans SB.2.1, (World.cell?_alloc_lt _ _ _ hc6).trans SB.2.2.1, (World.cell?_alloc_lt _ _ _ hc6).trans SB.2.2.2⟩
      refine hK _ _ (fun _ => SC) ?_
      clear hK K
      try simp only [Act.put, List.setIfInBounds_toArray, List.set_cons_zero, List.set_cons_succ]
      refine Hd.one (i := 8) rfl (by kernel_rfl) rfl (fun K hK => ?_)
      have BW3 : Hid (Below wr.heap.size wr (w6.alloc (.cells #[.pointer (some ⟨p2, 0, none⟩)] 102))) := Lib.hid (b66.alloc b66.size _)
      have hsl : Sl (w6.alloc (.cells #[.pointer (some ⟨p2, 0, none⟩)] 102)) (some ⟨w6.heap.size, 0, none⟩) 1 1 1 (fun _ => [.pointer (some ⟨p2, 0, none⟩)]) := sl_one w6 [.pointer (some ⟨p2, 0, none⟩)] 102
      have hlr := RR.out.lr
      rw [e1] at hlr
      refine wp_app _ _ _ rfl elTh 0 t1.LA k t1.lc _ rfl (hlr.keep BW3.out) (some ⟨w6.heap.size, 0, none⟩) 1 1 (fun _ => [.pointer (some ⟨p2, 0, none⟩)]) rfl hsl (fun _ _ => rfl) (fun _ _ u hu => by simp at hu; subst hu; rfl) (by unfold maxLen; omega) (by omega) (Nat.zero_le _) ?_
      intro A5 c5 w5 hown5 hg5 hat5
      have hq5 : w5.heap[q]? = (w6.alloc (.cells #[.pointer (some ⟨p2, 0, none⟩)] 102)).heap[q]? := hg5.block q (Nat.lt_of_lt_of_le FQ.out.qlt BW3.out.size) (fun e => by have := RR.out.lL q e.symm; have := RR.out.lq; omega)
      have TT := Lib.hid (RR.out.more e1 BW3.out (hL6.keep ((Below.refl _ _).alloc (Nat.le_refl _) _)) hFl7 CO.out CUu.out hown5 hg5 hat5)
      have fq5 : ∀ i, w5.frozen? ⟨q, i, none⟩ = false := fun i => ((blk_same hq5).2 i).trans ((FQ.out.keep BW3.out).free i)
      have y55 := ((blk_same hq5).1 7).trans SC.1
      have hb5 : ∀ i, w5.cell? ⟨wr.heap.size, i, none⟩ = (w6.alloc (.cells #[.pointer (some ⟨p2, 0, none⟩)] 102)).cell? ⟨wr.heap.size, i, none⟩ := (blk_same (hg5.block wr.heap.size (by simp; omega) (fun e => by have := (RR.out.lr.lt _ e.symm).2; omega))).1
      refine hK _ _ (fun _ => ⟨y55, (hb5 _).trans SC.2.1, (hb5 _).trans SC.2.2.1, (hb5 _).trans SC.2.2.2⟩) ?_
      clear hown5 hg5 hat5 hq5 hsl SB SA SC hb5
      clear hK K
      try simp only [Act.put, List.setIfInBounds_toArray, List.set_cons_zero, List.set_cons_succ]
      refine Hd.one (i := 9) rfl (by kernel_rfl) rfl (fun K hK => ?_)
      go_simp
      refine hK _ _ (fun h => absurd h (by omega)) ?_
      clear hK K
      try simp only [Act.put, List.setIfInBounds_toArray, List.set_cons_zero, List.set_cons_succ]
      refine Hd.one (i := 10) rfl (by kernel_rfl) rfl (fun K hK => ?_)
      go_simp
      refine hK _ _ (fun h => absurd h (by omega)) ?_
      clear hK K
      try simp only [Act.put, List.setIfInBounds_toArray, List.set_cons_zero, List.set_cons_succ]
      refine Hd.one (i := 11) rfl (by kernel_rfl) rfl (fun K hK => ?_)
      go_simp
      refine hK _ _ (fun h => absurd h (by omega)) ?_
      clear hK K
      try simp only [Act.put, List.setIfInBounds_toArray, List.set_cons_zero, List.set_cons_succ]
      refine Hd.done (by kernel_rfl) ?_ _
      go_wp2_with fail
      go_roundw
      case rel =>
        obtain ⟨G2, t2, R2, hG2, ho2, e2, e3⟩ := TT.out
        refine ⟨k + 1, by go_num, by omega, G2, t2, by rw [BS.out]; exact R2, fun j hj => ?_, HO.out.trans ho2 HG.out, e2.trans HCA.out, e3.trans HCC.out⟩
        rcases hG2 j hj with e | e
        · exact HG.out j e
        · exact .inr (Nat.le_trans HO.out.size e)
      case measure => simp [intOf]; omega
    · have e0 : cs.take k = cs := List.take_of_length_le (by omega)
      rw [e0] at RR
      have d0 : decide ((k : Int) < (cs.length : Int)) = false := decide_eq_false (by omega)
      have KK := Lib.hid (show KeptQ w q C G s cs (lnOf s) false (cs.map lnOf) now out wr from ⟨G1, t1, RR.out, HG.out, HO.out⟩)
      clear hCA1 hcc1
      go_wp2_with fail
      go_end0
      exact ⟨rfl, KK.out⟩
end
end Go.Proofs.Ytdhihmeknoofoaa.Ph
