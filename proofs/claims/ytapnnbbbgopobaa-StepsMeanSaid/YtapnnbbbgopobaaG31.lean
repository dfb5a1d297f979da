/-
  WALKS: the program's run of steps: what is told of it.
-/
import Derived.Test.YtapnnbbbgopobaaG30
import Derived.Test.YtapnnbbbgopobaaG26
import Derived.Test.YtapnnbbbgopobaaG23
set_option linter.unusedVariables false
set_option linter.unusedSimpArgs false
namespace Go.Proofs.Ytapnnbbbgopobaa.Ph
open Go.RowKit Cm Mm Ow Ow2 Me Stp StW Rm Sp Sd Sx Sr Pn Pa Pq Pr Pm
open ElM (Cd zeroCd cdL okCd IsCd)
theorem isU_out {w : World} {B : Nat} {O : Option Addr} {n oc : Nat} {out : List Int} (h : Own w B 53 1 O n oc (out.map fun z => [uw z])) : IsU w O n oc out := by
  have hl : out.length = n := by have := h.len; simpa using this
  refine ⟨hl, h.sl.ext (fun i hi => ?_)⟩
  simp [List.getD, show i < out.length by omega]
theorem pout_any {w : World} {q : Nat} {C : Nat → Prop} {G : List Nat} {s : Cd} {cs : List Cd} {m : Mch Ln} (h : RunM w q C G s cs m) (ho : m.out.length ≤ 1000000) :
    Calls Try.prog 23 #[.pointer (some ⟨q, 0, none⟩)] w (GaveU w m.out) := by
  obtain ⟨rc, sd, tl, t, hR, -, -⟩ := h
  have z5 := hR.foc.c5
  have U := Lib.hid (isU_out hR.foc.row)
  clear hR
  go_enter Try.func23, Try.ntmps23
  go_wp2_with fail
  refine (uclone_any _ _ _ m.out w U.out ho).mono ?_
  rintro e w2 ⟨A, n, c, rfl, hr, hb⟩
  go_wp2_with fail
  go_ret
  exact ⟨A, n, c, rfl, hr, hb⟩
theorem clo_done (p : Nat) (b : Bool) (w : World) (h : w.cell? ⟨p, 5, none⟩ = some (.int .i64 (if b then 1 else 0))) : Calls Try.prog 41 #[.pointer (some ⟨p, 0, none⟩)] w fun e w' => e = .returned (.bool (!b)) ∧ w = w' := by
  cases b
  all_goals
    simp only [if_true, if_false, Bool.false_eq_true] at h
    go_enter Try.func41, Try.ntmps41
    go_wp2_with fail
    go_ret
    exact ⟨rfl, rfl⟩
def allEn (l : List Ln) : Bool := l.all (·.en)
theorem idx_done {w : World} {q : Nat} {C : Nat → Prop} {G : List Nat} {s : Cd} {cs : List Cd} {rc : Ln} {sd : Bool} {tl : List Ln} {now out : List Int} {t : Prq} (h : RunQ w q C G s cs rc sd tl now out t) (hn : tl.length ≤ 65536) :
    Calls Try.prog 64 #[.slice t.LA tl.length t.lc, .func (.func 41) #[] #[]] w fun e w' => (∃ z : Int, e = .returned (.int .i64 z) ∧ decide (0 ≤ z) = !allEn tl) ∧ w = w' := by
  have HH := Lib.hid h
  have zl := h.lmax
  clear h
  obtain ⟨n, hn2⟩ : ∃ n, tl.length = n := ⟨_, rfl⟩
  have HN := Lib.hid hn2
  rw [hn2] at zl hn ⊢
  clear hn2
  go_enter Try.func64, Try.ntmps64
  go_wp2_with fail
  go_loop [8] (fun i => ∃ (k : Nat), k ≤ n ∧ i = .int .i64 k ∧ Hid (∀ j (hj : j < tl.length), j < k → tl[j].en = true)) (fun i => n - (intOf i).toNat)
  case atStart => exact ⟨0, by omega, rfl, fun j _ hj => absurd hj (by omega)⟩
  case round =>
    obtain ⟨k, hk, rfl, hlow⟩ := hrel
    by_cases hkn : k < n
    · have hi : k < tl.length := by rw [HN.out]; exact hkn
      obtain ⟨g, hLA, zc⟩ := HH.out.at_th hi
      obtain ⟨p, hp, -, hst⟩ := (HH.out.ll k hi).st w
      rw [hp] at zc
      rw [hLA]
      have k1 : (k : Int) < n := by omega
      cases he : tl[k].en
      · have HE : Hid (allEn tl = false) := Lib.hid (by
          unfold allEn
          rw [List.all_eq_false]
          exact ⟨tl[k], List.getElem_mem hi, by rw [he]; decide⟩)
        rw [he] at hst
        go_wp2_with fail
        refine (clo_done p false w hst).mono ?_
        rintro e w2 ⟨rfl, rfl⟩
        go_wp2_with fail
        go_ret
        exact ⟨⟨k, rfl, by rw [HE.out]; exact decide_eq_true (by omega)⟩, rfl⟩
      · have HL : Hid (∀ j (hj : j < tl.length), j < k + 1 → tl[j].en = true) := Lib.hid (fun j hj hjk => by
          by_cases e : j = k
          · subst e; exact he
          · exact hlow.out j hj (by omega))
        rw [he] at hst
        clear he
        go_wp2_with fail
        refine (clo_done p true w hst).mono ?_
        rintro e w2 ⟨rfl, rfl⟩
        go_wp2_with fail
        go_round
        case rel => exact ⟨k + 1, by omega, by go_num, HL⟩
        case measure => simp [intOf]; omega
    · obtain rfl : k = n := by omega
      have HE : Hid (allEn tl = true) := Lib.hid (by
        unfold allEn
        rw [List.all_eq_true]
        intro x hx
        obtain ⟨j, hj, rfl⟩ := List.mem_iff_getElem.1 hx
        exact hlow.out j hj (by rw [← HN.out]; exact hj))
      go_wp2_with fail
      go_ret
      exact ⟨⟨-1, rfl, by rw [HE.out]; rfl⟩, rfl⟩
theorem has_done {w : World} {q : Nat} {C : Nat → Prop} {G : List Nat} {s : Cd} {cs : List Cd} {rc : Ln} {sd : Bool} {tl : List Ln} {now out : List Int} {t : Prq} (h : RunQ w q C G s cs rc sd tl now out t) (hn : tl.length ≤ 65536) :
    Calls Try.prog 40 #[.slice t.LA tl.length t.lc, .func (.func 41) #[] #[]] w fun e w' => e = .returned (.bool (!allEn tl)) ∧ w = w' := by
  have IX := Lib.hid (idx_done h hn)
  clear h
  generalize allEn tl = b at *
  go_enter Try.func40, Try.ntmps40
  go_wp2_with fail
  refine IX.out.mono ?_
  rintro e w2 ⟨⟨z, rfl, hz⟩, rfl⟩
  have HZ := Lib.hid hz
  clear hz
  go_wp2_with fail
  go_ret
  exact ⟨retb HZ.out, rfl⟩
def doneM (m : Mch Ln) : Bool := m.rc.isNone && allEn m.l
theorem pdone_any {w : World} {q : Nat} {C : Nat → Prop} {G : List Nat} {s : Cd} {cs : List Cd} {m : Mch Ln} (h : RunM w q C G s cs m) (hn : m.l.length ≤ 65536) :
    Calls Try.prog 20 #[.pointer (some ⟨q, 0, none⟩)] w fun e w' => e = .returned (.bool (doneM m)) ∧ w = w' := by
  obtain ⟨rc, sd, tl, t, hR, hf, ht⟩ := h
  have z8 := hR.c8
  have z7 := hR.c7
  cases sd with
  | false =>
    have HD : Hid (doneM m = false) := Lib.hid (by unfold doneM; rw [(hf rfl).1]; rfl)
    clear hR hf ht z7
    go_enter Try.func20, Try.ntmps20
    go_wp2_with fail
    go_ret
    exact ⟨retb HD.out.symm, rfl⟩
  | true =>
    obtain ⟨h1, h2⟩ := ht rfl
    have HD : Hid (doneM m = allEn tl) := Lib.hid (by unfold doneM; rw [h1, h2]; rfl)
    have IX := Lib.hid (has_done hR (by rw [← h2]; exact hn))
    clear hR hf ht h1 h2
    go_enter Try.func20, Try.ntmps20
    go_wp2_with fail
    refine IX.out.mono ?_
    rintro e w2 ⟨rfl, rfl⟩
    go_wp2_with fail
    go_ret
    exact ⟨retb HD.out.symm, rfl⟩
end Go.Proofs.Ytapnnbbbgopobaa.Ph
namespace Go.Proofs.Ytapnnbbbgopobaa.Rq
open Go.RowKit Cm Mm Ow Me Ml Lg Stp Rr Lr Rm Sp Sx Sd Sr Pn Pa Pq Pr Pm Ph Rn
theorem labs_of (cs : List Lay.Cl) (b : Bd) : (Mi.labs (codeOf cs b)).Nodup := by
  unfold codeOf
  rw [Mi.labs_app]
  have e : Mi.labs [sEnd] = [] := rfl
  rw [e, List.append_nil]
  exact (Mi.labs_codeB cs (nmsB b) b (nmsB b).length 0).nodup
theorem begA_al {cs : List Lay.Cl} {b : Bd} (hc : CelB cs b) (hv : varsOf b ≤ 400) {c' : List St} (hi : Ins (codeOf cs b) c') : AlR cs (begA b) ⟨c', freshV (varsOf b : Nat), 0, false⟩ := by
  have hV : (freshV (varsOf b : Nat)).length = varsOf b := by unfold freshV c400; simp; omega
  have hk : (nmsB b).length ≤ varsOf b := Mi.kB_le b _
  have hs : Seg (codeOf cs b) 0 (codeB cs (nmsB b) b (nmsB b).length 0 ++ [sEnd]) := ⟨[], by unfold codeOf; simp⟩
  refine ⟨⟨codeOf cs b, freshV (varsOf b : Nat), 0, false⟩, ⟨?_, ?_, labs_of cs b, rfl⟩, ⟨hi, by simpa using hi, rfl, rfl⟩⟩
  · refine Mi.Cont.row hs.left (Nat.le_refl _) (by show kB b (nmsB b).length ≤ (freshV (varsOf b : Nat)).length; rw [hV]; exact Nat.le_refl _) (ok_body b [] hc (Ext.refl _)) (fun v now out => Rc.refl _ _) (Mi.Cont.done (.inr hs.right))
  · refine ⟨by show (begV b).length = _; unfold begV; simp [begA], by show (nmsB b).length ≤ _; rw [hV]; exact hk, fun i hi => ?_⟩
    show (freshV (varsOf b : Nat)).getD i 0 = (begV b).getD i 0
    unfold freshV begV
    simp [List.getD, List.getElem?_replicate]
    split <;> split <;> rfl
def mchOf (s : Ar) : Mch As := ⟨s.rc, s.ts, s.now, s.out⟩
def arOf (m : Mch As) : Ar := ⟨m.now, m.out, m.rc, m.l⟩
theorem coreA_eq (cs : List Lay.Cl) (s : Ar) (c : Int) : coreA cs s c = if (coreM (goR cs) (mchOf s) c).1 = 2 then none else some ((coreM (goR cs) (mchOf s) c).1 == 0, arOf (coreM (goR cs) (mchOf s) c).2) := by
  obtain ⟨now, out, rc, ts⟩ := s
  by_cases hc : 0 ≤ c ∧ c < ts.length
  · have hl : c.toNat < ts.length := by omega
    have e : ts.getD c.toNat zeroA = ts[c.toNat] := by simp [List.getD, hl]
    have e2 : coreM (goR cs) (mchOf ⟨now, out, rc, ts⟩) c = ((goR cs ts[c.toNat] now out).r, ⟨rc, ts.set c.toNat (goR cs ts[c.toNat] now out).ln, (goR cs ts[c.toNat] now out).now, (goR cs ts[c.toNat] now out).out⟩) := dif_pos hc
    rw [e2]
    unfold coreA
    dsimp only
    rw [if_neg (by omega), e]
    rfl
  · have e2 : coreM (goR cs) (mchOf ⟨now, out, rc, ts⟩) c = (1, mchOf ⟨now, out, rc, ts⟩) := dif_neg hc
    rw [e2]
    unfold coreA
    dsimp only
    rw [if_pos (by omega), if_neg (by decide)]
    rfl
theorem stepA_eq (cs : List Lay.Cl) (tb : List (ByteArray × Bd)) (s : Ar) (c : Int) : stepA cs tb s c = if (stepM (goR cs) (tb.map fun t => begA t.2) (mchOf s) c).1 = 2 then none else some ((stepM (goR cs) (tb.map fun t => begA t.2) (mchOf s) c).1 == 0, arOf (stepM (goR cs) (tb.map fun t => begA t.2) (mchOf s) c).2) := by
  obtain ⟨now, out, rc, ts⟩ := s
  cases rc with
  | none => exact coreA_eq cs ⟨now, out, none, ts⟩ c
  | some a =>
    have h3 : (goA cs a now out).1 = 0 ∨ (goA cs a now out).1 = 1 ∨ (goA cs a now out).1 = 2 := goS_r (cs := cs) (nm := a.nm) 1000 ⟨a.st, a.v, now, out⟩
    have e : (goR cs a now out).r = (goA cs a now out).1 := rfl
    have e2 : (goA cs a now out).1 ≠ 1 → stepM (goR cs) (tb.map fun t => begA t.2) (mchOf ⟨now, out, some a, ts⟩) c = ((goA cs a now out).1, ⟨some (aftA a (goA cs a now out)), ts, (goA cs a now out).2.now, (goA cs a now out).2.out⟩) := fun h => if_neg h
    unfold stepA
    dsimp only
    rcases h3 with h | h | h
    · rw [e2 (by rw [h]; decide), h]
      rfl
    · rw [if_neg (by rw [h]; decide), if_neg (by rw [h]; decide)]
      have e3 : stepM (goR cs) (tb.map fun t => begA t.2) (mchOf ⟨now, out, some a, ts⟩) c = coreM (goR cs) ⟨none, tb.map fun t => begA t.2, (goA cs a now out).2.now, (goA cs a now out).2.out⟩ c := if_pos h
      rw [e3]
      exact coreA_eq cs ⟨(goA cs a now out).2.now, (goA cs a now out).2.out, none, tb.map fun t => begA t.2⟩ c
    · rw [e2 (by rw [h]; decide), h]
      rfl
theorem al_en {cs : List Lay.Cl} {l : List As} {k : List Ln} (h : Two (AlR cs) l k) : l.all (·.en) = allEn k := by
  unfold allEn
  induction h with
  | nil => rfl
  | cons hr _ ih =>
    obtain ⟨m, h1, h2⟩ := hr
    rw [List.all_cons, List.all_cons, ih, h1.en, h2.en]
theorem done_al {cs : List Lay.Cl} {N : Nat} {s : Ar} {m : Mch Ln} (h : Both (AlR cs) N (mchOf s) m) : doneA s = doneM m := by
  unfold doneA doneM
  rw [show s.ts.all (·.en) = allEn m.l from al_en h.l]
  have hr := h.rc
  have e : s.rc.isNone = m.rc.isNone := by
    have h9 : OptR (AlR cs) s.rc m.rc := hr
    cases h1 : s.rc <;> cases h2 : m.rc <;> rw [h1, h2] at h9 <;> first | rfl | exact h9.elim
  rw [e, Bool.and_comm]
theorem goS_len {cs : List Lay.Cl} {nm : List ByteArray} : ∀ (k : Nat) (s : Ss), (goS cs nm k s).2.out.length ≤ s.out.length + 1
  | 0, s => by
    rw [goS]
    split <;> simp
  | k + 1, s => by
    rw [goS]
    split
    · split
      · unfold actS
        repeat' split
        all_goals simp
      · refine Nat.le_trans (goS_len k _) ?_
        unfold quietS
        repeat' split
        all_goals simp
    · simp
theorem out_len {cs : List Lay.Cl} {tb : List (ByteArray × Bd)} {s s' : Ar} {c : Int} {b : Bool} (h : stepA cs tb s c = some (b, s')) : s'.out.length ≤ s.out.length + 2 := by
  have hc : ∀ (s s' : Ar) (b : Bool), coreA cs s c = some (b, s') → s'.out.length ≤ s.out.length + 1 := fun s s' b h => by
    unfold coreA at h
    split at h
    · injection h with h
      injection h with _ h
      rw [← h]; omega
    · split at h
      · cases h
      · injection h with h
        injection h with _ h
        rw [← h]
        exact goS_len _ _
  unfold stepA at h
  split at h
  · have := hc _ _ _ h; omega
  · rename_i a _
    have h1 : (goA cs a s.now s.out).2.out.length ≤ s.out.length + 1 := goS_len 1000 ⟨a.st, a.v, s.now, s.out⟩
    split at h
    · cases h
    · split at h
      · injection h with h
        injection h with _ h
        rw [← h]
        dsimp only
        omega
      · have := hc _ _ _ h
        dsimp only at this
        omega
end Go.Proofs.Ytapnnbbbgopobaa.Rq
namespace Go.Proofs.Ytapnnbbbgopobaa.Rn
open Go.RowKit Cm Mm Ow Me Ml Lg Stp Rr Lr
theorem elPt : El Try.prog 73 72 1 8 := by
  obtain ⟨i, h1, h2, h3, h4⟩ := info_parts (P := Try.prog) (e := 72) (z := .pointer none) (size := 1) (bytes := 8) (by kernel_rfl)
  exact ⟨Try.underlying73, ⟨i, _, h1, h2, h3, h4, rfl⟩, by decide⟩
section
variable {w w' : World} {B0 q : Nat} {f : Rf} {G : List Nat} {now out : List Int} {rec_ l : Value} {ill : Bool}
theorem Rn.y1 (h : Rn w B0 q f G now out rec_ l ill) : w.cell? ⟨q, 1, none⟩ = some (.slice f.tA f.tn f.tc) := by
  obtain ⟨_, _, _, _, _, h⟩ := h
  exact cells_of h.blk rfl
theorem Rn.y2 (h : Rn w B0 q f G now out rec_ l ill) : w.cell? ⟨q, 2, none⟩ = some (.slice f.rA f.rn f.rc) := by
  obtain ⟨_, _, _, _, _, h⟩ := h
  exact cells_of h.blk rfl
theorem Rn.y5 (h : Rn w B0 q f G now out rec_ l ill) : w.cell? ⟨q, 5, none⟩ = some rec_ := by
  obtain ⟨_, _, _, _, _, h⟩ := h
  exact h.y5
theorem Rn.y6 (h : Rn w B0 q f G now out rec_ l ill) : w.cell? ⟨q, 6, none⟩ = some l := by
  obtain ⟨_, _, _, _, _, h⟩ := h
  exact h.y6
theorem Rn.y7 (h : Rn w B0 q f G now out rec_ l ill) : w.cell? ⟨q, 7, none⟩ = some (.bool ill) := by
  obtain ⟨_, _, _, _, _, h⟩ := h
  exact h.y7
theorem Rn.free (h : Rn w B0 q f G now out rec_ l ill) (k : Nat) : w.frozen? ⟨q, k, none⟩ = false := by
  obtain ⟨_, _, _, _, _, h⟩ := h
  exact h.free k
theorem Rn.gq (h : Rn w B0 q f G now out rec_ l ill) : q ∈ G ∧ B0 ≤ q ∧ q < w.heap.size := by
  obtain ⟨_, _, _, _, _, h⟩ := h
  exact ⟨h.gq, h.hq, h.qlt⟩
theorem Rn.setRec (h : Rn w B0 q f G now out rec_ l ill) (v : Value) : Rn (w.setCell ⟨q, 5, none⟩ v) B0 q f G now out v l ill := by
  obtain ⟨NA, nc, OA, on, oc, h⟩ := h
  have hS := only_q w q 5 v
  exact ⟨NA, nc, OA, on, oc, ⟨Lx.blk_set h.blk _, own_only h.nr hS (fun k hk hx => by simp at hx; subst hx; exact h.qn hk), own_only h.or_ hS (fun k hk hx => by simp at hx; subst hx; exact h.qo hk), h.no, h.hq, Fr.cl_only h.cl hS (fun h0 b o m hA hx => by have := h.cb h0 b o m hA; have := h.hq; simp at hx; omega), h.cb, h.gq, h.gn, h.go, h.gg, h.wd, h.w64, h.c2, h.ok, h.ol⟩⟩
theorem Rn.setL (h : Rn w B0 q f G now out rec_ l ill) (v : Value) : Rn (w.setCell ⟨q, 6, none⟩ v) B0 q f G now out rec_ v ill := by
  obtain ⟨NA, nc, OA, on, oc, h⟩ := h
  have hS := only_q w q 6 v
  exact ⟨NA, nc, OA, on, oc, ⟨Lx.blk_set h.blk _, own_only h.nr hS (fun k hk hx => by simp at hx; subst hx; exact h.qn hk), own_only h.or_ hS (fun k hk hx => by simp at hx; subst hx; exact h.qo hk), h.no, h.hq, Fr.cl_only h.cl hS (fun h0 b o m hA hx => by have := h.cb h0 b o m hA; have := h.hq; simp at hx; omega), h.cb, h.gq, h.gn, h.go, h.gg, h.wd, h.w64, h.c2, h.ok, h.ol⟩⟩
end
section
variable {w w' : World} {B0 q : Nat} {f : Rf} {tb : List (ByteArray × Bd)} {rb : Bd} {X : List Nat} {s : Ar} {G : List Nat} {LA : Option Addr} {lc : Nat} {rq : Option (Nat × List Nat)} {tq : List (Nat × List Nat)} {lab : Nat → Nat}
theorem RunV.qL (h : RunV w B0 q f tb rb X s G LA lc rq tq lab) : ∀ g, LA.map (·.block) = some g → g ∉ G := fun g hg hx => by
  have := h.ll g hg
  have := h.lg g hx
  omega
theorem RunV.tG (h : RunV w B0 q f tb rb X s G LA lc rq tq lab) {i : Nat} (hi : i < tq.length) : ∀ g ∈ (tq.getD i zeroQ).2, g ∉ G := fun g hg hx => by
  have := h.lt i hi g hg
  have := h.lg g hx
  omega
theorem RunV.rG {t : Nat × List Nat} (h : RunV w B0 q f tb rb X s G LA lc (some t) tq lab) : ∀ g ∈ t.2, g ∉ G := fun g hg hx => by
  have := h.lr _ rfl g hg
  have := h.lg g hx
  omega
theorem RunV.noRec {now out : List Int} {a : As} (h : RunV w B0 q f tb rb X ⟨now, out, some a, []⟩ G LA lc rq tq lab) : RunV (w.setCell ⟨q, 5, none⟩ (.pointer none)) B0 q f tb rb X ⟨now, out, none, []⟩ G LA lc none tq lab := by
  have hS := only_q w q 5 (.pointer none)
  have htq : tq = [] := List.length_eq_zero_iff.1 (by rw [h.tl]; rfl)
  have hB : ∀ g ∈ [q], B0 ≤ g := fun g hg => by simp at hg; subst hg; exact h.rn.gq.2.1
  exact ⟨h.rn.setRec _, h.pg.only hS hB, own_only h.row hS (fun g hg hx => by simp at hx; subst hx; exact h.qL _ hg h.rn.gq.1), h.tl, fun _ => rfl, fun a e => (by cases e), fun i hi => absurd hi (by rw [htq]; simp), h.lg, h.ll, fun t e => (by cases e), h.lt, h.xg, h.xl, fun t e => (by cases e), h.xt, fun k hk => ⟨(h.xx k hk).1, Nat.lt_of_lt_of_le (h.xx k hk).2 hS.size⟩⟩
theorem RunV.snoc {now out : List Int} {ts : List As} (h : RunV w B0 q f tb rb X ⟨now, out, none, ts⟩ G LA lc none tq lab) {w1 w2 : World} (hb : Below w.heap.size w w1) {t : Nat × List Nat} {a : As} (hst : StA w1 B0 f.cs t a) (hF : ∀ g ∈ t.2, w.heap.size ≤ g) {LA2 : Option Addr} {c2 : Nat} (hown : Own w2 B0 72 1 LA2 (tq.length + 1) c2 ((tq ++ [t]).map ptrL)) (ho : Only (LA.map (·.block)).toList w1 w2) (hat : LA2.map (·.block) = LA.map (·.block) ∨ ∀ b, LA2.map (·.block) = some b → w1.heap.size ≤ b) :
    ∃ X' LA3 c3, RunV (w2.setCell ⟨q, 6, none⟩ (.slice LA2 (tq.length + 1) c2)) B0 q f tb rb X' ⟨now, out, none, ts ++ [a]⟩ G LA3 c3 none (tq ++ [t]) (fun k => if k < w.heap.size then lab k else if LA2.map (·.block) = some k then 1 else 3 + tq.length) ∧ Only X w (w2.setCell ⟨q, 6, none⟩ (.slice LA2 (tq.length + 1) c2)) ∧ ∀ k ∈ X', k ∈ X ∨ w.heap.size ≤ k := by
  have hS := only_q w2 q 6 (.slice LA2 (tq.length + 1) c2)
  have h1 := h.keep hb
  have hB1 : ∀ g ∈ (LA.map (·.block)).toList, B0 ≤ g := fun g hg => (h.row.lt g (Fr.mem_blk.1 hg)).1
  have hq := h.rn.gq
  have hBq : ∀ g ∈ [q], B0 ≤ g := fun g hg => by simp at hg; subst hg; exact hq.2.1
  have hti := h.tl
  have hsz := hb.size
  have hsz2 := ho.size
  have hL2 : ∀ k, LA2.map (·.block) = some k → k ∉ t.2 := fun k hk hx => by
    rcases hat with e | e
    · have := (h.row.lt k (e ▸ hk)).2; have := hF k hx; omega
    · have := e k hk; have := (hst.1.ge k hx).2; omega
  have hq2 : ∀ k, LA2.map (·.block) = some k → k ≠ q := fun k hk e => by
    subst e
    rcases hat with e | e
    · exact h.qL _ (e ▸ hk) hq.1
    · have := e _ hk; have := hq.2.2; omega
  have hqt : q ∉ t.2 := fun hx => by have := hF q hx; have := hq.2.2; omega
  have hgq : ∀ j, (tq ++ [t]).getD j zeroQ = if j = tq.length then t else tq.getD j zeroQ := fun j => by
    by_cases hj : j = tq.length
    · subst hj
      simp [List.getD]
    · rw [if_neg hj]
      simp only [List.getD]
      by_cases hj2 : j < tq.length
      · rw [List.getElem?_append_left hj2]
      · rw [List.getElem?_eq_none (by simp; omega), List.getElem?_eq_none (by omega)]
  have hga : ∀ j, (ts ++ [a]).getD j zeroA = if j = tq.length then a else ts.getD j zeroA := fun j => by
    have hl : ts.length = tq.length := hti.symm
    by_cases hj : j = tq.length
    · subst hj
      rw [if_pos rfl, ← hl]
      simp [List.getD]
    · rw [if_neg hj]
      simp only [List.getD]
      by_cases hj2 : j < ts.length
      · rw [List.getElem?_append_left hj2]
      · rw [List.getElem?_eq_none (by simp; omega), List.getElem?_eq_none (by omega)]
  have oS : Only X w (w2.setCell ⟨q, 6, none⟩ (.slice LA2 (tq.length + 1) c2)) := (((Only.of_below hb).seq (ho.more (fun g hg => h.xl g (Fr.mem_blk.1 hg)))).setCell (p := ⟨q, 6, none⟩) (h.xg q hq.1) _)
  refine ⟨X ++ ((LA2.map (·.block)).toList ++ t.2), LA2, c2, ⟨?_, (h1.pg.only ho hB1).only hS hBq, ?_, by simp [hti], fun _ => rfl, fun a e => (by cases e), fun j hj => ?_, fun k hk => ?_, fun k hk => ?_, fun t e => (by cases e), fun j hj k hk => ?_, fun k hk => by simp [h.xg k hk], fun k hk => by simp [hk], fun t e => (by cases e), fun j hj k hk => ?_, fun k hk => ?_⟩, oS, fun k hk => ?_⟩
  · have e := (h1.rn.only ho (fun g hg => ⟨hB1 g hg, h.qL g (Fr.mem_blk.1 hg)⟩)).setL (.slice LA2 (tq.length + 1) c2)
    rw [List.length_append]
    exact e
  · rw [List.length_append]
    exact own_only hown hS (fun g hg hx => by simp at hx; exact hq2 g hg hx)
  · rw [hgq, hga]
    by_cases e : j = tq.length
    · rw [if_pos e, if_pos e]
      exact ⟨(hst.1.only ho (fun g hg => ⟨hB1 g hg, fun hx => by have := hF g hx; have := (h.row.lt g (Fr.mem_blk.1 hg)).2; omega⟩)).only hS (fun g hg => ⟨hBq g hg, by simp at hg; subst hg; exact hqt⟩), hst.2⟩
    · rw [if_neg e, if_neg e]
      have hj2 : j < tq.length := by simp at hj; omega
      refine ⟨((h1.th j hj2).1.only ho (fun g hg => ⟨hB1 g hg, fun hx => ?_⟩)).only hS (fun g hg => ⟨hBq g hg, fun hx => ?_⟩), (h1.th j hj2).2⟩
      · have := h.lt j hj2 g hx; have := h.ll g (Fr.mem_blk.1 hg); omega
      · simp at hg
        subst hg
        have := h.lt j hj2 _ hx; have := h.lg _ hq.1; omega
  · try dsimp only
    rw [if_pos (h.xx k (h.xg k hk)).2]
    exact h.lg k hk
  · try dsimp only
    split
    · rename_i hlt
      rcases hat with e | e
      · exact h.ll k (e ▸ hk)
      · have := e k hk; omega
    · first | rfl | rw [if_pos hk]
  · rw [hgq] at hk
    try dsimp only
    by_cases e : j = tq.length
    · rw [if_pos e] at hk
      rw [if_neg (by have := hF k hk; omega), if_neg (fun e2 => hL2 k e2 hk), e]
    · rw [if_neg e] at hk
      have hj2 : j < tq.length := by simp at hj; omega
      rw [if_pos (h.xx k (h.xt j hj2 k hk)).2]
      exact h.lt j hj2 k hk
  · rw [hgq] at hk
    by_cases e : j = tq.length
    · rw [if_pos e] at hk
      simp [hk]
    · rw [if_neg e] at hk
      simp [h.xt j (by simp at hj; omega) k hk]
  · rcases List.mem_append.1 hk with hk | hk
    · exact ⟨(h.xx k hk).1, Nat.lt_of_lt_of_le (h.xx k hk).2 oS.size⟩
    · rcases List.mem_append.1 hk with hk | hk
      · have := hown.lt k (Fr.mem_blk.1 hk)
        exact ⟨this.1, Nat.lt_of_lt_of_le this.2 hS.size⟩
      · have := hst.1.ge k hk
        exact ⟨this.1, Nat.lt_of_lt_of_le this.2 (Nat.le_trans ho.size hS.size)⟩
  · rcases List.mem_append.1 hk with hk | hk
    · exact .inl hk
    · rcases List.mem_append.1 hk with hk | hk
      · rcases hat with e | e
        · exact .inl (h.xl k (e ▸ Fr.mem_blk.1 hk))
        · exact .inr (Nat.le_trans hsz (e k (Fr.mem_blk.1 hk)))
      · exact .inr (hF k hk)
end
theorem goS_out {cs : List Lay.Cl} {nm : List ByteArray} : ∀ (k : Nat) (s : Ss), (goS cs nm k s).2.out.length ≤ s.out.length + 1
  | 0, s => by
    rw [goS]
    split <;> simp
  | k + 1, s => by
    rw [goS]
    split
    · split
      · unfold actS
        repeat' split
        all_goals simp
      · refine Nat.le_trans (goS_out k _) ?_
        unfold quietS
        repeat' split
        all_goals simp
    · simp
def StepR (w : World) (B0 q : Nat) (f : Rf) (tb : List (ByteArray × Bd)) (rb : Bd) (X : List Nat) : Option (Bool × Ar) → Ending → World → Prop
  | none, e, w' => (∃ b, e = .returned (.bool b)) ∧ w'.cell? ⟨q, 7, none⟩ = some (.bool true) ∧ Only X w w'
  | some r, e, w' => e = .returned (.bool r.1) ∧ (∃ X', Run w' B0 q f tb rb X' r.2 ∧ ∀ k ∈ X', k ∈ X ∨ w.heap.size ≤ k) ∧ Only X w w'
theorem StepR.behind {w w1 w' : World} {B0 q : Nat} {f : Rf} {tb : List (ByteArray × Bd)} {rb : Bd} {X X1 : List Nat} {r : Option (Bool × Ar)} {e : Ending} (h : StepR w1 B0 q f tb rb X1 r e w') (ho : Only X w w1) (hX : ∀ k ∈ X1, k ∈ X ∨ w.heap.size ≤ k) : StepR w B0 q f tb rb X r e w' := by
  cases r with
  | none => exact ⟨h.1, h.2.1, ho.trans h.2.2 hX⟩
  | some r =>
    obtain ⟨h1, ⟨X', h2, h3⟩, h4⟩ := h
    exact ⟨h1, ⟨X', h2, fun k hk => by
      rcases h3 k hk with e | e
      · exact hX k e
      · exact .inr (Nat.le_trans ho.size e)⟩, ho.trans h4 hX⟩
theorem core_went {w w' : World} {B0 q : Nat} {f : Rf} {tb : List (ByteArray × Bd)} {rb : Bd} {X : List Nat} {s : Ar} {G : List Nat} {LA : Option Addr} {lc : Nat} {tq : List (Nat × List Nat)} {lab : Nat → Nat} (h : RunV w B0 q f tb rb X s G LA lc none tq lab) (hrc : s.rc = none) {i : Nat} (hi : i < tq.length) {e : Ending} (hW : GoA w B0 q (tq.getD i zeroQ).1 f G (tq.getD i zeroQ).2 (recV none) (.slice LA tq.length lc) (s.ts.getD i zeroA).nm (s.ts.getD i zeroA).en (goA f.cs (s.ts.getD i zeroA) s.now s.out) e w') : StepR w B0 q f tb rb X (coreA f.cs s i) e w' := by
  have hl := h.tl
  unfold coreA
  rw [if_neg (by omega)]
  simp only [Int.toNat_natCast]
  by_cases h2 : (goA f.cs (s.ts.getD i zeroA) s.now s.out).1 = 2
  · rw [if_pos h2]
    obtain ⟨h1, G', F', hR, hS, hO, hG, hF, hd⟩ := hW
    refine ⟨⟨_, h1⟩, ?_, hO.more (fun g hg => ?_)⟩
    · have := hR.y7
      rw [h2] at this
      exact this
    · rcases List.mem_append.1 hg with hg | hg
      · exact h.xg g hg
      · exact h.xt i hi g hg
  · rw [if_neg h2]
    obtain ⟨h1, X', h3, h4, h5⟩ := h.wentThr hi hrc hW h2
    exact ⟨h1, ⟨X', h3, h5⟩, h4⟩
set_option maxRecDepth 20000 in
set_option maxHeartbeats 12800000 in
theorem step13_any {w : World} {B0 q : Nat} {f : Rf} {tb : List (ByteArray × Bd)} {rb : Bd} {X : List Nat} {s : Ar} (h : Run w B0 q f tb rb X s) (hout : s.out.length < 900000) (c : Int) :
    Calls Try.prog 15 #[.pointer (some ⟨q, 0, none⟩), .int .i64 c] w (StepR w B0 q f tb rb X (stepA f.cs tb s c)) := by
  obtain ⟨G1, LA1, lc1, rq1, tq1, lab1, h⟩ := h
  have H := Lib.hid h
  have HOUT := Lib.hid hout
  have y5 := h.rn.y5
  clear h hout
  obtain ⟨s1, hs1⟩ : ∃ x, x = s := ⟨_, rfl⟩
  have HS1 := Lib.hid hs1
  subst hs1
  cases hrc : s1.rc with
  | none =>
    have hrq := H.out.r0 hrc
    subst hrq
    have HRC := Lib.hid hrc
    have HE : Hid (stepA f.cs tb s1 c = coreA f.cs s1 c) := Lib.hid (by unfold stepA; rw [hrc])
    rw [HE.out]
    clear hrc
    unfold recV at y5
    go_enter Try.func15, Try.ntmps15
    go_upto_region 11 with fail
    have TL := H.out.tl
    have y6 := H.out.rn.y6
    by_cases hc0 : c < 0
    · have d1 : decide (c < 0) = true := decide_eq_true hc0
      have FN := Lib.hid ((fun e w5 (hh : StepR w B0 q f tb rb X (coreA f.cs s1 c) e w5) => hh) (.returned (.bool false)) w (by
        unfold coreA
        rw [if_pos (.inl hc0)]
        exact ⟨rfl, ⟨_, ⟨_, _, _, _, _, _, H.out⟩, fun k hk => .inl hk⟩, Only.refl _ _⟩))
      clear TL
      go_wp2_with fail
      go_ret
      exact FN.out
    · have d1 : decide (c < 0) = false := decide_eq_false hc0
      by_cases hc1 : (tq1.length : Int) ≤ c
      · have d2 : decide ((tq1.length : Int) ≤ c) = true := decide_eq_true hc1
        have FN := Lib.hid ((fun e w5 (hh : StepR w B0 q f tb rb X (coreA f.cs s1 c) e w5) => hh) (.returned (.bool false)) w (by
          unfold coreA
          rw [if_pos (.inr (by rw [← TL]; exact hc1))]
          exact ⟨rfl, ⟨_, ⟨_, _, _, _, _, _, H.out⟩, fun k hk => .inl hk⟩, Only.refl _ _⟩))
        clear TL
        go_wp2_with fail
        go_ret
        exact FN.out
      · have d2 : decide ((tq1.length : Int) ≤ c) = false := decide_eq_false hc1
        obtain ⟨i, rfl⟩ : ∃ i : Nat, c = i := ⟨c.toNat, by omega⟩
        have hi : i < tq1.length := by omega
        have hii : (i : Int) < (tq1.length : Int) := by omega
        obtain ⟨lb, lo, hLA, hlb, hcel⟩ := H.out.row.sl.at_ (by omega)
        have k0 : w.cell? ⟨lb, lo + i, none⟩ = some (.pointer (some ⟨(tq1.getD i zeroQ).1, 0, none⟩)) := by
          have := hcel i hi 0 (by omega)
          simpa [List.getD, hi, ptrL] using this
        rw [hLA] at y6
        have GO := Lib.hid (go1_any H.out.rn (H.out.th i hi).1 (H.out.tG hi) (H.out.th i hi).2 (by have := HOUT.out; omega))
        have FN : Hid (∀ e w5, GoA w B0 q (tq1.getD i zeroQ).1 f G1 (tq1.getD i zeroQ).2 (recV none) (.slice LA1 tq1.length lc1) (s1.ts.getD i zeroA).nm (s1.ts.getD i zeroA).en (goA f.cs (s1.ts.getD i zeroA) s1.now s1.out) e w5 → _) := Lib.hid (fun e w5 hW => (fun e w5 (hh : StepR w B0 q f tb rb X (coreA f.cs s1 (i : Int)) e w5) => hh) e w5 (core_went H.out HRC.out hi hW))
        have HLA := Lib.hid hLA
        obtain ⟨pi, hpi⟩ : ∃ x, (tq1.getD i zeroQ).1 = x := ⟨_, rfl⟩
        rw [hpi] at k0 GO FN
        clear TL hcel hLA hpi
        go_wp2_with fail
        refine GO.out.mono ?_
        rintro e w5 hW
        obtain rfl := hW.1
        have HW := Lib.hid hW
        clear hW
        go_wp2_with fail
        go_ret
        exact FN.out _ _ HW.out
  | some a =>
    obtain ⟨hts, t, ht, hst⟩ := H.out.r1 a hrc
    subst ht
    have HRC := Lib.hid hrc
    have HTS := Lib.hid hts
    have HST := Lib.hid hst
    unfold recV at y5
    dsimp only at y5
    have GO := Lib.hid (go1_any H.out.rn hst.1 H.out.rG hst.2 (by have := HOUT.out; omega))
    obtain ⟨tp, tF⟩ := t
    dsimp only at y5 GO HST
    clear hrc hts hst
    go_enter Try.func15, Try.ntmps15
    go_wp2_with fail
    refine GO.out.mono ?_
    rintro e w2 hW
    obtain rfl := hW.1
    have HW := Lib.hid hW
    clear hW GO y5
    obtain ⟨bx, hbx⟩ : ∃ b, ((goS f.cs a.nm 1000 ⟨a.st, a.v, s1.now, s1.out⟩).1 == 0) = b := ⟨_, rfl⟩
    rw [hbx]
    have HBX := Lib.hid hbx
    clear hbx
    cases bx with
    | true =>
      have h0 : (goA f.cs a s1.now s1.out).1 = 0 := by
        have : (goS f.cs a.nm 1000 ⟨a.st, a.v, s1.now, s1.out⟩).1 = 0 := by have := HBX.out; simpa using this
        exact this
      obtain ⟨k1, G', F', lab', k2, k3, k4⟩ := H.out.wentRec HRC.out HW.out (by rw [h0]; decide)
      have FN : Hid (StepR w B0 q f tb rb X (stepA f.cs tb s1 c) (.returned (.bool true)) w2) := Lib.hid (by
        unfold stepA
        rw [HRC.out]
        dsimp only
        rw [if_neg (by rw [h0]; decide), if_pos h0]
        exact ⟨rfl, ⟨_, ⟨_, _, _, _, _, _, k2⟩, k4⟩, k3⟩)
      clear k1 k2 k3 k4 h0
      go_wp2_with fail
      go_ret
      exact FN.out
    | false =>
      have h0 : (goA f.cs a s1.now s1.out).1 ≠ 0 := by
        have : ¬ (goS f.cs a.nm 1000 ⟨a.st, a.v, s1.now, s1.out⟩).1 = 0 := by have := HBX.out; simpa using this
        exact this
      by_cases h2 : (goA f.cs a s1.now s1.out).1 = 2
      · obtain ⟨-, G', F', hR, hS, hO, -, -, -⟩ := HW.out
        have FN : Hid (StepR w B0 q f tb rb X (stepA f.cs tb s1 c) (.returned (.bool false)) w2) := Lib.hid (by
          unfold stepA
          rw [HRC.out]
          dsimp only
          rw [if_pos h2]
          refine ⟨⟨_, rfl⟩, ?_, hO.more (fun g hg => ?_)⟩
          · have := hR.y7
            have e2 : (goS f.cs a.nm 1000 ⟨a.st, a.v, s1.now, s1.out⟩).1 = 2 := h2
            rw [e2] at this
            exact this
          · rcases List.mem_append.1 hg with hg | hg
            · exact H.out.xg g hg
            · exact H.out.xr _ rfl g hg)
        have y5 := hR.y5
        have y3 := hS.y3
        have e2 : (goS f.cs a.nm 1000 ⟨a.st, a.v, s1.now, s1.out⟩).1 = 2 := h2
        rw [e2] at y3
        rw [show ((2 : Nat) == 2) = true from rfl] at y3
        unfold recV at y5
        dsimp only at y5
        clear hR hS hO h0 h2 e2
        go_wp2_with fail
        go_ret
        exact FN.out
      · obtain ⟨-, G1, F', lab2, hR2, hO2, hX2⟩ := H.out.wentRec HRC.out HW.out h2
        rw [HTS.out] at hR2
        have hst2 := (hR2.r1 _ rfl).2
        obtain ⟨t2, ht2, hst2⟩ := hst2
        injection ht2 with ht2
        subst ht2
        have y5 := hR2.rn.y5
        have y3 := hst2.1.y3
        have yf := hR2.rn.free
        unfold recV at y5
        dsimp only at y5 y3
        have R3 := Lib.hid hR2.noRec
        have hE : stepA f.cs tb s1 c = coreA f.cs ⟨(goA f.cs a s1.now s1.out).2.now, (goA f.cs a s1.now s1.out).2.out, none, tb.map fun t => begA t.2⟩ c := by
          unfold stepA
          rw [HRC.out]
          dsimp only
          rw [if_neg h2, if_neg h0]
        have hou : (goA f.cs a s1.now s1.out).2.out.length < 900001 := by
          have := goS_out (cs := f.cs) (nm := a.nm) 1000 ⟨a.st, a.v, s1.now, s1.out⟩
          have h9 := HOUT.out
          unfold goA
          dsimp only at this
          omega
        have hq2 := hR2.xg q hR2.rn.gq.1
        have O3 := Lib.hid (hO2.trans (only_q w2 q 5 (.pointer none)) (fun g hg => by simp at hg; subst hg; exact .inl (H.out.xg _ H.out.rn.gq.1)))
        have HX3 := Lib.hid hX2
        generalize (goA f.cs a s1.now s1.out).2.now = now2 at *
        generalize (goA f.cs a s1.now s1.out).2.out = out2 at *
        have HE := Lib.hid hE
        have HOU := Lib.hid hou
        generalize X ++ (_ ++ F') = X3 at *
        clear hR2 hO2 hX2 hst2 HW h0 h2 hE hou HST HRC HTS hq2
        go_wp2_with fail
        go_loopw [5] (fun i wr => ∃ (k : Nat) (X2 : List Nat) (LA2 : Option Addr) (lc2 : Nat) (tq2 : List (Nat × List Nat)) (lab3 : Nat → Nat), k ≤ f.tn ∧ i = .int .i64 k ∧ RunV wr B0 q f tb rb X2 ⟨now2, out2, none, (tb.take k).map fun t => begA t.2⟩ G1 LA2 lc2 none tq2 lab3 ∧ Only X w wr ∧ ∀ g ∈ X2, g ∈ X ∨ w.heap.size ≤ g) (fun i _ => f.tn - (intOf i).toNat)
        case atStart => exact ⟨0, _, _, _, _, _, by omega, rfl, R3.out, O3.out, HX3.out⟩
        case round =>
          obtain ⟨k, X2, LA2, lc2, tq2, lab3, hk, rfl, hR4, hO4, hX4⟩ := hrel
          have R4 := Lib.hid hR4
          have O4 := Lib.hid hO4
          have HX4 := Lib.hid hX4
          have ht4 := hR4.pg.t4
          have y1 := hR4.rn.y1
          have y6 := hR4.rn.y6
          have TK : Hid (tq2.length = k) := Lib.hid (by
            have e1 := hR4.tl
            have e2 := hR4.pg.tl
            rw [e1]
            simp
            omega)
          clear hR4 hO4 hX4 R3 O3 HX3
          by_cases hkn : k < f.tn
          · have hki : (k : Int) < (f.tn : Int) := by omega
            have d1 : decide ((k : Int) < (f.tn : Int)) = true := decide_eq_true hki
            obtain ⟨tbk, to_, BA, bn, bc, hA, hbB, hbl, c1, hbd, hbz, hcel⟩ := R4.out.pg.th k hkn
            have HBD := Lib.hid hbd
            have HBZ := Lib.hid hbz
            have HCB := Lib.hid hcel
            have HTL := Lib.hid R4.out.pg.tl
            rw [hA] at y1
            clear hA hbd hbz hcel
            go_upto_region 10 with fail
            obtain ⟨WD, hWD⟩ : ∃ w', wr.drew = w' := ⟨_, rfl⟩
            have HWD : Hid (Below wr.heap.size wr WD) := Lib.hid (by rw [← hWD]; exact (Below.refl _ _).drew)
            have SA : WD.cell? ⟨q, 1, none⟩ = some (.slice (some ⟨tbk, to_, none⟩) f.tn f.tc) ∧ WD.cell? ⟨q, 6, none⟩ = some (.slice LA2 tq2.length lc2) ∧ WD.cell? ⟨tbk, to_ + k * 2 + 1, none⟩ = some (.slice BA bn bc) := by
              rw [← hWD]
              exact ⟨y1, y6, c1⟩
            refine Hd.start 17 (fun w' => w'.cell? ⟨q, 1, none⟩ = some (.slice (some ⟨tbk, to_, none⟩) f.tn f.tc) ∧ w'.cell? ⟨q, 6, none⟩ = some (.slice LA2 tq2.length lc2) ∧ w'.cell? ⟨tbk, to_ + k * 2 + 1, none⟩ = some (.slice BA bn bc)) (by kernel_rfl) ?_
            try rw [hWD]
            clear hWD y1 y6 c1
            have RD := Lib.hid (R4.out.keep HWD.out)
            have hql : q < WD.heap.size := RD.out.rn.gq.2.2
            have hbl2 : tbk < WD.heap.size := Nat.lt_of_lt_of_le hbl HWD.out.size
            refine Hd.take (i := 0) (v := ?vg0) rfl (by decide +kernel) (by decide +kernel) (fun _ _ _ h => h) rfl ?hyg0 SA ?restg0
            case hyg0 =>
              intro wq hSw
              obtain ⟨s1, s2, s3⟩ := hSw
              go_simp
              try with_reducible rfl
            try simp only [Act.put, zA, zB, zC]
            refine Hd.take (i := 1) (v := ?vg1) rfl (by decide +kernel) (by decide +kernel) (fun _ _ _ h => h) rfl ?hyg1 SA ?restg1
            case hyg1 =>
              intro wq hSw
              obtain ⟨s1, s2, s3⟩ := hSw
              go_simp
              try with_reducible rfl
            try simp only [Act.put, zA, zB, zC]
            refine Hd.take (i := 2) (v := ?vg2) rfl (by decide +kernel) (by decide +kernel) (fun _ _ _ h => h) rfl ?hyg2 SA ?restg2
            case hyg2 =>
              intro wq hSw
              obtain ⟨s1, s2, s3⟩ := hSw
              go_simp
              try with_reducible rfl
            try simp only [Act.put, zA, zB, zC]
            refine Hd.take (i := 3) (v := ?vg3) rfl (by decide +kernel) (by decide +kernel) (fun _ _ _ h => h) rfl ?hyg3 SA ?restg3
            case hyg3 =>
              intro wq hSw
              obtain ⟨s1, s2, s3⟩ := hSw
              go_simp
              try with_reducible rfl
            try simp only [Act.put, zA, zB, zC]
            refine Hd.take (i := 4) (v := ?vg4) rfl (by decide +kernel) (by decide +kernel) (fun _ _ _ h => h) rfl ?hyg4 SA ?restg4
            case hyg4 =>
              intro wq hSw
              obtain ⟨s1, s2, s3⟩ := hSw
              go_simp
              try with_reducible rfl
            try simp only [Act.put, zA, zB, zC]
            refine Hd.take (i := 5) (v := ?vg5) rfl (by decide +kernel) (by decide +kernel) (fun _ _ _ h => h) rfl ?hyg5 SA ?restg5
            case hyg5 =>
              intro wq hSw
              obtain ⟨s1, s2, s3⟩ := hSw
              go_simp
              try with_reducible rfl
            try simp only [Act.put, zA, zB, zC]
            refine Hd.take (i := 6) (v := ?vg6) rfl (by decide +kernel) (by decide +kernel) (fun _ _ _ h => h) rfl ?hyg6 SA ?restg6
            case hyg6 =>
              intro wq hSw
              obtain ⟨s1, s2, s3⟩ := hSw
              go_simp
              try with_reducible rfl
            try simp only [Act.put, zA, zB, zC]
            refine Hd.take (i := 7) (v := ?vg7) rfl (by decide +kernel) (by decide +kernel) (fun _ _ _ h => h) rfl ?hyg7 SA ?restg7
            case hyg7 =>
              intro wq hSw
              obtain ⟨s1, s2, s3⟩ := hSw
              go_simp
              try with_reducible rfl
            try simp only [Act.put, zA, zB, zC]
            refine Hd.take (i := 8) (v := ?vg8) rfl (by decide +kernel) (by decide +kernel) (fun _ _ _ h => h) rfl ?hyg8 SA ?restg8
            case hyg8 =>
              intro wq hSw
              obtain ⟨s1, s2, s3⟩ := hSw
              go_simp
              try with_reducible rfl
            try simp only [Act.put, zA, zB, zC]
            refine Hd.take (i := 9) (v := ?vg9) rfl (by decide +kernel) (by decide +kernel) (fun _ _ _ h => h) rfl ?hyg9 SA ?restg9
            case hyg9 =>
              intro wq hSw
              obtain ⟨s1, s2, s3⟩ := hSw
              go_simp
              try with_reducible rfl
            try simp only [Act.put, zA, zB, zC]
            refine Hd.take (i := 10) (v := ?vg10) rfl (by decide +kernel) (by decide +kernel) (fun _ _ _ h => h) rfl ?hyg10 SA ?restg10
            case hyg10 =>
              intro wq hSw
              obtain ⟨s1, s2, s3⟩ := hSw
              go_simp
              try with_reducible rfl
            try simp only [Act.put, zA, zB, zC]
            refine Hd.take (i := 11) (v := ?vg11) rfl (by decide +kernel) (by decide +kernel) (fun _ _ _ h => h) rfl ?hyg11 SA ?restg11
            case hyg11 =>
              intro wq hSw
              obtain ⟨s1, s2, s3⟩ := hSw
              go_simp
              try with_reducible rfl
            try simp only [Act.put, zA, zB, zC]
            refine Hd.take (i := 12) (v := ?vg12) rfl (by decide +kernel) (by decide +kernel) (fun _ _ _ h => h) rfl ?hyg12 SA ?restg12
            case hyg12 =>
              intro wq hSw
              obtain ⟨s1, s2, s3⟩ := hSw
              go_simp
              try with_reducible rfl
            try simp only [Act.put, zA, zB, zC]
            refine Hd.take (i := 13) (v := ?vg13) rfl (by decide +kernel) (by decide +kernel) (fun _ _ _ h => h) rfl ?hyg13 SA ?restg13
            case hyg13 =>
              intro wq hSw
              obtain ⟨s1, s2, s3⟩ := hSw
              go_simp
              try with_reducible rfl
            try simp only [Act.put, zA, zB, zC]
            refine Hd.one (i := 14) rfl (by kernel_rfl) rfl (fun K hK => ?_)
            go_simp
            refine (begun_any (B0 := B0) (isP_only (Only.of_below (F := []) HWD.out) (fun g hg => by cases hg) HBD.out) (by have := RD.out.rn.gq.2; omega) HBZ.out).mono ?_
            rintro e w3 ⟨np, nF, rfl, hnS, hb3, hnF⟩
            have SB : w3.cell? ⟨q, 1, none⟩ = some (.slice (some ⟨tbk, to_, none⟩) f.tn f.tc) ∧ w3.cell? ⟨q, 6, none⟩ = some (.slice LA2 tq2.length lc2) ∧ w3.cell? ⟨tbk, to_ + k * 2 + 1, none⟩ = some (.slice BA bn bc) := ⟨(hb3.cell (p := ⟨q, 1, none⟩) hql).trans SA.1, (hb3.cell (p := ⟨q, 6, none⟩) hql).trans SA.2.1, (hb3.cell (p := ⟨tbk, to_ + k * 2 + 1, none⟩) hbl2).trans SA.2.2⟩
            refine hK _ _ (fun _ => SB) ?_
            have NS := Lib.hid hnS
            have NF := Lib.hid hnF
            have B3 := Lib.hid hb3
            clear hK K hnS hnF SA
            try simp only [Act.put, zA, zB, zC]
            have hs3 := hb3.size
            have SC : (w3.alloc (.cells #[.pointer (some ⟨np, 0, none⟩)] 72)).cell? ⟨q, 1, none⟩ = some (.slice (some ⟨tbk, to_, none⟩) f.tn f.tc) ∧ (w3.alloc (.cells #[.pointer (some ⟨np, 0, none⟩)] 72)).cell? ⟨q, 6, none⟩ = some (.slice LA2 tq2.length lc2) ∧ (w3.alloc (.cells #[.pointer (some ⟨np, 0, none⟩)] 72)).cell? ⟨tbk, to_ + k * 2 + 1, none⟩ = some (.slice BA bn bc) := ⟨(World.cell?_alloc_lt _ _ _ (show q < w3.heap.size by omega)).trans SB.1, (World.cell?_alloc_lt _ _ _ (show q < w3.heap.size by omega)).trans SB.2.1, (World.cell?_alloc_lt _ _ _ (show tbk < w3.heap.size by omega)).trans SB.2.2⟩
            refine Hd.one (i := 15) rfl (by kernel_rfl) rfl (fun K hK => ?_)
            go_simp
            refine hK _ _ (fun _ => SC) ?_
            clear hK K
            try simp only [Act.put, zA, zB, zC]
            refine Hd.one (i := 16) rfl (by kernel_rfl) rfl (fun K hK => ?_)
            refine wp_app _ _ _ rfl elPt B0 LA2 tq2.length lc2 (tq2.map ptrL) rfl ((RD.out.row.keep B3.out).keep (below_new _ _)) (some ⟨w3.heap.size, 0, none⟩) 1 1 (fun _ => [.pointer (some ⟨np, 0, none⟩)]) rfl (sl_one w3 [.pointer (some ⟨np, 0, none⟩)] 72) (fun _ _ => rfl) (fun _ _ u hu => by simp at hu; subst hu; rfl) (by have := TK.out; unfold maxLen; omega) (by have := TK.out; omega) (Nat.le_trans (show B0 ≤ w3.heap.size by have := RD.out.rn.gq.2; omega) (below_new _ _).size) ?_
            intro A5 c5 w5 hown5 hg5 hat5
            have hO5 := grown_out2 hg5
            have hat6 : A5.map (·.block) = LA2.map (·.block) ∨ ∀ b, A5.map (·.block) = some b → w3.heap.size ≤ b := hat5.imp id (fun e b hb => by rw [e] at hb; injection hb with hb; subst hb; simp)
            have hown6 : Own w5 B0 72 1 A5 (tq2.length + 1) c5 ((tq2 ++ [(np, nF)]).map ptrL) := by simpa [ptrL] using hown5
            have hqL : q ∉ (LA2.map (·.block)).toList := fun hx => RD.out.qL q (Fr.mem_blk.1 hx) RD.out.rn.gq.1
            have SE : w5.cell? ⟨q, 1, none⟩ = some (.slice (some ⟨tbk, to_, none⟩) f.tn f.tc) ∧ w5.cell? ⟨q, 6, none⟩ = some (.slice LA2 tq2.length lc2) ∧ w5.cell? ⟨tbk, to_ + k * 2 + 1, none⟩ = some (.slice BA bn bc) := ⟨(only_cell hO5 (show q < w3.heap.size by omega) hqL 1).trans SB.1, (only_cell hO5 (show q < w3.heap.size by omega) hqL 6).trans SB.2.1, (only_cell hO5 (show tbk < w3.heap.size by omega) (fun hx => by have := (RD.out.row.lt tbk (Fr.mem_blk.1 hx)).1; omega) _).trans SB.2.2⟩
            refine hK _ _ (fun _ => SE) ?_
            obtain ⟨X5, LA5, lc5, hR5, hO5', hX5⟩ := RD.out.snoc B3.out (t := (np, nF)) (a := begA (tb.getD k zeroTh).2) ⟨NS.out, fun b hb => by
              rcases List.mem_cons.1 hb with rfl | hb
              · exact HCB.out
              · cases hb⟩ NF.out hown6 hO5 hat6
            have y65 : w5.cell? ⟨q, 6, none⟩ = some (.slice LA2 tq2.length lc2) := (only_cell hO5 (show q < w3.heap.size by omega) hqL 6).trans SB.2.1
            have f5 : ∀ i, w5.frozen? ⟨q, i, none⟩ = false := fun i => ((RD.out.rn.only (Only.of_below (F := []) B3.out) (fun g hg => by cases hg)).only hO5 (fun g hg => ⟨(RD.out.row.lt g (Fr.mem_blk.1 hg)).1, RD.out.qL g (Fr.mem_blk.1 hg)⟩)).free i
            have R6 := Lib.hid hR5
            have OX := Lib.hid ((O4.out.trans (Only.of_below (F := []) HWD.out) (fun g hg => by cases hg)).trans hO5' HX4.out)
            have HX6 : Hid (∀ g ∈ X5, g ∈ X ∨ w.heap.size ≤ g) := Lib.hid (fun g hg => by
              rcases hX5 g hg with e | e
              · exact HX4.out g e
              · exact .inr (Nat.le_trans (Nat.le_trans O4.out.size HWD.out.size) e))
            clear hK K SB SC SE hown5 hown6 hg5 hat5 hat6 hO5 hqL hR5 hO5' hX5
            try simp only [Act.put, zA, zB, zC]
            refine Hd.one (i := 17) rfl (by kernel_rfl) rfl (fun K hK => ?_)
            go_simp
            refine hK _ _ (fun h => absurd h (by omega)) ?_
            clear hK K
            try simp only [Act.put, zA, zB, zC]
            refine Hd.one (i := 18) rfl (by kernel_rfl) rfl (fun K hK => ?_)
            go_simp
            refine hK _ _ (fun h => absurd h (by omega)) ?_
            clear hK K
            try simp only [Act.put, zA, zB, zC]
            refine Hd.one (i := 19) rfl (by kernel_rfl) rfl (fun K hK => ?_)
            go_simp
            refine hK _ _ (fun h => absurd h (by omega)) ?_
            clear hK K
            try simp only [Act.put, zA, zB, zC]
            refine Hd.done (by kernel_rfl) ?_ _
            go_wp2_with fail
            go_roundw
            case rel => exact ⟨k + 1, X5, LA5, lc5, tq2 ++ [(np, nF)], _, hkn, by go_num, by
              have e : (tb.take (k + 1)).map (fun t => begA t.2) = (tb.take k).map (fun t => begA t.2) ++ [begA (tb.getD k zeroTh).2] := by
                have e0 : tb.take (k + 1) = tb.take k ++ [tb.getD k zeroTh] := by
                  rw [List.take_add_one]
                  simp [List.getD, show k < tb.length by have := HTL.out; omega]
                rw [e0, List.map_append]
                rfl
              rw [e]
              exact R6.out, OX.out, HX6.out⟩
            case measure => simp [intOf]; omega
          · obtain rfl : k = f.tn := by omega
            have d1 : decide ((f.tn : Int) < (f.tn : Int)) = false := decide_eq_false (by omega)
            have hts : (tb.take f.tn).map (fun t => begA t.2) = tb.map fun t => begA t.2 := by rw [List.take_of_length_le (by have := R4.out.pg.tl; omega)]
            rw [hts] at R4
            have FF : Hid (∀ (e : Ending) (w5 : World), StepR wr B0 q f tb rb X2 (coreA f.cs ⟨now2, out2, none, tb.map fun t => begA t.2⟩ c) e w5 → StepR w B0 q f tb rb X (stepA f.cs tb s1 c) e w5) := Lib.hid (fun e w5 hh => by
              rw [HE.out]
              exact hh.behind O4.out HX4.out)
            obtain ⟨s2, hs2⟩ : ∃ x, (⟨now2, out2, none, tb.map fun t => begA t.2⟩ : Ar) = x := ⟨_, rfl⟩
            have hrc2 : s2.rc = none := by rw [← hs2]
            have HOUT2 : Hid (s2.out.length < 900001) := Lib.hid (by rw [← hs2]; exact HOU.out)
            rw [hs2] at R4 FF
            have HRC2 := Lib.hid hrc2
            clear hs2 hrc2 hts y6 TK HE HOU
            go_upto_region 11 with fail
            clear y1
            have TL := R4.out.tl
            have y6 := R4.out.rn.y6
            by_cases hc0 : c < 0
            · have d1 : decide (c < 0) = true := decide_eq_true hc0
              have FN := Lib.hid ((fun e w5 (hh : StepR wr B0 q f tb rb X2 (coreA f.cs s2 c) e w5) => FF.out e w5 hh) (.returned (.bool false)) wr (by
                unfold coreA
                rw [if_pos (.inl hc0)]
                exact ⟨rfl, ⟨_, ⟨_, _, _, _, _, _, R4.out⟩, fun k hk => .inl hk⟩, Only.refl _ _⟩))
              clear TL
              go_wp2_with fail
              go_ret
              exact FN.out
            · have d1 : decide (c < 0) = false := decide_eq_false hc0
              by_cases hc1 : (tq2.length : Int) ≤ c
              · have d2 : decide ((tq2.length : Int) ≤ c) = true := decide_eq_true hc1
                have FN := Lib.hid ((fun e w5 (hh : StepR wr B0 q f tb rb X2 (coreA f.cs s2 c) e w5) => FF.out e w5 hh) (.returned (.bool false)) wr (by
                  unfold coreA
                  rw [if_pos (.inr (by rw [← TL]; exact hc1))]
                  exact ⟨rfl, ⟨_, ⟨_, _, _, _, _, _, R4.out⟩, fun k hk => .inl hk⟩, Only.refl _ _⟩))
                clear TL
                go_wp2_with fail
                go_ret
                exact FN.out
              · have d2 : decide ((tq2.length : Int) ≤ c) = false := decide_eq_false hc1
                obtain ⟨i, rfl⟩ : ∃ i : Nat, c = i := ⟨c.toNat, by omega⟩
                have hi : i < tq2.length := by omega
                have hii : (i : Int) < (tq2.length : Int) := by omega
                obtain ⟨lb, lo, hLA, hlb, hcel⟩ := R4.out.row.sl.at_ (by omega)
                have k0 : wr.cell? ⟨lb, lo + i, none⟩ = some (.pointer (some ⟨(tq2.getD i zeroQ).1, 0, none⟩)) := by
                  have := hcel i hi 0 (by omega)
                  simpa [List.getD, hi, ptrL] using this
                rw [hLA] at y6
                have GO := Lib.hid (go1_any R4.out.rn (R4.out.th i hi).1 (R4.out.tG hi) (R4.out.th i hi).2 (by have := HOUT2.out; omega))
                have FN : Hid (∀ e w5, GoA wr B0 q (tq2.getD i zeroQ).1 f G1 (tq2.getD i zeroQ).2 (recV none) (.slice LA2 tq2.length lc2) (s2.ts.getD i zeroA).nm (s2.ts.getD i zeroA).en (goA f.cs (s2.ts.getD i zeroA) s2.now s2.out) e w5 → _) := Lib.hid (fun e w5 hW => (fun e w5 (hh : StepR wr B0 q f tb rb X2 (coreA f.cs s2 (i : Int)) e w5) => FF.out e w5 hh) e w5 (core_went R4.out HRC2.out hi hW))
                have HLA := Lib.hid hLA
                obtain ⟨pi, hpi⟩ : ∃ x, (tq2.getD i zeroQ).1 = x := ⟨_, rfl⟩
                rw [hpi] at k0 GO FN
                clear TL hcel hLA hpi
                go_wp2_with fail
                refine GO.out.mono ?_
                rintro e w5 hW
                obtain rfl := hW.1
                have HW := Lib.hid hW
                clear hW
                go_wp2_with fail
                go_ret
                exact FN.out _ _ HW.out
end Go.Proofs.Ytapnnbbbgopobaa.Rn
