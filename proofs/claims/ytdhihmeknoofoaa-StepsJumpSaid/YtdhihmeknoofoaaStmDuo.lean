/-
  WALKS: two runs of steps beside one another; numbers and codes among the arguments.
-/
import Derived.Test.YtdhihmeknoofoaaStmNew
namespace Go.Proofs.Ytdhihmeknoofoaa.Sr
set_option linter.unusedVariables false
set_option linter.unusedSimpArgs false
open Go.RowKit Go.WideShapes Go.ChangeShapes Cm Mm Ow Ow2 Me Stp StW Rm Sp Sn Sa Sc Sg Sd Sx
open ElM (Cd zeroCd cdL okCd IsCd)

def IsI (w : World) (A : Option Addr) (n cap : Nat) (l : List Int) : Prop := l.length = n ∧ Sl w A n cap 1 (fun i => [.int .i64 (l.getD i 0)])
theorem IsI.keep {w w' : World} {A : Option Addr} {n cap : Nat} {l : List Int} (h : IsI w A n cap l) (hb : Below w.heap.size w w') : IsI w' A n cap l := ⟨h.1, h.2.keep hb⟩
theorem IsI.cell {w : World} {A : Option Addr} {n cap : Nat} {l : List Int} (h : IsI w A n cap l) {k : Nat} (hk : k < n) : ∃ b o, A = some ⟨b, o, none⟩ ∧ b < w.heap.size ∧ w.cell? ⟨b, o + k, none⟩ = some (.int .i64 (l.getD k 0)) := by
  obtain ⟨b, o, e, hl, hc⟩ := h.2.at_ (by omega)
  have := hc k hk 0 (by omega)
  rw [Nat.mul_one, Nat.add_zero] at this
  exact ⟨b, o, e, hl, this⟩
set_option maxRecDepth 100000 in
theorem open_ints {H : Type} {enc : TypeId × Value → H} {w : World} {v : Value} {d : DataW H} {p : List MemPlace} {r : Reach} {b0 : Nat}
    (h : DataW.Trod enc Try.prog w 0 (fun _ => true) true 33 v d p) (hok : Value.okWide Try.prog w r b0 33 v) :
    ∃ A n cap, ∃ l : List Int, v = .slice A n cap ∧ IsI w A n cap l := by
  obtain ⟨a0, len, cap0, rfl⟩ := okWide_slice Try.underlying33 hok
  obtain ⟨fuel, hf⟩ := h
  obtain ⟨A, n, cap, l, hcs, hl, hsl, hk, _⟩ := open_sl (α := Int) 0 (fun z => [.int .i64 z]) (fun _ => True) 1 Try.underlying33 (by kernel_rfl) (by decide) (fun m cs y hy => by
    obtain ⟨z0, e0, _, h0⟩ := DataW.trod_int Try.underlying3 hy
    exact ⟨z0, e0, trivial⟩) hf
  have hcs' : [Value.slice a0 len cap0] = [Value.slice A n cap] := hcs
  injection hcs' with hcs'
  exact ⟨A, n, cap, l, hcs', ⟨hl, hsl⟩⟩
theorem elCd : El Try.prog 32 24 3 40 := by
  obtain ⟨i, h1, h2, h3, h4⟩ := info_parts (P := Try.prog) (e := 24) (z := .agg #[.int .i64 0, .int .i64 0, .slice none 0 0]) (size := 3) (bytes := 40) (by kernel_rfl)
  exact ⟨Try.underlying32, ⟨i, _, h1, h2, h3, h4, rfl⟩, by decide⟩
theorem cd_each (c : Cd) : ∀ y ∈ [cdL c], y.length = 3 := fun y hy => by simp at hy; subst hy; rfl
theorem cd_ones (c : Cd) : ∀ y ∈ [cdL c], ∀ u ∈ y, u.oneCell' = true := fun y hy u hu => by
  simp at hy; subst hy
  simp [cdL] at hu
  rcases hu with rfl | rfl | rfl <;> rfl
theorem isCd_own {w : World} {B : Nat} {A : Option Addr} {n c : Nat} {l : List Cd} (h : Own w B 24 3 A n c (l.map cdL)) (hk : ∀ i, i < n → okCd w (l.getD i zeroCd)) : IsCd w A n c l := by
  have hl : l.length = n := by have := h.len; simpa using this
  refine ⟨hl, h.sl.ext (fun i hi => ?_), hk⟩
  simp [List.getD, show i < l.length by omega]

/-- two runs in the heap; W: no block of theirs lies below it -/
def Duo (w : World) (W : Nat) (qa qb : Nat) (Ca Cb : Nat → Prop) (sa sb : Cd) (csa csb : List Cd) (ma mb : Mch Ln) : Prop :=
  ∃ Ga Gb ta tb, RunP w qa Ca Ga sa csa ma ta ∧ RunP w qb Cb Gb sb csb mb tb ∧ (∀ k ∈ Ga, k ∉ Gb) ∧ (∀ k ∈ Ga, ¬ Cb k) ∧ (∀ k ∈ Gb, ¬ Ca k) ∧ (∀ k ∈ Ga, W ≤ k) ∧ (∀ k ∈ Gb, W ≤ k) ∧ W ≤ w.heap.size
section
variable {w w' : World} {W qa qb : Nat} {Ca Cb : Nat → Prop} {sa sb : Cd} {csa csb : List Cd} {ma mb : Mch Ln}
theorem Duo.swap (h : Duo w W qa qb Ca Cb sa sb csa csb ma mb) : Duo w W qb qa Cb Ca sb sa csb csa mb ma := by
  obtain ⟨Ga, Gb, ta, tb, h1, h2, h3, h4, h5, h6, h7, h8⟩ := h
  exact ⟨Gb, Ga, tb, ta, h2, h1, fun k hk hm => h3 k hm hk, h5, h4, h7, h6, h8⟩
theorem Duo.keep (h : Duo w W qa qb Ca Cb sa sb csa csb ma mb) (hb : Below w.heap.size w w') : Duo w' W qa qb Ca Cb sa sb csa csb ma mb := by
  obtain ⟨Ga, Gb, ta, tb, h1, h2, h3, h4, h5, h6, h7, h8⟩ := h
  exact ⟨Ga, Gb, ta, tb, h1.keep hb, h2.keep hb, h3, h4, h5, h6, h7, Nat.le_trans h8 hb.size⟩
/-- the second one alone, and a block that it does not write -/
def Solo (w : World) (W : Nat) (q qb : Nat) (Cb : Nat → Prop) (sb : Cd) (csb : List Cd) (mb : Mch Ln) : Prop :=
  ∃ Gb tb, RunP w qb Cb Gb sb csb mb tb ∧ q ∉ Gb ∧ q < w.heap.size ∧ (∀ k ∈ Gb, W ≤ k) ∧ W ≤ w.heap.size
theorem Duo.cells (h : Duo w W qa qb Ca Cb sa sb csa csb ma mb) : w.cell? ⟨qa, 8, none⟩ = some (.bool false) ∧ w.cell? ⟨qb, 8, none⟩ = some (.bool false) := by
  obtain ⟨Ga, Gb, ta, tb, h1, h2, h3, h4, h5, h6, h7, h8⟩ := h
  have e1 := h1.foc.c8
  have e2 := h2.foc.c8
  rw [h1.ill] at e1
  rw [h2.ill] at e2
  exact ⟨e1, e2⟩
/-- the first one takes a step -/
def SteppedA (w : World) (W qa qb : Nat) (Ca Cb : Nat → Prop) (sa sb : Cd) (csa csb : List Cd) (mb : Mch Ln) (r : Nat × Mch Ln) (e : Ending) (w' : World) : Prop :=
  e = .returned (.bool (r.1 == 0)) ∧ w'.cell? ⟨qa, 8, none⟩ = some (.bool (r.1 == 2)) ∧ Below W w w' ∧ (r.1 ≠ 2 → Duo w' W qa qb Ca Cb sa sb csa csb r.2 mb) ∧ Solo w' W qa qb Cb sb csb mb
theorem stepA_any (h : Duo w W qa qb Ca Cb sa sb csa csb ma mb) (hnil : ∀ a, ma.rc = some a → ma.l = []) (core : Int) (hlen : csa.length ≤ 65536) (hout : ma.out.length ≤ 1000000) :
    Calls Try.prog 24 #[.pointer (some ⟨qa, 0, none⟩), .int .i64 core] w (SteppedA w W qa qb Ca Cb sa sb csa csb mb (stepM goL (begunL csa) ma core)) := by
  obtain ⟨Ga, Gb, ta, tb, h1, h2, h3, h4, h5, h6, h7, h8⟩ := h
  refine (step_any h1 hnil core hlen hout).mono ?_
  rintro e w' ⟨e1, e2, e3, e4⟩
  have h2' := h2.far e3 h4 (fun k hk hm => h3 k hm hk)
  have hl := h1.foc.qlt
  refine ⟨e1, e2, e3.below h6 h8, fun hr => ?_, Gb, tb, h2', fun hm => h3 qa h1.gq hm, Nat.lt_of_lt_of_le hl e3.size, h7, Nat.le_trans h8 e3.size⟩
  obtain ⟨G', t', k1, k2, k3⟩ := e4 hr
  refine ⟨G', Gb, t', tb, k1, h2', fun k hk hm => ?_, fun k hk => ?_, h5, fun k hk => ?_, h7, Nat.le_trans h8 e3.size⟩
  · rcases k2 k hk with e | e
    · exact h3 k e hm
    · have := h2.gLt k hm; omega
  · rcases k2 k hk with e | e
    · exact h4 k e
    · exact h2.Bw k e
  · rcases k2 k hk with e | e
    · exact h6 k e
    · omega
/-- the second one, the first being stuck -/
theorem stepS_any (h : Solo w W qa qb Cb sb csb mb) (hnil : ∀ a, mb.rc = some a → mb.l = []) (core : Int) (hlen : csb.length ≤ 65536) (hout : mb.out.length ≤ 1000000) (u : Value) (hu : w.cell? ⟨qa, 8, none⟩ = some u) :
    Calls Try.prog 24 #[.pointer (some ⟨qb, 0, none⟩), .int .i64 core] w fun e w' => e = .returned (.bool ((stepM goL (begunL csb) mb core).1 == 0)) ∧ w'.cell? ⟨qa, 8, none⟩ = some u ∧ w'.cell? ⟨qb, 8, none⟩ = some (.bool ((stepM goL (begunL csb) mb core).1 == 2)) ∧ Below W w w' := by
  obtain ⟨Gb, tb, h1, h2, h3, h4, h5⟩ := h
  refine (step_any h1 hnil core hlen hout).mono ?_
  rintro e w' ⟨e1, e2, e3, e4⟩
  exact ⟨e1, (e3.cell (p := ⟨qa, 8, none⟩) h3 h2).trans hu, e2, e3.below h4 h5⟩
theorem crashA_any (h : Duo w W qa qb Ca Cb sa sb csa csb ma mb) :
    Calls Try.prog 23 #[.pointer (some ⟨qa, 0, none⟩)] w fun e w' => e = .returned (.tuple #[]) ∧ Below W w w' ∧ Duo w' W qa qb Ca Cb sa sb csa csb (crashM (lnOf sa) ma) mb := by
  obtain ⟨Ga, Gb, ta, tb, h1, h2, h3, h4, h5, h6, h7, h8⟩ := h
  refine (crash_run h1).mono ?_
  rintro e w' ⟨rfl, G', t', k1, k2, e3⟩
  have h2' := h2.far e3 h4 (fun k hk hm => h3 k hm hk)
  refine ⟨rfl, e3.below h6 h8, G', Gb, t', tb, k1, h2', fun k hk hm => ?_, fun k hk => ?_, h5, fun k hk => ?_, h7, Nat.le_trans h8 e3.size⟩
  · rcases k2 k hk with e | e
    · exact h3 k e hm
    · have := h2.gLt k hm; omega
  · rcases k2 k hk with e | e
    · exact h4 k e
    · exact h2.Bw k e
  · rcases k2 k hk with e | e
    · exact h6 k e
    · omega
theorem crashB_any (h : Duo w W qa qb Ca Cb sa sb csa csb ma mb) :
    Calls Try.prog 23 #[.pointer (some ⟨qb, 0, none⟩)] w fun e w' => e = .returned (.tuple #[]) ∧ Below W w w' ∧ Duo w' W qa qb Ca Cb sa sb csa csb ma (crashM (lnOf sb) mb) :=
  (crashA_any h.swap).mono fun _ _ ⟨h1, h2, h3⟩ => ⟨h1, h2, h3.swap⟩
theorem outA_any (h : Duo w W qa qb Ca Cb sa sb csa csb ma mb) (ho : ma.out.length ≤ 1000000) : Calls Try.prog 27 #[.pointer (some ⟨qa, 0, none⟩)] w (GaveU w ma.out) := by
  obtain ⟨Ga, Gb, ta, tb, h1, h2, -⟩ := h
  exact out_run h1 ho
theorem cellsA_any (h : Duo w W qa qb Ca Cb sa sb csa csb ma mb) : Calls Try.prog 28 #[.pointer (some ⟨qa, 0, none⟩)] w (GaveU w ma.now) := by
  obtain ⟨Ga, Gb, ta, tb, h1, h2, -⟩ := h
  exact cells_run h1
theorem core_nil {go : Ln → List Int → List Int → Res Ln} {m : Mch Ln} {core : Int} (h : ∀ a, m.rc = some a → m.l = []) : ∀ a, (coreM go m core).2.rc = some a → (coreM go m core).2.l = [] := by
  intro a
  unfold coreM
  split
  · rename_i hc
    intro e
    have e0 := h a e
    rw [e0] at hc
    simp at hc
    omega
  · exact h a
theorem step_nil {go : Ln → List Int → List Int → Res Ln} {beg : List Ln} {m : Mch Ln} {core : Int} (h : ∀ a, m.rc = some a → m.l = []) : ∀ a, (stepM go beg m core).2.rc = some a → (stepM go beg m core).2.l = [] := by
  unfold stepM
  cases hm : m.rc with
  | none => exact core_nil h
  | some b =>
    dsimp only
    split
    · exact core_nil (fun a e => by cases e)
    · intro a _
      exact h b hm
end
/-- what is so between two rounds -/
structure Same (R : Ln → Ln → Prop) (N i : Nat) (ma mb : Mch Ln) : Prop where
  both : Both R N ma mb
  na : ∀ a, ma.rc = some a → ma.l = []
  nb : ∀ a, mb.rc = some a → mb.l = []
  len : ma.out.length ≤ i
theorem Same.step {R : Ln → Ln → Prop} {N i : Nat} {ma mb : Mch Ln} {begA begB : List Ln} (h : Same R N i ma mb) (hA : Sx.Alike R N goL goL) (hb : Two R begA begB) (core : Int) (h1 : (stepM goL begA ma core).1 ≠ 2) (h2 : (stepM goL begB mb core).1 ≠ 2) :
    (stepM goL begA ma core).1 = (stepM goL begB mb core).1 ∧ Same R N (i + 1) (stepM goL begA ma core).2 (stepM goL begB mb core).2 := by
  obtain ⟨e1, e2⟩ := step_alike hA hb h.both core h1 h2
  exact ⟨e1, e2, step_nil h.na, step_nil h.nb, Nat.le_trans step_out (by have := h.len; omega)⟩
theorem Same.crash {R : Ln → Ln → Prop} {N i : Nat} {ma mb : Mch Ln} {a b : Ln} (h : Same R N i ma mb) (hr : R a b) : Same R N (i + 1) (crashM a ma) (crashM b mb) :=
  ⟨crash_alike hr h.both, fun _ _ => rfl, fun _ _ => rfl, by have := h.len; show ma.out.length ≤ _; omega⟩
theorem ins_ln {c d : Cd} (hx : d.x = c.x) (hi : Ins c.l d.l) : InsR (lnOf c) (lnOf d) := ⟨hi, hi, by show freshV c.x = freshV d.x; rw [hx], rfl⟩
theorem two_begun {R : Ln → Ln → Prop} : ∀ {l l' : List Cd}, l.length = l'.length → (∀ i, i < l.length → R (lnOf (l.getD i zeroCd)) (lnOf (l'.getD i zeroCd))) → Two R (l.map lnOf) (l'.map lnOf)
  | [], [], _, _ => .nil
  | [], _ :: _, h, _ => by simp at h
  | _ :: _, [], h, _ => by simp at h
  | a :: l, b :: l', h, hr => .cons (hr 0 (by simp)) (two_begun (by simpa using h) (fun i hi => hr (i + 1) (by simpa using hi)))
theorem two_take {R : Ln → Ln → Prop} {l l' : List Cd} (h : l.length = l'.length) (hr : ∀ i, i < l.length → R (lnOf (l.getD i zeroCd)) (lnOf (l'.getD i zeroCd))) : Two R (begunL l) (begunL l') := by
  unfold begunL
  refine two_begun (by simp [h]) (fun i hi => ?_)
  have hi' : i < 4 ∧ i < l.length := by simp at hi; omega
  have e1 : (l.take 4).getD i zeroCd = l.getD i zeroCd := by simp [List.getD, List.getElem?_take, hi'.1]
  have e2 : (l'.take 4).getD i zeroCd = l'.getD i zeroCd := by simp [List.getD, List.getElem?_take, hi'.1]
  rw [e1, e2]
  exact hr i hi'.2
end Go.Proofs.Ytdhihmeknoofoaa.Sr
