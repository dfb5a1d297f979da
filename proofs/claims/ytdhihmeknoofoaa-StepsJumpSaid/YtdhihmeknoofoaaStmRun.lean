/-
  WALKS: the run of steps: the whole run in the heap; a lane of it goes on.
-/
import Derived.Test.YtdhihmeknoofoaaStmLaid
import Derived.Test.YtdhihmeknoofoaaStmMach
namespace Go.Proofs.Ytdhihmeknoofoaa.Sr
set_option linter.unusedVariables false
set_option linter.unusedSimpArgs false
open Go.RowKit Cm Mm Ow Ow2 Me Stp StW Rm Sp Sn Sa Sc Sg Sd Sx
open ElM (Cd zeroCd cdL okCd IsCd)

theorem isSt_only0 {w w' : World} {G : List Nat} {A : Option Addr} {n cap : Nat} {l : List St} (h : IsSt w A n cap l) (ho : Only G w w') (hn : 0 < n → ∀ g, A.map (·.block) = some g → g ∉ G) : IsSt w' A n cap l :=
  ⟨h.1, h.2.le, h.2.cap_le, fun h0 => by
    obtain ⟨b, o, e, hl, hc⟩ := h.2.at_ h0
    exact ⟨b, o, e, Nat.lt_of_lt_of_le hl ho.size, fun i hi j hj => (ho.cell (p := ⟨b, o + (i * 9 + j), none⟩) hl (hn h0 b (by rw [e]; rfl))).trans (hc i hi j hj)⟩⟩
/-- a code that lies below the block B -/
structure Cod (w : World) (B : Nat → Prop) (c : Cd) : Prop where
  n : c.n ≤ 65536
  st : IsSt w c.A c.n c.cap c.l
  low : 0 < c.n → ∀ g, c.A.map (·.block) = some g → B g
theorem Cod.far {w w' : World} {B : Nat → Prop} {c : Cd} {X : List Nat} (h : Cod w B c) (ho : Only X w w') (hX : ∀ k ∈ X, ¬ B k) : Cod w' B c :=
  ⟨h.n, isSt_only0 h.st ho (fun h0 g hg hm => hX g hm (h.low h0 g hg)), h.low⟩
/-- a lane in the heap, with its code; F: the blocks that it may write -/
def LnW (w : World) (B : Nat → Prop) (u : Value) (F : List Nat) (a : Ln) : Prop :=
  ∃ p x y A n cap V cv en, u = .pointer (some ⟨p, 0, none⟩) ∧ LnAt w p F x y A n cap V cv a.v a.at_ false en ∧ Cod w B ⟨x, y, A, n, cap, a.c⟩ ∧ a.at_ ≤ n
theorem LnW.far {w w' : World} {B : Nat → Prop} {u : Value} {F : List Nat} {a : Ln} {X : List Nat} (h : LnW w B u F a) (ho : Only X w w') (hX : ∀ k ∈ X, ¬ B k) (hF : ∀ k ∈ F, k ∉ X) : LnW w' B u F a := by
  obtain ⟨p, x, y, A, n, cap, V, cv, en, rfl, h1, h2, h3⟩ := h
  exact ⟨p, x, y, A, n, cap, V, cv, en, rfl, h1.far ho hF, h2.far ho hX, h3⟩
theorem LnW.lt {w : World} {B : Nat → Prop} {u : Value} {F : List Nat} {a : Ln} (h : LnW w B u F a) : ∀ k ∈ F, k < w.heap.size := by
  obtain ⟨p, x, y, A, n, cap, V, cv, en, rfl, h1, h2, h3⟩ := h
  exact h1.lt
def RcW (w : World) (B : Nat → Prop) (rc : Value) (Fr : List Nat) : Option Ln → Prop
  | none => rc = .pointer none ∧ Fr = []
  | some a => LnW w B rc Fr a
abbrev zeroU : Value × List Nat := (.pointer none, [])
/-- what a run has in the heap -/
structure Prt where
  H : Hm
  Fm : List Nat
  Fo : List Nat
  Fr : List Nat
  O : Option Addr
  oc : Nat
  kept : List Int
  ver : List Int
  LA : Option Addr
  lc : Nat
  us : List (Value × List Nat)
  CA : Option Addr
  cc : Nat
  lab : Nat → Nat
/-- A RUN IN THE HEAP; G: the blocks that it may write, none below B; s: the recovery's code; cs: the others' -/
structure RunP (w : World) (q : Nat) (B : Nat → Prop) (G : List Nat) (s : Cd) (cs : List Cd) (m : Mch Ln) (t : Prt) : Prop where
  foc : Foc w q t.H t.Fm t.Fo t.O t.oc m.now t.kept t.ver m.out
  ill : t.H.ill = false
  h0 : t.H.s0 = .int .i64 s.x
  h1 : t.H.s1 = .int .i64 s.y
  h2 : t.H.s2 = .slice s.A s.n s.cap
  h3 : t.H.cs = .slice t.CA cs.length t.cc
  code : Cod w B s
  codes : IsCd w t.CA cs.length t.cc cs
  cod : ∀ i, i < cs.length → Cod w B (cs.getD i zeroCd)
  cf : 0 < cs.length → ∀ g, t.CA.map (·.block) = some g → B g
  rc : RcW w B t.H.rc t.Fr m.rc
  hl : t.H.l = .slice t.LA m.l.length t.lc
  lr : Own w 0 82 1 t.LA m.l.length t.lc (t.us.map fun u => [u.1])
  ul : t.us.length = m.l.length
  ll : ∀ i (h : i < m.l.length), LnW w B (t.us.getD i zeroU).1 (t.us.getD i zeroU).2 m.l[i]
  lq : t.lab q = 0
  lm : ∀ k ∈ t.Fm, t.lab k = 1
  lo : ∀ k ∈ t.Fo, t.lab k = 2
  lf : ∀ k ∈ t.Fr, t.lab k = 3
  lL : ∀ g, t.LA.map (·.block) = some g → t.lab g = 4
  lu : ∀ i, i < m.l.length → ∀ k ∈ (t.us.getD i zeroU).2, t.lab k = 5 + i
  gq : q ∈ G
  gm : ∀ k ∈ t.Fm, k ∈ G
  go : ∀ k ∈ t.Fo, k ∈ G
  gf : ∀ k ∈ t.Fr, k ∈ G
  gL : ∀ g, t.LA.map (·.block) = some g → g ∈ G
  gu : ∀ i, i < m.l.length → ∀ k ∈ (t.us.getD i zeroU).2, k ∈ G
  gB : ∀ k ∈ G, ¬ B k
  Bw : ∀ k, w.heap.size ≤ k → ¬ B k
  gLt : ∀ k ∈ G, k < w.heap.size
theorem isCd_far {w w' : World} {B : Nat → Prop} {CA : Option Addr} {cc : Nat} {cs : List Cd} {X : List Nat} (h : IsCd w CA cs.length cc cs) (hc : ∀ i, i < cs.length → Cod w B (cs.getD i zeroCd)) (hf : 0 < cs.length → ∀ g, CA.map (·.block) = some g → B g)
    (ho : Only X w w') (hX : ∀ k ∈ X, ¬ B k) : IsCd w' CA cs.length cc cs :=
  ⟨h.1, ⟨h.2.1.le, h.2.1.cap_le, fun h0 => by
    obtain ⟨b, o, e, hl, hc⟩ := h.2.1.at_ h0
    exact ⟨b, o, e, Nat.lt_of_lt_of_le hl ho.size, fun i hi j hj => (ho.cell (p := ⟨b, o + (i * 3 + j), none⟩) hl (fun hm => hX b hm (hf h0 b (by rw [e]; rfl)))).trans (hc i hi j hj)⟩⟩, fun i hi => ⟨(h.2.2 i hi).1, (h.2.2 i hi).2.1, ((hc i hi).far ho hX).st⟩⟩
section
variable {w w' : World} {q : Nat} {B : Nat → Prop} {G : List Nat} {s : Cd} {cs : List Cd} {m : Mch Ln} {t : Prt}
theorem RunP.far {X : List Nat} (h : RunP w q B G s cs m t) (ho : Only X w w') (hX : ∀ k ∈ X, ¬ B k) (hG : ∀ k ∈ G, k ∉ X) : RunP w' q B G s cs m t where
  foc := h.foc.far ho (hG q h.gq) (fun k hk => hG k (h.gm k hk)) (fun k hk => hG k (h.go k hk))
  ill := h.ill
  h0 := h.h0
  h1 := h.h1
  h2 := h.h2
  h3 := h.h3
  code := h.code.far ho hX
  codes := isCd_far h.codes h.cod h.cf ho hX
  cod := fun i hi => (h.cod i hi).far ho hX
  cf := h.cf
  rc := by
    have := h.rc
    cases hm : m.rc with
    | none => rw [hm] at this; exact this
    | some a => rw [hm] at this; exact LnW.far this ho hX (fun k hk => hG k (h.gf k hk))
  hl := h.hl
  lr := own_only h.lr ho (fun g hg => hG g (h.gL g hg))
  ul := h.ul
  ll := fun i hi => (h.ll i hi).far ho hX (fun k hk => hG k (h.gu i hi k hk))
  lq := h.lq
  lm := h.lm
  lo := h.lo
  lf := h.lf
  lL := h.lL
  lu := h.lu
  gq := h.gq
  gm := h.gm
  go := h.go
  gf := h.gf
  gL := h.gL
  gu := h.gu
  gB := h.gB
  Bw := fun k hk => h.Bw k (Nat.le_trans ho.size hk)
  gLt := fun k hk => Nat.lt_of_lt_of_le (h.gLt k hk) ho.size
theorem RunP.keep (h : RunP w q B G s cs m t) (hb : Below w.heap.size w w') : RunP w' q B G s cs m t := h.far (X := []) (Only.of_below hb) (fun _ hx => by cases hx) (fun _ _ hx => by cases hx)

theorem goV_same (c : List St) : ∀ (k : Nat) (p : Ps), (goV c k p).1 ≠ 0 → (goV c k p).2.now = p.now ∧ (goV c k p).2.out = p.out
  | 0, p, _ => by unfold goV; split <;> exact ⟨rfl, rfl⟩
  | k + 1, p, h => by
    rw [goV] at h ⊢
    by_cases h1 : c.length ≤ p.at_
    · rw [if_pos h1]; exact ⟨rfl, rfl⟩
    · rw [if_neg h1] at h ⊢
      by_cases h2 : isAct (c.getD p.at_ zeroSt).kind = true
      · rw [if_pos h2] at h; exact absurd rfl h
      · rw [if_neg h2] at h ⊢
        obtain ⟨e1, e2⟩ := goV_same c k _ h
        obtain ⟨f1, f2⟩ := quietV_now c (c.getD p.at_ zeroSt) { p with at_ := p.at_ + 1 }
        exact ⟨e1.trans f1, e2.trans f2⟩
theorem actV_out (s : St) (p : Ps) : (actV s p).out.length ≤ p.out.length + 1 := by
  unfold actV
  repeat' split
  all_goals simp
theorem goV_out (c : List St) : ∀ (k : Nat) (p : Ps), (goV c k p).2.out.length ≤ p.out.length + 1
  | 0, p => by unfold goV; split <;> simp
  | k + 1, p => by
    rw [goV]
    split
    · simp
    · split
      · exact actV_out _ _
      · refine Nat.le_trans (goV_out c k _) ?_
        rw [(quietV_now c _ _).2]
        exact Nat.le_refl _
theorem goL_same {a : Ln} {now out : List Int} (h : (goL a now out).r ≠ 0) : (goL a now out).now = now ∧ (goL a now out).out = out := goV_same a.c 20000 ⟨a.at_, a.v, now, out⟩ h
theorem goL_out (a : Ln) (now out : List Int) : (goL a now out).out.length ≤ out.length + 1 := goV_out a.c 20000 ⟨a.at_, a.v, now, out⟩
theorem core_out {m : Mch Ln} {core : Int} : (coreM goL m core).2.out.length ≤ m.out.length + 1 := by
  unfold coreM
  split
  · exact goL_out _ _ _
  · simp
theorem step_out {beg : List Ln} {m : Mch Ln} {core : Int} : (stepM goL beg m core).2.out.length ≤ m.out.length + 1 := by
  unfold stepM
  cases hm : m.rc with
  | none => exact core_out
  | some a =>
    dsimp only
    split
    · rename_i h
      refine Nat.le_trans core_out ?_
      dsimp only
      rw [(goL_same (by rw [h]; decide)).2]
      exact Nat.le_refl _
    · exact goL_out _ _ _

/-- a lane of the run went on -/
def Went (w : World) (q : Nat) (B : Nat → Prop) (t : Prt) (u : Value) (F : List Nat) (x : Res Ln) (e : Ending) (w' : World) : Prop :=
  ∃ Fo' O' oc' kept' ver', e = .returned (.bool (x.r == 0)) ∧ Foc w' q { t.H with ill := t.H.ill || (x.r == 2) } t.Fm Fo' O' oc' x.now kept' ver' x.out ∧ (∃ p, u = .pointer (some ⟨p, 0, none⟩) ∧ p ∈ F ∧ w'.cell? ⟨p, 5, none⟩ = some (.bool (x.r == 2))) ∧
    (x.r ≠ 2 → LnW w' B u F x.ln) ∧ Only (q :: (t.Fm ++ t.Fo ++ F)) w w' ∧ (∀ k ∈ Fo', k ∈ t.Fo ∨ w.heap.size ≤ k)
theorem went_any (h : RunP w q B G s cs m t) {u : Value} {F : List Nat} {a : Ln} (hL : LnW w B u F a) (hF : ∀ k ∈ F, k ∈ G) (hq : q ∉ F) (hm : ∀ k ∈ t.Fm, k ∉ F) (ho : ∀ k ∈ t.Fo, k ∉ F) (hout : m.out.length ≤ 1000000) :
    Calls Try.prog 59 #[.pointer (some ⟨q, 0, none⟩), u] w (Went w q B t u F (goL a m.now m.out)) := by
  obtain ⟨p, x, y, A, n, cap, V, cv, en, rfl, h1, h2, h3⟩ := hL
  have hX : ∀ k ∈ q :: (t.Fm ++ t.Fo ++ F), ¬ B k := fun k hk => by
    refine h.gB k ?_
    rcases List.mem_cons.1 hk with e | e
    · rw [e]; exact h.gq
    · rcases List.mem_append.1 e with e | e
      · rcases List.mem_append.1 e with e | e
        · exact h.gm k e
        · exact h.go k e
      · exact hF k e
  have hlen := h2.st.1
  refine (go_any h.foc h1 h2.st hq hm ho (fun h0 g hg hm => h.gB g (hF g hm) (h2.low h0 g hg)) hout h2.n h3).mono ?_
  rintro e w' ⟨rfl, Fo', O', oc', kept', ver', en', g1, g2, g3, g4⟩
  refine ⟨Fo', O', oc', kept', ver', rfl, g1, ⟨p, rfl, h1.pF, g2.c5⟩, fun hne => ⟨p, x, y, A, n, cap, V, cv, en', rfl, ?_, h2.far g3 hX, ?_⟩, g3, g4⟩
  · have e : ((goV a.c 20000 ⟨a.at_, a.v, m.now, m.out⟩).1 == 2) = false := beq_eq_false_iff_ne.2 hne
    rw [e] at g2
    exact g2
  · have := goV_at a.c 20000 ⟨a.at_, a.v, m.now, m.out⟩ (by show a.at_ ≤ a.c.length; rw [hlen]; exact h3)
    rw [hlen] at this
    exact this
theorem hm_eq {H : Hm} (h : H.ill = false) : ({ H with ill := H.ill || false } : Hm) = H := by cases H; simp
/-- who recovers has gone on -/
theorem RunP.wentRec (h : RunP w q B G s cs m t) {a : Ln} (hm : m.rc = some a) {x : Res Ln} {e : Ending} (hx : x.r ≠ 2) (hW : Went w q B t t.H.rc t.Fr x e w') :
    ∃ G' t', RunP w' q B G' s cs ⟨some x.ln, m.l, x.now, x.out⟩ t' ∧ (∀ k ∈ G', k ∈ G ∨ w.heap.size ≤ k) ∧ Only G w w' := by
  obtain ⟨Fo', O', oc', kept', ver', -, F1, -, L1, ho, hn⟩ := hW
  have e2 : (x.r == 2) = false := beq_eq_false_iff_ne.2 hx
  rw [e2, hm_eq h.ill] at F1
  have hX : ∀ k ∈ q :: (t.Fm ++ t.Fo ++ t.Fr), k ∈ G ∧ t.lab k ≤ 3 := fun k hk => by
    rcases List.mem_cons.1 hk with e | e
    · rw [e]; exact ⟨h.gq, by have := h.lq; omega⟩
    · rcases List.mem_append.1 e with e | e
      · rcases List.mem_append.1 e with e | e
        · exact ⟨h.gm k e, by have := h.lm k e; omega⟩
        · exact ⟨h.go k e, by have := h.lo k e; omega⟩
      · exact ⟨h.gf k e, by have := h.lf k e; omega⟩
  have hB : ∀ k ∈ q :: (t.Fm ++ t.Fo ++ t.Fr), ¬ B k := fun k hk => h.gB k (hX k hk).1
  have lr := h.foc.qlt
  have lm := h.foc.mem.lt
  have lF : ∀ k ∈ t.Fr, k < w.heap.size := by have := h.rc; rw [hm] at this; exact LnW.lt this
  refine ⟨G ++ Fo', { t with Fo := Fo', O := O', oc := oc', kept := kept', ver := ver', lab := fun k => if k < w.heap.size then t.lab k else 2 }, ?_, ?_, ho.more (fun k hk => (hX k hk).1)⟩
  · exact {
      foc := F1, ill := h.ill, h0 := h.h0, h1 := h.h1, h2 := h.h2, h3 := h.h3, code := h.code.far ho hB, codes := isCd_far h.codes h.cod h.cf ho hB, cod := fun i hi => (h.cod i hi).far ho hB, cf := h.cf
      rc := L1 hx, hl := h.hl
      lr := own_only h.lr ho (fun g hg hm => by have := h.lL g hg; have := (hX g hm).2; omega)
      ul := h.ul
      ll := fun i hi => (h.ll i hi).far ho hB (fun k hk hm => by have := h.lu i hi k hk; have := (hX k hm).2; omega)
      lq := by show (if q < w.heap.size then t.lab q else 2) = 0; rw [if_pos lr]; exact h.lq
      lm := fun k hk => by show (if k < w.heap.size then t.lab k else 2) = 1; rw [if_pos (lm k hk)]; exact h.lm k hk
      lo := fun k hk => by
        show (if k < w.heap.size then t.lab k else 2) = 2
        split
        · rcases hn k hk with e | e
          · exact h.lo k e
          · omega
        · rfl
      lf := fun k hk => by show (if k < w.heap.size then t.lab k else 2) = 3; rw [if_pos (lF k hk)]; exact h.lf k hk
      lL := fun g hg => by show (if g < w.heap.size then t.lab g else 2) = 4; rw [if_pos ((h.lr.lt g hg).2)]; exact h.lL g hg
      lu := fun i hi k hk => by show (if k < w.heap.size then t.lab k else 2) = 5 + i; rw [if_pos ((h.ll i hi).lt k hk)]; exact h.lu i hi k hk
      gq := List.mem_append_left _ h.gq, gm := fun k hk => List.mem_append_left _ (h.gm k hk), go := fun k hk => List.mem_append_right _ hk, gf := fun k hk => List.mem_append_left _ (h.gf k hk), gL := fun g hg => List.mem_append_left _ (h.gL g hg)
      gu := fun i hi k hk => List.mem_append_left _ (h.gu i hi k hk)
      gB := fun k hk => by
        rcases List.mem_append.1 hk with e | e
        · exact h.gB k e
        · rcases hn k e with e | e
          · exact h.gB k (h.go k e)
          · exact h.Bw k e
      Bw := fun k hk => h.Bw k (Nat.le_trans ho.size hk)
      gLt := fun k hk => by
        rcases List.mem_append.1 hk with e | e
        · exact Nat.lt_of_lt_of_le (h.gLt k e) ho.size
        · exact F1.oLt k e }
  · intro k hk
    rcases List.mem_append.1 hk with e | e
    · exact .inl e
    · rcases hn k e with e | e
      · exact .inl (h.go k e)
      · exact .inr e
/-- another one has gone on -/
theorem RunP.wentLane (h : RunP w q B G s cs m t) {i : Nat} (hi : i < m.l.length) {x : Res Ln} {e : Ending} (hx : x.r ≠ 2) (hW : Went w q B t (t.us.getD i zeroU).1 (t.us.getD i zeroU).2 x e w') :
    ∃ G' t', RunP w' q B G' s cs ⟨m.rc, m.l.set i x.ln, x.now, x.out⟩ t' ∧ (∀ k ∈ G', k ∈ G ∨ w.heap.size ≤ k) ∧ Only G w w' := by
  obtain ⟨Fo', O', oc', kept', ver', -, F1, -, L1, ho, hn⟩ := hW
  have e2 : (x.r == 2) = false := beq_eq_false_iff_ne.2 hx
  rw [e2, hm_eq h.ill] at F1
  have hX : ∀ k ∈ q :: (t.Fm ++ t.Fo ++ (t.us.getD i zeroU).2), k ∈ G ∧ (t.lab k ≤ 2 ∨ t.lab k = 5 + i) := fun k hk => by
    rcases List.mem_cons.1 hk with e | e
    · rw [e]; exact ⟨h.gq, by have := h.lq; omega⟩
    · rcases List.mem_append.1 e with e | e
      · rcases List.mem_append.1 e with e | e
        · exact ⟨h.gm k e, by have := h.lm k e; omega⟩
        · exact ⟨h.go k e, by have := h.lo k e; omega⟩
      · exact ⟨h.gu i hi k e, by have := h.lu i hi k e; omega⟩
  have hB : ∀ k ∈ q :: (t.Fm ++ t.Fo ++ (t.us.getD i zeroU).2), ¬ B k := fun k hk => h.gB k (hX k hk).1
  have lr := h.foc.qlt
  have lm := h.foc.mem.lt
  have lF : ∀ k ∈ t.Fr, k < w.heap.size := by
    have := h.rc
    cases hm : m.rc with
    | none => rw [hm] at this; rw [this.2]; intro k hk; cases hk
    | some a => rw [hm] at this; exact LnW.lt this
  refine ⟨G ++ Fo', { t with Fo := Fo', O := O', oc := oc', kept := kept', ver := ver', lab := fun k => if k < w.heap.size then t.lab k else 2 }, ?_, ?_, ho.more (fun k hk => (hX k hk).1)⟩
  · exact {
      foc := F1, ill := h.ill, h0 := h.h0, h1 := h.h1, h2 := h.h2, h3 := h.h3, code := h.code.far ho hB, codes := isCd_far h.codes h.cod h.cf ho hB, cod := fun i hi => (h.cod i hi).far ho hB, cf := h.cf
      rc := by
        have := h.rc
        show RcW w' B t.H.rc t.Fr m.rc
        cases hm : m.rc with
        | none => rw [hm] at this; exact this
        | some a => rw [hm] at this; exact LnW.far this ho hB (fun k hk hm => by have := h.lf k hk; have := (hX k hm).2; omega)
      hl := by rw [List.length_set]; exact h.hl
      lr := by rw [List.length_set]; exact own_only h.lr ho (fun g hg hm => by have := h.lL g hg; have := (hX g hm).2; omega)
      ul := by rw [List.length_set]; exact h.ul
      ll := fun j hj => by
        rw [List.length_set] at hj
        dsimp only
        by_cases e : i = j
        · subst e
          rw [List.getElem_set_self]
          exact L1 hx
        · rw [List.getElem_set_ne e]
          exact (h.ll j hj).far ho hB (fun k hk hm => by have := h.lu j hj k hk; have := (hX k hm).2; omega)
      lq := by show (if q < w.heap.size then t.lab q else 2) = 0; rw [if_pos lr]; exact h.lq
      lm := fun k hk => by show (if k < w.heap.size then t.lab k else 2) = 1; rw [if_pos (lm k hk)]; exact h.lm k hk
      lo := fun k hk => by
        show (if k < w.heap.size then t.lab k else 2) = 2
        split
        · rcases hn k hk with e | e
          · exact h.lo k e
          · omega
        · rfl
      lf := fun k hk => by show (if k < w.heap.size then t.lab k else 2) = 3; rw [if_pos (lF k hk)]; exact h.lf k hk
      lL := fun g hg => by show (if g < w.heap.size then t.lab g else 2) = 4; rw [if_pos ((h.lr.lt g hg).2)]; exact h.lL g hg
      lu := fun i hi k hk => by rw [List.length_set] at hi; show (if k < w.heap.size then t.lab k else 2) = 5 + i; rw [if_pos ((h.ll i hi).lt k hk)]; exact h.lu i hi k hk
      gq := List.mem_append_left _ h.gq, gm := fun k hk => List.mem_append_left _ (h.gm k hk), go := fun k hk => List.mem_append_right _ hk, gf := fun k hk => List.mem_append_left _ (h.gf k hk), gL := fun g hg => List.mem_append_left _ (h.gL g hg)
      gu := fun i hi k hk => by rw [List.length_set] at hi; exact List.mem_append_left _ (h.gu i hi k hk)
      gB := fun k hk => by
        rcases List.mem_append.1 hk with e | e
        · exact h.gB k e
        · rcases hn k e with e | e
          · exact h.gB k (h.go k e)
          · exact h.Bw k e
      Bw := fun k hk => h.Bw k (Nat.le_trans ho.size hk)
      gLt := fun k hk => by
        rcases List.mem_append.1 hk with e | e
        · exact Nat.lt_of_lt_of_le (h.gLt k e) ho.size
        · exact F1.oLt k e }
  · intro k hk
    rcases List.mem_append.1 hk with e | e
    · exact .inl e
    · rcases hn k e with e | e
      · exact .inl (h.go k e)
      · exact .inr e
/-- in either case -/
theorem RunP.wentIll (h : RunP w q B G s cs m t) {u : Value} {F : List Nat} (hF : ∀ k ∈ F, k ∈ G) {x : Res Ln} {e : Ending} (hW : Went w q B t u F x e w') : e = .returned (.bool (x.r == 0)) ∧ w'.cell? ⟨q, 8, none⟩ = some (.bool (x.r == 2)) ∧ Only G w w' := by
  obtain ⟨Fo', O', oc', kept', ver', rfl, F1, -, L1, ho, hn⟩ := hW
  refine ⟨rfl, ?_, ho.more (fun k hk => ?_)⟩
  · have := F1.c8
    rw [h.ill] at this
    simpa using this
  · rcases List.mem_cons.1 hk with e | e
    · rw [e]; exact h.gq
    · rcases List.mem_append.1 e with e | e
      · rcases List.mem_append.1 e with e | e
        · exact h.gm k e
        · exact h.go k e
      · exact hF k e
end
end Go.Proofs.Ytdhihmeknoofoaa.Sr
