/-
  WALKS: the program's run of steps: the whole run in the heap; one of it goes on, one is begun.
-/
import Derived.Test.YtdhihmeknoofoaaPrgMade
namespace Go.Proofs.Ytdhihmeknoofoaa.Ph
set_option linter.unusedVariables false
set_option linter.unusedSimpArgs false
open Go.RowKit Cm Mm Ow Ow2 Me Stp StW Rm Sp Sd Sx Sr Pn Pa Pq Pr Pm
open ElM (Cd zeroCd cdL okCd IsCd)

def CodeU (c : List St) : Prop := ∀ s ∈ c, isU s.n
/-- a code that runs, in the heap; F: the blocks that it may write -/
def LnQ (w : World) (C : Nat → Prop) (u : Value) (F : List Nat) (a : Ln) : Prop :=
  ∃ p x y A n cap V cv at_ st, u = .pointer (some ⟨p, 0, none⟩) ∧ ThAt w p F x y A n cap V cv a.v at_ st ∧ Cod w C ⟨x, y, A, n, cap, a.c⟩ ∧ CodeU a.c ∧ (∀ z ∈ a.v, isU z) ∧ ((a.en = false ∧ st = 0 ∧ at_ = (a.at_ : Int) ∧ a.at_ ≤ n) ∨ (a.en = true ∧ st = 1 ∧ a.c.length ≤ a.at_))
theorem LnQ.far {w w' : World} {C : Nat → Prop} {u : Value} {F : List Nat} {a : Ln} {X : List Nat} (h : LnQ w C u F a) (ho : Only X w w') (hX : ∀ k ∈ X, ¬ C k) (hF : ∀ k ∈ F, k ∉ X) : LnQ w' C u F a := by
  obtain ⟨p, x, y, A, n, cap, V, cv, at_, st, rfl, h1, h2, h3⟩ := h
  exact ⟨p, x, y, A, n, cap, V, cv, at_, st, rfl, h1.far ho hF, h2.far ho hX, h3⟩
theorem LnQ.lt {w : World} {C : Nat → Prop} {u : Value} {F : List Nat} {a : Ln} (h : LnQ w C u F a) : ∀ k ∈ F, k < w.heap.size := by
  obtain ⟨p, x, y, A, n, cap, V, cv, at_, st, rfl, h1, h2, h3⟩ := h
  exact h1.lt
theorem LnQ.st (w : World) {C : Nat → Prop} {u : Value} {F : List Nat} {a : Ln} (h : LnQ w C u F a) : ∃ p, u = .pointer (some ⟨p, 0, none⟩) ∧ p ∈ F ∧ w.cell? ⟨p, 5, none⟩ = some (.int .i64 (if a.en then 1 else 0)) := by
  obtain ⟨p, x, y, A, n, cap, V, cv, at_, st, rfl, h1, h2, h3, h4, h5⟩ := h
  refine ⟨p, rfl, h1.pF, ?_⟩
  have := h1.c5
  rcases h5 with ⟨e1, e2, -⟩ | ⟨e1, e2, -⟩
  · rw [e2] at this; rw [e1]; exact this
  · rw [e2] at this; rw [e1]; exact this
/-- what a run has in the heap -/
structure Prq where
  H : Hp
  Fm : List Nat
  Fo : List Nat
  Fr : List Nat
  B : Option Addr
  bc : Nat
  O : Option Addr
  oc : Nat
  LA : Option Addr
  lc : Nat
  us : List (Value × List Nat)
  CA : Option Addr
  cc : Nat
  lab : Nat → Nat
/-- A RUN IN THE HEAP; C: the blocks of its codes; G: the blocks that it may write; rc: who recovers; sd: the others have begun; tl: they -/
structure RunQ (w : World) (q : Nat) (C : Nat → Prop) (G : List Nat) (s : Cd) (cs : List Cd) (rc : Ln) (sd : Bool) (tl : List Ln) (now out : List Int) (t : Prq) : Prop where
  foc : Fop w q t.H t.Fm t.Fo t.B t.bc t.O t.oc now out
  ill : t.H.ill = false
  hsd : t.H.sd = sd
  h0 : t.H.s0 = .int .i64 s.x
  h1 : t.H.s1 = .int .i64 s.y
  h2 : t.H.s2 = .slice s.A s.n s.cap
  h3 : t.H.l = .slice t.CA cs.length t.cc
  code : Cod w C s
  cu : CodeU s.l
  codes : IsCd w t.CA cs.length t.cc cs
  cod : ∀ i, i < cs.length → Cod w C (cs.getD i zeroCd)
  cus : ∀ i, i < cs.length → CodeU (cs.getD i zeroCd).l
  cf : 0 < cs.length → ∀ g, t.CA.map (·.block) = some g → C g
  rc : LnQ w C t.H.rc t.Fr rc
  hl : t.H.th = .slice t.LA tl.length t.lc
  lr : Own w 0 102 1 t.LA tl.length t.lc (t.us.map fun u => [u.1])
  ul : t.us.length = tl.length
  ll : ∀ i (h : i < tl.length), LnQ w C (t.us.getD i zeroU).1 (t.us.getD i zeroU).2 tl[i]
  lq : t.lab q = 0
  lm : ∀ k ∈ t.Fm, t.lab k = 1
  lo : ∀ k ∈ t.Fo, t.lab k = 2
  lf : ∀ k ∈ t.Fr, t.lab k = 3
  lL : ∀ g, t.LA.map (·.block) = some g → t.lab g = 4
  lu : ∀ i, i < tl.length → ∀ k ∈ (t.us.getD i zeroU).2, t.lab k = 5 + i
  gq : q ∈ G
  gm : ∀ k ∈ t.Fm, k ∈ G
  go : ∀ k ∈ t.Fo, k ∈ G
  gf : ∀ k ∈ t.Fr, k ∈ G
  gL : ∀ g, t.LA.map (·.block) = some g → g ∈ G
  gu : ∀ i, i < tl.length → ∀ k ∈ (t.us.getD i zeroU).2, k ∈ G
  gB : ∀ k ∈ G, ¬ C k
  Bw : ∀ k, w.heap.size ≤ k → ¬ C k
  gLt : ∀ k ∈ G, k < w.heap.size
section
variable {w w' : World} {q : Nat} {C : Nat → Prop} {G : List Nat} {s : Cd} {cs : List Cd} {rc : Ln} {sd : Bool} {tl : List Ln} {now out : List Int} {t : Prq}
theorem RunQ.far {X : List Nat} (h : RunQ w q C G s cs rc sd tl now out t) (ho : Only X w w') (hX : ∀ k ∈ X, ¬ C k) (hG : ∀ k ∈ G, k ∉ X) : RunQ w' q C G s cs rc sd tl now out t where
  foc := h.foc.far ho (hG q h.gq) (fun k hk => hG k (h.gm k hk)) (fun k hk => hG k (h.go k hk))
  ill := h.ill
  hsd := h.hsd
  h0 := h.h0
  h1 := h.h1
  h2 := h.h2
  h3 := h.h3
  code := h.code.far ho hX
  cu := h.cu
  codes := isCd_far h.codes h.cod h.cf ho hX
  cod := fun i hi => (h.cod i hi).far ho hX
  cus := h.cus
  cf := h.cf
  rc := h.rc.far ho hX (fun k hk => hG k (h.gf k hk))
  hl := h.hl
  lr := Sa.own_only h.lr ho (fun g hg => hG g (h.gL g hg))
  ul := h.ul
  ll := fun i hi => (h.ll i hi).far ho hX (fun k hk => hG k (h.gu i hi k hk))
  lq := h.lq
  lm := h.lm
  lo := h.lo
  lf := h.lf
  lL := h.lL
  lu := h.lu
  gq := h.gq
  gm := h.gm
  go := h.go
  gf := h.gf
  gL := h.gL
  gu := h.gu
  gB := h.gB
  Bw := fun k hk => h.Bw k (Nat.le_trans ho.size hk)
  gLt := fun k hk => Nat.lt_of_lt_of_le (h.gLt k hk) ho.size
theorem RunQ.keep (h : RunQ w q C G s cs rc sd tl now out t) (hb : Below w.heap.size w w') : RunQ w' q C G s cs rc sd tl now out t := h.far (X := []) (Only.of_below hb) (fun _ hx => by cases hx) (fun _ _ hx => by cases hx)
/-- it is a run again, whatever was called -/
def KeptQ (w : World) (q : Nat) (C : Nat → Prop) (G : List Nat) (s : Cd) (cs : List Cd) (rc : Ln) (sd : Bool) (tl : List Ln) (now out : List Int) (w' : World) : Prop := ∃ G' t', RunQ w' q C G' s cs rc sd tl now out t' ∧ (∀ k ∈ G', k ∈ G ∨ w.heap.size ≤ k) ∧ Only G w w'
theorem KeptQ.seq {w w1 w2 : World} {q : Nat} {C : Nat → Prop} {G : List Nat} {s : Cd} {cs : List Cd} {rc rc2 : Ln} {sd sd2 : Bool} {tl tl2 : List Ln} {now now2 out out2 : List Int} (h : ∃ G' t', RunQ w1 q C G' s cs rc sd tl now out t' ∧ (∀ k ∈ G', k ∈ G ∨ w.heap.size ≤ k) ∧ Only G w w1 ∧ KeptQ w1 q C G' s cs rc2 sd2 tl2 now2 out2 w2) : KeptQ w q C G s cs rc2 sd2 tl2 now2 out2 w2 := by
  obtain ⟨G1, t1, h1, h2, h3, G2, t2, h4, h5, h6⟩ := h
  refine ⟨G2, t2, h4, fun k hk => ?_, h3.trans h6 h2⟩
  rcases h5 k hk with e | e
  · exact h2 k e
  · exact .inr (Nat.le_trans h3.size e)

/-- one of it went on -/
def WentQ (w : World) (q : Nat) (C : Nat → Prop) (t : Prq) (u : Value) (F : List Nat) (x : Res Ln) (e : Ending) (w' : World) : Prop :=
  ∃ Fo' O' oc', e = .returned (.int .i64 (x.r : Int)) ∧ Fop w' q { t.H with ill := t.H.ill || (x.r == 2) } t.Fm Fo' t.B t.bc O' oc' x.now x.out ∧ (x.r ≠ 2 → LnQ w' C u F x.ln) ∧ Only (q :: (t.Fm ++ t.Fo ++ F)) w w' ∧ (∀ k ∈ Fo', k ∈ t.Fo ∨ w.heap.size ≤ k)
theorem goL_en {a : Ln} {now out : List Int} (h : a.c.length ≤ a.at_) : goL a now out = ⟨1, ⟨a.c, a.v, a.at_, true⟩, now, out⟩ := by
  unfold goL
  rw [goV_done a.c 20000 ⟨a.at_, a.v, now, out⟩ h]
  cases a.en <;> rfl
theorem goV_one (c : List St) : ∀ (k : Nat) (p : Ps), (goV c k p).1 = 1 → c.length ≤ (goV c k p).2.at_
  | 0, p, h => by
    rw [goV] at h ⊢
    by_cases h1 : c.length ≤ p.at_
    · rw [if_pos h1]; exact h1
    · rw [if_neg h1] at h; exact absurd (show (2 : Nat) = 1 from h) (by decide)
  | k + 1, p, h => by
    rw [goV] at h ⊢
    by_cases h1 : c.length ≤ p.at_
    · rw [if_pos h1]; exact h1
    · rw [if_neg h1] at h ⊢
      by_cases h2 : isAct (c.getD p.at_ zeroSt).kind = true
      · rw [if_pos h2] at h; exact absurd (show (0 : Nat) = 1 from h) (by decide)
      · rw [if_neg h2] at h ⊢; exact goV_one c k _ h
set_option maxHeartbeats 1600000 in
/-- 'run' of one that is at its end -/
theorem prun_done {p : Nat} {Fl : List Nat} {x y : Int} {A : Option Addr} {n cap : Nat} {V : Option Addr} {cv : Nat} {v : List Int} {a : Int} (q : Nat) (w : World) (hL : ThAt w p Fl x y A n cap V cv v a 1) :
    Calls Try.prog 71 #[.pointer (some ⟨q, 0, none⟩), .pointer (some ⟨p, 0, none⟩)] w fun e w' => e = .returned (.int .i64 1) ∧ w = w' := by
  have g5 := hL.c5
  clear hL
  go_enter Try.func71, Try.ntmps71
  go_wp2_with fail
  go_loopw [5] (fun i wr => i = .int .i64 0 ∧ wr = w) (fun i _ => 0)
  case atStart => exact ⟨rfl, rfl⟩
  case round =>
    obtain ⟨rfl, rfl⟩ := hrel
    go_wp2_with fail
    go_ret
    exact ⟨rfl, rfl⟩
theorem wentq_any (h : RunQ w q C G s cs rc sd tl now out t) {u : Value} {F : List Nat} {a : Ln} (hL : LnQ w C u F a) (hF : ∀ k ∈ F, k ∈ G) (hq : q ∉ F) (hm : ∀ k ∈ t.Fm, k ∉ F) (ho : ∀ k ∈ t.Fo, k ∉ F) (hout : out.length ≤ 1000000) :
    Calls Try.prog 71 #[.pointer (some ⟨q, 0, none⟩), u] w (WentQ w q C t u F (goL a now out)) := by
  obtain ⟨p, x, y, A, n, cap, V, cv, at_, st, rfl, h1, h2, h3, h4, h5⟩ := hL
  have hlen := h2.st.1
  have hX : ∀ k ∈ q :: (t.Fm ++ t.Fo ++ F), ¬ C k := fun k hk => by
    refine h.gB k ?_
    rcases List.mem_cons.1 hk with e | e
    · rw [e]; exact h.gq
    · rcases List.mem_append.1 e with e | e
      · rcases List.mem_append.1 e with e | e
        · exact h.gm k e
        · exact h.go k e
      · exact hF k e
  rcases h5 with ⟨e1, rfl, rfl, e4⟩ | ⟨e1, rfl, e3⟩
  · refine (prun_any h.foc h1 h2.st h3 h4 hq hm ho (fun h0 g hg hm => h.gB g (hF g hm) (h2.low h0 g hg)) hout h2.n e4).mono ?_
    rintro e w' ⟨rfl, Fo', O', oc', a', g1, g2, g3, g4, g5, g6⟩
    refine ⟨Fo', O', oc', rfl, g1, fun hne => ?_, g5, g6⟩
    have hr : (goV a.c 20000 ⟨a.at_, a.v, now, out⟩).1 ≤ 2 := goV_r a.c 20000 _
    refine ⟨p, x, y, A, n, cap, V, cv, a', _, rfl, g2, h2.far g5 hX, h3, g4, ?_⟩
    have hne : (goV a.c 20000 ⟨a.at_, a.v, now, out⟩).1 ≠ 2 := hne
    obtain hr0 | hr1 : (goV a.c 20000 ⟨a.at_, a.v, now, out⟩).1 = 0 ∨ (goV a.c 20000 ⟨a.at_, a.v, now, out⟩).1 = 1 := by omega
    · left
      refine ⟨?_, by rw [hr0]; rfl, g3 hr0, ?_⟩
      · show (a.en || _ == 1) = false
        rw [e1, hr0]; rfl
      · have := Sg.goV_at a.c 20000 ⟨a.at_, a.v, now, out⟩ (by show a.at_ ≤ a.c.length; rw [hlen]; exact e4)
        rw [hlen] at this
        exact this
    · right
      refine ⟨?_, by rw [hr1]; rfl, goV_one _ _ _ hr1⟩
      show (a.en || _ == 1) = true
      rw [e1, hr1]; rfl
  · have hg := goL_en (now := now) (out := out) e3
    refine (prun_done q w h1).mono ?_
    rintro e w' ⟨rfl, rfl⟩
    rw [hg]
    refine ⟨t.Fo, t.O, t.oc, rfl, ?_, fun _ => ⟨p, x, y, A, n, cap, V, cv, at_, 1, rfl, h1, h2, h3, h4, .inr ⟨rfl, rfl, e3⟩⟩, Only.refl _ _, fun k hk => .inl hk⟩
    show Fop w q { t.H with ill := t.H.ill || false } _ _ _ _ _ _ _ _
    rw [hp_id]
    exact h.foc
theorem hq_eq {H : Hp} (h : H.ill = false) : ({ H with ill := H.ill || false } : Hp) = H := by cases H; simp
/-- who recovers has gone on -/
theorem RunQ.wentRec (h : RunQ w q C G s cs rc sd tl now out t) {x : Res Ln} {e : Ending} (hx : x.r ≠ 2) (hW : WentQ w q C t t.H.rc t.Fr x e w') : KeptQ w q C G s cs x.ln sd tl x.now x.out w' := by
  obtain ⟨Fo', O', oc', -, F1, L1, ho, hn⟩ := hW
  have e2 : (x.r == 2) = false := beq_eq_false_iff_ne.2 hx
  rw [e2, hq_eq h.ill] at F1
  have hX : ∀ k ∈ q :: (t.Fm ++ t.Fo ++ t.Fr), k ∈ G ∧ t.lab k ≤ 3 := fun k hk => by
    rcases List.mem_cons.1 hk with e | e
    · rw [e]; exact ⟨h.gq, by have := h.lq; omega⟩
    · rcases List.mem_append.1 e with e | e
      · rcases List.mem_append.1 e with e | e
        · exact ⟨h.gm k e, by have := h.lm k e; omega⟩
        · exact ⟨h.go k e, by have := h.lo k e; omega⟩
      · exact ⟨h.gf k e, by have := h.lf k e; omega⟩
  have hB : ∀ k ∈ q :: (t.Fm ++ t.Fo ++ t.Fr), ¬ C k := fun k hk => h.gB k (hX k hk).1
  have lr := h.foc.qlt
  have lm := h.foc.mLt
  have lF := h.rc.lt
  refine ⟨G ++ Fo', { t with Fo := Fo', O := O', oc := oc', lab := fun k => if k < w.heap.size then t.lab k else 2 }, ?_, ?_, ho.more (fun k hk => (hX k hk).1)⟩
  · exact {
      foc := F1, ill := h.ill, hsd := h.hsd, h0 := h.h0, h1 := h.h1, h2 := h.h2, h3 := h.h3, code := h.code.far ho hB, cu := h.cu, codes := isCd_far h.codes h.cod h.cf ho hB, cod := fun i hi => (h.cod i hi).far ho hB, cus := h.cus, cf := h.cf
      rc := L1 hx, hl := h.hl
      lr := Sa.own_only h.lr ho (fun g hg hm => by have := h.lL g hg; have := (hX g hm).2; omega)
      ul := h.ul
      ll := fun i hi => (h.ll i hi).far ho hB (fun k hk hm => by have := h.lu i hi k hk; have := (hX k hm).2; omega)
      lq := by show (if q < w.heap.size then t.lab q else 2) = 0; rw [if_pos lr]; exact h.lq
      lm := fun k hk => by show (if k < w.heap.size then t.lab k else 2) = 1; rw [if_pos (lm k hk)]; exact h.lm k hk
      lo := fun k hk => by
        show (if k < w.heap.size then t.lab k else 2) = 2
        split
        · rcases hn k hk with e | e
          · exact h.lo k e
          · omega
        · rfl
      lf := fun k hk => by show (if k < w.heap.size then t.lab k else 2) = 3; rw [if_pos (lF k hk)]; exact h.lf k hk
      lL := fun g hg => by show (if g < w.heap.size then t.lab g else 2) = 4; rw [if_pos ((h.lr.lt g hg).2)]; exact h.lL g hg
      lu := fun i hi k hk => by show (if k < w.heap.size then t.lab k else 2) = 5 + i; rw [if_pos ((h.ll i hi).lt k hk)]; exact h.lu i hi k hk
      gq := List.mem_append_left _ h.gq, gm := fun k hk => List.mem_append_left _ (h.gm k hk), go := fun k hk => List.mem_append_right _ hk, gf := fun k hk => List.mem_append_left _ (h.gf k hk), gL := fun g hg => List.mem_append_left _ (h.gL g hg)
      gu := fun i hi k hk => List.mem_append_left _ (h.gu i hi k hk)
      gB := fun k hk => by
        rcases List.mem_append.1 hk with e | e
        · exact h.gB k e
        · rcases hn k e with e | e
          · exact h.gB k (h.go k e)
          · exact h.Bw k e
      Bw := fun k hk => h.Bw k (Nat.le_trans ho.size hk)
      gLt := fun k hk => by
        rcases List.mem_append.1 hk with e | e
        · exact Nat.lt_of_lt_of_le (h.gLt k e) ho.size
        · exact F1.oLt k e }
  · intro k hk
    rcases List.mem_append.1 hk with e | e
    · exact .inl e
    · rcases hn k e with e | e
      · exact .inl (h.go k e)
      · exact .inr e
/-- another one has gone on -/
theorem RunQ.wentLane (h : RunQ w q C G s cs rc sd tl now out t) {i : Nat} (hi : i < tl.length) {x : Res Ln} {e : Ending} (hx : x.r ≠ 2) (hW : WentQ w q C t (t.us.getD i zeroU).1 (t.us.getD i zeroU).2 x e w') : KeptQ w q C G s cs rc sd (tl.set i x.ln) x.now x.out w' := by
  obtain ⟨Fo', O', oc', -, F1, L1, ho, hn⟩ := hW
  have e2 : (x.r == 2) = false := beq_eq_false_iff_ne.2 hx
  rw [e2, hq_eq h.ill] at F1
  have hX : ∀ k ∈ q :: (t.Fm ++ t.Fo ++ (t.us.getD i zeroU).2), k ∈ G ∧ (t.lab k ≤ 2 ∨ t.lab k = 5 + i) := fun k hk => by
    rcases List.mem_cons.1 hk with e | e
    · rw [e]; exact ⟨h.gq, by have := h.lq; omega⟩
    · rcases List.mem_append.1 e with e | e
      · rcases List.mem_append.1 e with e | e
        · exact ⟨h.gm k e, by have := h.lm k e; omega⟩
        · exact ⟨h.go k e, by have := h.lo k e; omega⟩
      · exact ⟨h.gu i hi k e, by have := h.lu i hi k e; omega⟩
  have hB : ∀ k ∈ q :: (t.Fm ++ t.Fo ++ (t.us.getD i zeroU).2), ¬ C k := fun k hk => h.gB k (hX k hk).1
  have lr := h.foc.qlt
  have lm := h.foc.mLt
  have lF := h.rc.lt
  refine ⟨G ++ Fo', { t with Fo := Fo', O := O', oc := oc', lab := fun k => if k < w.heap.size then t.lab k else 2 }, ?_, ?_, ho.more (fun k hk => (hX k hk).1)⟩
  · exact {
      foc := F1, ill := h.ill, hsd := h.hsd, h0 := h.h0, h1 := h.h1, h2 := h.h2, h3 := h.h3, code := h.code.far ho hB, cu := h.cu, codes := isCd_far h.codes h.cod h.cf ho hB, cod := fun i hi => (h.cod i hi).far ho hB, cus := h.cus, cf := h.cf
      rc := h.rc.far ho hB (fun k hk hm => by have := h.lf k hk; have := (hX k hm).2; omega)
      hl := by rw [List.length_set]; exact h.hl
      lr := by rw [List.length_set]; exact Sa.own_only h.lr ho (fun g hg hm => by have := h.lL g hg; have := (hX g hm).2; omega)
      ul := by rw [List.length_set]; exact h.ul
      ll := fun j hj => by
        rw [List.length_set] at hj
        dsimp only
        by_cases e : i = j
        · subst e
          rw [List.getElem_set_self]
          exact L1 hx
        · rw [List.getElem_set_ne e]
          exact (h.ll j hj).far ho hB (fun k hk hm => by have := h.lu j hj k hk; have := (hX k hm).2; omega)
      lq := by show (if q < w.heap.size then t.lab q else 2) = 0; rw [if_pos lr]; exact h.lq
      lm := fun k hk => by show (if k < w.heap.size then t.lab k else 2) = 1; rw [if_pos (lm k hk)]; exact h.lm k hk
      lo := fun k hk => by
        show (if k < w.heap.size then t.lab k else 2) = 2
        split
        · rcases hn k hk with e | e
          · exact h.lo k e
          · omega
        · rfl
      lf := fun k hk => by show (if k < w.heap.size then t.lab k else 2) = 3; rw [if_pos (lF k hk)]; exact h.lf k hk
      lL := fun g hg => by show (if g < w.heap.size then t.lab g else 2) = 4; rw [if_pos ((h.lr.lt g hg).2)]; exact h.lL g hg
      lu := fun i hi k hk => by rw [List.length_set] at hi; show (if k < w.heap.size then t.lab k else 2) = 5 + i; rw [if_pos ((h.ll i hi).lt k hk)]; exact h.lu i hi k hk
      gq := List.mem_append_left _ h.gq, gm := fun k hk => List.mem_append_left _ (h.gm k hk), go := fun k hk => List.mem_append_right _ hk, gf := fun k hk => List.mem_append_left _ (h.gf k hk), gL := fun g hg => List.mem_append_left _ (h.gL g hg)
      gu := fun i hi k hk => by rw [List.length_set] at hi; exact List.mem_append_left _ (h.gu i hi k hk)
      gB := fun k hk => by
        rcases List.mem_append.1 hk with e | e
        · exact h.gB k e
        · rcases hn k e with e | e
          · exact h.gB k (h.go k e)
          · exact h.Bw k e
      Bw := fun k hk => h.Bw k (Nat.le_trans ho.size hk)
      gLt := fun k hk => by
        rcases List.mem_append.1 hk with e | e
        · exact Nat.lt_of_lt_of_le (h.gLt k e) ho.size
        · exact F1.oLt k e }
  · intro k hk
    rcases List.mem_append.1 hk with e | e
    · exact .inl e
    · rcases hn k e with e | e
      · exact .inl (h.go k e)
      · exact .inr e
/-- in either case -/
theorem RunQ.wentIll (h : RunQ w q C G s cs rc sd tl now out t) {u : Value} {F : List Nat} (hF : ∀ k ∈ F, k ∈ G) {x : Res Ln} {e : Ending} (hW : WentQ w q C t u F x e w') : e = .returned (.int .i64 (x.r : Int)) ∧ w'.cell? ⟨q, 9, none⟩ = some (.bool (x.r == 2)) ∧ Only G w w' := by
  obtain ⟨Fo', O', oc', rfl, F1, L1, ho, hn⟩ := hW
  refine ⟨rfl, ?_, ho.more (fun k hk => ?_)⟩
  · have := F1.cs.2.2.2.2.2.2.2.2.2
    rw [h.ill] at this
    simpa using this
  · rcases List.mem_cons.1 hk with e | e
    · rw [e]; exact h.gq
    · rcases List.mem_append.1 e with e | e
      · rcases List.mem_append.1 e with e | e
        · exact h.gm k e
        · exact h.go k e
      · exact hF k e
/-- the others have begun -/
theorem RunQ.started (h : RunQ w q C G s cs rc sd tl now out t) : KeptQ w q C G s cs rc true tl now out (w.setCell ⟨q, 8, none⟩ (.bool true)) := by
  have F6 := fop_set h.foc 8 (.bool true) (H' := { t.H with sd := true }) rfl
  have ho := F6.2
  have hX : ∀ k ∈ [q], k ∈ G ∧ t.lab k = 0 := fun k hk => by rw [List.mem_singleton.1 hk]; exact ⟨h.gq, h.lq⟩
  have hB : ∀ k ∈ [q], ¬ C k := fun k hk => h.gB k (hX k hk).1
  refine ⟨G, { t with H := { t.H with sd := true } }, ?_, fun k hk => .inl hk, ho.more (fun k hk => (hX k hk).1)⟩
  exact {
    foc := F6.1, ill := h.ill, hsd := rfl, h0 := h.h0, h1 := h.h1, h2 := h.h2, h3 := h.h3, code := h.code.far ho hB, cu := h.cu, codes := isCd_far h.codes h.cod h.cf ho hB, cod := fun i hi => (h.cod i hi).far ho hB, cus := h.cus, cf := h.cf
    rc := h.rc.far ho hB (fun k hk hm => by have := h.lf k hk; have := (hX k hm).2; omega), hl := h.hl, lr := Sa.own_only h.lr ho (fun g hg hm => by have := h.lL g hg; have := (hX g hm).2; omega), ul := h.ul
    ll := fun i hi => (h.ll i hi).far ho hB (fun k hk hm => by have := h.lu i hi k hk; have := (hX k hm).2; omega)
    lq := h.lq, lm := h.lm, lo := h.lo, lf := h.lf, lL := h.lL, lu := h.lu, gq := h.gq, gm := h.gm, go := h.go, gf := h.gf
    gL := h.gL, gu := h.gu, gB := h.gB, Bw := fun k hk => h.Bw k (Nat.le_trans ho.size hk), gLt := fun k hk => Nat.lt_of_lt_of_le (h.gLt k hk) ho.size }
end
end Go.Proofs.Ytdhihmeknoofoaa.Ph
