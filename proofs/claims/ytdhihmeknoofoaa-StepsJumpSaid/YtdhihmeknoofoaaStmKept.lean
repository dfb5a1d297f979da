/-
  WALKS: the run of steps: all begun anew, a run made, a step of a run.
-/
import Derived.Test.YtdhihmeknoofoaaStmRun
namespace Go.Proofs.Ytdhihmeknoofoaa.Sr
set_option linter.unusedVariables false
set_option linter.unusedSimpArgs false
open Go.RowKit Cm Mm Ow Ow2 Me Stp StW Rm Sp Sn Sa Sc Sg Sd Sx
open ElM (Cd zeroCd cdL okCd IsCd)

def lnOf (c : Cd) : Ln := ⟨c.l, freshV c.x, 0, false⟩
def begunL (cs : List Cd) : List Ln := (cs.take 4).map lnOf
theorem isSt_lt {w : World} {A : Option Addr} {n cap : Nat} {l : List St} (h : IsSt w A n cap l) (h0 : 0 < n) : ∀ g, A.map (·.block) = some g → g < w.heap.size := fun g hg => by
  obtain ⟨b, o, e, hl, _⟩ := h.2.at_ h0
  rw [e] at hg
  cases hg
  exact hl
theorem isCd_lt {w : World} {A : Option Addr} {n cap : Nat} {l : List Cd} (h : IsCd w A n cap l) (h0 : 0 < n) : ∀ g, A.map (·.block) = some g → g < w.heap.size := fun g hg => by
  obtain ⟨b, o, e, hl, _⟩ := h.2.1.at_ h0
  rw [e] at hg
  cases hg
  exact hl
theorem cod_mk {w : World} {x y : Int} {A : Option Addr} {n cap : Nat} {l : List St} (h : IsSt w A n cap l) (hn : n ≤ 65536) : Cod w (fun k => k < w.heap.size) ⟨x, y, A, n, cap, l⟩ :=
  ⟨hn, h, fun h0 => isSt_lt h h0⟩
theorem Cod.low' {w : World} {B B' : Nat → Prop} {c : Cd} (h : Cod w B c) (hb : ∀ k, B k → B' k) : Cod w B' c := ⟨h.n, h.st, fun h0 g hg => hb g (h.low h0 g hg)⟩
/-- behind a call of a run: whatever it was, it is one again -/
def Kept (w : World) (q : Nat) (B : Nat → Prop) (G : List Nat) (s : Cd) (cs : List Cd) (m' : Mch Ln) (w' : World) : Prop := ∃ G' t', RunP w' q B G' s cs m' t' ∧ (∀ k ∈ G', k ∈ G ∨ w.heap.size ≤ k) ∧ Only G w w'
theorem Kept.seq {w w1 w2 : World} {q : Nat} {B : Nat → Prop} {G : List Nat} {s : Cd} {cs : List Cd} {m1 m2 : Mch Ln} (h : ∃ G' t', RunP w1 q B G' s cs m1 t' ∧ (∀ k ∈ G', k ∈ G ∨ w.heap.size ≤ k) ∧ Only G w w1 ∧ Kept w1 q B G' s cs m2 w2) : Kept w q B G s cs m2 w2 := by
  obtain ⟨G1, t1, h1, h2, h3, G2, t2, h4, h5, h6⟩ := h
  refine ⟨G2, t2, h4, fun k hk => ?_, h3.trans h6 h2⟩
  rcases h5 k hk with e | e
  · exact h2 k e
  · exact .inr (Nat.le_trans h3.size e)

section
variable {w w' : World} {q : Nat} {B : Nat → Prop} {G : List Nat} {s : Cd} {cs : List Cd} {m : Mch Ln} {t : Prt}
/-- a run whose own struct was begun anew -/
theorem runP_crd {H : Hm} {Fm Fo : List Nat} {O : Option Addr} {oc : Nat} {kept ver now out : List Int} {CA : Option Addr} {cc : Nat} {e : Ending} {lab : Nat → Nat} (hX : Foc w q H Fm Fo O oc now kept ver out) (hill : H.ill = false) (h0 : H.s0 = .int .i64 s.x) (h1 : H.s1 = .int .i64 s.y) (h2 : H.s2 = .slice s.A s.n s.cap) (h3 : H.cs = .slice CA cs.length cc)
    (code : Cod w B s) (codes : IsCd w CA cs.length cc cs) (cod : ∀ i, i < cs.length → Cod w B (cs.getD i zeroCd)) (cf : 0 < cs.length → ∀ g, CA.map (·.block) = some g → B g) (lq : lab q = 0) (lm : ∀ k ∈ Fm, lab k = 1) (lo : ∀ k ∈ Fo, lab k = 2)
    (gq : q ∈ G) (gm : ∀ k ∈ Fm, k ∈ G) (go : ∀ k ∈ Fo, k ∈ G) (gB : ∀ k ∈ G, ¬ B k) (Bw : ∀ k, w.heap.size ≤ k → ¬ B k) (gLt : ∀ k ∈ G, k < w.heap.size)
    (hC : Crd w q H Fm Fo O oc now kept ver out s.x s.y s.A s.n s.cap e w') : Kept w q B G s cs ⟨some (lnOf s), [], now, out⟩ w' := by
  obtain ⟨p, Fl, V, cv, rfl, F1, L1, hFl, ho⟩ := hC
  have hB : ∀ k ∈ [q], ¬ B k := fun k hk => by rw [List.mem_singleton.1 hk]; exact gB q gq
  have lr := hX.qlt
  have lm' := hX.mem.lt
  have lo' := hX.oLt
  refine ⟨G ++ Fl, ⟨{ H with rc := .pointer (some ⟨p, 0, none⟩), l := .slice none 0 0 }, Fm, Fo, Fl, O, oc, kept, ver, none, 0, [], CA, cc, fun k => if k < w.heap.size then lab k else 3⟩, ?_, fun k hk => ?_, ho.more (fun k hk => by rw [List.mem_singleton.1 hk]; exact gq)⟩
  · exact {
      foc := F1, ill := hill, h0 := h0, h1 := h1, h2 := h2, h3 := h3, code := code.far ho hB, codes := isCd_far codes cod cf ho hB, cod := fun i hi => (cod i hi).far ho hB, cf := cf
      rc := ⟨p, s.x, s.y, s.A, s.n, s.cap, V, cv, false, rfl, L1, code.far ho hB, Nat.zero_le _⟩
      hl := rfl, lr := Own.nil _ _ _ _, ul := rfl, ll := fun i hi => absurd hi (by simp)
      lq := by show (if q < w.heap.size then lab q else 3) = 0; rw [if_pos lr]; exact lq
      lm := fun k hk => by show (if k < w.heap.size then lab k else 3) = 1; rw [if_pos (lm' k hk)]; exact lm k hk
      lo := fun k hk => by show (if k < w.heap.size then lab k else 3) = 2; rw [if_pos (lo' k hk)]; exact lo k hk
      lf := fun k hk => by show (if k < w.heap.size then lab k else 3) = 3; rw [if_neg (by have := hFl k hk; omega)]
      lL := fun g hg => by cases hg
      lu := fun i hi => absurd hi (by simp)
      gq := List.mem_append_left _ gq, gm := fun k hk => List.mem_append_left _ (gm k hk), go := fun k hk => List.mem_append_left _ (go k hk), gf := fun k hk => List.mem_append_right _ hk, gL := fun g hg => by cases hg
      gu := fun i hi => absurd hi (by simp)
      gB := fun k hk => by
        rcases List.mem_append.1 hk with e | e
        · exact gB k e
        · exact Bw k (hFl k e)
      Bw := fun k hk => Bw k (Nat.le_trans ho.size hk)
      gLt := fun k hk => by
        rcases List.mem_append.1 hk with e | e
        · exact Nat.lt_of_lt_of_le (gLt k e) ho.size
        · exact L1.lt k e }
  · rcases List.mem_append.1 hk with e | e
    · exact .inl e
    · exact .inr (hFl k e)
theorem crash_run (h : RunP w q B G s cs m t) : Calls Try.prog 23 #[.pointer (some ⟨q, 0, none⟩)] w fun e w' => e = .returned (.tuple #[]) ∧ Kept w q B G s cs (crashM (lnOf s) m) w' := by
  refine (crash_any h.foc h.h0 h.h1 h.h2).mono ?_
  intro e w' hC
  exact ⟨by obtain ⟨p, Fl, V, cv, rfl, -⟩ := hC; rfl, runP_crd h.foc h.ill h.h0 h.h1 h.h2 h.h3 h.code h.codes h.cod h.cf h.lq h.lm h.lo h.gq h.gm h.go h.gB h.Bw h.gLt hC⟩
theorem out_run (h : RunP w q B G s cs m t) (ho : m.out.length ≤ 1000000) : Calls Try.prog 27 #[.pointer (some ⟨q, 0, none⟩)] w (GaveU w m.out) := out_any h.foc ho
theorem cells_run (h : RunP w q B G s cs m t) : Calls Try.prog 28 #[.pointer (some ⟨q, 0, none⟩)] w (GaveU w m.now) := cells_any h.foc

theorem elLn : El Try.prog 83 82 1 8 := by
  obtain ⟨i, h1, h2, h3, h4⟩ := info_parts (P := Try.prog) (e := 82) (z := .pointer none) (size := 1) (bytes := 8) (by kernel_rfl)
  exact ⟨Try.underlying83, ⟨i, _, h1, h2, h3, h4, rfl⟩, by decide⟩
/-- a lane more -/
theorem RunP.more {l : List Ln} {now out : List Int} {w3 w5 : World} {p : Nat} {Fl : List Nat} {x y : Int} {A : Option Addr} {n cap : Nat} {V : Option Addr} {cv : Nat} {c : List St} {A2 : Option Addr} {c2 : Nat}
    {nl : Nat} (h : RunP w q B G s cs ⟨none, l, now, out⟩ t) (hnl : l.length = nl) (hb : Below w.heap.size w w3) (hL : LnAt w3 p Fl x y A n cap V cv (freshV x) 0 false false) (hFl : ∀ k ∈ Fl, w.heap.size ≤ k) (hC : Cod w B ⟨x, y, A, n, cap, c⟩)
    (hown : Own w5 0 82 1 A2 (nl + 1) c2 ((t.us.map fun u => [u.1]) ++ [[.pointer (some ⟨p, 0, none⟩)]])) (hg : w3.grownBy w5 (t.LA.map (·.block))) (hat : A2.map (·.block) = t.LA.map (·.block) ∨ A2.map (·.block) = some w3.heap.size) :
    Kept w q B G s cs ⟨none, l ++ [⟨c, freshV x, 0, false⟩], now, out⟩ (w5.setCell ⟨q, 7, none⟩ (.slice A2 (nl + 1) c2)) := by
  subst hnl
  have ho5 : Only (t.LA.map (·.block)).toList w w5 := (Only.of_below hb).seq (Only.of_grown hg (fun g hg => by rw [hg]; simp))
  have ho35 : Only (t.LA.map (·.block)).toList w3 w5 := Only.of_grown hg (fun g hg => by rw [hg]; simp)
  have hLA : ∀ k ∈ (t.LA.map (·.block)).toList, k ∈ G ∧ t.lab k = 4 ∧ k < w.heap.size := fun k hk => by
    have hk : t.LA.map (·.block) = some k := by simpa using hk
    exact ⟨h.gL k hk, h.lL k hk, (h.lr.lt k hk).2⟩
  have lq := h.foc.qlt
  have lm := h.foc.mem.lt
  have lo := h.foc.oLt
  have F5 := h.foc.far ho5 (fun hm => by have := h.lq; have := (hLA q hm).2.1; omega) (fun k hk hm => by have := h.lm k hk; have := (hLA k hm).2.1; omega) (fun k hk hm => by have := h.lo k hk; have := (hLA k hm).2.1; omega)
  have F6 := foc_set F5 7 (.slice A2 (l.length + 1) c2) (H' := { t.H with l := .slice A2 (l.length + 1) c2 }) rfl rfl
  have ho6 : Only (q :: (t.LA.map (·.block)).toList) w (w5.setCell ⟨q, 7, none⟩ (.slice A2 (l.length + 1) c2)) := (ho5.more (fun k hk => by simp [hk])).seq (F6.2.more (fun k hk => by rw [List.mem_singleton.1 hk]; simp))
  have ho36 : Only (q :: (t.LA.map (·.block)).toList) w3 (w5.setCell ⟨q, 7, none⟩ (.slice A2 (l.length + 1) c2)) := (ho35.more (fun k hk => by simp [hk])).seq (F6.2.more (fun k hk => by rw [List.mem_singleton.1 hk]; simp))
  have hX : ∀ k ∈ q :: (t.LA.map (·.block)).toList, k ∈ G ∧ (t.lab k = 0 ∨ t.lab k = 4) ∧ k < w.heap.size := fun k hk => by
    rcases List.mem_cons.1 hk with e | e
    · rw [e]; exact ⟨h.gq, .inl h.lq, lq⟩
    · exact ⟨(hLA k e).1, .inr (hLA k e).2.1, (hLA k e).2.2⟩
  have hB : ∀ k ∈ q :: (t.LA.map (·.block)).toList, ¬ B k := fun k hk => h.gB k (hX k hk).1
  have hA2 : ∀ g, A2.map (·.block) = some g → (g ∈ G ∧ t.lab g = 4 ∧ g < w.heap.size) ∨ g = w3.heap.size := fun g hg => by
    rcases hat with e | e
    · rw [e] at hg; exact .inl (hLA g (by rw [hg]; simp))
    · rw [e] at hg; cases hg; exact .inr rfl
  have hsz := hb.size
  have hul := h.ul
  have hll := hL.lt
  have hrc := h.rc
  have hown6 : Own (w5.setCell ⟨q, 7, none⟩ (.slice A2 (l.length + 1) c2)) 0 82 1 A2 (l.length + 1) c2 ((t.us.map fun u => [u.1]) ++ [[.pointer (some ⟨p, 0, none⟩)]]) :=
    own_only hown F6.2 (fun g hg hm => by
      rw [List.mem_singleton.1 hm] at hg
      rcases hA2 q hg with e | e
      · have := h.lq; omega
      · omega)
  refine ⟨G ++ Fl ++ (A2.map (·.block)).toList, { t with H := { t.H with l := .slice A2 (l.length + 1) c2 }, LA := A2, lc := c2, us := t.us ++ [(.pointer (some ⟨p, 0, none⟩), Fl)], lab := fun k => if k < w.heap.size then t.lab k else if k < w3.heap.size then 5 + l.length else 4 }, ?_, ?_, ho6.more (fun k hk => (hX k hk).1)⟩
  · exact {
      foc := F6.1, ill := h.ill, h0 := h.h0, h1 := h.h1, h2 := h.h2, h3 := h.h3, code := h.code.far ho6 hB, codes := isCd_far h.codes h.cod h.cf ho6 hB, cod := fun i hi => (h.cod i hi).far ho6 hB, cf := h.cf
      rc := hrc
      hl := by show Value.slice A2 (l.length + 1) c2 = .slice A2 (l ++ _).length c2; simp
      lr := by
        show Own _ 0 _ 1 A2 (l ++ [_]).length c2 ((t.us ++ [_]).map _)
        rw [List.length_append, List.map_append]
        exact hown6
      ul := by show (t.us ++ [_]).length = (l ++ [_]).length; rw [List.length_append, List.length_append, hul]; rfl
      ll := fun i hi => by
        have hi' : i < l.length + 1 := by simpa using hi
        by_cases e : i < l.length
        · have e1 : (t.us ++ [((.pointer (some ⟨p, 0, none⟩) : Value), Fl)]).getD i zeroU = t.us.getD i zeroU := by
            have : i < t.us.length := by rw [hul]; exact e
            simp [List.getD, List.getElem?_append_left this]
          show LnW _ B ((t.us ++ [_]).getD i zeroU).1 ((t.us ++ [_]).getD i zeroU).2 (l ++ [_])[i]
          rw [e1, List.getElem_append_left e]
          exact (h.ll i e).far ho6 hB (fun k hk hm => by have := h.lu i e k hk; have := (hX k hm).2; omega)
        · obtain rfl : i = l.length := by omega
          have e1 : (t.us ++ [((.pointer (some ⟨p, 0, none⟩) : Value), Fl)]).getD l.length zeroU = (.pointer (some ⟨p, 0, none⟩), Fl) := by
            rw [← show t.us.length = l.length from hul]
            simp [List.getD]
          show LnW _ B ((t.us ++ [_]).getD l.length zeroU).1 ((t.us ++ [_]).getD l.length zeroU).2 (l ++ [_])[l.length]
          rw [e1, List.getElem_concat_length rfl]
          exact ⟨p, x, y, A, n, cap, V, cv, false, rfl, hL.far ho36 (fun k hk hm => by have := hFl k hk; have := (hX k hm).2.2; omega), hC.far ho6 hB, Nat.zero_le _⟩
      lq := by show (if q < w.heap.size then t.lab q else _) = 0; rw [if_pos lq]; exact h.lq
      lm := fun k hk => by show (if k < w.heap.size then t.lab k else _) = 1; rw [if_pos (lm k hk)]; exact h.lm k hk
      lo := fun k hk => by show (if k < w.heap.size then t.lab k else _) = 2; rw [if_pos (lo k hk)]; exact h.lo k hk
      lf := fun k hk => by have : t.Fr = [] := hrc.2; rw [show ({ t with H := { t.H with l := .slice A2 (l.length + 1) c2 }, LA := A2, lc := c2, us := t.us ++ [(.pointer (some ⟨p, 0, none⟩), Fl)], lab := fun k => if k < w.heap.size then t.lab k else if k < w3.heap.size then 5 + l.length else 4 } : Prt).Fr = t.Fr from rfl, this] at hk; cases hk
      lL := fun g hg => by
        show (if g < w.heap.size then t.lab g else if g < w3.heap.size then 5 + l.length else 4) = 4
        rcases hA2 g hg with ⟨e1, e2, e3⟩ | e
        · rw [if_pos e3]; exact e2
        · rw [if_neg (by omega), if_neg (by omega)]
      lu := fun i hi k hk => by
        have hi' : i < l.length + 1 := by simpa using hi
        show (if k < w.heap.size then t.lab k else if k < w3.heap.size then 5 + l.length else 4) = 5 + i
        by_cases e : i < l.length
        · have e1 : (t.us ++ [((.pointer (some ⟨p, 0, none⟩) : Value), Fl)]).getD i zeroU = t.us.getD i zeroU := by
            have : i < t.us.length := by rw [hul]; exact e
            simp [List.getD, List.getElem?_append_left this]
          have hk : k ∈ ((t.us ++ [((.pointer (some ⟨p, 0, none⟩) : Value), Fl)]).getD i zeroU).2 := hk
          rw [e1] at hk
          rw [if_pos ((h.ll i e).lt k hk)]
          exact h.lu i e k hk
        · obtain rfl : i = l.length := by omega
          have e1 : (t.us ++ [((.pointer (some ⟨p, 0, none⟩) : Value), Fl)]).getD l.length zeroU = (.pointer (some ⟨p, 0, none⟩), Fl) := by
            rw [← show t.us.length = l.length from hul]
            simp [List.getD]
          have hk : k ∈ ((t.us ++ [((.pointer (some ⟨p, 0, none⟩) : Value), Fl)]).getD l.length zeroU).2 := hk
          rw [e1] at hk
          rw [if_neg (by have := hFl k hk; omega), if_pos (hll k hk)]
      gq := List.mem_append_left _ (List.mem_append_left _ h.gq), gm := fun k hk => List.mem_append_left _ (List.mem_append_left _ (h.gm k hk)), go := fun k hk => List.mem_append_left _ (List.mem_append_left _ (h.go k hk)), gf := fun k hk => List.mem_append_left _ (List.mem_append_left _ (h.gf k hk))
      gL := fun g hg => List.mem_append_right _ (by show g ∈ (A2.map (·.block)).toList; rw [show A2.map (·.block) = some g from hg]; simp)
      gu := fun i hi k hk => by
        have hi' : i < l.length + 1 := by simpa using hi
        by_cases e : i < l.length
        · have e1 : (t.us ++ [((.pointer (some ⟨p, 0, none⟩) : Value), Fl)]).getD i zeroU = t.us.getD i zeroU := by
            have : i < t.us.length := by rw [hul]; exact e
            simp [List.getD, List.getElem?_append_left this]
          have hk : k ∈ ((t.us ++ [((.pointer (some ⟨p, 0, none⟩) : Value), Fl)]).getD i zeroU).2 := hk
          rw [e1] at hk
          exact List.mem_append_left _ (List.mem_append_left _ (h.gu i e k hk))
        · obtain rfl : i = l.length := by omega
          have e1 : (t.us ++ [((.pointer (some ⟨p, 0, none⟩) : Value), Fl)]).getD l.length zeroU = (.pointer (some ⟨p, 0, none⟩), Fl) := by
            rw [← show t.us.length = l.length from hul]
            simp [List.getD]
          have hk : k ∈ ((t.us ++ [((.pointer (some ⟨p, 0, none⟩) : Value), Fl)]).getD l.length zeroU).2 := hk
          rw [e1] at hk
          exact List.mem_append_left _ (List.mem_append_right _ hk)
      gB := fun k hk => by
        have Bw := h.Bw
        rcases List.mem_append.1 hk with e | e
        · rcases List.mem_append.1 e with e | e
          · exact h.gB k e
          · exact Bw k (hFl k e)
        · rcases hA2 k (by simpa using e) with e | e
          · exact h.gB k e.1
          · exact h.Bw k (by omega)
      Bw := fun k hk => h.Bw k (Nat.le_trans ho6.size hk)
      gLt := fun k hk => by
        rcases List.mem_append.1 hk with e | e
        · rcases List.mem_append.1 e with e | e
          · exact Nat.lt_of_lt_of_le (h.gLt k e) ho6.size
          · exact Nat.lt_of_lt_of_le (hll k e) ho36.size
        · exact (hown6.lt k (by simpa using e)).2 }
  · intro k hk
    rcases List.mem_append.1 hk with e | e
    · rcases List.mem_append.1 e with e | e
      · exact .inl e
      · exact .inr (hFl k e)
    · rcases hA2 k (by simpa using e) with e | e
      · exact .inl e.1
      · exact .inr (by omega)
/-- who recovers is at its end -/
theorem RunP.gone {a : Ln} {l : List Ln} {now out : List Int} (h : RunP w q B G s cs ⟨some a, l, now, out⟩ t) : Kept w q B G s cs ⟨none, l, now, out⟩ (w.setCell ⟨q, 6, none⟩ (.pointer none)) := by
  have F6 := foc_set h.foc 6 (.pointer none) (H' := { t.H with rc := .pointer none }) rfl rfl
  have ho := F6.2
  have hX : ∀ k ∈ [q], k ∈ G ∧ t.lab k = 0 := fun k hk => by rw [List.mem_singleton.1 hk]; exact ⟨h.gq, h.lq⟩
  have hB : ∀ k ∈ [q], ¬ B k := fun k hk => h.gB k (hX k hk).1
  refine ⟨G, { t with H := { t.H with rc := .pointer none }, Fr := [] }, ?_, fun k hk => .inl hk, ho.more (fun k hk => (hX k hk).1)⟩
  exact {
    foc := F6.1, ill := h.ill, h0 := h.h0, h1 := h.h1, h2 := h.h2, h3 := h.h3, code := h.code.far ho hB, codes := isCd_far h.codes h.cod h.cf ho hB, cod := fun i hi => (h.cod i hi).far ho hB, cf := h.cf
    rc := ⟨rfl, rfl⟩, hl := h.hl, lr := own_only h.lr ho (fun g hg hm => by have := h.lL g hg; have := (hX g hm).2; omega), ul := h.ul
    ll := fun i hi => (h.ll i hi).far ho hB (fun k hk hm => by have := h.lu i hi k hk; have := (hX k hm).2; omega)
    lq := h.lq, lm := h.lm, lo := h.lo, lf := fun k hk => by cases hk
    lL := h.lL, lu := h.lu, gq := h.gq, gm := h.gm, go := h.go, gf := fun k hk => by cases hk
    gL := h.gL, gu := h.gu, gB := h.gB, Bw := fun k hk => h.Bw k (Nat.le_trans ho.size hk), gLt := fun k hk => Nat.lt_of_lt_of_le (h.gLt k hk) ho.size }
end
end Go.Proofs.Ytdhihmeknoofoaa.Sr
