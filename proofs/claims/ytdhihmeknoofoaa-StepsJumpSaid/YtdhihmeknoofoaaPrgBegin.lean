/-
  WALKS: the program's run of steps: a code begun; all begun anew.
-/
import Derived.Test.YtdhihmeknoofoaaPrgHeap
namespace Go.Proofs.Ytdhihmeknoofoaa.Ph
set_option linter.unusedVariables false
set_option linter.unusedSimpArgs false
open Go.RowKit Cm Mm Ow Ow2 Me Stp StW Rm Sp Sd Sx Sr Pn Pa Pq Pr Pm
open ElM (Cd zeroCd cdL okCd IsCd)

/-- a code, begun -/
def Begun (w : World) (x y : Int) (A : Option Addr) (n cap : Nat) (e : Ending) (w' : World) : Prop :=
  ∃ p Fl V cv, e = .returned (.pointer (some ⟨p, 0, none⟩)) ∧ ThAt w' p Fl x y A n cap V cv (freshV x) 0 0 ∧ (∀ k ∈ Fl, w.heap.size ≤ k) ∧ Below w.heap.size w w'
theorem begun_at (w : World) (x y : Int) (A : Option Addr) (n cap : Nat) (o1 : Obj) :
    ThAt ((((w.alloc o1).drew.alloc (.cells (madeCells #[.int .u64 0] (c400 x)) 29))).alloc (.cells #[.int .i64 x, .int .i64 y, .slice A n cap, .slice (some ⟨w.heap.size + 1, 0, none⟩) (c400 x) (c400 x), .int .i64 0, .int .i64 0] 110)) (w.heap.size + 2) [w.heap.size + 2, w.heap.size + 1] x y A n cap (some ⟨w.heap.size + 1, 0, none⟩) (c400 x) (freshV x) 0 0 := by
  have hlen : (freshV x).length = c400 x := by simp [freshV]
  have h1 : (w.alloc o1).drew.heap.size = w.heap.size + 1 := by simp
  have h2 : ((w.alloc o1).drew.alloc (.cells (madeCells #[.int .u64 0] (c400 x)) 29)).heap.size = w.heap.size + 2 := by simp
  refine ⟨?_, ?_, by simp, fun g hg => ?_, fun k hk => ?_, by rw [hlen]; exact c400_le x⟩
  · rw [hlen, ← h2]
    exact heap_alloc_new _ _
  · rw [hlen]
    have e : (freshV x).map uw = List.replicate (c400 x) (.int .u64 0) := by simp [freshV, uw]
    rw [e]
    refine row_made4 (c400_le x) ?_
    rw [← h1]
    rw [Below.heap_alloc _ _ _ (by simp)]
    exact heap_alloc_new _ _
  · simp at hg; simp [hg]
  · simp at hk ⊢; omega
set_option maxRecDepth 20000 in
set_option maxHeartbeats 3200000 in
theorem pbegin_any (x y : Int) (A : Option Addr) (n cap : Nat) (w : World) : Calls Try.prog 85 #[.agg #[.int .i64 x, .int .i64 y, .slice A n cap]] w (Begun w x y A n cap) := by
  have hm := run_make_u (c400 x) (by have := c400_le x; omega)
  have LA := Lib.hid (begun_at w x y A n cap (.cells #[.int .i64 x, .int .i64 y, .slice A n cap] 24))
  have hc4 := c400_le x
  have hci := c400_int x
  go_enter Try.func85, Try.ntmps85
  go_wp2_with fail
  refine Hd.start 6 (fun w' => w'.cell? ⟨w.heap.size, 0, none⟩ = some (.int .i64 x) ∧ w'.cell? ⟨w.heap.size, 1, none⟩ = some (.int .i64 y) ∧ w'.cell? ⟨w.heap.size, 2, none⟩ = some (.slice A n cap)) (by kernel_rfl) ?_
  have SA : (w.alloc (.cells #[.int .i64 x, .int .i64 y, .slice A n cap] 24)).drew.cell? ⟨w.heap.size, 0, none⟩ = some (.int .i64 x) ∧ (w.alloc (.cells #[.int .i64 x, .int .i64 y, .slice A n cap] 24)).drew.cell? ⟨w.heap.size, 1, none⟩ = some (.int .i64 y) ∧ (w.alloc (.cells #[.int .i64 x, .int .i64 y, .slice A n cap] 24)).drew.cell? ⟨w.heap.size, 2, none⟩ = some (.slice A n cap) := ⟨by simp, by simp, by simp⟩
  refine Hd.take (i := 0) (v := ?v1) rfl (by decide +kernel) (by decide +kernel) (fun _ _ _ h => h) rfl ?hy1 SA ?rest1
  case hy1 =>
    intro wq hSw
    obtain ⟨s0, s1, s2⟩ := hSw
    go_simp
    try with_reducible rfl
  try simp only [Act.put, List.setIfInBounds_toArray, List.set_cons_zero, List.set_cons_succ]
  refine Hd.take (i := 1) (v := ?v2) rfl (by decide +kernel) (by decide +kernel) (fun _ _ _ h => h) rfl ?hy2 SA ?rest2
  case hy2 =>
    intro wq hSw
    obtain ⟨s0, s1, s2⟩ := hSw
    go_simp
    try with_reducible rfl
  try simp only [Act.put, List.setIfInBounds_toArray, List.set_cons_zero, List.set_cons_succ]
  refine Hd.take (i := 2) (v := ?v3) rfl (by decide +kernel) (by decide +kernel) (fun _ _ _ h => h) rfl ?hy3 SA ?rest3
  case hy3 =>
    intro wq hSw
    obtain ⟨s0, s1, s2⟩ := hSw
    go_simp
    try with_reducible rfl
  try simp only [Act.put, List.setIfInBounds_toArray, List.set_cons_zero, List.set_cons_succ]
  refine Hd.take (i := 3) (v := ?v4) rfl (by decide +kernel) (by decide +kernel) (fun _ _ _ h => h) rfl ?hy4 SA ?rest4
  case hy4 =>
    intro wq hSw
    obtain ⟨s0, s1, s2⟩ := hSw
    go_simp
    try with_reducible rfl
  try simp only [Act.put, List.setIfInBounds_toArray, List.set_cons_zero, List.set_cons_succ]
  refine Hd.take (i := 4) (v := ?v5) rfl (by decide +kernel) (by decide +kernel) (fun _ _ _ h => h) rfl ?hy5 SA ?rest5
  case hy5 =>
    intro wq hSw
    obtain ⟨s0, s1, s2⟩ := hSw
    go_simp
    try with_reducible rfl
  try simp only [Act.put, List.setIfInBounds_toArray, List.set_cons_zero, List.set_cons_succ]
  have SB : ((w.alloc (.cells #[.int .i64 x, .int .i64 y, .slice A n cap] 24)).alloc (.cells (madeCells #[.int .u64 0] (c400 x)) 29)).drew.cell? ⟨w.heap.size, 0, none⟩ = some (.int .i64 x) ∧ ((w.alloc (.cells #[.int .i64 x, .int .i64 y, .slice A n cap] 24)).alloc (.cells (madeCells #[.int .u64 0] (c400 x)) 29)).drew.cell? ⟨w.heap.size, 1, none⟩ = some (.int .i64 y) ∧ ((w.alloc (.cells #[.int .i64 x, .int .i64 y, .slice A n cap] 24)).alloc (.cells (madeCells #[.int .u64 0] (c400 x)) 29)).drew.cell? ⟨w.heap.size, 2, none⟩ = some (.slice A n cap) := ⟨(World.cell?_alloc_lt _ _ _ (by simp)).trans SA.1, (World.cell?_alloc_lt _ _ _ (by simp)).trans SA.2.1, (World.cell?_alloc_lt _ _ _ (by simp)).trans SA.2.2⟩
  clear hci
  generalize c400 x = m at *
  refine Hd.one (i := 5) rfl (by kernel_rfl) rfl (fun K hK => ?_)
  go_simp
  refine hK _ _ (fun _ => SB) ?_
  clear hK K
  try simp only [Act.put, List.setIfInBounds_toArray, List.set_cons_zero, List.set_cons_succ]
  refine Hd.one (i := 6) rfl (by kernel_rfl) rfl (fun K hK => ?_)
  go_simp
  refine hK _ _ (fun h => absurd h (by omega)) ?_
  clear hK K
  try simp only [Act.put, List.setIfInBounds_toArray, List.set_cons_zero, List.set_cons_succ]
  refine Hd.one (i := 7) rfl (by kernel_rfl) rfl (fun K hK => ?_)
  go_simp
  refine hK _ _ (fun h => absurd h (by omega)) ?_
  clear hK K
  try simp only [Act.put, List.setIfInBounds_toArray, List.set_cons_zero, List.set_cons_succ]
  refine Hd.one (i := 8) rfl (by kernel_rfl) rfl (fun K hK => ?_)
  go_simp
  refine hK _ _ (fun h => absurd h (by omega)) ?_
  clear hK K
  try simp only [Act.put, List.setIfInBounds_toArray, List.set_cons_zero, List.set_cons_succ]
  refine Hd.done (by kernel_rfl) ?_ _
  go_wp2_with fail
  go_ret
  exact ⟨_, _, _, _, rfl, LA.out, fun k hk => by simp at hk; omega, ((((Below.refl _ _).alloc (Nat.le_refl _) _).alloc (by simp) _).alloc (by simp; omega) _).drew⟩
theorem freshV_u (x : Int) : ∀ z ∈ freshV x, isU z := fun z hz => by
  unfold freshV at hz
  rw [(List.mem_replicate.1 hz).2]
  exact ⟨by decide, by decide⟩
theorem elTh : El Try.prog 103 102 1 8 := by
  obtain ⟨i, h1, h2, h3, h4⟩ := info_parts (P := Try.prog) (e := 102) (z := .pointer none) (size := 1) (bytes := 8) (by kernel_rfl)
  exact ⟨Try.underlying103, ⟨i, _, h1, h2, h3, h4, rfl⟩, by decide⟩
section
variable {w w' : World} {q : Nat} {C : Nat → Prop} {G : List Nat} {s : Cd} {cs : List Cd} {rc : Ln} {sd : Bool} {l : List Ln} {now out : List Int} {t : Prq}
/-- a lane more -/
theorem RunQ.more  {w3 w5 : World} {p : Nat} {Fl : List Nat} {x y : Int} {A : Option Addr} {n cap : Nat} {V : Option Addr} {cv : Nat} {c : List St} {A2 : Option Addr} {c2 : Nat}
    {nl : Nat} (h : RunQ w q C G s cs rc sd l now out t) (hnl : l.length = nl) (hb : Below w.heap.size w w3) (hL : ThAt w3 p Fl x y A n cap V cv (freshV x) 0 0) (hFl : ∀ k ∈ Fl, w.heap.size ≤ k) (hC : Cod w C ⟨x, y, A, n, cap, c⟩) (hu : CodeU c)
    (hown : Own w5 0 102 1 A2 (nl + 1) c2 ((t.us.map fun u => [u.1]) ++ [[.pointer (some ⟨p, 0, none⟩)]])) (hg : w3.grownBy w5 (t.LA.map (·.block))) (hat : A2.map (·.block) = t.LA.map (·.block) ∨ A2.map (·.block) = some w3.heap.size) :
    ∃ G' t', RunQ (w5.setCell ⟨q, 7, none⟩ (.slice A2 (nl + 1) c2)) q C G' s cs rc sd (l ++ [⟨c, freshV x, 0, false⟩]) now out t' ∧ (∀ k ∈ G', k ∈ G ∨ w.heap.size ≤ k) ∧ Only G w (w5.setCell ⟨q, 7, none⟩ (.slice A2 (nl + 1) c2)) ∧ t'.CA = t.CA ∧ t'.cc = t.cc := by
  subst hnl
  have ho5 : Only (t.LA.map (·.block)).toList w w5 := (Only.of_below hb).seq (Only.of_grown hg (fun g hg => by rw [hg]; simp))
  have ho35 : Only (t.LA.map (·.block)).toList w3 w5 := Only.of_grown hg (fun g hg => by rw [hg]; simp)
  have hLA : ∀ k ∈ (t.LA.map (·.block)).toList, k ∈ G ∧ t.lab k = 4 ∧ k < w.heap.size := fun k hk => by
    have hk : t.LA.map (·.block) = some k := by simpa using hk
    exact ⟨h.gL k hk, h.lL k hk, (h.lr.lt k hk).2⟩
  have lq := h.foc.qlt
  have lm := h.foc.mLt
  have lo := h.foc.oLt
  have F5 := h.foc.far ho5 (fun hm => by have := h.lq; have := (hLA q hm).2.1; omega) (fun k hk hm => by have := h.lm k hk; have := (hLA k hm).2.1; omega) (fun k hk hm => by have := h.lo k hk; have := (hLA k hm).2.1; omega)
  have F6 := fop_set F5 7 (.slice A2 (l.length + 1) c2) (H' := { t.H with th := .slice A2 (l.length + 1) c2 }) rfl
  have ho6 : Only (q :: (t.LA.map (·.block)).toList) w (w5.setCell ⟨q, 7, none⟩ (.slice A2 (l.length + 1) c2)) := (ho5.more (fun k hk => by simp [hk])).seq (F6.2.more (fun k hk => by rw [List.mem_singleton.1 hk]; simp))
  have ho36 : Only (q :: (t.LA.map (·.block)).toList) w3 (w5.setCell ⟨q, 7, none⟩ (.slice A2 (l.length + 1) c2)) := (ho35.more (fun k hk => by simp [hk])).seq (F6.2.more (fun k hk => by rw [List.mem_singleton.1 hk]; simp))
  have hX : ∀ k ∈ q :: (t.LA.map (·.block)).toList, k ∈ G ∧ (t.lab k = 0 ∨ t.lab k = 4) ∧ k < w.heap.size := fun k hk => by
    rcases List.mem_cons.1 hk with e | e
    · rw [e]; exact ⟨h.gq, .inl h.lq, lq⟩
    · exact ⟨(hLA k e).1, .inr (hLA k e).2.1, (hLA k e).2.2⟩
  have hB : ∀ k ∈ q :: (t.LA.map (·.block)).toList, ¬ C k := fun k hk => h.gB k (hX k hk).1
  have hA2 : ∀ g, A2.map (·.block) = some g → (g ∈ G ∧ t.lab g = 4 ∧ g < w.heap.size) ∨ g = w3.heap.size := fun g hg => by
    rcases hat with e | e
    · rw [e] at hg; exact .inl (hLA g (by rw [hg]; simp))
    · rw [e] at hg; cases hg; exact .inr rfl
  have hsz := hb.size
  have hul := h.ul
  have hll := hL.lt
  have hrc := h.rc
  have hown6 : Own (w5.setCell ⟨q, 7, none⟩ (.slice A2 (l.length + 1) c2)) 0 102 1 A2 (l.length + 1) c2 ((t.us.map fun u => [u.1]) ++ [[.pointer (some ⟨p, 0, none⟩)]]) :=
    Sa.own_only hown F6.2 (fun g hg hm => by
      rw [List.mem_singleton.1 hm] at hg
      rcases hA2 q hg with e | e
      · have := h.lq; omega
      · omega)
  refine ⟨G ++ Fl ++ (A2.map (·.block)).toList, { t with H := { t.H with th := .slice A2 (l.length + 1) c2 }, LA := A2, lc := c2, us := t.us ++ [(.pointer (some ⟨p, 0, none⟩), Fl)], lab := fun k => if k < w.heap.size then t.lab k else if k < w3.heap.size then 5 + l.length else 4 }, ?_, ?_, ho6.more (fun k hk => (hX k hk).1), rfl, rfl⟩
  · exact {
      foc := F6.1, ill := h.ill, hsd := h.hsd, h0 := h.h0, h1 := h.h1, h2 := h.h2, h3 := h.h3, code := h.code.far ho6 hB, cu := h.cu, codes := isCd_far h.codes h.cod h.cf ho6 hB, cod := fun i hi => (h.cod i hi).far ho6 hB, cus := h.cus, cf := h.cf
      rc := hrc.far ho6 hB (fun k hk hm => by have := h.lf k hk; have := (hX k hm).2; omega)
      hl := by show Value.slice A2 (l.length + 1) c2 = .slice A2 (l ++ _).length c2; simp
      lr := by
        show Own _ 0 _ 1 A2 (l ++ [_]).length c2 ((t.us ++ [_]).map _)
        rw [List.length_append, List.map_append]
        exact hown6
      ul := by show (t.us ++ [_]).length = (l ++ [_]).length; rw [List.length_append, List.length_append, hul]; rfl
      ll := fun i hi => by
        have hi' : i < l.length + 1 := by simpa using hi
        by_cases e : i < l.length
        · have e1 : (t.us ++ [((.pointer (some ⟨p, 0, none⟩) : Value), Fl)]).getD i zeroU = t.us.getD i zeroU := by
            have : i < t.us.length := by rw [hul]; exact e
            simp [List.getD, List.getElem?_append_left this]
          show LnQ _ C ((t.us ++ [_]).getD i zeroU).1 ((t.us ++ [_]).getD i zeroU).2 (l ++ [_])[i]
          rw [e1, List.getElem_append_left e]
          exact (h.ll i e).far ho6 hB (fun k hk hm => by have := h.lu i e k hk; have := (hX k hm).2; omega)
        · obtain rfl : i = l.length := by omega
          have e1 : (t.us ++ [((.pointer (some ⟨p, 0, none⟩) : Value), Fl)]).getD l.length zeroU = (.pointer (some ⟨p, 0, none⟩), Fl) := by
            rw [← show t.us.length = l.length from hul]
            simp [List.getD]
          show LnQ _ C ((t.us ++ [_]).getD l.length zeroU).1 ((t.us ++ [_]).getD l.length zeroU).2 (l ++ [_])[l.length]
          rw [e1, List.getElem_concat_length rfl]
          exact ⟨p, x, y, A, n, cap, V, cv, 0, 0, rfl, hL.far ho36 (fun k hk hm => by have := hFl k hk; have := (hX k hm).2.2; omega), hC.far ho6 hB, hu, freshV_u x, .inl ⟨rfl, rfl, rfl, Nat.zero_le _⟩⟩
      lq := by show (if q < w.heap.size then t.lab q else _) = 0; rw [if_pos lq]; exact h.lq
      lm := fun k hk => by show (if k < w.heap.size then t.lab k else _) = 1; rw [if_pos (lm k hk)]; exact h.lm k hk
      lo := fun k hk => by show (if k < w.heap.size then t.lab k else _) = 2; rw [if_pos (lo k hk)]; exact h.lo k hk
      lf := fun k hk => by show (if k < w.heap.size then t.lab k else _) = 3; rw [if_pos (hrc.lt k hk)]; exact h.lf k hk
      lL := fun g hg => by
        show (if g < w.heap.size then t.lab g else if g < w3.heap.size then 5 + l.length else 4) = 4
        rcases hA2 g hg with ⟨e1, e2, e3⟩ | e
        · rw [if_pos e3]; exact e2
        · rw [if_neg (by omega), if_neg (by omega)]
      lu := fun i hi k hk => by
        have hi' : i < l.length + 1 := by simpa using hi
        show (if k < w.heap.size then t.lab k else if k < w3.heap.size then 5 + l.length else 4) = 5 + i
        by_cases e : i < l.length
        · have e1 : (t.us ++ [((.pointer (some ⟨p, 0, none⟩) : Value), Fl)]).getD i zeroU = t.us.getD i zeroU := by
            have : i < t.us.length := by rw [hul]; exact e
            simp [List.getD, List.getElem?_append_left this]
          have hk : k ∈ ((t.us ++ [((.pointer (some ⟨p, 0, none⟩) : Value), Fl)]).getD i zeroU).2 := hk
          rw [e1] at hk
          rw [if_pos ((h.ll i e).lt k hk)]
          exact h.lu i e k hk
        · obtain rfl : i = l.length := by omega
          have e1 : (t.us ++ [((.pointer (some ⟨p, 0, none⟩) : Value), Fl)]).getD l.length zeroU = (.pointer (some ⟨p, 0, none⟩), Fl) := by
            rw [← show t.us.length = l.length from hul]
            simp [List.getD]
          have hk : k ∈ ((t.us ++ [((.pointer (some ⟨p, 0, none⟩) : Value), Fl)]).getD l.length zeroU).2 := hk
          rw [e1] at hk
          rw [if_neg (by have := hFl k hk; omega), if_pos (hll k hk)]
      gq := List.mem_append_left _ (List.mem_append_left _ h.gq), gm := fun k hk => List.mem_append_left _ (List.mem_append_left _ (h.gm k hk)), go := fun k hk => List.mem_append_left _ (List.mem_append_left _ (h.go k hk)), gf := fun k hk => List.mem_append_left _ (List.mem_append_left _ (h.gf k hk))
      gL := fun g hg => List.mem_append_right _ (by show g ∈ (A2.map (·.block)).toList; rw [show A2.map (·.block) = some g from hg]; simp)
      gu := fun i hi k hk => by
        have hi' : i < l.length + 1 := by simpa using hi
        by_cases e : i < l.length
        · have e1 : (t.us ++ [((.pointer (some ⟨p, 0, none⟩) : Value), Fl)]).getD i zeroU = t.us.getD i zeroU := by
            have : i < t.us.length := by rw [hul]; exact e
            simp [List.getD, List.getElem?_append_left this]
          have hk : k ∈ ((t.us ++ [((.pointer (some ⟨p, 0, none⟩) : Value), Fl)]).getD i zeroU).2 := hk
          rw [e1] at hk
          exact List.mem_append_left _ (List.mem_append_left _ (h.gu i e k hk))
        · obtain rfl : i = l.length := by omega
          have e1 : (t.us ++ [((.pointer (some ⟨p, 0, none⟩) : Value), Fl)]).getD l.length zeroU = (.pointer (some ⟨p, 0, none⟩), Fl) := by
            rw [← show t.us.length = l.length from hul]
            simp [List.getD]
          have hk : k ∈ ((t.us ++ [((.pointer (some ⟨p, 0, none⟩) : Value), Fl)]).getD l.length zeroU).2 := hk
          rw [e1] at hk
          exact List.mem_append_left _ (List.mem_append_right _ hk)
      gB := fun k hk => by
        have Bw := h.Bw
        rcases List.mem_append.1 hk with e | e
        · rcases List.mem_append.1 e with e | e
          · exact h.gB k e
          · exact Bw k (hFl k e)
        · rcases hA2 k (by simpa using e) with e | e
          · exact h.gB k e.1
          · exact h.Bw k (by omega)
      Bw := fun k hk => h.Bw k (Nat.le_trans ho6.size hk)
      gLt := fun k hk => by
        rcases List.mem_append.1 hk with e | e
        · rcases List.mem_append.1 e with e | e
          · exact Nat.lt_of_lt_of_le (h.gLt k e) ho6.size
          · exact Nat.lt_of_lt_of_le (hll k e) ho36.size
        · exact (hown6.lt k (by simpa using e)).2 }
  · intro k hk
    rcases List.mem_append.1 hk with e | e
    · rcases List.mem_append.1 e with e | e
      · exact .inl e
      · exact .inr (hFl k e)
    · rcases hA2 k (by simpa using e) with e | e
      · exact .inl e.1
      · exact .inr (by omega)
end
end Go.Proofs.Ytdhihmeknoofoaa.Ph
