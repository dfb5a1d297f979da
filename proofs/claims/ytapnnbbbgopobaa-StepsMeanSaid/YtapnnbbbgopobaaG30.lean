/-
  WALKS: the program's run of steps: a code begun; all begun anew.
-/
import Derived.Test.YtapnnbbbgopobaaG29
import Derived.Test.YtapnnbbbgopobaaG05
set_option linter.unusedVariables false
set_option linter.unusedSimpArgs false
namespace Go.Proofs.Ytapnnbbbgopobaa.Ph
open Go.RowKit Cm Mm Ow Ow2 Me Stp StW Rm Sp Sd Sx Sr Pn Pa Pq Pr Pm
open ElM (Cd zeroCd cdL okCd IsCd)
def Begun (w : World) (x y : Int) (A : Option Addr) (n cap : Nat) (e : Ending) (w' : World) : Prop :=
  ∃ p Fl V cv, e = .returned (.pointer (some ⟨p, 0, none⟩)) ∧ ThAt w' p Fl x y A n cap V cv (freshV x) 0 0 ∧ (∀ k ∈ Fl, w.heap.size ≤ k) ∧ Below w.heap.size w w'
theorem begun_at (w : World) (x y : Int) (A : Option Addr) (n cap : Nat) (o1 : Obj) :
    ThAt ((((w.alloc o1).drew.alloc (.cells (madeCells #[.int .u64 0] (c400 x)) 53))).alloc (.cells #[.int .i64 x, .int .i64 y, .slice A n cap, .slice (some ⟨w.heap.size + 1, 0, none⟩) (c400 x) (c400 x), .int .i64 0, .int .i64 0] 92)) (w.heap.size + 2) [w.heap.size + 2, w.heap.size + 1] x y A n cap (some ⟨w.heap.size + 1, 0, none⟩) (c400 x) (freshV x) 0 0 := by
  have hlen : (freshV x).length = c400 x := by simp [freshV]
  have h1 : (w.alloc o1).drew.heap.size = w.heap.size + 1 := by simp
  have h2 : ((w.alloc o1).drew.alloc (.cells (madeCells #[.int .u64 0] (c400 x)) 53)).heap.size = w.heap.size + 2 := by simp
  refine ⟨?_, ?_, by simp, fun g hg => ?_, fun k hk => ?_, by rw [hlen]; exact c400_le x⟩
  · rw [hlen, ← h2]
    exact heap_alloc_new _ _
  · rw [hlen]
    have e : (freshV x).map uw = List.replicate (c400 x) (.int .u64 0) := by simp [freshV, uw]
    rw [e]
    refine row_made4 (c400_le x) ?_
    rw [← h1]
    rw [Below.heap_alloc _ _ _ (by simp)]
    exact heap_alloc_new _ _
  · simp at hg; simp [hg]
  · simp at hk ⊢; omega
set_option maxRecDepth 20000 in
set_option maxHeartbeats 3200000 in
theorem pbegin_any (x y : Int) (A : Option Addr) (n cap : Nat) (w : World) : Calls Try.prog 57 #[.agg #[.int .i64 x, .int .i64 y, .slice A n cap]] w (Begun w x y A n cap) := by
  have hm := run_make_u (c400 x) (by have := c400_le x; omega)
  have LA := Lib.hid (begun_at w x y A n cap (.cells #[.int .i64 x, .int .i64 y, .slice A n cap] 34))
  have hc4 := c400_le x
  have hci := c400_int x
  go_enter Try.func57, Try.ntmps57
  go_wp2_with fail
  refine Hd.start 6 (fun w' => w'.cell? ⟨w.heap.size, 0, none⟩ = some (.int .i64 x) ∧ w'.cell? ⟨w.heap.size, 1, none⟩ = some (.int .i64 y) ∧ w'.cell? ⟨w.heap.size, 2, none⟩ = some (.slice A n cap)) (by kernel_rfl) ?_
  have SA : (w.alloc (.cells #[.int .i64 x, .int .i64 y, .slice A n cap] 34)).drew.cell? ⟨w.heap.size, 0, none⟩ = some (.int .i64 x) ∧ (w.alloc (.cells #[.int .i64 x, .int .i64 y, .slice A n cap] 34)).drew.cell? ⟨w.heap.size, 1, none⟩ = some (.int .i64 y) ∧ (w.alloc (.cells #[.int .i64 x, .int .i64 y, .slice A n cap] 34)).drew.cell? ⟨w.heap.size, 2, none⟩ = some (.slice A n cap) := ⟨by simp, by simp, by simp⟩
  refine Hd.take (i := 0) (v := ?v1) rfl (by decide +kernel) (by decide +kernel) (fun _ _ _ h => h) rfl ?hy1 SA ?rest1
  case hy1 =>
    intro wq hSw
    obtain ⟨s0, s1, s2⟩ := hSw
    go_simp
    try with_reducible rfl
  try simp only [Act.put, zA, zB, zC]
  refine Hd.take (i := 1) (v := ?v2) rfl (by decide +kernel) (by decide +kernel) (fun _ _ _ h => h) rfl ?hy2 SA ?rest2
  case hy2 =>
    intro wq hSw
    obtain ⟨s0, s1, s2⟩ := hSw
    go_simp
    try with_reducible rfl
  try simp only [Act.put, zA, zB, zC]
  refine Hd.take (i := 2) (v := ?v3) rfl (by decide +kernel) (by decide +kernel) (fun _ _ _ h => h) rfl ?hy3 SA ?rest3
  case hy3 =>
    intro wq hSw
    obtain ⟨s0, s1, s2⟩ := hSw
    go_simp
    try with_reducible rfl
  try simp only [Act.put, zA, zB, zC]
  refine Hd.take (i := 3) (v := ?v4) rfl (by decide +kernel) (by decide +kernel) (fun _ _ _ h => h) rfl ?hy4 SA ?rest4
  case hy4 =>
    intro wq hSw
    obtain ⟨s0, s1, s2⟩ := hSw
    go_simp
    try with_reducible rfl
  try simp only [Act.put, zA, zB, zC]
  refine Hd.take (i := 4) (v := ?v5) rfl (by decide +kernel) (by decide +kernel) (fun _ _ _ h => h) rfl ?hy5 SA ?rest5
  case hy5 =>
    intro wq hSw
    obtain ⟨s0, s1, s2⟩ := hSw
    go_simp
    try with_reducible rfl
  try simp only [Act.put, zA, zB, zC]
  have SB : ((w.alloc (.cells #[.int .i64 x, .int .i64 y, .slice A n cap] 34)).alloc (.cells (madeCells #[.int .u64 0] (c400 x)) 53)).drew.cell? ⟨w.heap.size, 0, none⟩ = some (.int .i64 x) ∧ ((w.alloc (.cells #[.int .i64 x, .int .i64 y, .slice A n cap] 34)).alloc (.cells (madeCells #[.int .u64 0] (c400 x)) 53)).drew.cell? ⟨w.heap.size, 1, none⟩ = some (.int .i64 y) ∧ ((w.alloc (.cells #[.int .i64 x, .int .i64 y, .slice A n cap] 34)).alloc (.cells (madeCells #[.int .u64 0] (c400 x)) 53)).drew.cell? ⟨w.heap.size, 2, none⟩ = some (.slice A n cap) := ⟨(World.cell?_alloc_lt _ _ _ (by simp)).trans SA.1, (World.cell?_alloc_lt _ _ _ (by simp)).trans SA.2.1, (World.cell?_alloc_lt _ _ _ (by simp)).trans SA.2.2⟩
  clear hci
  generalize c400 x = m at *
  refine Hd.one (i := 5) rfl (by kernel_rfl) rfl (fun K hK => ?_)
  go_simp
  refine hK _ _ (fun _ => SB) ?_
  clear hK K
  try simp only [Act.put, zA, zB, zC]
  refine Hd.one (i := 6) rfl (by kernel_rfl) rfl (fun K hK => ?_)
  go_simp
  refine hK _ _ (fun h => absurd h (by omega)) ?_
  clear hK K
  try simp only [Act.put, zA, zB, zC]
  refine Hd.one (i := 7) rfl (by kernel_rfl) rfl (fun K hK => ?_)
  go_simp
  refine hK _ _ (fun h => absurd h (by omega)) ?_
  clear hK K
  try simp only [Act.put, zA, zB, zC]
  refine Hd.one (i := 8) rfl (by kernel_rfl) rfl (fun K hK => ?_)
  go_simp
  refine hK _ _ (fun h => absurd h (by omega)) ?_
  clear hK K
  try simp only [Act.put, zA, zB, zC]
  refine Hd.done (by kernel_rfl) ?_ _
  go_wp2_with fail
  go_ret
  exact ⟨_, _, _, _, rfl, LA.out, fun k hk => by simp at hk; omega, ((((Below.refl _ _).alloc (Nat.le_refl _) _).alloc (by simp) _).alloc (by simp; omega) _).drew⟩
theorem freshV_u (x : Int) : ∀ z ∈ freshV x, isU z := fun z hz => by
  unfold freshV at hz
  rw [(List.mem_replicate.1 hz).2]
  exact ⟨by decide, by decide⟩
theorem elTh : El Try.prog 77 76 1 8 := by
  obtain ⟨i, h1, h2, h3, h4⟩ := info_parts (P := Try.prog) (e := 76) (z := .pointer none) (size := 1) (bytes := 8) (by kernel_rfl)
  exact ⟨Try.underlying77, ⟨i, _, h1, h2, h3, h4, rfl⟩, by decide⟩
section
variable {w w' : World} {q : Nat} {C : Nat → Prop} {G : List Nat} {s : Cd} {cs : List Cd} {rc : Ln} {sd : Bool} {l : List Ln} {now out : List Int} {t : Prq}
theorem RunQ.more  {w3 w5 : World} {p : Nat} {Fl : List Nat} {x y : Int} {A : Option Addr} {n cap : Nat} {V : Option Addr} {cv : Nat} {c : List St} {A2 : Option Addr} {c2 : Nat}
    {nl : Nat} (h : RunQ w q C G s cs rc sd l now out t) (hnl : l.length = nl) (hb : Below w.heap.size w w3) (hL : ThAt w3 p Fl x y A n cap V cv (freshV x) 0 0) (hFl : ∀ k ∈ Fl, w.heap.size ≤ k) (hC : Cod w C ⟨x, y, A, n, cap, c⟩) (hu : CodeU c)
    (hown : Own w5 0 76 1 A2 (nl + 1) c2 ((t.us.map fun u => [u.1]) ++ [[.pointer (some ⟨p, 0, none⟩)]])) (hg : w3.grownBy w5 (t.LA.map (·.block))) (hat : A2.map (·.block) = t.LA.map (·.block) ∨ A2.map (·.block) = some w3.heap.size) :
    ∃ G' t', RunQ (w5.setCell ⟨q, 7, none⟩ (.slice A2 (nl + 1) c2)) q C G' s cs rc sd (l ++ [⟨c, freshV x, 0, false⟩]) now out t' ∧ (∀ k ∈ G', k ∈ G ∨ w.heap.size ≤ k) ∧ Only G w (w5.setCell ⟨q, 7, none⟩ (.slice A2 (nl + 1) c2)) ∧ t'.CA = t.CA ∧ t'.cc = t.cc := by
  subst hnl
  have ho5 : Only (t.LA.map (·.block)).toList w w5 := (Only.of_below hb).seq (Only.of_grown hg (fun g hg => by rw [hg]; simp))
  have ho35 : Only (t.LA.map (·.block)).toList w3 w5 := Only.of_grown hg (fun g hg => by rw [hg]; simp)
  have hLA : ∀ k ∈ (t.LA.map (·.block)).toList, k ∈ G ∧ t.lab k = 4 ∧ k < w.heap.size := fun k hk => by
    have hk : t.LA.map (·.block) = some k := by simpa using hk
    exact ⟨h.gL k hk, h.lL k hk, (h.lr.lt k hk).2⟩
  have lq := h.foc.qlt
  have lm := h.foc.mLt
  have lo := h.foc.oLt
  have F5 := h.foc.far ho5 (fun hm => by have := h.lq; have := (hLA q hm).2.1; omega) (fun k hk hm => by have := h.lm k hk; have := (hLA k hm).2.1; omega) (fun k hk hm => by have := h.lo k hk; have := (hLA k hm).2.1; omega)
  have F6 := fop_set F5 7 (.slice A2 (l.length + 1) c2) (H' := { t.H with th := .slice A2 (l.length + 1) c2 }) rfl
  have ho6 : Only (q :: (t.LA.map (·.block)).toList) w (w5.setCell ⟨q, 7, none⟩ (.slice A2 (l.length + 1) c2)) := (ho5.more (fun k hk => by simp [hk])).seq (F6.2.more (fun k hk => by rw [List.mem_singleton.1 hk]; simp))
  have ho36 : Only (q :: (t.LA.map (·.block)).toList) w3 (w5.setCell ⟨q, 7, none⟩ (.slice A2 (l.length + 1) c2)) := (ho35.more (fun k hk => by simp [hk])).seq (F6.2.more (fun k hk => by rw [List.mem_singleton.1 hk]; simp))
  have hX : ∀ k ∈ q :: (t.LA.map (·.block)).toList, k ∈ G ∧ (t.lab k = 0 ∨ t.lab k = 4) ∧ k < w.heap.size := fun k hk => by
    rcases List.mem_cons.1 hk with e | e
    · rw [e]; exact ⟨h.gq, .inl h.lq, lq⟩
    · exact ⟨(hLA k e).1, .inr (hLA k e).2.1, (hLA k e).2.2⟩
  have hB : ∀ k ∈ q :: (t.LA.map (·.block)).toList, ¬ C k := fun k hk => h.gB k (hX k hk).1
  have hA2 : ∀ g, A2.map (·.block) = some g → (g ∈ G ∧ t.lab g = 4 ∧ g < w.heap.size) ∨ g = w3.heap.size := fun g hg => by
    rcases hat with e | e
    · rw [e] at hg; exact .inl (hLA g (by rw [hg]; simp))
    · rw [e] at hg; cases hg; exact .inr rfl
  have hsz := hb.size
  have hul := h.ul
  have hll := hL.lt
  have hrc := h.rc
  have hown6 : Own (w5.setCell ⟨q, 7, none⟩ (.slice A2 (l.length + 1) c2)) 0 76 1 A2 (l.length + 1) c2 ((t.us.map fun u => [u.1]) ++ [[.pointer (some ⟨p, 0, none⟩)]]) :=
    Sa.own_only hown F6.2 (fun g hg hm => by
      rw [List.mem_singleton.1 hm] at hg
      rcases hA2 q hg with e | e
      · have := h.lq; omega
      · omega)
  refine ⟨G ++ Fl ++ (A2.map (·.block)).toList, { t with H := { t.H with th := .slice A2 (l.length + 1) c2 }, LA := A2, lc := c2, us := t.us ++ [(.pointer (some ⟨p, 0, none⟩), Fl)], lab := fun k => if k < w.heap.size then t.lab k else if k < w3.heap.size then 5 + l.length else 4 }, ?_, ?_, ho6.more (fun k hk => (hX k hk).1), rfl, rfl⟩
  · exact {
      foc := F6.1, ill := h.ill, hsd := h.hsd, h0 := h.h0, h1 := h.h1, h2 := h.h2, h3 := h.h3, code := h.code.far ho6 hB, cu := h.cu, codes := isCd_far h.codes h.cod h.cf ho6 hB, cod := fun i hi => (h.cod i hi).far ho6 hB, cus := h.cus, cf := h.cf
      rc := hrc.far ho6 hB (fun k hk hm => by have := h.lf k hk; have := (hX k hm).2; omega)
      hl := by show Value.slice A2 (l.length + 1) c2 = .slice A2 (l ++ _).length c2; simp
      lr := by
        show Own _ 0 _ 1 A2 (l ++ [_]).length c2 ((t.us ++ [_]).map _)
        rw [List.length_append, List.map_append]
        exact hown6
      ul := by show (t.us ++ [_]).length = (l ++ [_]).length; rw [List.length_append, List.length_append, hul]; rfl
      ll := fun i hi => by
        have hi' : i < l.length + 1 := by simpa using hi
        by_cases e : i < l.length
        · have e1 : (t.us ++ [((.pointer (some ⟨p, 0, none⟩) : Value), Fl)]).getD i zeroU = t.us.getD i zeroU := by
            have : i < t.us.length := by rw [hul]; exact e
            simp [List.getD, List.getElem?_append_left this]
          show LnQ _ C ((t.us ++ [_]).getD i zeroU).1 ((t.us ++ [_]).getD i zeroU).2 (l ++ [_])[i]
          rw [e1, List.getElem_append_left e]
          exact (h.ll i e).far ho6 hB (fun k hk hm => by have := h.lu i e k hk; have := (hX k hm).2; omega)
        · obtain rfl : i = l.length := by omega
          have e1 : (t.us ++ [((.pointer (some ⟨p, 0, none⟩) : Value), Fl)]).getD l.length zeroU = (.pointer (some ⟨p, 0, none⟩), Fl) := by
            rw [← show t.us.length = l.length from hul]
            simp [List.getD]
          show LnQ _ C ((t.us ++ [_]).getD l.length zeroU).1 ((t.us ++ [_]).getD l.length zeroU).2 (l ++ [_])[l.length]
          rw [e1, List.getElem_concat_length rfl]
          exact ⟨p, x, y, A, n, cap, V, cv, 0, 0, rfl, hL.far ho36 (fun k hk hm => by have := hFl k hk; have := (hX k hm).2.2; omega), hC.far ho6 hB, hu, freshV_u x, .inl ⟨rfl, rfl, rfl, Nat.zero_le _⟩⟩
      lq := by show (if q < w.heap.size then t.lab q else _) = 0; rw [if_pos lq]; exact h.lq
      lm := fun k hk => by show (if k < w.heap.size then t.lab k else _) = 1; rw [if_pos (lm k hk)]; exact h.lm k hk
      lo := fun k hk => by show (if k < w.heap.size then t.lab k else _) = 2; rw [if_pos (lo k hk)]; exact h.lo k hk
      lf := fun k hk => by show (if k < w.heap.size then t.lab k else _) = 3; rw [if_pos (hrc.lt k hk)]; exact h.lf k hk
      lL := fun g hg => by
        show (if g < w.heap.size then t.lab g else if g < w3.heap.size then 5 + l.length else 4) = 4
        rcases hA2 g hg with ⟨e1, e2, e3⟩ | e
        · rw [if_pos e3]; exact e2
        · rw [if_neg (by omega), if_neg (by omega)]
      lu := fun i hi k hk => by
        have hi' : i < l.length + 1 := by simpa using hi
        show (if k < w.heap.size then t.lab k else if k < w3.heap.size then 5 + l.length else 4) = 5 + i
        by_cases e : i < l.length
        · have e1 : (t.us ++ [((.pointer (some ⟨p, 0, none⟩) : Value), Fl)]).getD i zeroU = t.us.getD i zeroU := by
            have : i < t.us.length := by rw [hul]; exact e
            simp [List.getD, List.getElem?_append_left this]
          have hk : k ∈ ((t.us ++ [((.pointer (some ⟨p, 0, none⟩) : Value), Fl)]).getD i zeroU).2 := hk
          rw [e1] at hk
          rw [if_pos ((h.ll i e).lt k hk)]
          exact h.lu i e k hk
        · obtain rfl : i = l.length := by omega
          have e1 : (t.us ++ [((.pointer (some ⟨p, 0, none⟩) : Value), Fl)]).getD l.length zeroU = (.pointer (some ⟨p, 0, none⟩), Fl) := by
            rw [← show t.us.length = l.length from hul]
            simp [List.getD]
          have hk : k ∈ ((t.us ++ [((.pointer (some ⟨p, 0, none⟩) : Value), Fl)]).getD l.length zeroU).2 := hk
          rw [e1] at hk
          rw [if_neg (by have := hFl k hk; omega), if_pos (hll k hk)]
      gq := List.mem_append_left _ (List.mem_append_left _ h.gq), gm := fun k hk => List.mem_append_left _ (List.mem_append_left _ (h.gm k hk)), go := fun k hk => List.mem_append_left _ (List.mem_append_left _ (h.go k hk)), gf := fun k hk => List.mem_append_left _ (List.mem_append_left _ (h.gf k hk))
      gL := fun g hg => List.mem_append_right _ (by show g ∈ (A2.map (·.block)).toList; rw [show A2.map (·.block) = some g from hg]; simp)
      gu := fun i hi k hk => by
        have hi' : i < l.length + 1 := by simpa using hi
        by_cases e : i < l.length
        · have e1 : (t.us ++ [((.pointer (some ⟨p, 0, none⟩) : Value), Fl)]).getD i zeroU = t.us.getD i zeroU := by
            have : i < t.us.length := by rw [hul]; exact e
            simp [List.getD, List.getElem?_append_left this]
          have hk : k ∈ ((t.us ++ [((.pointer (some ⟨p, 0, none⟩) : Value), Fl)]).getD i zeroU).2 := hk
          rw [e1] at hk
          exact List.mem_append_left _ (List.mem_append_left _ (h.gu i e k hk))
        · obtain rfl : i = l.length := by omega
          have e1 : (t.us ++ [((.pointer (some ⟨p, 0, none⟩) : Value), Fl)]).getD l.length zeroU = (.pointer (some ⟨p, 0, none⟩), Fl) := by
            rw [← show t.us.length = l.length from hul]
            simp [List.getD]
          have hk : k ∈ ((t.us ++ [((.pointer (some ⟨p, 0, none⟩) : Value), Fl)]).getD l.length zeroU).2 := hk
          rw [e1] at hk
          exact List.mem_append_left _ (List.mem_append_right _ hk)
      gB := fun k hk => by
        have Bw := h.Bw
        rcases List.mem_append.1 hk with e | e
        · rcases List.mem_append.1 e with e | e
          · exact h.gB k e
          · exact Bw k (hFl k e)
        · rcases hA2 k (by simpa using e) with e | e
          · exact h.gB k e.1
          · exact h.Bw k (by omega)
      Bw := fun k hk => h.Bw k (Nat.le_trans ho6.size hk)
      gLt := fun k hk => by
        rcases List.mem_append.1 hk with e | e
        · rcases List.mem_append.1 e with e | e
          · exact Nat.lt_of_lt_of_le (h.gLt k e) ho6.size
          · exact Nat.lt_of_lt_of_le (hll k e) ho36.size
        · exact (hown6.lt k (by simpa using e)).2 }
  · intro k hk
    rcases List.mem_append.1 hk with e | e
    · rcases List.mem_append.1 e with e | e
      · exact .inl e
      · exact .inr (hFl k e)
    · rcases hA2 k (by simpa using e) with e | e
      · exact .inl e.1
      · exact .inr (by omega)
end
end Go.Proofs.Ytapnnbbbgopobaa.Ph
namespace Go.Proofs.Ytapnnbbbgopobaa.Ph
open Go.RowKit Cm Mm Ow Ow2 Me Stp StW Rm Sp Sd Sx Sr Pn Pa Pq Pr Pm
open ElM (Cd zeroCd cdL okCd IsCd)
structure Bare (w : World) (q : Nat) (C : Nat → Prop) (G : List Nat) (s : Cd) (cs : List Cd) (now out : List Int) (H : Hp) (Fm Fo : List Nat) (B : Option Addr) (bc : Nat) (O : Option Addr) (oc : Nat) (CA : Option Addr) (cc : Nat) (lab : Nat → Nat) : Prop where
  foc : Fop w q H Fm Fo B bc O oc now out
  ill : H.ill = false
  h0 : H.s0 = .int .i64 s.x
  h1 : H.s1 = .int .i64 s.y
  h2 : H.s2 = .slice s.A s.n s.cap
  h3 : H.l = .slice CA cs.length cc
  code : Cod w C s
  cu : CodeU s.l
  codes : IsCd w CA cs.length cc cs
  cod : ∀ i, i < cs.length → Cod w C (cs.getD i zeroCd)
  cus : ∀ i, i < cs.length → CodeU (cs.getD i zeroCd).l
  cf : 0 < cs.length → ∀ g, CA.map (·.block) = some g → C g
  lq : lab q = 0
  lm : ∀ k ∈ Fm, lab k = 1
  lo : ∀ k ∈ Fo, lab k = 2
  gq : q ∈ G
  gm : ∀ k ∈ Fm, k ∈ G
  go : ∀ k ∈ Fo, k ∈ G
  gB : ∀ k ∈ G, ¬ C k
  Bw : ∀ k, w.heap.size ≤ k → ¬ C k
  gLt : ∀ k ∈ G, k < w.heap.size
section
variable {w w' : World} {q : Nat} {C : Nat → Prop} {G : List Nat} {s : Cd} {cs : List Cd} {now out : List Int} {H : Hp} {Fm Fo : List Nat} {B : Option Addr} {bc : Nat} {O : Option Addr} {oc : Nat} {CA : Option Addr} {cc : Nat} {lab : Nat → Nat}
theorem RunQ.bare {rc : Ln} {sd : Bool} {tl : List Ln} {t : Prq} (h : RunQ w q C G s cs rc sd tl now out t) : Bare w q C G s cs now out t.H t.Fm t.Fo t.B t.bc t.O t.oc t.CA t.cc t.lab :=
  ⟨h.foc, h.ill, h.h0, h.h1, h.h2, h.h3, h.code, h.cu, h.codes, h.cod, h.cus, h.cf, h.lq, h.lm, h.lo, h.gq, h.gm, h.go, h.gB, h.Bw, h.gLt⟩
theorem Bare.begun (h : Bare w q C G s cs now out H Fm Fo B bc O oc CA cc lab) {w2 : World} {p : Nat} {Fl : List Nat} {V : Option Addr} {cv : Nat} (hb : Below w.heap.size w w2) (hL : ThAt w2 p Fl s.x s.y s.A s.n s.cap V cv (freshV s.x) 0 0) (hFl : ∀ k ∈ Fl, w.heap.size ≤ k) :
    KeptQ w q C G s cs (lnOf s) false [] now out (((w2.setCell ⟨q, 6, none⟩ (.pointer (some ⟨p, 0, none⟩))).setCell ⟨q, 7, none⟩ (.slice none 0 0)).setCell ⟨q, 8, none⟩ (.bool false)) := by
  have F2 := h.foc.keep hb
  have T3 := fop_set F2 6 (.pointer (some ⟨p, 0, none⟩)) (H' := { H with rc := .pointer (some ⟨p, 0, none⟩) }) rfl
  have T4 := fop_set T3.1 7 (.slice none 0 0) (H' := { H with rc := .pointer (some ⟨p, 0, none⟩), th := .slice none 0 0 }) rfl
  have T5 := fop_set T4.1 8 (.bool false) (H' := { H with rc := .pointer (some ⟨p, 0, none⟩), th := .slice none 0 0, sd := false }) rfl
  have o2 := (T3.2.seq T4.2).seq T5.2
  have ho : Only [q] w (((w2.setCell ⟨q, 6, none⟩ (.pointer (some ⟨p, 0, none⟩))).setCell ⟨q, 7, none⟩ (.slice none 0 0)).setCell ⟨q, 8, none⟩ (.bool false)) := (Only.of_below hb).seq o2
  have lr := h.foc.qlt
  have lm := h.foc.mLt
  have lo := h.foc.oLt
  have hB : ∀ k ∈ [q], ¬ C k := fun k hk => by rw [List.mem_singleton.1 hk]; exact h.gB q h.gq
  have hL5 := hL.far o2 (fun k hk hm => by have := hFl k hk; have := List.mem_singleton.1 hm; omega)
  refine ⟨G ++ Fl, ⟨{ H with rc := .pointer (some ⟨p, 0, none⟩), th := .slice none 0 0, sd := false }, Fm, Fo, Fl, B, bc, O, oc, none, 0, [], CA, cc, fun k => if k < w.heap.size then lab k else 3⟩, ?_, fun k hk => ?_, ho.more (fun k hk => by rw [List.mem_singleton.1 hk]; exact h.gq)⟩
  · exact {
      foc := T5.1, ill := h.ill, hsd := rfl, h0 := h.h0, h1 := h.h1, h2 := h.h2, h3 := h.h3, code := h.code.far ho hB, cu := h.cu, codes := isCd_far h.codes h.cod h.cf ho hB, cod := fun i hi => (h.cod i hi).far ho hB, cus := h.cus, cf := h.cf
      rc := ⟨p, s.x, s.y, s.A, s.n, s.cap, V, cv, 0, 0, rfl, hL5, h.code.far ho hB, h.cu, freshV_u s.x, .inl ⟨rfl, rfl, rfl, Nat.zero_le _⟩⟩
      hl := rfl, lr := Own.nil _ _ _ _, ul := rfl, ll := fun i hi => absurd hi (by simp)
      lq := by show (if q < w.heap.size then lab q else 3) = 0; rw [if_pos lr]; exact h.lq
      lm := fun k hk => by show (if k < w.heap.size then lab k else 3) = 1; rw [if_pos (lm k hk)]; exact h.lm k hk
      lo := fun k hk => by show (if k < w.heap.size then lab k else 3) = 2; rw [if_pos (lo k hk)]; exact h.lo k hk
      lf := fun k hk => by show (if k < w.heap.size then lab k else 3) = 3; rw [if_neg (by have := hFl k hk; omega)]
      lL := fun g hg => by cases hg
      lu := fun i hi => absurd hi (by simp)
      gq := List.mem_append_left _ h.gq, gm := fun k hk => List.mem_append_left _ (h.gm k hk), go := fun k hk => List.mem_append_left _ (h.go k hk), gf := fun k hk => List.mem_append_right _ hk, gL := fun g hg => by cases hg
      gu := fun i hi => absurd hi (by simp)
      gB := fun k hk => by
        rcases List.mem_append.1 hk with e | e
        · exact h.gB k e
        · exact h.Bw k (hFl k e)
      Bw := fun k hk => h.Bw k (Nat.le_trans ho.size hk)
      gLt := fun k hk => by
        rcases List.mem_append.1 hk with e | e
        · exact Nat.lt_of_lt_of_le (h.gLt k e) ho.size
        · exact hL5.lt k e }
  · rcases List.mem_append.1 hk with e | e
    · exact .inl e
    · exact .inr (hFl k e)
theorem RunQ.c3 {rc : Ln} {sd : Bool} {tl : List Ln} {t : Prq} (h : RunQ w q C G s cs rc sd tl now out t) : w.cell? ⟨q, 3, none⟩ = some (.slice t.CA cs.length t.cc) := by have := h.foc.cs.2.2.2.1; rw [h.h3] at this; exact this
theorem RunQ.c7 {rc : Ln} {sd : Bool} {tl : List Ln} {t : Prq} (h : RunQ w q C G s cs rc sd tl now out t) : w.cell? ⟨q, 7, none⟩ = some (.slice t.LA tl.length t.lc) := by have := h.foc.cs.2.2.2.2.2.2.2.1; rw [h.hl] at this; exact this
theorem RunQ.lmax {rc : Ln} {sd : Bool} {tl : List Ln} {t : Prq} (h : RunQ w q C G s cs rc sd tl now out t) : tl.length ≤ t.lc ∧ t.lc ≤ maxLen := ⟨h.lr.sl.le, h.lr.sl.cap_le⟩
set_option maxRecDepth 200000 in
set_option maxHeartbeats 12800000 in
theorem rbegin_any (h : Bare w q C G s cs now out H Fm Fo B bc O oc CA cc lab) (hlen : cs.length ≤ 65536) :
    Calls Try.prog 35 #[.pointer (some ⟨q, 0, none⟩)] w fun e w' => e = .returned (.tuple #[]) ∧ KeptQ w q C G s cs (lnOf s) false (cs.map lnOf) now out w' := by
  have c0 := h.foc.cs.1
  have c1 := h.foc.cs.2.1
  have c2 := h.foc.cs.2.2.1
  rw [h.h0] at c0
  rw [h.h1] at c1
  rw [h.h2] at c2
  have HH := Lib.hid h
  clear h
  go_enter Try.func35, Try.ntmps35
  go_wp2_with fail
  refine (pbegin_any s.x s.y s.A s.n s.cap w).mono ?_
  rintro e w2 ⟨p, Fl, V, cv, rfl, hL, hFl, hb⟩
  have F2 := HH.out.foc.keep hb
  have T3 := fop_set F2 6 (.pointer (some ⟨p, 0, none⟩)) (H' := { H with rc := .pointer (some ⟨p, 0, none⟩) }) rfl
  have T4 := fop_set T3.1 7 (.slice none 0 0) (H' := { H with rc := .pointer (some ⟨p, 0, none⟩), th := .slice none 0 0 }) rfl
  have c6 := F2.cs.2.2.2.2.2.2.1
  have c7 := T3.1.cs.2.2.2.2.2.2.2.1
  have c8 := T4.1.cs.2.2.2.2.2.2.2.2.1
  have fq := F2.free'
  have fq3 := T3.1.free'
  have fq4 := T4.1.free'
  have KB := Lib.hid (HH.out.begun hb hL hFl)
  clear F2 T3 T4 hL hFl hb c0 c1 c2
  obtain ⟨W4, hW4⟩ : ∃ W4, ((w2.setCell ⟨q, 6, none⟩ (.pointer (some ⟨p, 0, none⟩))).setCell ⟨q, 7, none⟩ (.slice none 0 0)).setCell ⟨q, 8, none⟩ (.bool false) = W4 := ⟨_, rfl⟩
  rw [hW4] at KB
  have HW4 := Lib.hid hW4
  clear hW4
  go_upto_region 1 with (fail)
  rw [HW4.out]
  clear c6 c7 c8 fq fq3 fq4 HW4
  obtain ⟨G1, t1, R1, hG1, ho1⟩ := KB.out
  have z3 := R1.c3
  have hcc := R1.codes.2.1.le
  have hcc2 := R1.codes.2.1.cap_le
  obtain ⟨CA1, hCA1⟩ : ∃ CA1, t1.CA = CA1 := ⟨_, rfl⟩
  obtain ⟨cc1, hcc1⟩ : ∃ cc1, t1.cc = cc1 := ⟨_, rfl⟩
  rw [hCA1, hcc1] at z3
  rw [hcc1] at hcc hcc2
  have K0 : Hid (∃ G' t', RunQ W4 q C G' s cs (lnOf s) false ((cs.take 0).map lnOf) now out t' ∧ (∀ k ∈ G', k ∈ G ∨ w.heap.size ≤ k) ∧ Only G w W4 ∧ t'.CA = CA1 ∧ t'.cc = cc1) := Lib.hid ⟨G1, t1, R1, hG1, ho1, hCA1, hcc1⟩
  clear R1 hG1 ho1 hCA1 hcc1 KB
  go_wp2_with fail
  go_loopw [23] (fun i wr => ∃ (k : Nat), i = .int .i64 k ∧ k ≤ cs.length ∧ ∃ G' t', RunQ wr q C G' s cs (lnOf s) false ((cs.take k).map lnOf) now out t' ∧ (∀ k ∈ G', k ∈ G ∨ w.heap.size ≤ k) ∧ Only G w wr ∧ t'.CA = CA1 ∧ t'.cc = cc1) (fun i _ => cs.length - (intOf i).toNat)
  case atStart => exact ⟨0, rfl, by omega, K0.out⟩
  case round =>
    obtain ⟨k, rfl, hkn, G1, t1, R1, hG1, ho1, hCA1, hcc1⟩ := hrel
    have RR := Lib.hid R1
    have HG := Lib.hid hG1
    have HO := Lib.hid ho1
    have HCA := Lib.hid hCA1
    have HCC := Lib.hid hcc1
    clear R1 hG1 ho1 z3 K0
    by_cases hc : k < cs.length
    · obtain ⟨b, o, hCA, hb, s0, s1, s2, hx, hy, hI⟩ := RR.out.codes.cell (k := k) hc
      have CO := Lib.hid (RR.out.cod k hc)
      have CUu := Lib.hid (RR.out.cus k hc)
      have BS := Lib.hid (begun_snoc hc)
      rw [hCA1] at hCA
      clear hCA1 hcc1
      subst hCA
      generalize cs.getD k zeroCd = cd at *
      obtain ⟨x, y, A, n, cap, c⟩ := cd
      have z7 := RR.out.c7
      have zl := RR.out.lmax
      have e1 : ((cs.take k).map lnOf).length = k := by simp; omega
      rw [e1] at z7 zl
      have d0 : decide ((k : Int) < (cs.length : Int)) = true := decide_eq_true (by omega)
      have d2 : (k : Int) < (cs.length : Int) := by omega
      have FQ := Lib.hid RR.out.foc
      clear hx hy hI
      dsimp only at s0 s1 s2
      go_wp2_with fail
      obtain ⟨WA, hWA⟩ : ∃ WA, wr.alloc (.cells #[.int .i64 x, .int .i64 y, .slice A n cap] 34) = WA := ⟨_, rfl⟩
      have bWA : Below wr.heap.size wr WA := by rw [← hWA]; exact (Below.refl _ _).alloc (Nat.le_refl _) _
      have a0 : WA.cell? ⟨wr.heap.size, 0, none⟩ = some (.int .i64 x) := by rw [← hWA]; simp
      have a1 : WA.cell? ⟨wr.heap.size, 1, none⟩ = some (.int .i64 y) := by rw [← hWA]; simp
      have a2 : WA.cell? ⟨wr.heap.size, 2, none⟩ = some (.slice A n cap) := by rw [← hWA]; simp
      have a7 : WA.cell? ⟨q, 7, none⟩ = some (.slice t1.LA k t1.lc) := (bWA.cell (p := ⟨q, 7, none⟩) FQ.out.qlt).trans z7
      have hzA : WA.heap.size = wr.heap.size + 1 := by rw [← hWA]; simp
      rw [hWA]
      clear hWA z7 s0 s1 s2
      refine Hd.start 9 (fun w' => w'.cell? ⟨q, 7, none⟩ = some (.slice t1.LA k t1.lc) ∧ w'.cell? ⟨wr.heap.size, 0, none⟩ = some (.int .i64 x) ∧ w'.cell? ⟨wr.heap.size, 1, none⟩ = some (.int .i64 y) ∧ w'.cell? ⟨wr.heap.size, 2, none⟩ = some (.slice A n cap)) (by kernel_rfl) ?_
      have SA : WA.drew.cell? ⟨q, 7, none⟩ = some (.slice t1.LA k t1.lc) ∧ WA.drew.cell? ⟨wr.heap.size, 0, none⟩ = some (.int .i64 x) ∧ WA.drew.cell? ⟨wr.heap.size, 1, none⟩ = some (.int .i64 y) ∧ WA.drew.cell? ⟨wr.heap.size, 2, none⟩ = some (.slice A n cap) := ⟨a7, a0, a1, a2⟩
      refine Hd.take (i := 0) (v := ?v1) rfl (by decide +kernel) (by decide +kernel) (fun _ _ _ h => h) rfl ?hy1 SA ?rest1
      case hy1 =>
        intro wq hSw
        obtain ⟨t7, x0, x1, x2⟩ := hSw
        go_simp
        try with_reducible rfl
      try simp only [Act.put, zA, zB, zC]
      refine Hd.take (i := 1) (v := ?v2) rfl (by decide +kernel) (by decide +kernel) (fun _ _ _ h => h) rfl ?hy2 SA ?rest2
      case hy2 =>
        intro wq hSw
        obtain ⟨t7, x0, x1, x2⟩ := hSw
        go_simp
        try with_reducible rfl
      try simp only [Act.put, zA, zB, zC]
      refine Hd.take (i := 2) (v := ?v3) rfl (by decide +kernel) (by decide +kernel) (fun _ _ _ h => h) rfl ?hy3 SA ?rest3
      case hy3 =>
        intro wq hSw
        obtain ⟨t7, x0, x1, x2⟩ := hSw
        go_simp
        try with_reducible rfl
      try simp only [Act.put, zA, zB, zC]
      refine Hd.take (i := 3) (v := ?v4) rfl (by decide +kernel) (by decide +kernel) (fun _ _ _ h => h) rfl ?hy4 SA ?rest4
      case hy4 =>
        intro wq hSw
        obtain ⟨t7, x0, x1, x2⟩ := hSw
        go_simp
        try with_reducible rfl
      try simp only [Act.put, zA, zB, zC]
      refine Hd.take (i := 4) (v := ?v5) rfl (by decide +kernel) (by decide +kernel) (fun _ _ _ h => h) rfl ?hy5 SA ?rest5
      case hy5 =>
        intro wq hSw
        obtain ⟨t7, x0, x1, x2⟩ := hSw
        go_simp
        try with_reducible rfl
      try simp only [Act.put, zA, zB, zC]
      refine Hd.take (i := 5) (v := ?v6) rfl (by decide +kernel) (by decide +kernel) (fun _ _ _ h => h) rfl ?hy6 SA ?rest6
      case hy6 =>
        intro wq hSw
        obtain ⟨t7, x0, x1, x2⟩ := hSw
        go_simp
        try with_reducible rfl
      try simp only [Act.put, zA, zB, zC]
      refine Hd.one (i := 6) rfl (by kernel_rfl) rfl (fun K hK => ?_)
      go_simp
      refine (pbegin_any x y A n cap WA.drew).mono ?_
      rintro e w6 ⟨p2, Fl, V, cv, rfl, hL6, hFl6, hb6⟩
      have hqA : q < WA.drew.heap.size := by have := FQ.out.qlt; show q < WA.heap.size; omega
      have hcA : wr.heap.size < WA.drew.heap.size := by show wr.heap.size < WA.heap.size; omega
      have SB : w6.cell? ⟨q, 7, none⟩ = some (.slice t1.LA k t1.lc) ∧ w6.cell? ⟨wr.heap.size, 0, none⟩ = some (.int .i64 x) ∧ w6.cell? ⟨wr.heap.size, 1, none⟩ = some (.int .i64 y) ∧ w6.cell? ⟨wr.heap.size, 2, none⟩ = some (.slice A n cap) := ⟨(hb6.cell (p := ⟨q, 7, none⟩) hqA).trans SA.1, (hb6.cell (p := ⟨wr.heap.size, 0, none⟩) hcA).trans SA.2.1, (hb6.cell (p := ⟨wr.heap.size, 1, none⟩) hcA).trans SA.2.2.1, (hb6.cell (p := ⟨wr.heap.size, 2, none⟩) hcA).trans SA.2.2.2⟩
      have hsz6 := hb6.size
      have hq6 : q < w6.heap.size := Nat.lt_of_lt_of_le hqA hsz6
      have hc6 : wr.heap.size < w6.heap.size := Nat.lt_of_lt_of_le hcA hsz6
      have hFl7 : ∀ k ∈ Fl, wr.heap.size ≤ k := fun k hk => by have := hFl6 k hk; have : WA.drew.heap.size = WA.heap.size := rfl; omega
      have b66 : Below wr.heap.size wr w6 := bWA.trans (((below_drawn WA 1).trans hb6).mono bWA.size)
      refine hK _ _ (fun _ => SB) ?_
      clear hK K
      try simp only [Act.put, zA, zB, zC]
      refine Hd.one (i := 7) rfl (by kernel_rfl) rfl (fun K hK => ?_)
      go_simp
      have SC : (w6.alloc (.cells #[.pointer (some ⟨p2, 0, none⟩)] 76)).cell? ⟨q, 7, none⟩ = some (.slice t1.LA k t1.lc) ∧ (w6.alloc (.cells #[.pointer (some ⟨p2, 0, none⟩)] 76)).cell? ⟨wr.heap.size, 0, none⟩ = some (.int .i64 x) ∧ (w6.alloc (.cells #[.pointer (some ⟨p2, 0, none⟩)] 76)).cell? ⟨wr.heap.size, 1, none⟩ = some (.int .i64 y) ∧ (w6.alloc (.cells #[.pointer (some ⟨p2, 0, none⟩)] 76)).cell? ⟨wr.heap.size, 2, none⟩ = some (.slice A n cap) := ⟨(World.cell?_alloc_lt _ _ _ hq6).trans SB.1, (World.cell?_alloc_lt _ _ _ hc6).trans SB.2.1, (World.cell?_alloc_lt _ _ _ hc6).trans SB.2.2.1, (World.cell?_alloc_lt _ _ _ hc6).trans SB.2.2.2⟩
      refine hK _ _ (fun _ => SC) ?_
      clear hK K
      try simp only [Act.put, zA, zB, zC]
      refine Hd.one (i := 8) rfl (by kernel_rfl) rfl (fun K hK => ?_)
      have BW3 : Hid (Below wr.heap.size wr (w6.alloc (.cells #[.pointer (some ⟨p2, 0, none⟩)] 76))) := Lib.hid (b66.alloc b66.size _)
      have hsl : Sl (w6.alloc (.cells #[.pointer (some ⟨p2, 0, none⟩)] 76)) (some ⟨w6.heap.size, 0, none⟩) 1 1 1 (fun _ => [.pointer (some ⟨p2, 0, none⟩)]) := sl_one w6 [.pointer (some ⟨p2, 0, none⟩)] 76
      have hlr := RR.out.lr
      rw [e1] at hlr
      refine wp_app _ _ _ rfl elTh 0 t1.LA k t1.lc _ rfl (hlr.keep BW3.out) (some ⟨w6.heap.size, 0, none⟩) 1 1 (fun _ => [.pointer (some ⟨p2, 0, none⟩)]) rfl hsl (fun _ _ => rfl) (fun _ _ u hu => by simp at hu; subst hu; rfl) (by unfold maxLen; omega) (by omega) (Nat.zero_le _) ?_
      intro A5 c5 w5 hown5 hg5 hat5
      have hq5 : w5.heap[q]? = (w6.alloc (.cells #[.pointer (some ⟨p2, 0, none⟩)] 76)).heap[q]? := hg5.block q (Nat.lt_of_lt_of_le FQ.out.qlt BW3.out.size) (fun e => by have := RR.out.lL q e.symm; have := RR.out.lq; omega)
      have TT := Lib.hid (RR.out.more e1 BW3.out (hL6.keep ((Below.refl _ _).alloc (Nat.le_refl _) _)) hFl7 CO.out CUu.out hown5 hg5 hat5)
      have fq5 : ∀ i, w5.frozen? ⟨q, i, none⟩ = false := fun i => ((blk_same hq5).2 i).trans ((FQ.out.keep BW3.out).free i)
      have y55 := ((blk_same hq5).1 7).trans SC.1
      have hb5 : ∀ i, w5.cell? ⟨wr.heap.size, i, none⟩ = (w6.alloc (.cells #[.pointer (some ⟨p2, 0, none⟩)] 76)).cell? ⟨wr.heap.size, i, none⟩ := (blk_same (hg5.block wr.heap.size (by simp; omega) (fun e => by have := (RR.out.lr.lt _ e.symm).2; omega))).1
      refine hK _ _ (fun _ => ⟨y55, (hb5 _).trans SC.2.1, (hb5 _).trans SC.2.2.1, (hb5 _).trans SC.2.2.2⟩) ?_
      clear hown5 hg5 hat5 hq5 hsl SB SA SC hb5
      clear hK K
      try simp only [Act.put, zA, zB, zC]
      refine Hd.one (i := 9) rfl (by kernel_rfl) rfl (fun K hK => ?_)
      go_simp
      refine hK _ _ (fun h => absurd h (by omega)) ?_
      clear hK K
      try simp only [Act.put, zA, zB, zC]
      refine Hd.one (i := 10) rfl (by kernel_rfl) rfl (fun K hK => ?_)
      go_simp
      refine hK _ _ (fun h => absurd h (by omega)) ?_
      clear hK K
      try simp only [Act.put, zA, zB, zC]
      refine Hd.one (i := 11) rfl (by kernel_rfl) rfl (fun K hK => ?_)
      go_simp
      refine hK _ _ (fun h => absurd h (by omega)) ?_
      clear hK K
      try simp only [Act.put, zA, zB, zC]
      refine Hd.done (by kernel_rfl) ?_ _
      go_wp2_with fail
      go_roundw
      case rel =>
        obtain ⟨G2, t2, R2, hG2, ho2, e2, e3⟩ := TT.out
        refine ⟨k + 1, by go_num, by omega, G2, t2, by rw [BS.out]; exact R2, fun j hj => ?_, HO.out.trans ho2 HG.out, e2.trans HCA.out, e3.trans HCC.out⟩
        rcases hG2 j hj with e | e
        · exact HG.out j e
        · exact .inr (Nat.le_trans HO.out.size e)
      case measure => simp [intOf]; omega
    · have e0 : cs.take k = cs := List.take_of_length_le (by omega)
      rw [e0] at RR
      have d0 : decide ((k : Int) < (cs.length : Int)) = false := decide_eq_false (by omega)
      have KK := Lib.hid (show KeptQ w q C G s cs (lnOf s) false (cs.map lnOf) now out wr from ⟨G1, t1, RR.out, HG.out, HO.out⟩)
      clear hCA1 hcc1
      go_wp2_with fail
      go_end0
      exact ⟨rfl, KK.out⟩
end
end Go.Proofs.Ytapnnbbbgopobaa.Ph
namespace Go.Proofs.Ytapnnbbbgopobaa.Ph
open Go.RowKit Cm Mm Ow Ow2 Me Stp StW Rm Sp Sd Sx Sr Pn Pa Pq Pr Pm
open ElM (Cd zeroCd cdL okCd IsCd)
structure Cls (w : World) (q : Nat) (ls L : List Cd) (k : Nat) (X : Option Nat) : Prop where
  len : L.length = k
  x : ∀ j, j < k → (L.getD j zeroCd).x = (ls.getD j zeroCd).x
  l : ∀ j, j < k → (L.getD j zeroCd).l = (ls.getD j zeroCd).l
  ok : ∀ j, j < k → okCd w (L.getD j zeroCd)
  n2 : ∀ j, j < k → (L.getD j zeroCd).n ≤ 65536
  far : ∀ j, j < k → 0 < (L.getD j zeroCd).n → ∀ g, (L.getD j zeroCd).A.map (·.block) = some g → q < g ∧ X ≠ some g
theorem Cls.nil (w : World) (q : Nat) (ls : List Cd) : Cls w q ls [] 0 none := ⟨rfl, fun j hj => absurd hj (by omega), fun j hj => absurd hj (by omega), fun j hj => absurd hj (by omega), fun j hj => absurd hj (by omega), fun j hj => absurd hj (by omega)⟩
theorem Cls.keep {w w' : World} {q : Nat} {ls L : List Cd} {k : Nat} {X : Option Nat} (h : Cls w q ls L k X) (hb : Below w.heap.size w w') : Cls w' q ls L k X :=
  ⟨h.len, h.x, h.l, fun j hj => ⟨(h.ok j hj).1, (h.ok j hj).2.1, (h.ok j hj).2.2.keep hb⟩, h.n2, h.far⟩
theorem Cls.snoc {w : World} {q : Nat} {ls L : List Cd} {k : Nat} {X : Option Nat} (h : Cls w q ls L k X) {c : Cd} (h2 : c.x = (ls.getD k zeroCd).x) (h3 : c.l = (ls.getD k zeroCd).l) (h4 : okCd w c) (h5 : c.n ≤ 65536) (h6 : 0 < c.n → ∀ g, c.A.map (·.block) = some g → q < g ∧ X ≠ some g) : Cls w q ls (L ++ [c]) (k + 1) X := by
  have e1 : ∀ j, j < k → (L ++ [c]).getD j zeroCd = L.getD j zeroCd := fun j hj => by
    have : j < L.length := by rw [h.len]; exact hj
    simp [List.getD, List.getElem?_append_left this]
  have e2 : (L ++ [c]).getD k zeroCd = c := by rw [← h.len]; simp [List.getD]
  have key : ∀ (P : Nat → Cd → Prop), (∀ j, j < k → P j (L.getD j zeroCd)) → P k c → ∀ j, j < k + 1 → P j ((L ++ [c]).getD j zeroCd) := fun P p1 p2 j hj => by
    by_cases e : j = k
    · subst e; rw [e2]; exact p2
    · rw [e1 j (by omega)]; exact p1 j (by omega)
  exact ⟨by simp [h.len], key (fun j d => d.x = (ls.getD j zeroCd).x) h.x h2, key (fun j d => d.l = (ls.getD j zeroCd).l) h.l h3, key (fun j d => okCd w d) h.ok h4, key (fun j d => d.n ≤ 65536) h.n2 h5, key (fun j d => 0 < d.n → ∀ g, d.A.map (·.block) = some g → q < g ∧ X ≠ some g) h.far h6⟩
theorem Cls.only {w w' : World} {q : Nat} {ls L : List Cd} {k : Nat} {X : Option Nat} {Y : List Nat} (h : Cls w q ls L k X) (ho : Only Y w w') (hY : ∀ b ∈ Y, b = q ∨ X = some b) {X' : Option Nat} (hat : X' = X ∨ ∀ b, X' = some b → w.heap.size ≤ b) : Cls w' q ls L k X' := by
  refine ⟨h.len, h.x, h.l, fun j hj => ⟨(h.ok j hj).1, (h.ok j hj).2.1, isSt_only0 (h.ok j hj).2.2 ho (fun h0 g hg hm => ?_)⟩, h.n2, fun j hj h0 g hg => ⟨(h.far j hj h0 g hg).1, ?_⟩⟩
  · have h1 := h.far j hj h0 g hg
    rcases hY g hm with e | e
    · omega
    · exact h1.2 e
  · rcases hat with e | e
    · rw [e]; exact (h.far j hj h0 g hg).2
    · intro e2
      have := e g e2
      have := isSt_lt (h.ok j hj).2.2 h0 g hg
      omega
structure Mid (w : World) (q gB : Nat) (m : Nat) (x y : Int) (A' : Option Addr) (n c' : Nat) (l : List St) (ls L : List Cd) (k : Nat) (CA : Option Addr) (cc : Nat) : Prop where
  foc : Fop w q ⟨.int .i64 x, .int .i64 y, .slice A' n c', .slice CA k cc, .pointer none, .slice none 0 0, false, false⟩ [gB] [] (some ⟨gB, 0, none⟩) m none 0 (zeros m) []
  st : IsSt w A' n c' l
  sb : 0 < n → ∀ g, A'.map (·.block) = some g → g < q ∧ g ≠ gB
  own : Own w (q + 1) 34 3 CA k cc (L.map cdL)
  cls : Cls w q ls L k (CA.map (·.block))
  gq : gB < q
theorem Mid.only {w w' : World} {q gB m : Nat} {x y : Int} {A' : Option Addr} {n c' : Nat} {l : List St} {ls L : List Cd} {k : Nat} {CA : Option Addr} {cc : Nat} (h : Mid w q gB m x y A' n c' l ls L k CA cc) (hb : Below w.heap.size w w') : Mid w' q gB m x y A' n c' l ls L k CA cc :=
  ⟨h.foc.keep hb, h.st.keep hb, h.sb, h.own.keep hb, h.cls.keep hb, h.gq⟩
theorem zeros_len (m : Nat) : (zeros m).length = m := by simp [zeros]
theorem Mid.start {w2 w4 : World} {gB m : Nat} {x y : Int} {A' : Option Addr} {n c' : Nat} {l : List St} {ls : List Cd} (hm : m ≤ 64) (hg : w4.heap[gB]? = some (.cells (madeCells #[.int .u64 0] m) 53 (0, 0))) (hst : IsSt w4 A' n c' l) (hne : 0 < n → ∀ g, A'.map (·.block) = some g → g ≠ gB)
    (hw : w2 = w4.alloc (.cells #[.int .i64 x, .int .i64 y, .slice A' n c', .slice none 0 0, .slice (some ⟨gB, 0, none⟩) m m, .slice none 0 0, .pointer none, .slice none 0 0, .bool false, .bool false] 79)) : Mid w2 w4.heap.size gB m x y A' n c' l ls [] 0 none 0 := by
  have hb : Below w4.heap.size w4 w2 := by rw [hw]; exact (Below.refl _ _).alloc (Nat.le_refl _) _
  have hgl : gB < w4.heap.size := (Array.getElem?_eq_some_iff.1 hg).1
  have hsz : w2.heap.size = w4.heap.size + 1 := by rw [hw]; simp
  refine ⟨⟨?_, ?_, fun g hg => by simpa using hg.symm, Own.nil _ _ _ _, fun g hg => (by cases hg), by omega, fun k hk => ?_, fun k hk => (by cases hk), fun hk => ?_, (by simp), fun k _ hk => (by cases hk), by rw [zeros_len]; exact hm, fun z hz => ?_⟩, hst.keep hb, fun h0 g hg => ⟨isSt_lt hst h0 g hg, hne h0 g hg⟩, Own.nil _ _ _ _, Cls.nil _ _ _, hgl⟩
  · rw [hw, zeros_len]; exact heap_alloc_new _ _
  · rw [zeros_len]
    have e : (zeros m).map uw = List.replicate m (.int .u64 0) := by simp [zeros, uw]
    rw [e]
    exact row_made4 (by omega) ((hb.block gB hgl).trans hg)
  · rw [List.mem_singleton.1 hk]; omega
  · have := List.mem_singleton.1 hk; omega
  · unfold zeros at hz
    rw [(List.mem_replicate.1 hz).2]
    exact ⟨by decide, by decide⟩
theorem Mid.more {w w3 w5 : World} {q gB m : Nat} {x y : Int} {A' : Option Addr} {n c' : Nat} {l : List St} {ls L : List Cd} {k : Nat} {CA : Option Addr} {cc : Nat} (h : Mid w q gB m x y A' n c' l ls L k CA cc) {c : Cd} {A2 : Option Addr} {c2 : Nat} (hb : Below w.heap.size w w3)
    (h2 : c.x = (ls.getD k zeroCd).x) (h3 : c.l = (ls.getD k zeroCd).l) (h4 : okCd w3 c) (h5 : c.n ≤ 65536) (h6 : 0 < c.n → ∀ g, c.A.map (·.block) = some g → w.heap.size ≤ g)
    (hown : Own w5 (q + 1) 34 3 A2 (k + 1) c2 (L.map cdL ++ [cdL c])) (hg : w3.grownBy w5 (CA.map (·.block))) (hat : A2.map (·.block) = CA.map (·.block) ∨ A2.map (·.block) = some w3.heap.size) :
    Mid (w5.setCell ⟨q, 3, none⟩ (.slice A2 (k + 1) c2)) q gB m x y A' n c' l ls (L ++ [c]) (k + 1) A2 c2 ∧ Only (q :: (CA.map (·.block)).toList) w (w5.setCell ⟨q, 3, none⟩ (.slice A2 (k + 1) c2)) := by
  have hCA := h.own.lt
  have ho35 : Only (CA.map (·.block)).toList w3 w5 := Only.of_grown hg (fun g hg => by rw [hg]; simp)
  have ho5 : Only (CA.map (·.block)).toList w w5 := (Only.of_below hb).seq ho35
  have hmem : ∀ k, k ∈ (CA.map (·.block)).toList → q < k ∧ k < w.heap.size ∧ CA.map (·.block) = some k := fun k hk => by
    have hk : CA.map (·.block) = some k := by simpa using hk
    have := hCA k hk
    exact ⟨by omega, this.2, hk⟩
  have hql := h.foc.qlt
  have F5 := h.foc.far ho5 (fun hm => by have := (hmem q hm).1; omega) (fun k hk hm => by have := (hmem k hm).1; have := List.mem_singleton.1 hk; have := h.gq; omega) (fun k hk => by cases hk)
  have F6 := fop_set F5 3 (.slice A2 (k + 1) c2) (H' := ⟨.int .i64 x, .int .i64 y, .slice A' n c', .slice A2 (k + 1) c2, .pointer none, .slice none 0 0, false, false⟩) rfl
  have o6 : Only (q :: (CA.map (·.block)).toList) w (w5.setCell ⟨q, 3, none⟩ (.slice A2 (k + 1) c2)) := (ho5.more (fun k hk => by simp [hk])).seq (F6.2.more (fun k hk => by rw [List.mem_singleton.1 hk]; simp))
  have o36 : Only (q :: (CA.map (·.block)).toList) w3 (w5.setCell ⟨q, 3, none⟩ (.slice A2 (k + 1) c2)) := (ho35.more (fun k hk => by simp [hk])).seq (F6.2.more (fun k hk => by rw [List.mem_singleton.1 hk]; simp))
  have hY : ∀ b ∈ q :: (CA.map (·.block)).toList, b = q ∨ CA.map (·.block) = some b := fun b hb => by
    rcases List.mem_cons.1 hb with e | e
    · exact .inl e
    · exact .inr (hmem b e).2.2
  have hc3 := (h.cls.keep hb).snoc (c := c) h2 h3 h4 h5 (fun h0 g hg => ⟨by have := h6 h0 g hg; omega, fun e => by have := h6 h0 g hg; have := (hCA g e).2; omega⟩)
  have hown6 := Sa.own_only hown F6.2 (fun g hg hm => by have := (hown.lt g hg).1; have := List.mem_singleton.1 hm; omega)
  refine ⟨⟨F6.1, isSt_only0 h.st o6 (fun h0 g hg hm => ?_), h.sb, by rw [List.map_append]; exact hown6, hc3.only o36 hY (hat.imp id (fun e b hb => by rw [e] at hb; cases hb; exact Nat.le_refl _)), h.gq⟩, o6⟩
  have := h.sb h0 g hg
  rcases hY g hm with e | e
  · omega
  · have := (hCA g e).1; omega
theorem Mid.bare {w0 w : World} {q gB m : Nat} {x y : Int} {A' : Option Addr} {n c' : Nat} {l : List St} {ls L : List Cd} {CA : Option Addr} {cc : Nat} (h : Mid w q gB m x y A' n c' l ls L L.length CA cc) (hn : n ≤ 65536) (hu : CodeU l) (hus : ∀ j, j < L.length → CodeU (ls.getD j zeroCd).l) (hlow : ∀ g, 0 < n → A'.map (·.block) = some g → w0.heap.size ≤ g) (hq : w0.heap.size ≤ q) :
    Bare w q (fun g => w0.heap.size ≤ g ∧ g < w.heap.size ∧ g ≠ q ∧ g ≠ gB) [q, gB] ⟨x, y, A', n, c', l⟩ L (zeros m) [] ⟨.int .i64 x, .int .i64 y, .slice A' n c', .slice CA L.length cc, .pointer none, .slice none 0 0, false, false⟩ [gB] [] (some ⟨gB, 0, none⟩) m none 0 CA cc (fun g => if g = q then 0 else 1) := by
  have hgq := h.gq
  have hql := h.foc.qlt
  have hCA := h.own.lt
  refine ⟨h.foc, rfl, rfl, rfl, rfl, rfl, ⟨hn, h.st, fun h0 g hg => ?_⟩, hu, isCd_own h.own h.cls.ok, fun i hi => ⟨h.cls.n2 i hi, (h.cls.ok i hi).2.2, fun h0 g hg => ?_⟩, fun i hi => by rw [h.cls.l i hi]; exact hus i hi, fun h0 g hg => ?_, by simp, fun k hk => ?_, fun k hk => (by cases hk), by simp, fun k hk => ?_, fun k hk => (by cases hk), fun k hk hc => ?_, fun k hk hc => ?_, fun k hk => ?_⟩
  · have := h.sb h0 g hg; exact ⟨hlow g h0 hg, by omega, by omega, this.2⟩
  · have h1 := h.cls.far i hi h0 g hg
    have h2 := isSt_lt (h.cls.ok i hi).2.2 h0 g hg
    exact ⟨by omega, h2, by omega, by omega⟩
  · have := hCA g hg
    exact ⟨by omega, this.2, by omega, by omega⟩
  · have := List.mem_singleton.1 hk
    show (if k = q then 0 else 1) = 1
    rw [if_neg (by omega)]
  · have := List.mem_singleton.1 hk
    rw [this]; simp
  · simp at hk
    rcases hk with e | e
    · exact hc.2.2.1 e
    · exact hc.2.2.2 e
  · exact absurd hc.2.1 (by omega)
  · simp at hk
    rcases hk with e | e
    · rw [e]; exact hql
    · omega
theorem cls_begun {w : World} {q : Nat} {ls L : List Cd} {X : Option Nat} {k : Nat} (h : Cls w q ls L k X) (hk : k ≤ ls.length) : L.map lnOf = (ls.take k).map lnOf := by
  refine List.ext_getElem (by simp [h.len]; omega) (fun i h1 h2 => ?_)
  have hi : i < k := by have := h.len; simp at h1; omega
  have hx := h.x i hi
  have hl := h.l i hi
  have g1 : L.getD i zeroCd = L[i]'(by simpa using h1) := by simp [List.getD, show i < L.length by simpa using h1]
  have g2 : ls.getD i zeroCd = ls[i]'(by omega) := by simp [List.getD, show i < ls.length by omega]
  rw [g1, g2] at hx hl
  simp only [List.getElem_map, List.getElem_take]
  unfold lnOf
  rw [hx, hl]
set_option maxRecDepth 200000 in
set_option maxHeartbeats 12800000 in
theorem pnew_any (x y : Int) (A : Option Addr) (n cap : Nat) (l : List St) (A1 : Option Addr) (n1 c1 : Nat) (ls : List Cd) (a : Int) (w : World) (hc : IsSt w A n cap l) (hn : n ≤ 65536) (hu : CodeU l) (hcs : IsCd w A1 n1 c1 ls) (hn1 : n1 ≤ 65536) (hcn : ∀ i, i < n1 → (ls.getD i zeroCd).n ≤ 65536) (hus : ∀ i, i < n1 → CodeU (ls.getD i zeroCd).l) :
    Calls Try.prog 11 #[.agg #[.int .i64 x, .int .i64 y, .slice A n cap], .slice A1 n1 c1, .int .i64 a] w fun e w' =>
      ∃ q C G s cs t, e = .returned (.pointer (some ⟨q, 0, none⟩)) ∧ RunQ w' q C G s cs (lnOf s) false (begunL ls) (zeros (words a)) [] t ∧ s.l = l ∧ s.x = x ∧ cs.map lnOf = begunL ls ∧ cs.length ≤ 4 ∧ (∀ k ∈ G, w.heap.size ≤ k) ∧ (∀ k, C k → w.heap.size ≤ k) ∧ Below w.heap.size w w' := by
  have HS := Lib.hid hcs
  have HN := Lib.hid hcn
  have HU := Lib.hid hus
  have HU0 := Lib.hid hu
  have hle := hcs.2.1.le
  have hle2 := hcs.2.1.cap_le
  have HLn := Lib.hid hcs.1
  have hw64 := words_le a
  have hwi := words_int a
  have hmk := run_make_u (words a) (by omega)
  obtain ⟨W, hW⟩ : ∃ W, W = w.alloc (.cells #[.int .i64 x, .int .i64 y, .slice A n cap] 34) := ⟨_, rfl⟩
  have B0 : Hid (Below w.heap.size w W) := Lib.hid (by rw [hW]; exact (Below.refl _ _).alloc (Nat.le_refl _) _)
  have s0 : W.cell? ⟨w.heap.size, 0, none⟩ = some (.int .i64 x) := by rw [hW]; simp
  have s1 : W.cell? ⟨w.heap.size, 1, none⟩ = some (.int .i64 y) := by rw [hW]; simp
  have s2 : W.cell? ⟨w.heap.size, 2, none⟩ = some (.slice A n cap) := by rw [hW]; simp
  have hlt : w.heap.size < W.heap.size := by rw [hW]; simp
  have HW := Lib.hid hW
  have HC := Lib.hid (hc.keep B0.out)
  clear hc hu hcs hcn hus hW
  go_enter Try.func11, Try.ntmps11
  go_upto_region 1 with (fail)
  rw [← HW.out]
  refine Hd.start 6 (fun w' => w'.cell? ⟨w.heap.size, 0, none⟩ = some (.int .i64 x) ∧ w'.cell? ⟨w.heap.size, 1, none⟩ = some (.int .i64 y) ∧ w'.cell? ⟨w.heap.size, 2, none⟩ = some (.slice A n cap)) (by kernel_rfl) ?_
  have SA : W.drew.cell? ⟨w.heap.size, 0, none⟩ = some (.int .i64 x) ∧ W.drew.cell? ⟨w.heap.size, 1, none⟩ = some (.int .i64 y) ∧ W.drew.cell? ⟨w.heap.size, 2, none⟩ = some (.slice A n cap) := ⟨s0, s1, s2⟩
  refine Hd.take (i := 0) (v := ?v1) rfl (by decide +kernel) (by decide +kernel) (fun _ _ _ h => h) rfl ?hy1 SA ?rest1
  case hy1 =>
    intro wq hSw
    obtain ⟨x0, x1, x2⟩ := hSw
    go_simp
    try with_reducible rfl
  try simp only [Act.put, zA, zB, zC]
  refine Hd.take (i := 2) (v := ?v2) rfl (by decide +kernel) (by decide +kernel) (fun _ _ _ h => h) rfl ?hy2 SA ?rest2
  case hy2 =>
    intro wq hSw
    obtain ⟨x0, x1, x2⟩ := hSw
    go_simp
    try with_reducible rfl
  try simp only [Act.put, zA, zB, zC]
  refine Hd.take (i := 3) (v := ?v3) rfl (by decide +kernel) (by decide +kernel) (fun _ _ _ h => h) rfl ?hy3 SA ?rest3
  case hy3 =>
    intro wq hSw
    obtain ⟨x0, x1, x2⟩ := hSw
    go_simp
    try with_reducible rfl
  try simp only [Act.put, zA, zB, zC]
  refine Hd.take (i := 4) (v := ?v4) rfl (by decide +kernel) (by decide +kernel) (fun _ _ _ h => h) rfl ?hy4 SA ?rest4
  case hy4 =>
    intro wq hSw
    obtain ⟨x0, x1, x2⟩ := hSw
    go_simp
    try with_reducible rfl
  try simp only [Act.put, zA, zB, zC]
  clear hwi
  have HWm : Hid (words a ≤ 64) := Lib.hid hw64
  obtain ⟨m, hm⟩ : ∃ m, words a = m := ⟨_, rfl⟩
  have HM := Lib.hid hm
  rw [hm] at hmk hw64 HWm ⊢
  clear hm
  have BD : Hid (Below W.heap.size W W.drew) := Lib.hid ((Below.refl _ _).drew)
  have HCD := Lib.hid (HC.out.keep BD.out)
  have hltD : w.heap.size < W.drew.heap.size := hlt
  have hn4 : min (n1 : Int) 4 = ((min n1 4 : Nat) : Int) := by omega
  obtain ⟨n4, hn4e⟩ : ∃ n4, min n1 4 = n4 := ⟨_, rfl⟩
  rw [hn4e] at hn4
  have n4a : n4 ≤ n1 := by omega
  have n4b : n4 ≤ 4 := by omega
  have N4 := Lib.hid hn4e
  clear hn4e
  refine Hd.two (i := 1) (j := 5) rfl rfl (by kernel_rfl) rfl rfl (fun K hK => ?_) (fun K hK => ?_)
  · go_simp
    refine (cclone_any x y A n cap l W.drew HCD.out hn).mono ?_
    rintro e w3 ⟨A', c', rfl, hO3, hb3⟩
    have SB : w3.cell? ⟨w.heap.size, 0, none⟩ = some (.int .i64 x) ∧ w3.cell? ⟨w.heap.size, 1, none⟩ = some (.int .i64 y) ∧ w3.cell? ⟨w.heap.size, 2, none⟩ = some (.slice A n cap) := ⟨(hb3.cell (p := ⟨w.heap.size, 0, none⟩) hltD).trans SA.1, (hb3.cell (p := ⟨w.heap.size, 1, none⟩) hltD).trans SA.2.1, (hb3.cell (p := ⟨w.heap.size, 2, none⟩) hltD).trans SA.2.2⟩
    have hsz3 := hb3.size
    have hl3 : w.heap.size < w3.heap.size := Nat.lt_of_lt_of_le hltD hsz3
    refine hK _ _ (fun _ => SB) ?_
    clear hK K
    try simp only [Act.put, zA, zB, zC]
    refine Hd.one (i := 5) rfl (by kernel_rfl) rfl (fun K hK => ?_)
    go_simp
    have SC : (w3.alloc (.cells (madeCells #[.int .u64 0] m) 53)).cell? ⟨w.heap.size, 0, none⟩ = some (.int .i64 x) ∧ (w3.alloc (.cells (madeCells #[.int .u64 0] m) 53)).cell? ⟨w.heap.size, 1, none⟩ = some (.int .i64 y) ∧ (w3.alloc (.cells (madeCells #[.int .u64 0] m) 53)).cell? ⟨w.heap.size, 2, none⟩ = some (.slice A n cap) := ⟨(World.cell?_alloc_lt _ _ _ hl3).trans SB.1, (World.cell?_alloc_lt _ _ _ hl3).trans SB.2.1, (World.cell?_alloc_lt _ _ _ hl3).trans SB.2.2⟩
    refine hK _ _ (fun _ => SC) ?_
    clear hK K
    try simp only [Act.put, zA, zB, zC]
    have b34 : Below w3.heap.size w3 (w3.alloc (.cells (madeCells #[.int .u64 0] m) 53)) := (Below.refl _ _).alloc (Nat.le_refl _) _
    have HG4 : Hid ((w3.alloc (.cells (madeCells #[.int .u64 0] m) 53)).heap[w3.heap.size]? = some (.cells (madeCells #[.int .u64 0] m) 53 (0, 0))) := Lib.hid (heap_alloc_new _ _)
    have HST := Lib.hid ((isSt_own hO3).keep b34)
    have HNE : Hid (0 < n → ∀ g, A'.map (·.block) = some g → g ≠ w3.heap.size) := Lib.hid (fun _ g hg => by have := (hO3.lt g hg).2; omega)
    have HLOW : Hid (0 < n → ∀ g, A'.map (·.block) = some g → w.heap.size ≤ g) := Lib.hid (fun _ g hg => by have := (hO3.lt g hg).1; omega)
    have HB4 : Hid (Below w.heap.size w (w3.alloc (.cells (madeCells #[.int .u64 0] m) 53))) := Lib.hid (B0.out.trans ((BD.out.trans (hb3.trans (b34.mono hsz3))).mono B0.out.size))
    have HGW : Hid (w.heap.size ≤ w3.heap.size) := Lib.hid (by omega)
    clear hO3 b34 SA SB s0 s1 s2
    refine Hd.one (i := 6) rfl (by kernel_rfl) rfl (fun K hK => ?_)
    go_simp
    refine hK _ _ (fun h => absurd h (by omega)) ?_
    clear hK K
    try simp only [Act.put, zA, zB, zC]
    refine Hd.one (i := 7) rfl (by kernel_rfl) rfl (fun K hK => ?_)
    go_simp
    refine hK _ _ (fun h => absurd h (by omega)) ?_
    clear hK K
    try simp only [Act.put, zA, zB, zC]
    refine Hd.one (i := 8) rfl (by kernel_rfl) rfl (fun K hK => ?_)
    go_simp
    refine hK _ _ (fun h => absurd h (by omega)) ?_
    clear hK K
    try simp only [Act.put, zA, zB, zC]
    refine Hd.done (by kernel_rfl) ?_ _
    have hsz4 : (w3.alloc (.cells (madeCells #[.int .u64 0] m) 53)).heap.size = w3.heap.size + 1 := by first | rfl | simp
    obtain ⟨q, hq⟩ : ∃ q, w3.heap.size + 1 = q := ⟨_, rfl⟩
    obtain ⟨W5, hW5⟩ : ∃ W5, W5 = (w3.alloc (.cells (madeCells #[.int .u64 0] m) 53)).alloc (.cells #[.int .i64 x, .int .i64 y, .slice A' n c', .slice none 0 0, .slice (some ⟨w3.heap.size, 0, none⟩) m m, .slice none 0 0, .pointer none, .slice none 0 0, .bool false, .bool false] 79) := ⟨_, rfl⟩
    have MM : Mid W5 (w3.alloc (.cells (madeCells #[.int .u64 0] m) 53)).heap.size w3.heap.size m x y A' n c' l ls [] 0 none 0 := Mid.start HWm.out HG4.out HST.out HNE.out hW5
    have BW5 : Below (w3.alloc (.cells (madeCells #[.int .u64 0] m) 53)).heap.size (w3.alloc (.cells (madeCells #[.int .u64 0] m) 53)) W5 := by rw [hW5]; exact (Below.refl _ _).alloc (Nat.le_refl _) _
    have BB5 := Lib.hid (HB4.out.trans (BW5.mono HB4.out.size))
    have HQ := Lib.hid (show w.heap.size ≤ (w3.alloc (.cells (madeCells #[.int .u64 0] m) 53)).heap.size from HB4.out.size)
    rw [← hW5]
    rw [hsz4] at MM HQ
    rw [hq] at MM HQ ⊢
    have MID := Lib.hid MM
    have HCI := Lib.hid (HS.out.keep BB5.out)
    clear MM BW5 HG4 HST HNE HB4 hW5 hq hsz4
    go_wp2_with fail
    go_loopw [24] (fun i wr => ∃ (k cc : Nat) (CA : Option Addr) (L : List Cd), i = .int .i64 k ∧ k ≤ n4 ∧ Mid wr q w3.heap.size m x y A' n c' l ls L k CA cc ∧ Below w.heap.size w wr) (fun i _ => n4 - (intOf i).toNat)
    case atStart => exact ⟨0, 0, none, [], rfl, by omega, MID.out, BB5.out⟩
    case round =>
      obtain ⟨k, cc, CA, L, rfl, hk, hmid, hbel⟩ := hrel
      have HM5 := Lib.hid hmid
      have HBL := Lib.hid hbel
      clear hmid hbel MID
      have z3 := HM5.out.foc.cs.2.2.2.1
      have zl : k ≤ cc ∧ cc ≤ maxLen := ⟨HM5.out.own.sl.le, HM5.out.own.sl.cap_le⟩
      have hql := HM5.out.foc.qlt
      by_cases hc : k < n4
      · obtain ⟨b, o, hA1, hb, s0, s1, s2, hx, hy, hI⟩ := (HS.out.keep HBL.out).cell (k := k) (by omega)
        have hn5 := HN.out k (by omega)
        obtain ⟨cd, hcd⟩ : ∃ cd, ls.getD k zeroCd = cd := ⟨_, rfl⟩
        have HCD2 := Lib.hid hcd
        rw [hcd] at s0 s1 s2 hx hy hI hn5
        clear hcd
        obtain ⟨x1, y1, A4, n5, c5, l5⟩ := cd
        subst hA1
        have XY := Lib.hid (And.intro hx hy)
        have HI4 := Lib.hid hI
        clear hx hy hI
        dsimp only at s0 s1 s2 hn5
        have d0 : decide ((k : Int) < (n4 : Int)) = true := decide_eq_true (by omega)
        have d2 : (k : Int) < (n4 : Int) := by omega
        go_wp2_with fail
        obtain ⟨WA, hWA⟩ : ∃ WA, wr.alloc (.cells #[.int .i64 x1, .int .i64 y1, .slice A4 n5 c5] 34) = WA := ⟨_, rfl⟩
        have bWA : Below wr.heap.size wr WA := by rw [← hWA]; exact (Below.refl _ _).alloc (Nat.le_refl _) _
        have a0 : WA.cell? ⟨wr.heap.size, 0, none⟩ = some (.int .i64 x1) := by rw [← hWA]; simp
        have a1 : WA.cell? ⟨wr.heap.size, 1, none⟩ = some (.int .i64 y1) := by rw [← hWA]; simp
        have a2 : WA.cell? ⟨wr.heap.size, 2, none⟩ = some (.slice A4 n5 c5) := by rw [← hWA]; simp
        have a7 : WA.cell? ⟨q, 3, none⟩ = some (.slice CA k cc) := (bWA.cell (p := ⟨q, 3, none⟩) hql).trans z3
        have hzA : WA.heap.size = wr.heap.size + 1 := by rw [← hWA]; simp
        have HIA := Lib.hid (HI4.out.keep (bWA.trans (below_drawn WA 1 |>.mono bWA.size)))
        rw [hWA]
        clear hWA z3 s0 s1 s2
        refine Hd.start 9 (fun w' => w'.cell? ⟨q, 3, none⟩ = some (.slice CA k cc) ∧ w'.cell? ⟨wr.heap.size, 0, none⟩ = some (.int .i64 x1) ∧ w'.cell? ⟨wr.heap.size, 1, none⟩ = some (.int .i64 y1) ∧ w'.cell? ⟨wr.heap.size, 2, none⟩ = some (.slice A4 n5 c5)) (by kernel_rfl) ?_
        have SA : WA.drew.cell? ⟨q, 3, none⟩ = some (.slice CA k cc) ∧ WA.drew.cell? ⟨wr.heap.size, 0, none⟩ = some (.int .i64 x1) ∧ WA.drew.cell? ⟨wr.heap.size, 1, none⟩ = some (.int .i64 y1) ∧ WA.drew.cell? ⟨wr.heap.size, 2, none⟩ = some (.slice A4 n5 c5) := ⟨a7, a0, a1, a2⟩
        refine Hd.take (i := 0) (v := ?v5) rfl (by decide +kernel) (by decide +kernel) (fun _ _ _ h => h) rfl ?hy5 SA ?rest5
        case hy5 =>
          intro wq hSw
          obtain ⟨t7, x0, x1, x2⟩ := hSw
          go_simp
          try with_reducible rfl
        try simp only [Act.put, zA, zB, zC]
        refine Hd.take (i := 1) (v := ?v6) rfl (by decide +kernel) (by decide +kernel) (fun _ _ _ h => h) rfl ?hy6 SA ?rest6
        case hy6 =>
          intro wq hSw
          obtain ⟨t7, x0, x1, x2⟩ := hSw
          go_simp
          try with_reducible rfl
        try simp only [Act.put, zA, zB, zC]
        refine Hd.take (i := 2) (v := ?v7) rfl (by decide +kernel) (by decide +kernel) (fun _ _ _ h => h) rfl ?hy7 SA ?rest7
        case hy7 =>
          intro wq hSw
          obtain ⟨t7, x0, x1, x2⟩ := hSw
          go_simp
          try with_reducible rfl
        try simp only [Act.put, zA, zB, zC]
        refine Hd.take (i := 3) (v := ?v8) rfl (by decide +kernel) (by decide +kernel) (fun _ _ _ h => h) rfl ?hy8 SA ?rest8
        case hy8 =>
          intro wq hSw
          obtain ⟨t7, x0, x1, x2⟩ := hSw
          go_simp
          try with_reducible rfl
        try simp only [Act.put, zA, zB, zC]
        refine Hd.take (i := 4) (v := ?v9) rfl (by decide +kernel) (by decide +kernel) (fun _ _ _ h => h) rfl ?hy9 SA ?rest9
        case hy9 =>
          intro wq hSw
          obtain ⟨t7, x0, x1, x2⟩ := hSw
          go_simp
          try with_reducible rfl
        try simp only [Act.put, zA, zB, zC]
        refine Hd.take (i := 5) (v := ?v10) rfl (by decide +kernel) (by decide +kernel) (fun _ _ _ h => h) rfl ?hy10 SA ?rest10
        case hy10 =>
          intro wq hSw
          obtain ⟨t7, x0, x1, x2⟩ := hSw
          go_simp
          try with_reducible rfl
        try simp only [Act.put, zA, zB, zC]
        refine Hd.one (i := 6) rfl (by kernel_rfl) rfl (fun K hK => ?_)
        go_simp
        refine (cclone_any x1 y1 A4 n5 c5 l5 WA.drew HIA.out hn5).mono ?_
        rintro e w6 ⟨A6, c6, rfl, hO6, hb6⟩
        have hI6 := isSt_own hO6
        have hqA : q < WA.drew.heap.size := by show q < WA.heap.size; omega
        have hcA : wr.heap.size < WA.drew.heap.size := by show wr.heap.size < WA.heap.size; omega
        have SB : w6.cell? ⟨q, 3, none⟩ = some (.slice CA k cc) ∧ w6.cell? ⟨wr.heap.size, 0, none⟩ = some (.int .i64 x1) ∧ w6.cell? ⟨wr.heap.size, 1, none⟩ = some (.int .i64 y1) ∧ w6.cell? ⟨wr.heap.size, 2, none⟩ = some (.slice A4 n5 c5) := ⟨(hb6.cell (p := ⟨q, 3, none⟩) hqA).trans SA.1, (hb6.cell (p := ⟨wr.heap.size, 0, none⟩) hcA).trans SA.2.1, (hb6.cell (p := ⟨wr.heap.size, 1, none⟩) hcA).trans SA.2.2.1, (hb6.cell (p := ⟨wr.heap.size, 2, none⟩) hcA).trans SA.2.2.2⟩
        have hsz6 := hb6.size
        have hq6 : q < w6.heap.size := Nat.lt_of_lt_of_le hqA hsz6
        have hc6 : wr.heap.size < w6.heap.size := Nat.lt_of_lt_of_le hcA hsz6
        have LO6 : 0 < n5 → ∀ g, A6.map (·.block) = some g → wr.heap.size ≤ g := fun _ g hg => by have := (hO6.lt g hg).1; have : WA.drew.heap.size = WA.heap.size := rfl; omega
        have b66 : Below wr.heap.size wr w6 := bWA.trans (((below_drawn WA 1).trans hb6).mono bWA.size)
        refine hK _ _ (fun _ => SB) ?_
        clear hK K
        try simp only [Act.put, zA, zB, zC]
        refine Hd.one (i := 7) rfl (by kernel_rfl) rfl (fun K hK => ?_)
        go_simp
        have SC : (w6.alloc (.cells #[.int .i64 x1, .int .i64 y1, .slice A6 n5 c6] 34)).cell? ⟨q, 3, none⟩ = some (.slice CA k cc) ∧ (w6.alloc (.cells #[.int .i64 x1, .int .i64 y1, .slice A6 n5 c6] 34)).cell? ⟨wr.heap.size, 0, none⟩ = some (.int .i64 x1) ∧ (w6.alloc (.cells #[.int .i64 x1, .int .i64 y1, .slice A6 n5 c6] 34)).cell? ⟨wr.heap.size, 1, none⟩ = some (.int .i64 y1) ∧ (w6.alloc (.cells #[.int .i64 x1, .int .i64 y1, .slice A6 n5 c6] 34)).cell? ⟨wr.heap.size, 2, none⟩ = some (.slice A4 n5 c5) := ⟨(World.cell?_alloc_lt _ _ _ hq6).trans SB.1, (World.cell?_alloc_lt _ _ _ hc6).trans SB.2.1, (World.cell?_alloc_lt _ _ _ hc6).trans SB.2.2.1, (World.cell?_alloc_lt _ _ _ hc6).trans SB.2.2.2⟩
        refine hK _ _ (fun _ => SC) ?_
        clear hK K
        try simp only [Act.put, zA, zB, zC]
        refine Hd.one (i := 8) rfl (by kernel_rfl) rfl (fun K hK => ?_)
        have BW3 : Hid (Below wr.heap.size wr (w6.alloc (.cells #[.int .i64 x1, .int .i64 y1, .slice A6 n5 c6] 34))) := Lib.hid (b66.alloc b66.size _)
        have hsl : Sl (w6.alloc (.cells #[.int .i64 x1, .int .i64 y1, .slice A6 n5 c6] 34)) (some ⟨w6.heap.size, 0, none⟩) 1 1 3 (fun _ => cdL ⟨x1, y1, A6, n5, c6, l5⟩) := sl_one w6 (cdL ⟨x1, y1, A6, n5, c6, l5⟩) 34
        have hlr := HM5.out.own
        refine wp_app _ _ _ rfl elCd (q + 1) CA k cc _ rfl (hlr.keep BW3.out) (some ⟨w6.heap.size, 0, none⟩) 1 1 (fun _ => cdL ⟨x1, y1, A6, n5, c6, l5⟩) rfl hsl (fun _ _ => rfl) (fun _ _ u hu => cd_ones ⟨x1, y1, A6, n5, c6, l5⟩ _ (List.mem_singleton.2 rfl) u hu) (by unfold maxLen; omega) (by omega) (by simp; omega) ?_
        intro A5 c5b w5 hown5 hg5 hat5
        have hq5 : w5.heap[q]? = (w6.alloc (.cells #[.int .i64 x1, .int .i64 y1, .slice A6 n5 c6] 34)).heap[q]? := hg5.block q (Nat.lt_of_lt_of_le hql BW3.out.size) (fun e => by have := (HM5.out.own.lt q e.symm).1; omega)
        have TT := Lib.hid (HM5.out.more (c := ⟨x1, y1, A6, n5, c6, l5⟩) BW3.out (by rw [HCD2.out]) (by rw [HCD2.out]) ⟨XY.out.1, XY.out.2, hI6.keep ((Below.refl _ _).alloc (Nat.le_refl _) _)⟩ hn5 LO6 hown5 hg5 hat5)
        have fq5 : ∀ i, w5.frozen? ⟨q, i, none⟩ = false := fun i => ((blk_same hq5).2 i).trans ((HM5.out.foc.keep BW3.out).free i)
        have y55 := ((blk_same hq5).1 3).trans SC.1
        have hb5 : ∀ i, w5.cell? ⟨wr.heap.size, i, none⟩ = (w6.alloc (.cells #[.int .i64 x1, .int .i64 y1, .slice A6 n5 c6] 34)).cell? ⟨wr.heap.size, i, none⟩ := (blk_same (hg5.block wr.heap.size (by simp; omega) (fun e => by have := (HM5.out.own.lt _ e.symm).2; omega))).1
        refine hK _ _ (fun _ => ⟨y55, (hb5 _).trans SC.2.1, (hb5 _).trans SC.2.2.1, (hb5 _).trans SC.2.2.2⟩) ?_
        clear hown5 hg5 hat5 hq5 hsl SB SA SC hb5 hO6 hI6
        clear hK K
        try simp only [Act.put, zA, zB, zC]
        refine Hd.one (i := 9) rfl (by kernel_rfl) rfl (fun K hK => ?_)
        go_simp
        refine hK _ _ (fun h => absurd h (by omega)) ?_
        clear hK K
        try simp only [Act.put, zA, zB, zC]
        refine Hd.one (i := 10) rfl (by kernel_rfl) rfl (fun K hK => ?_)
        go_simp
        refine hK _ _ (fun h => absurd h (by omega)) ?_
        clear hK K
        try simp only [Act.put, zA, zB, zC]
        refine Hd.one (i := 11) rfl (by kernel_rfl) rfl (fun K hK => ?_)
        go_simp
        refine hK _ _ (fun h => absurd h (by omega)) ?_
        clear hK K
        try simp only [Act.put, zA, zB, zC]
        refine Hd.done (by kernel_rfl) ?_ _
        go_wp2_with fail
        go_roundw
        case rel => exact ⟨k + 1, _, _, _, by go_num, by omega, TT.out.1, HBL.out.trans (TT.out.2.below (fun g hg => by
          rcases List.mem_cons.1 hg with e | e
          · rw [e]; exact HQ.out
          · have := (HM5.out.own.lt g (by simpa using e)).1; have := HQ.out; omega) HBL.out.size)⟩
        case measure => simp [intOf]; omega
      · obtain rfl : k = n4 := by omega
        have d0 : decide ((k : Int) < (k : Int)) = false := decide_eq_false (by omega)
        have hL := HM5.out.cls.len
        have EB : Hid (L.map lnOf = begunL ls) := Lib.hid (by
          rw [cls_begun HM5.out.cls (by have := HLn.out; omega)]
          exact begun_take (by omega) (by have := HLn.out; omega) (by have := HLn.out; have := N4.out; omega))
        have HMB := HM5.out
        rw [← hL] at HMB
        have BR := HMB.bare (w0 := w) hn HU0.out (fun j hj => HU.out j (by omega)) (fun g h0 hg => HLOW.out h0 g hg) HQ.out
        have RB := Lib.hid (rbegin_any BR (by omega))
        clear BR HMB
        have hgq := HM5.out.gq
        go_wp2_with fail
        refine RB.out.mono ?_
        rintro e w9 ⟨rfl, G', t', hR, hG, hO⟩
        have RR := Lib.hid hR
        have HG := Lib.hid hG
        have HO9 := Lib.hid hO
        clear hR hG hO z3
        go_wp2_with fail
        go_ret
        have hsz := HBL.out.size
        have hHQ := HQ.out
        have hgw := HGW.out
        refine ⟨q, fun k => w.heap.size ≤ k ∧ k < wr.heap.size ∧ k ≠ q ∧ k ≠ w3.heap.size, G', ⟨x, y, A', n, c', l⟩, L, t', rfl, by rw [HM.out, ← EB.out]; exact RR.out, rfl, rfl, EB.out, by omega, fun k hk => ?_, fun k hk => hk.1, HBL.out.trans (HO9.out.below (fun g hg => ?_) HBL.out.size)⟩
        · rcases HG.out k hk with e | e
          · simp at e; omega
          · omega
        · simp at hg; omega
  · go_simp
    have hl3 : w.heap.size < (W.alloc (.cells (madeCells #[.int .u64 0] m) 53)).drew.heap.size := by simp; omega
    have SB : (W.alloc (.cells (madeCells #[.int .u64 0] m) 53)).drew.cell? ⟨w.heap.size, 0, none⟩ = some (.int .i64 x) ∧ (W.alloc (.cells (madeCells #[.int .u64 0] m) 53)).drew.cell? ⟨w.heap.size, 1, none⟩ = some (.int .i64 y) ∧ (W.alloc (.cells (madeCells #[.int .u64 0] m) 53)).drew.cell? ⟨w.heap.size, 2, none⟩ = some (.slice A n cap) := ⟨(World.cell?_alloc_lt _ _ _ hlt).trans SA.1, (World.cell?_alloc_lt _ _ _ hlt).trans SA.2.1, (World.cell?_alloc_lt _ _ _ hlt).trans SA.2.2⟩
    refine hK _ _ (fun _ => SB) ?_
    clear hK K
    try simp only [Act.put, zA, zB, zC]
    have b33 : Below W.heap.size W (W.alloc (.cells (madeCells #[.int .u64 0] m) 53)).drew := ((Below.refl _ _).alloc (Nat.le_refl _) _).drew
    have HG3 : (W.alloc (.cells (madeCells #[.int .u64 0] m) 53)).drew.heap[W.heap.size]? = some (.cells (madeCells #[.int .u64 0] m) 53 (0, 0)) := heap_alloc_new _ _
    obtain ⟨w3, hw3⟩ : ∃ w3, (W.alloc (.cells (madeCells #[.int .u64 0] m) 53)).drew = w3 := ⟨_, rfl⟩
    rw [hw3] at b33 HG3 SB hl3
    rw [hw3]
    have hg3 : W.heap.size < w3.heap.size := (Array.getElem?_eq_some_iff.1 HG3).1
    clear hw3
    obtain ⟨gB, hgB⟩ : ∃ gB, W.heap.size = gB := ⟨_, rfl⟩
    have hgB2 : w.heap.size < gB := by rw [← hgB]; exact hlt
    rw [hgB] at HG3 hg3 ⊢
    have HC3 := Lib.hid (HC.out.keep b33)
    refine Hd.one (i := 1) rfl (by kernel_rfl) rfl (fun K hK => ?_)
    go_simp
    refine (cclone_any x y A n cap l w3 HC3.out hn).mono ?_
    rintro e w4 ⟨A', c', rfl, hO4, hb4⟩
    have SC : w4.cell? ⟨w.heap.size, 0, none⟩ = some (.int .i64 x) ∧ w4.cell? ⟨w.heap.size, 1, none⟩ = some (.int .i64 y) ∧ w4.cell? ⟨w.heap.size, 2, none⟩ = some (.slice A n cap) := ⟨(hb4.cell (p := ⟨w.heap.size, 0, none⟩) hl3).trans SB.1, (hb4.cell (p := ⟨w.heap.size, 1, none⟩) hl3).trans SB.2.1, (hb4.cell (p := ⟨w.heap.size, 2, none⟩) hl3).trans SB.2.2⟩
    refine hK _ _ (fun _ => SC) ?_
    clear hK K
    try simp only [Act.put, zA, zB, zC]
    have HG4 : Hid (w4.heap[gB]? = some (.cells (madeCells #[.int .u64 0] m) 53 (0, 0))) := Lib.hid ((hb4.block gB hg3).trans HG3)
    have HST := Lib.hid (isSt_own hO4)
    have HNE : Hid (0 < n → ∀ g, A'.map (·.block) = some g → g ≠ gB) := Lib.hid (fun _ g hg => by have := (hO4.lt g hg).1; omega)
    have HLOW : Hid (0 < n → ∀ g, A'.map (·.block) = some g → w.heap.size ≤ g) := Lib.hid (fun _ g hg => by have := (hO4.lt g hg).1; omega)
    have HB4 : Hid (Below w.heap.size w w4) := Lib.hid (B0.out.trans ((b33.trans (hb4.mono b33.size)).mono B0.out.size))
    have HGW : Hid (w.heap.size ≤ gB) := Lib.hid (by omega)
    clear hO4 b33 HG3 hg3 SA SB s0 s1 s2 hgB hgB2
    refine Hd.one (i := 6) rfl (by kernel_rfl) rfl (fun K hK => ?_)
    go_simp
    refine hK _ _ (fun h => absurd h (by omega)) ?_
    clear hK K
    try simp only [Act.put, zA, zB, zC]
    refine Hd.one (i := 7) rfl (by kernel_rfl) rfl (fun K hK => ?_)
    go_simp
    refine hK _ _ (fun h => absurd h (by omega)) ?_
    clear hK K
    try simp only [Act.put, zA, zB, zC]
    refine Hd.one (i := 8) rfl (by kernel_rfl) rfl (fun K hK => ?_)
    go_simp
    refine hK _ _ (fun h => absurd h (by omega)) ?_
    clear hK K
    try simp only [Act.put, zA, zB, zC]
    refine Hd.done (by kernel_rfl) ?_ _
    have hsz4 : w4.heap.size = w4.heap.size := by first | rfl | simp
    obtain ⟨q, hq⟩ : ∃ q, w4.heap.size = q := ⟨_, rfl⟩
    obtain ⟨W5, hW5⟩ : ∃ W5, W5 = w4.alloc (.cells #[.int .i64 x, .int .i64 y, .slice A' n c', .slice none 0 0, .slice (some ⟨gB, 0, none⟩) m m, .slice none 0 0, .pointer none, .slice none 0 0, .bool false, .bool false] 79) := ⟨_, rfl⟩
    have MM : Mid W5 w4.heap.size gB m x y A' n c' l ls [] 0 none 0 := Mid.start HWm.out HG4.out HST.out HNE.out hW5
    have BW5 : Below w4.heap.size w4 W5 := by rw [hW5]; exact (Below.refl _ _).alloc (Nat.le_refl _) _
    have BB5 := Lib.hid (HB4.out.trans (BW5.mono HB4.out.size))
    have HQ := Lib.hid (show w.heap.size ≤ w4.heap.size from HB4.out.size)
    rw [← hW5]
    rw [hsz4] at MM HQ
    rw [hq] at MM HQ ⊢
    have MID := Lib.hid MM
    have HCI := Lib.hid (HS.out.keep BB5.out)
    clear MM BW5 HG4 HST HNE HB4 hW5 hq hsz4
    go_wp2_with fail
    go_loopw [24] (fun i wr => ∃ (k cc : Nat) (CA : Option Addr) (L : List Cd), i = .int .i64 k ∧ k ≤ n4 ∧ Mid wr q gB m x y A' n c' l ls L k CA cc ∧ Below w.heap.size w wr) (fun i _ => n4 - (intOf i).toNat)
    case atStart => exact ⟨0, 0, none, [], rfl, by omega, MID.out, BB5.out⟩
    case round =>
      obtain ⟨k, cc, CA, L, rfl, hk, hmid, hbel⟩ := hrel
      have HM5 := Lib.hid hmid
      have HBL := Lib.hid hbel
      clear hmid hbel MID
      have z3 := HM5.out.foc.cs.2.2.2.1
      have zl : k ≤ cc ∧ cc ≤ maxLen := ⟨HM5.out.own.sl.le, HM5.out.own.sl.cap_le⟩
      have hql := HM5.out.foc.qlt
      by_cases hc : k < n4
      · obtain ⟨b, o, hA1, hb, s0, s1, s2, hx, hy, hI⟩ := (HS.out.keep HBL.out).cell (k := k) (by omega)
        have hn5 := HN.out k (by omega)
        obtain ⟨cd, hcd⟩ : ∃ cd, ls.getD k zeroCd = cd := ⟨_, rfl⟩
        have HCD2 := Lib.hid hcd
        rw [hcd] at s0 s1 s2 hx hy hI hn5
        clear hcd
        obtain ⟨x1, y1, A4, n5, c5, l5⟩ := cd
        subst hA1
        have XY := Lib.hid (And.intro hx hy)
        have HI4 := Lib.hid hI
        clear hx hy hI
        dsimp only at s0 s1 s2 hn5
        have d0 : decide ((k : Int) < (n4 : Int)) = true := decide_eq_true (by omega)
        have d2 : (k : Int) < (n4 : Int) := by omega
        go_wp2_with fail
        obtain ⟨WA, hWA⟩ : ∃ WA, wr.alloc (.cells #[.int .i64 x1, .int .i64 y1, .slice A4 n5 c5] 34) = WA := ⟨_, rfl⟩
        have bWA : Below wr.heap.size wr WA := by rw [← hWA]; exact (Below.refl _ _).alloc (Nat.le_refl _) _
        have a0 : WA.cell? ⟨wr.heap.size, 0, none⟩ = some (.int .i64 x1) := by rw [← hWA]; simp
        have a1 : WA.cell? ⟨wr.heap.size, 1, none⟩ = some (.int .i64 y1) := by rw [← hWA]; simp
        have a2 : WA.cell? ⟨wr.heap.size, 2, none⟩ = some (.slice A4 n5 c5) := by rw [← hWA]; simp
        have a7 : WA.cell? ⟨q, 3, none⟩ = some (.slice CA k cc) := (bWA.cell (p := ⟨q, 3, none⟩) hql).trans z3
        have hzA : WA.heap.size = wr.heap.size + 1 := by rw [← hWA]; simp
        have HIA := Lib.hid (HI4.out.keep (bWA.trans (below_drawn WA 1 |>.mono bWA.size)))
        rw [hWA]
        clear hWA z3 s0 s1 s2
        refine Hd.start 9 (fun w' => w'.cell? ⟨q, 3, none⟩ = some (.slice CA k cc) ∧ w'.cell? ⟨wr.heap.size, 0, none⟩ = some (.int .i64 x1) ∧ w'.cell? ⟨wr.heap.size, 1, none⟩ = some (.int .i64 y1) ∧ w'.cell? ⟨wr.heap.size, 2, none⟩ = some (.slice A4 n5 c5)) (by kernel_rfl) ?_
        have SA : WA.drew.cell? ⟨q, 3, none⟩ = some (.slice CA k cc) ∧ WA.drew.cell? ⟨wr.heap.size, 0, none⟩ = some (.int .i64 x1) ∧ WA.drew.cell? ⟨wr.heap.size, 1, none⟩ = some (.int .i64 y1) ∧ WA.drew.cell? ⟨wr.heap.size, 2, none⟩ = some (.slice A4 n5 c5) := ⟨a7, a0, a1, a2⟩
        refine Hd.take (i := 0) (v := ?v11) rfl (by decide +kernel) (by decide +kernel) (fun _ _ _ h => h) rfl ?hy11 SA ?rest11
        case hy11 =>
          intro wq hSw
          obtain ⟨t7, x0, x1, x2⟩ := hSw
          go_simp
          try with_reducible rfl
        try simp only [Act.put, zA, zB, zC]
        refine Hd.take (i := 1) (v := ?v12) rfl (by decide +kernel) (by decide +kernel) (fun _ _ _ h => h) rfl ?hy12 SA ?rest12
        case hy12 =>
          intro wq hSw
          obtain ⟨t7, x0, x1, x2⟩ := hSw
          go_simp
          try with_reducible rfl
        try simp only [Act.put, zA, zB, zC]
        refine Hd.take (i := 2) (v := ?v13) rfl (by decide +kernel) (by decide +kernel) (fun _ _ _ h => h) rfl ?hy13 SA ?rest13
        case hy13 =>
          intro wq hSw
          obtain ⟨t7, x0, x1, x2⟩ := hSw
          go_simp
          try with_reducible rfl
        try simp only [Act.put, zA, zB, zC]
        refine Hd.take (i := 3) (v := ?v14) rfl (by decide +kernel) (by decide +kernel) (fun _ _ _ h => h) rfl ?hy14 SA ?rest14
        case hy14 =>
          intro wq hSw
          obtain ⟨t7, x0, x1, x2⟩ := hSw
          go_simp
          try with_reducible rfl
        try simp only [Act.put, zA, zB, zC]
        refine Hd.take (i := 4) (v := ?v15) rfl (by decide +kernel) (by decide +kernel) (fun _ _ _ h => h) rfl ?hy15 SA ?rest15
        case hy15 =>
          intro wq hSw
          obtain ⟨t7, x0, x1, x2⟩ := hSw
          go_simp
          try with_reducible rfl
        try simp only [Act.put, zA, zB, zC]
        refine Hd.take (i := 5) (v := ?v16) rfl (by decide +kernel) (by decide +kernel) (fun _ _ _ h => h) rfl ?hy16 SA ?rest16
        case hy16 =>
          intro wq hSw
          obtain ⟨t7, x0, x1, x2⟩ := hSw
          go_simp
          try with_reducible rfl
        try simp only [Act.put, zA, zB, zC]
        refine Hd.one (i := 6) rfl (by kernel_rfl) rfl (fun K hK => ?_)
        go_simp
        refine (cclone_any x1 y1 A4 n5 c5 l5 WA.drew HIA.out hn5).mono ?_
        rintro e w6 ⟨A6, c6, rfl, hO6, hb6⟩
        have hI6 := isSt_own hO6
        have hqA : q < WA.drew.heap.size := by show q < WA.heap.size; omega
        have hcA : wr.heap.size < WA.drew.heap.size := by show wr.heap.size < WA.heap.size; omega
        have SB : w6.cell? ⟨q, 3, none⟩ = some (.slice CA k cc) ∧ w6.cell? ⟨wr.heap.size, 0, none⟩ = some (.int .i64 x1) ∧ w6.cell? ⟨wr.heap.size, 1, none⟩ = some (.int .i64 y1) ∧ w6.cell? ⟨wr.heap.size, 2, none⟩ = some (.slice A4 n5 c5) := ⟨(hb6.cell (p := ⟨q, 3, none⟩) hqA).trans SA.1, (hb6.cell (p := ⟨wr.heap.size, 0, none⟩) hcA).trans SA.2.1, (hb6.cell (p := ⟨wr.heap.size, 1, none⟩) hcA).trans SA.2.2.1, (hb6.cell (p := ⟨wr.heap.size, 2, none⟩) hcA).trans SA.2.2.2⟩
        have hsz6 := hb6.size
        have hq6 : q < w6.heap.size := Nat.lt_of_lt_of_le hqA hsz6
        have hc6 : wr.heap.size < w6.heap.size := Nat.lt_of_lt_of_le hcA hsz6
        have LO6 : 0 < n5 → ∀ g, A6.map (·.block) = some g → wr.heap.size ≤ g := fun _ g hg => by have := (hO6.lt g hg).1; have : WA.drew.heap.size = WA.heap.size := rfl; omega
        have b66 : Below wr.heap.size wr w6 := bWA.trans (((below_drawn WA 1).trans hb6).mono bWA.size)
        refine hK _ _ (fun _ => SB) ?_
        clear hK K
        try simp only [Act.put, zA, zB, zC]
        refine Hd.one (i := 7) rfl (by kernel_rfl) rfl (fun K hK => ?_)
        go_simp
        have SC : (w6.alloc (.cells #[.int .i64 x1, .int .i64 y1, .slice A6 n5 c6] 34)).cell? ⟨q, 3, none⟩ = some (.slice CA k cc) ∧ (w6.alloc (.cells #[.int .i64 x1, .int .i64 y1, .slice A6 n5 c6] 34)).cell? ⟨wr.heap.size, 0, none⟩ = some (.int .i64 x1) ∧ (w6.alloc (.cells #[.int .i64 x1, .int .i64 y1, .slice A6 n5 c6] 34)).cell? ⟨wr.heap.size, 1, none⟩ = some (.int .i64 y1) ∧ (w6.alloc (.cells #[.int .i64 x1, .int .i64 y1, .slice A6 n5 c6] 34)).cell? ⟨wr.heap.size, 2, none⟩ = some (.slice A4 n5 c5) := ⟨(World.cell?_alloc_lt _ _ _ hq6).trans SB.1, (World.cell?_alloc_lt _ _ _ hc6).trans SB.2.1, (World.cell?_alloc_lt _ _ _ hc6).trans SB.2.2.1, (World.cell?_alloc_lt _ _ _ hc6).trans SB.2.2.2⟩
        refine hK _ _ (fun _ => SC) ?_
        clear hK K
        try simp only [Act.put, zA, zB, zC]
        refine Hd.one (i := 8) rfl (by kernel_rfl) rfl (fun K hK => ?_)
        have BW3 : Hid (Below wr.heap.size wr (w6.alloc (.cells #[.int .i64 x1, .int .i64 y1, .slice A6 n5 c6] 34))) := Lib.hid (b66.alloc b66.size _)
        have hsl : Sl (w6.alloc (.cells #[.int .i64 x1, .int .i64 y1, .slice A6 n5 c6] 34)) (some ⟨w6.heap.size, 0, none⟩) 1 1 3 (fun _ => cdL ⟨x1, y1, A6, n5, c6, l5⟩) := sl_one w6 (cdL ⟨x1, y1, A6, n5, c6, l5⟩) 34
        have hlr := HM5.out.own
        refine wp_app _ _ _ rfl elCd (q + 1) CA k cc _ rfl (hlr.keep BW3.out) (some ⟨w6.heap.size, 0, none⟩) 1 1 (fun _ => cdL ⟨x1, y1, A6, n5, c6, l5⟩) rfl hsl (fun _ _ => rfl) (fun _ _ u hu => cd_ones ⟨x1, y1, A6, n5, c6, l5⟩ _ (List.mem_singleton.2 rfl) u hu) (by unfold maxLen; omega) (by omega) (by simp; omega) ?_
        intro A5 c5b w5 hown5 hg5 hat5
        have hq5 : w5.heap[q]? = (w6.alloc (.cells #[.int .i64 x1, .int .i64 y1, .slice A6 n5 c6] 34)).heap[q]? := hg5.block q (Nat.lt_of_lt_of_le hql BW3.out.size) (fun e => by have := (HM5.out.own.lt q e.symm).1; omega)
        have TT := Lib.hid (HM5.out.more (c := ⟨x1, y1, A6, n5, c6, l5⟩) BW3.out (by rw [HCD2.out]) (by rw [HCD2.out]) ⟨XY.out.1, XY.out.2, hI6.keep ((Below.refl _ _).alloc (Nat.le_refl _) _)⟩ hn5 LO6 hown5 hg5 hat5)
        have fq5 : ∀ i, w5.frozen? ⟨q, i, none⟩ = false := fun i => ((blk_same hq5).2 i).trans ((HM5.out.foc.keep BW3.out).free i)
        have y55 := ((blk_same hq5).1 3).trans SC.1
        have hb5 : ∀ i, w5.cell? ⟨wr.heap.size, i, none⟩ = (w6.alloc (.cells #[.int .i64 x1, .int .i64 y1, .slice A6 n5 c6] 34)).cell? ⟨wr.heap.size, i, none⟩ := (blk_same (hg5.block wr.heap.size (by simp; omega) (fun e => by have := (HM5.out.own.lt _ e.symm).2; omega))).1
        refine hK _ _ (fun _ => ⟨y55, (hb5 _).trans SC.2.1, (hb5 _).trans SC.2.2.1, (hb5 _).trans SC.2.2.2⟩) ?_
        clear hown5 hg5 hat5 hq5 hsl SB SA SC hb5 hO6 hI6
        clear hK K
        try simp only [Act.put, zA, zB, zC]
        refine Hd.one (i := 9) rfl (by kernel_rfl) rfl (fun K hK => ?_)
        go_simp
        refine hK _ _ (fun h => absurd h (by omega)) ?_
        clear hK K
        try simp only [Act.put, zA, zB, zC]
        refine Hd.one (i := 10) rfl (by kernel_rfl) rfl (fun K hK => ?_)
        go_simp
        refine hK _ _ (fun h => absurd h (by omega)) ?_
        clear hK K
        try simp only [Act.put, zA, zB, zC]
        refine Hd.one (i := 11) rfl (by kernel_rfl) rfl (fun K hK => ?_)
        go_simp
        refine hK _ _ (fun h => absurd h (by omega)) ?_
        clear hK K
        try simp only [Act.put, zA, zB, zC]
        refine Hd.done (by kernel_rfl) ?_ _
        go_wp2_with fail
        go_roundw
        case rel => exact ⟨k + 1, _, _, _, by go_num, by omega, TT.out.1, HBL.out.trans (TT.out.2.below (fun g hg => by
          rcases List.mem_cons.1 hg with e | e
          · rw [e]; exact HQ.out
          · have := (HM5.out.own.lt g (by simpa using e)).1; have := HQ.out; omega) HBL.out.size)⟩
        case measure => simp [intOf]; omega
      · obtain rfl : k = n4 := by omega
        have d0 : decide ((k : Int) < (k : Int)) = false := decide_eq_false (by omega)
        have hL := HM5.out.cls.len
        have EB : Hid (L.map lnOf = begunL ls) := Lib.hid (by
          rw [cls_begun HM5.out.cls (by have := HLn.out; omega)]
          exact begun_take (by omega) (by have := HLn.out; omega) (by have := HLn.out; have := N4.out; omega))
        have HMB := HM5.out
        rw [← hL] at HMB
        have BR := HMB.bare (w0 := w) hn HU0.out (fun j hj => HU.out j (by omega)) (fun g h0 hg => HLOW.out h0 g hg) HQ.out
        have RB := Lib.hid (rbegin_any BR (by omega))
        clear BR HMB
        have hgq := HM5.out.gq
        go_wp2_with fail
        refine RB.out.mono ?_
        rintro e w9 ⟨rfl, G', t', hR, hG, hO⟩
        have RR := Lib.hid hR
        have HG := Lib.hid hG
        have HO9 := Lib.hid hO
        clear hR hG hO z3
        go_wp2_with fail
        go_ret
        have hsz := HBL.out.size
        have hHQ := HQ.out
        have hgw := HGW.out
        refine ⟨q, fun k => w.heap.size ≤ k ∧ k < wr.heap.size ∧ k ≠ q ∧ k ≠ gB, G', ⟨x, y, A', n, c', l⟩, L, t', rfl, by rw [HM.out, ← EB.out]; exact RR.out, rfl, rfl, EB.out, by omega, fun k hk => ?_, fun k hk => hk.1, HBL.out.trans (HO9.out.below (fun g hg => ?_) HBL.out.size)⟩
        · rcases HG.out k hk with e | e
          · simp at e; omega
          · omega
        · simp at hg; omega
end Go.Proofs.Ytapnnbbbgopobaa.Ph
namespace Go.Proofs.Ytapnnbbbgopobaa.Ph
open Go.RowKit Cm Mm Ow Ow2 Me Stp StW Rm Sp Sd Sx Sr Pn Pa Pq Pr Pm
open ElM (Cd zeroCd cdL okCd IsCd)
def RunM (w : World) (q : Nat) (C : Nat → Prop) (G : List Nat) (s : Cd) (cs : List Cd) (m : Mch Ln) : Prop :=
  ∃ rc sd tl t, RunQ w q C G s cs rc sd tl m.now m.out t ∧ (sd = false → m.rc = some rc ∧ m.l = [] ∧ tl = cs.map lnOf) ∧ (sd = true → m.rc = none ∧ m.l = tl)
def StepQ (w : World) (q : Nat) (C : Nat → Prop) (G : List Nat) (s : Cd) (cs : List Cd) (r : Nat × Mch Ln) (e : Ending) (w' : World) : Prop :=
  e = .returned (.bool (r.1 == 0)) ∧ w'.cell? ⟨q, 9, none⟩ = some (.bool (r.1 == 2)) ∧ Only G w w' ∧ (r.1 ≠ 2 → ∃ G', RunM w' q C G' s cs r.2 ∧ (∀ k ∈ G', k ∈ G ∨ w.heap.size ≤ k))
theorem StepQ.behind {w w1 w' : World} {q : Nat} {C : Nat → Prop} {G G1 : List Nat} {s : Cd} {cs : List Cd} {r : Nat × Mch Ln} {e : Ending} (h : StepQ w1 q C G1 s cs r e w') (ho : Only G w w1) (hG : ∀ k ∈ G1, k ∈ G ∨ w.heap.size ≤ k) : StepQ w q C G s cs r e w' := by
  obtain ⟨h1, h2, h3, h4⟩ := h
  refine ⟨h1, h2, ho.trans h3 hG, fun hr => ?_⟩
  obtain ⟨G2, k1, k2⟩ := h4 hr
  refine ⟨G2, k1, fun k hk => ?_⟩
  rcases k2 k hk with e | e
  · exact hG k e
  · exact .inr (Nat.le_trans ho.size e)
section
variable {w w' : World} {q : Nat} {C : Nat → Prop} {G : List Nat} {s : Cd} {cs : List Cd} {rc : Ln} {sd : Bool} {tl : List Ln} {now out : List Int} {t : Prq} {m : Mch Ln}
theorem stepq_core (h : RunQ w q C G s cs rc true tl now out t) {i : Nat} (hi : i < tl.length) {e : Ending} (hW : WentQ w q C t (t.us.getD i zeroU).1 (t.us.getD i zeroU).2 (goL tl[i] now out) e w') : StepQ w q C G s cs (coreM goL ⟨none, tl, now, out⟩ i) (.returned (.bool ((goL tl[i] now out).r == 0))) w' := by
  have e1 : coreM goL ⟨none, tl, now, out⟩ (i : Int) = ((goL tl[i] now out).r, ⟨none, tl.set i (goL tl[i] now out).ln, (goL tl[i] now out).now, (goL tl[i] now out).out⟩) := by
    unfold coreM
    rw [dif_pos (by dsimp only; omega)]
    rfl
  rw [e1]
  obtain ⟨k1, k2, k3⟩ := h.wentIll (fun k hk => h.gu i hi k hk) hW
  refine ⟨rfl, k2, k3, fun hr => ?_⟩
  obtain ⟨G', t', j1, j2, j3⟩ := h.wentLane hi hr hW
  exact ⟨G', ⟨rc, true, _, t', j1, fun h => (by cases h), fun _ => ⟨rfl, rfl⟩⟩, j2⟩
theorem stepq_none (h : RunQ w q C G s cs rc true tl now out t) {core : Int} (hc : ¬ (0 ≤ core ∧ core < tl.length)) : StepQ w q C G s cs (coreM goL ⟨none, tl, now, out⟩ core) (.returned (.bool false)) w := by
  have e1 : coreM goL ⟨none, tl, now, out⟩ core = (1, ⟨none, tl, now, out⟩) := by
    unfold coreM
    rw [dif_neg hc]
  rw [e1]
  refine ⟨rfl, ?_, Only.refl _ _, fun _ => ⟨G, ⟨rc, true, tl, t, h, fun h => (by cases h), fun _ => ⟨rfl, rfl⟩⟩, fun k hk => .inl hk⟩⟩
  have := h.foc.cs.2.2.2.2.2.2.2.2.2
  rw [h.ill] at this
  exact this
theorem RunQ.c6 (h : RunQ w q C G s cs rc sd tl now out t) : w.cell? ⟨q, 6, none⟩ = some t.H.rc := h.foc.cs.2.2.2.2.2.2.1
theorem RunQ.c8 (h : RunQ w q C G s cs rc sd tl now out t) : w.cell? ⟨q, 8, none⟩ = some (.bool sd) := by have := h.foc.cs.2.2.2.2.2.2.2.2.1; rw [h.hsd] at this; exact this
theorem RunQ.at_th (h : RunQ w q C G s cs rc sd tl now out t) {i : Nat} (hi : i < tl.length) : ∃ g, t.LA = some ⟨g, 0, none⟩ ∧ w.cell? ⟨g, i, none⟩ = some (t.us.getD i zeroU).1 := by
  have hf : (t.us.map fun u => [u.1]).flatten = t.us.map (·.1) := by
    induction t.us with
    | nil => rfl
    | cons a l ih => simpa using ih
  have hr := h.lr.row
  rw [hf] at hr
  obtain ⟨g, c, e1, _⟩ := hr.form (by omega)
  injection e1 with e1
  refine ⟨g, e1, ?_⟩
  rw [e1] at hr
  have hu := h.ul
  have := hr.cellAt i (by simp; omega)
  rw [this]
  simp [List.getD, show i < t.us.length by omega]
end
set_option maxRecDepth 200000 in
set_option maxHeartbeats 12800000 in
theorem pstep_any {w : World} {q : Nat} {C : Nat → Prop} {G : List Nat} {s : Cd} {cs : List Cd} {m : Mch Ln} (h : RunM w q C G s cs m) (core : Int) (hout : m.out.length ≤ 1000000) :
    Calls Try.prog 16 #[.pointer (some ⟨q, 0, none⟩), .int .i64 core] w (StepQ w q C G s cs (stepM goL (cs.map lnOf) m core)) := by
  obtain ⟨rc, sd, tl, t, hR, hf, ht⟩ := h
  obtain ⟨mr, ml, now, out⟩ := m
  dsimp only at hR hf ht hout
  have z6 := hR.c6
  have z8 := hR.c8
  have HH := Lib.hid hR
  clear hR
  cases sd with
  | true =>
    obtain ⟨rfl, rfl⟩ := ht rfl
    have HP : Hid (∀ e w', StepQ w q C G s cs (coreM goL ⟨none, ml, now, out⟩ core) e w' → StepQ w q C G s cs (stepM goL (cs.map lnOf) ⟨none, ml, now, out⟩ core) e w') := Lib.hid (fun _ _ h => h)
    generalize stepM goL (cs.map lnOf) ⟨none, ml, now, out⟩ core = r at *
    clear hf ht
    go_enter Try.func16, Try.ntmps16
    have z7 := HH.out.c7
    have zl := HH.out.lmax
    by_cases c0 : core < 0
    · have SN := Lib.hid (stepq_none HH.out (core := core) (by omega))
      have d0 : decide (0 ≤ core) = false := decide_eq_false (by omega)
      go_wp2_with fail
      go_ret
      exact HP.out _ _ SN.out
    · have d0 : decide (0 ≤ core) = true := decide_eq_true (by omega)
      by_cases c1 : (ml.length : Int) ≤ core
      · have SN := Lib.hid (stepq_none HH.out (core := core) (by omega))
        have d1 : decide (core < (ml.length : Int)) = false := decide_eq_false (by omega)
        go_wp2_with fail
        go_ret
        exact HP.out _ _ SN.out
      · obtain ⟨i, rfl⟩ := Int.eq_ofNat_of_zero_le (show 0 ≤ core by omega)
        have hi : i < ml.length := by omega
        have d1 : decide ((i : Int) < (ml.length : Int)) = true := decide_eq_true (by omega)
        have d2 : (i : Int) < (ml.length : Int) := by omega
        obtain ⟨g, hLA, zc⟩ := HH.out.at_th hi
        rw [hLA] at z7
        go_wp2_with fail
        refine (wentq_any HH.out (HH.out.ll i hi) (fun k hk => HH.out.gu i hi k hk) (fun hm => by have := HH.out.lu i hi _ hm; have := HH.out.lq; omega) (fun k hk hm => by have := HH.out.lu i hi _ hm; have := HH.out.lm k hk; omega) (fun k hk hm => by have := HH.out.lu i hi _ hm; have := HH.out.lo k hk; omega) hout).mono ?_
        intro e w2 hW
        have SC := Lib.hid (HP.out _ _ (stepq_core HH.out hi hW))
        obtain ⟨k1, -, -⟩ := HH.out.wentIll (fun k hk => HH.out.gu i hi k hk) hW
        subst k1
        clear hW
        rcases goL_r ml[i] now out with hx | hx | hx
        all_goals
          rw [hx] at SC ⊢
          clear hx
          go_wp2_with fail
          go_ret
          exact SC.out
  | false =>
    obtain ⟨rfl, rfl, rfl⟩ := hf rfl
    have hrc := HH.out.rc
    obtain ⟨p, hp, -, -⟩ := hrc.st w
    rw [hp] at z6
    have WA := Lib.hid (wentq_any HH.out hrc HH.out.gf (fun hm => by have := HH.out.lf _ hm; have := HH.out.lq; omega) (fun k hk hm => by have := HH.out.lf _ hm; have := HH.out.lm k hk; omega) (fun k hk hm => by have := HH.out.lf _ hm; have := HH.out.lo k hk; omega) hout)
    rw [hp] at WA
    obtain ⟨r, hr⟩ : ∃ r, stepM goL (cs.map lnOf) ⟨some rc, [], now, out⟩ core = r := ⟨_, rfl⟩
    have HQ := Lib.hid hr
    rw [hr]
    clear hr hf ht hrc
    go_enter Try.func16, Try.ntmps16
    go_wp2_with fail
    refine WA.out.mono ?_
    intro e w2 hW
    rw [← hp] at hW
    have hW0 := Lib.hid hW
    obtain ⟨k1, k2, k3⟩ := HH.out.wentIll HH.out.gf hW
    subst k1
    have K2 := Lib.hid k2
    have K3 := Lib.hid k3
    clear k2 k3 hW
    rcases goL_r rc now out with hx | hx | hx
    · have SN := Lib.hid (show StepQ w q C G s cs r (.returned (.bool true)) w2 from by
        rw [← HQ.out, Sr.step_some (by rw [hx]; decide)]
        refine ⟨by rw [hx]; rfl, K2.out, K3.out, fun _ => ?_⟩
        obtain ⟨G', t', j1, j2, j3⟩ := HH.out.wentRec (by rw [hx]; decide) hW0.out
        exact ⟨G', ⟨_, false, _, t', j1, fun _ => ⟨rfl, rfl, rfl⟩, fun h => (by cases h)⟩, j2⟩)
      rw [hx]
      have HX := Lib.hid hx
      clear hx
      go_wp2_with fail
      go_ret
      exact SN.out
    · obtain ⟨G1, t1, R1, hG1, ho1⟩ := HH.out.wentRec (by rw [hx]; decide) hW0.out
      obtain ⟨e3, e4⟩ := goL_same (a := rc) (now := now) (out := out) (by rw [hx]; decide)
      rw [e3, e4] at R1
      have K4 := R1.started
      have z82 := R1.c8
      have fq := R1.foc.free'
      obtain ⟨W8, hW8⟩ : ∃ W8, w2.setCell ⟨q, 8, none⟩ (.bool true) = W8 := ⟨_, rfl⟩
      rw [hW8] at K4
      have K5 : Hid (KeptQ w q C G s cs (goL rc now out).ln true (cs.map lnOf) now out W8) := Lib.hid (KeptQ.seq ⟨G1, t1, R1, hG1, ho1, K4⟩)
      have H8 := Lib.hid hW8
      rw [hx]
      have HX := Lib.hid hx
      clear K4 R1 hG1 ho1 e3 e4 hx hW0 WA K2 K3 hW8
      obtain ⟨G2, t2, R2, hG2, ho2⟩ := K5.out
      have HR := Lib.hid R2
      have HG := Lib.hid hG2
      have HO := Lib.hid ho2
      have HP : Hid (∀ e w', StepQ W8 q C G2 s cs (coreM goL ⟨none, cs.map lnOf, now, out⟩ core) e w' → StepQ w q C G s cs r e w') := Lib.hid (fun e w' h => by
        rw [← HQ.out, Sr.step_end HX.out]
        exact h.behind HO.out HG.out)
      clear R2 hG2 ho2 K5 HQ
      generalize cs.map lnOf = bl at *
      go_upto_region 8 with (fail)
      rw [H8.out]
      clear z82 fq H8 z6 z8
      have z7 := HR.out.c7
      have zl := HR.out.lmax
      by_cases c0 : core < 0
      · have SN := Lib.hid (stepq_none HR.out (core := core) (by omega))
        have d0 : decide (0 ≤ core) = false := decide_eq_false (by omega)
        go_wp2_with fail
        go_ret
        exact HP.out _ _ SN.out
      · have d0 : decide (0 ≤ core) = true := decide_eq_true (by omega)
        by_cases c1 : (bl.length : Int) ≤ core
        · have SN := Lib.hid (stepq_none HR.out (core := core) (by omega))
          have d1 : decide (core < (bl.length : Int)) = false := decide_eq_false (by omega)
          go_wp2_with fail
          go_ret
          exact HP.out _ _ SN.out
        · obtain ⟨i, rfl⟩ := Int.eq_ofNat_of_zero_le (show 0 ≤ core by omega)
          have hi : i < bl.length := by omega
          have d1 : decide ((i : Int) < (bl.length : Int)) = true := decide_eq_true (by omega)
          have d2 : (i : Int) < (bl.length : Int) := by omega
          obtain ⟨g, hLA, zc⟩ := HR.out.at_th hi
          rw [hLA] at z7
          go_wp2_with fail
          refine (wentq_any HR.out (HR.out.ll i hi) (fun k hk => HR.out.gu i hi k hk) (fun hm => by have := HR.out.lu i hi _ hm; have := HR.out.lq; omega) (fun k hk hm => by have := HR.out.lu i hi _ hm; have := HR.out.lm k hk; omega) (fun k hk hm => by have := HR.out.lu i hi _ hm; have := HR.out.lo k hk; omega) hout).mono ?_
          intro e w2 hW
          have SC := Lib.hid (HP.out _ _ (stepq_core HR.out hi hW))
          obtain ⟨k1, -, -⟩ := HR.out.wentIll (fun k hk => HR.out.gu i hi k hk) hW
          subst k1
          clear hW
          rcases goL_r bl[i] now out with hx | hx | hx
          all_goals
            rw [hx] at SC ⊢
            clear hx
            go_wp2_with fail
            go_ret
            exact SC.out
    · have SN := Lib.hid (show StepQ w q C G s cs r (.returned (.bool false)) w2 from by
        rw [← HQ.out, Sr.step_some (by rw [hx]; decide)]
        exact ⟨by rw [hx]; rfl, K2.out, K3.out, fun h => absurd hx h⟩)
      rw [hx]
      have HX := Lib.hid hx
      clear hx
      go_wp2_with fail
      go_ret
      exact SN.out
end Go.Proofs.Ytapnnbbbgopobaa.Ph
