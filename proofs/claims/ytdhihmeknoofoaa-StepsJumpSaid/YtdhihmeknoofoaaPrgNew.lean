/-
  WALK: the program's run of steps: a run made.
-/
import Derived.Test.YtdhihmeknoofoaaPrgAll
namespace Go.Proofs.Ytdhihmeknoofoaa.Ph
set_option linter.unusedVariables false
set_option linter.unusedSimpArgs false
open Go.RowKit Cm Mm Ow Ow2 Me Stp StW Rm Sp Sd Sx Sr Pn Pa Pq Pr Pm
open ElM (Cd zeroCd cdL okCd IsCd)

/-- codes cloned so far; X: the block of the row that has them -/
structure Cls (w : World) (q : Nat) (ls L : List Cd) (k : Nat) (X : Option Nat) : Prop where
  len : L.length = k
  x : ∀ j, j < k → (L.getD j zeroCd).x = (ls.getD j zeroCd).x
  l : ∀ j, j < k → (L.getD j zeroCd).l = (ls.getD j zeroCd).l
  ok : ∀ j, j < k → okCd w (L.getD j zeroCd)
  n2 : ∀ j, j < k → (L.getD j zeroCd).n ≤ 65536
  far : ∀ j, j < k → 0 < (L.getD j zeroCd).n → ∀ g, (L.getD j zeroCd).A.map (·.block) = some g → q < g ∧ X ≠ some g
theorem Cls.nil (w : World) (q : Nat) (ls : List Cd) : Cls w q ls [] 0 none := ⟨rfl, fun j hj => absurd hj (by omega), fun j hj => absurd hj (by omega), fun j hj => absurd hj (by omega), fun j hj => absurd hj (by omega), fun j hj => absurd hj (by omega)⟩
theorem Cls.keep {w w' : World} {q : Nat} {ls L : List Cd} {k : Nat} {X : Option Nat} (h : Cls w q ls L k X) (hb : Below w.heap.size w w') : Cls w' q ls L k X :=
  ⟨h.len, h.x, h.l, fun j hj => ⟨(h.ok j hj).1, (h.ok j hj).2.1, (h.ok j hj).2.2.keep hb⟩, h.n2, h.far⟩
theorem Cls.snoc {w : World} {q : Nat} {ls L : List Cd} {k : Nat} {X : Option Nat} (h : Cls w q ls L k X) {c : Cd} (h2 : c.x = (ls.getD k zeroCd).x) (h3 : c.l = (ls.getD k zeroCd).l) (h4 : okCd w c) (h5 : c.n ≤ 65536) (h6 : 0 < c.n → ∀ g, c.A.map (·.block) = some g → q < g ∧ X ≠ some g) : Cls w q ls (L ++ [c]) (k + 1) X := by
  have e1 : ∀ j, j < k → (L ++ [c]).getD j zeroCd = L.getD j zeroCd := fun j hj => by
    have : j < L.length := by rw [h.len]; exact hj
    simp [List.getD, List.getElem?_append_left this]
  have e2 : (L ++ [c]).getD k zeroCd = c := by rw [← h.len]; simp [List.getD]
  have key : ∀ (P : Nat → Cd → Prop), (∀ j, j < k → P j (L.getD j zeroCd)) → P k c → ∀ j, j < k + 1 → P j ((L ++ [c]).getD j zeroCd) := fun P p1 p2 j hj => by
    by_cases e : j = k
    · subst e; rw [e2]; exact p2
    · rw [e1 j (by omega)]; exact p1 j (by omega)
  exact ⟨by simp [h.len], key (fun j d => d.x = (ls.getD j zeroCd).x) h.x h2, key (fun j d => d.l = (ls.getD j zeroCd).l) h.l h3, key (fun j d => okCd w d) h.ok h4, key (fun j d => d.n ≤ 65536) h.n2 h5, key (fun j d => 0 < d.n → ∀ g, d.A.map (·.block) = some g → q < g ∧ X ≠ some g) h.far h6⟩
theorem Cls.only {w w' : World} {q : Nat} {ls L : List Cd} {k : Nat} {X : Option Nat} {Y : List Nat} (h : Cls w q ls L k X) (ho : Only Y w w') (hY : ∀ b ∈ Y, b = q ∨ X = some b) {X' : Option Nat} (hat : X' = X ∨ ∀ b, X' = some b → w.heap.size ≤ b) : Cls w' q ls L k X' := by
  refine ⟨h.len, h.x, h.l, fun j hj => ⟨(h.ok j hj).1, (h.ok j hj).2.1, isSt_only0 (h.ok j hj).2.2 ho (fun h0 g hg hm => ?_)⟩, h.n2, fun j hj h0 g hg => ⟨(h.far j hj h0 g hg).1, ?_⟩⟩
  · have h1 := h.far j hj h0 g hg
    rcases hY g hm with e | e
    · omega
    · exact h1.2 e
  · rcases hat with e | e
    · rw [e]; exact (h.far j hj h0 g hg).2
    · intro e2
      have := e g e2
      have := isSt_lt (h.ok j hj).2.2 h0 g hg
      omega
/-- a run that is being made -/
structure Mid (w : World) (q gB : Nat) (m : Nat) (x y : Int) (A' : Option Addr) (n c' : Nat) (l : List St) (ls L : List Cd) (k : Nat) (CA : Option Addr) (cc : Nat) : Prop where
  foc : Fop w q ⟨.int .i64 x, .int .i64 y, .slice A' n c', .slice CA k cc, .pointer none, .slice none 0 0, false, false⟩ [gB] [] (some ⟨gB, 0, none⟩) m none 0 (zeros m) []
  st : IsSt w A' n c' l
  sb : 0 < n → ∀ g, A'.map (·.block) = some g → g < q ∧ g ≠ gB
  own : Own w (q + 1) 24 3 CA k cc (L.map cdL)
  cls : Cls w q ls L k (CA.map (·.block))
  gq : gB < q
theorem Mid.only {w w' : World} {q gB m : Nat} {x y : Int} {A' : Option Addr} {n c' : Nat} {l : List St} {ls L : List Cd} {k : Nat} {CA : Option Addr} {cc : Nat} (h : Mid w q gB m x y A' n c' l ls L k CA cc) (hb : Below w.heap.size w w') : Mid w' q gB m x y A' n c' l ls L k CA cc :=
  ⟨h.foc.keep hb, h.st.keep hb, h.sb, h.own.keep hb, h.cls.keep hb, h.gq⟩
theorem zeros_len (m : Nat) : (zeros m).length = m := by simp [zeros]
theorem Mid.start {w2 w4 : World} {gB m : Nat} {x y : Int} {A' : Option Addr} {n c' : Nat} {l : List St} {ls : List Cd} (hm : m ≤ 64) (hg : w4.heap[gB]? = some (.cells (madeCells #[.int .u64 0] m) 29 (0, 0))) (hst : IsSt w4 A' n c' l) (hne : 0 < n → ∀ g, A'.map (·.block) = some g → g ≠ gB)
    (hw : w2 = w4.alloc (.cells #[.int .i64 x, .int .i64 y, .slice A' n c', .slice none 0 0, .slice (some ⟨gB, 0, none⟩) m m, .slice none 0 0, .pointer none, .slice none 0 0, .bool false, .bool false] 105)) : Mid w2 w4.heap.size gB m x y A' n c' l ls [] 0 none 0 := by
  have hb : Below w4.heap.size w4 w2 := by rw [hw]; exact (Below.refl _ _).alloc (Nat.le_refl _) _
  have hgl : gB < w4.heap.size := (Array.getElem?_eq_some_iff.1 hg).1
  have hsz : w2.heap.size = w4.heap.size + 1 := by rw [hw]; simp
  refine ⟨⟨?_, ?_, fun g hg => by simpa using hg.symm, Own.nil _ _ _ _, fun g hg => (by cases hg), by omega, fun k hk => ?_, fun k hk => (by cases hk), fun hk => ?_, (by simp), fun k _ hk => (by cases hk), by rw [zeros_len]; exact hm, fun z hz => ?_⟩, hst.keep hb, fun h0 g hg => ⟨isSt_lt hst h0 g hg, hne h0 g hg⟩, Own.nil _ _ _ _, Cls.nil _ _ _, hgl⟩
  · rw [hw, zeros_len]; exact heap_alloc_new _ _
  · rw [zeros_len]
    have e : (zeros m).map uw = List.replicate m (.int .u64 0) := by simp [zeros, uw]
    rw [e]
    exact row_made4 (by omega) ((hb.block gB hgl).trans hg)
  · rw [List.mem_singleton.1 hk]; omega
  · have := List.mem_singleton.1 hk; omega
  · unfold zeros at hz
    rw [(List.mem_replicate.1 hz).2]
    exact ⟨by decide, by decide⟩
/-- a code more -/
theorem Mid.more {w w3 w5 : World} {q gB m : Nat} {x y : Int} {A' : Option Addr} {n c' : Nat} {l : List St} {ls L : List Cd} {k : Nat} {CA : Option Addr} {cc : Nat} (h : Mid w q gB m x y A' n c' l ls L k CA cc) {c : Cd} {A2 : Option Addr} {c2 : Nat} (hb : Below w.heap.size w w3)
    (h2 : c.x = (ls.getD k zeroCd).x) (h3 : c.l = (ls.getD k zeroCd).l) (h4 : okCd w3 c) (h5 : c.n ≤ 65536) (h6 : 0 < c.n → ∀ g, c.A.map (·.block) = some g → w.heap.size ≤ g)
    (hown : Own w5 (q + 1) 24 3 A2 (k + 1) c2 (L.map cdL ++ [cdL c])) (hg : w3.grownBy w5 (CA.map (·.block))) (hat : A2.map (·.block) = CA.map (·.block) ∨ A2.map (·.block) = some w3.heap.size) :
    Mid (w5.setCell ⟨q, 3, none⟩ (.slice A2 (k + 1) c2)) q gB m x y A' n c' l ls (L ++ [c]) (k + 1) A2 c2 ∧ Only (q :: (CA.map (·.block)).toList) w (w5.setCell ⟨q, 3, none⟩ (.slice A2 (k + 1) c2)) := by
  have hCA := h.own.lt
  have ho35 : Only (CA.map (·.block)).toList w3 w5 := Only.of_grown hg (fun g hg => by rw [hg]; simp)
  have ho5 : Only (CA.map (·.block)).toList w w5 := (Only.of_below hb).seq ho35
  have hmem : ∀ k, k ∈ (CA.map (·.block)).toList → q < k ∧ k < w.heap.size ∧ CA.map (·.block) = some k := fun k hk => by
    have hk : CA.map (·.block) = some k := by simpa using hk
    have := hCA k hk
    exact ⟨by omega, this.2, hk⟩
  have hql := h.foc.qlt
  have F5 := h.foc.far ho5 (fun hm => by have := (hmem q hm).1; omega) (fun k hk hm => by have := (hmem k hm).1; have := List.mem_singleton.1 hk; have := h.gq; omega) (fun k hk => by cases hk)
  have F6 := fop_set F5 3 (.slice A2 (k + 1) c2) (H' := ⟨.int .i64 x, .int .i64 y, .slice A' n c', .slice A2 (k + 1) c2, .pointer none, .slice none 0 0, false, false⟩) rfl
  have o6 : Only (q :: (CA.map (·.block)).toList) w (w5.setCell ⟨q, 3, none⟩ (.slice A2 (k + 1) c2)) := (ho5.more (fun k hk => by simp [hk])).seq (F6.2.more (fun k hk => by rw [List.mem_singleton.1 hk]; simp))
  have o36 : Only (q :: (CA.map (·.block)).toList) w3 (w5.setCell ⟨q, 3, none⟩ (.slice A2 (k + 1) c2)) := (ho35.more (fun k hk => by simp [hk])).seq (F6.2.more (fun k hk => by rw [List.mem_singleton.1 hk]; simp))
  have hY : ∀ b ∈ q :: (CA.map (·.block)).toList, b = q ∨ CA.map (·.block) = some b := fun b hb => by
    rcases List.mem_cons.1 hb with e | e
    · exact .inl e
    · exact .inr (hmem b e).2.2
  have hc3 := (h.cls.keep hb).snoc (c := c) h2 h3 h4 h5 (fun h0 g hg => ⟨by have := h6 h0 g hg; omega, fun e => by have := h6 h0 g hg; have := (hCA g e).2; omega⟩)
  have hown6 := Sa.own_only hown F6.2 (fun g hg hm => by have := (hown.lt g hg).1; have := List.mem_singleton.1 hm; omega)
  refine ⟨⟨F6.1, isSt_only0 h.st o6 (fun h0 g hg hm => ?_), h.sb, by rw [List.map_append]; exact hown6, hc3.only o36 hY (hat.imp id (fun e b hb => by rw [e] at hb; cases hb; exact Nat.le_refl _)), h.gq⟩, o6⟩
  have := h.sb h0 g hg
  rcases hY g hm with e | e
  · omega
  · have := (hCA g e).1; omega
theorem Mid.bare {w0 w : World} {q gB m : Nat} {x y : Int} {A' : Option Addr} {n c' : Nat} {l : List St} {ls L : List Cd} {CA : Option Addr} {cc : Nat} (h : Mid w q gB m x y A' n c' l ls L L.length CA cc) (hn : n ≤ 65536) (hu : CodeU l) (hus : ∀ j, j < L.length → CodeU (ls.getD j zeroCd).l) (hlow : ∀ g, 0 < n → A'.map (·.block) = some g → w0.heap.size ≤ g) (hq : w0.heap.size ≤ q) :
    Bare w q (fun g => w0.heap.size ≤ g ∧ g < w.heap.size ∧ g ≠ q ∧ g ≠ gB) [q, gB] ⟨x, y, A', n, c', l⟩ L (zeros m) [] ⟨.int .i64 x, .int .i64 y, .slice A' n c', .slice CA L.length cc, .pointer none, .slice none 0 0, false, false⟩ [gB] [] (some ⟨gB, 0, none⟩) m none 0 CA cc (fun g => if g = q then 0 else 1) := by
  have hgq := h.gq
  have hql := h.foc.qlt
  have hCA := h.own.lt
  refine ⟨h.foc, rfl, rfl, rfl, rfl, rfl, ⟨hn, h.st, fun h0 g hg => ?_⟩, hu, isCd_own h.own h.cls.ok, fun i hi => ⟨h.cls.n2 i hi, (h.cls.ok i hi).2.2, fun h0 g hg => ?_⟩, fun i hi => by rw [h.cls.l i hi]; exact hus i hi, fun h0 g hg => ?_, by simp, fun k hk => ?_, fun k hk => (by cases hk), by simp, fun k hk => ?_, fun k hk => (by cases hk), fun k hk hc => ?_, fun k hk hc => ?_, fun k hk => ?_⟩
  · have := h.sb h0 g hg; exact ⟨hlow g h0 hg, by omega, by omega, this.2⟩
  · have h1 := h.cls.far i hi h0 g hg
    have h2 := isSt_lt (h.cls.ok i hi).2.2 h0 g hg
    exact ⟨by omega, h2, by omega, by omega⟩
  · have := hCA g hg
    exact ⟨by omega, this.2, by omega, by omega⟩
  · have := List.mem_singleton.1 hk
    show (if k = q then 0 else 1) = 1
    rw [if_neg (by omega)]
  · have := List.mem_singleton.1 hk
    rw [this]; simp
  · simp at hk
    rcases hk with e | e
    · exact hc.2.2.1 e
    · exact hc.2.2.2 e
  · exact absurd hc.2.1 (by omega)
  · simp at hk
    rcases hk with e | e
    · rw [e]; exact hql
    · omega
theorem cls_begun {w : World} {q : Nat} {ls L : List Cd} {X : Option Nat} {k : Nat} (h : Cls w q ls L k X) (hk : k ≤ ls.length) : L.map lnOf = (ls.take k).map lnOf := by
  refine List.ext_getElem (by simp [h.len]; omega) (fun i h1 h2 => ?_)
  have hi : i < k := by have := h.len; simp at h1; omega
  have hx := h.x i hi
  have hl := h.l i hi
  have g1 : L.getD i zeroCd = L[i]'(by simpa using h1) := by simp [List.getD, show i < L.length by simpa using h1]
  have g2 : ls.getD i zeroCd = ls[i]'(by omega) := by simp [List.getD, show i < ls.length by omega]
  rw [g1, g2] at hx hl
  simp only [List.getElem_map, List.getElem_take]
  unfold lnOf
  rw [hx, hl]

set_option maxRecDepth 200000 in
set_option maxHeartbeats 12800000 in
theorem pnew_any (x y : Int) (A : Option Addr) (n cap : Nat) (l : List St) (A1 : Option Addr) (n1 c1 : Nat) (ls : List Cd) (a : Int) (w : World) (hc : IsSt w A n cap l) (hn : n ≤ 65536) (hu : CodeU l) (hcs : IsCd w A1 n1 c1 ls) (hn1 : n1 ≤ 65536) (hcn : ∀ i, i < n1 → (ls.getD i zeroCd).n ≤ 65536) (hus : ∀ i, i < n1 → CodeU (ls.getD i zeroCd).l) :
    Calls Try.prog 49 #[.agg #[.int .i64 x, .int .i64 y, .slice A n cap], .slice A1 n1 c1, .int .i64 a] w fun e w' =>
      ∃ q C G s cs t, e = .returned (.pointer (some ⟨q, 0, none⟩)) ∧ RunQ w' q C G s cs (lnOf s) false (begunL ls) (zeros (words a)) [] t ∧ s.l = l ∧ s.x = x ∧ cs.map lnOf = begunL ls ∧ cs.length ≤ 4 ∧ (∀ k ∈ G, w.heap.size ≤ k) ∧ (∀ k, C k → w.heap.size ≤ k) ∧ Below w.heap.size w w' := by
  have HS := Lib.hid hcs
  have HN := Lib.hid hcn
  have HU := Lib.hid hus
  have HU0 := Lib.hid hu
  have hle := hcs.2.1.le
  have hle2 := hcs.2.1.cap_le
  have HLn := Lib.hid hcs.1
  have hw64 := words_le a
  have hwi := words_int a
  have hmk := run_make_u (words a) (by omega)
  obtain ⟨W, hW⟩ : ∃ W, W = w.alloc (.cells #[.int .i64 x, .int .i64 y, .slice A n cap] 24) := ⟨_, rfl⟩
  have B0 : Hid (Below w.heap.size w W) := Lib.hid (by rw [hW]; exact (Below.refl _ _).alloc (Nat.le_refl _) _)
  have s0 : W.cell? ⟨w.heap.size, 0, none⟩ = some (.int .i64 x) := by rw [hW]; simp
  have s1 : W.cell? ⟨w.heap.size, 1, none⟩ = some (.int .i64 y) := by rw [hW]; simp
  have s2 : W.cell? ⟨w.heap.size, 2, none⟩ = some (.slice A n cap) := by rw [hW]; simp
  have hlt : w.heap.size < W.heap.size := by rw [hW]; simp
  have HW := Lib.hid hW
  have HC := Lib.hid (hc.keep B0.out)
  clear hc hu hcs hcn hus hW
  go_enter Try.func49, Try.ntmps49
  go_upto_region 1 with (fail)
  rw [← HW.out]
  refine Hd.start 6 (fun w' => w'.cell? ⟨w.heap.size, 0, none⟩ = some (.int .i64 x) ∧ w'.cell? ⟨w.heap.size, 1, none⟩ = some (.int .i64 y) ∧ w'.cell? ⟨w.heap.size, 2, none⟩ = some (.slice A n cap)) (by kernel_rfl) ?_
  have SA : W.drew.cell? ⟨w.heap.size, 0, none⟩ = some (.int .i64 x) ∧ W.drew.cell? ⟨w.heap.size, 1, none⟩ = some (.int .i64 y) ∧ W.drew.cell? ⟨w.heap.size, 2, none⟩ = some (.slice A n cap) := ⟨s0, s1, s2⟩
  refine Hd.take (i := 0) (v := ?v1) rfl (by decide +kernel) (by decide +kernel) (fun _ _ _ h => h) rfl ?hy1 SA ?rest1
  case hy1 =>
    intro wq hSw
    obtain ⟨x0, x1, x2⟩ := hSw
    go_simp
    try with_reducible rfl
  try simp only [Act.put, List.setIfInBounds_toArray, List.set_cons_zero, List.set_cons_succ]
  refine Hd.take (i := 2) (v := ?v2) rfl (by decide +kernel) (by decide +kernel) (fun _ _ _ h => h) rfl ?hy2 SA ?rest2
  case hy2 =>
    intro wq hSw
    obtain ⟨x0, x1, x2⟩ := hSw
    go_simp
    try with_reducible rfl
  try simp only [Act.put, List.setIfInBounds_toArray, List.set_cons_zero, List.set_cons_succ]
  refine Hd.take (i := 3) (v := ?v3) rfl (by decide +kernel) (by decide +kernel) (fun _ _ _ h => h) rfl ?hy3 SA ?rest3
  case hy3 =>
    intro wq hSw
    obtain ⟨x0, x1, x2⟩ := hSw
    go_simp
    try with_reducible rfl
  try simp only [Act.put, List.setIfInBounds_toArray, List.set_cons_zero, List.set_cons_succ]
  refine Hd.take (i := 4) (v := ?v4) rfl (by decide +kernel) (by decide +kernel) (fun _ _ _ h => h) rfl ?hy4 SA ?rest4
  case hy4 =>
    intro wq hSw
    obtain ⟨x0, x1, x2⟩ := hSw
    go_simp
    try with_reducible rfl
  try simp only [Act.put, List.setIfInBounds_toArray, List.set_cons_zero, List.set_cons_succ]
  clear hwi
  have HWm : Hid (words a ≤ 64) := Lib.hid hw64
  obtain ⟨m, hm⟩ : ∃ m, words a = m := ⟨_, rfl⟩
  have HM := Lib.hid hm
  rw [hm] at hmk hw64 HWm ⊢
  clear hm
  have BD : Hid (Below W.heap.size W W.drew) := Lib.hid ((Below.refl _ _).drew)
  have HCD := Lib.hid (HC.out.keep BD.out)
  have hltD : w.heap.size < W.drew.heap.size := hlt
  have hn4 : min (n1 : Int) 4 = ((min n1 4 : Nat) : Int) := by omega
  obtain ⟨n4, hn4e⟩ : ∃ n4, min n1 4 = n4 := ⟨_, rfl⟩
  rw [hn4e] at hn4
  have n4a : n4 ≤ n1 := by omega
  have n4b : n4 ≤ 4 := by omega
  have N4 := Lib.hid hn4e
  clear hn4e
  refine Hd.two (i := 1) (j := 5) rfl rfl (by kernel_rfl) rfl rfl (fun K hK => ?_) (fun K hK => ?_)
  · go_simp
    refine (cclone_any x y A n cap l W.drew HCD.out hn).mono ?_
    rintro e w3 ⟨A', c', rfl, hO3, hb3⟩
    have SB : w3.cell? ⟨w.heap.size, 0, none⟩ = some (.int .i64 x) ∧ w3.cell? ⟨w.heap.size, 1, none⟩ = some (.int .i64 y) ∧ w3.cell? ⟨w.heap.size, 2, none⟩ = some (.slice A n cap) := ⟨(hb3.cell (p := ⟨w.heap.size, 0, none⟩) hltD).trans SA.1, (hb3.cell (p := ⟨w.heap.size, 1, none⟩) hltD).trans SA.2.1, (hb3.cell (p := ⟨w.heap.size, 2, none⟩) hltD).trans SA.2.2⟩
    have hsz3 := hb3.size
    have hl3 : w.heap.size < w3.heap.size := Nat.lt_of_lt_of_le hltD hsz3
    refine hK _ _ (fun _ => SB) ?_
    clear hK K
    try simp only [Act.put, List.setIfInBounds_toArray, List.set_cons_zero, List.set_cons_succ]
    refine Hd.one (i := 5) rfl (by kernel_rfl) rfl (fun K hK => ?_)
    go_simp
    have SC : (w3.alloc (.cells (madeCells #[.int .u64 0] m) 29)).cell? ⟨w.heap.size, 0, none⟩ = some (.int .i64 x) ∧ (w3.alloc (.cells (madeCells #[.int .u64 0] m) 29)).cell? ⟨w.heap.size, 1, none⟩ = some (.int .i64 y) ∧ (w3.alloc (.cells (madeCells #[.int .u64 0] m) 29)).cell? ⟨w.heap.size, 2, none⟩ = some (.slice A n cap) := ⟨(World.cell?_alloc_lt _ _ _ hl3).trans SB.1, (World.cell?_alloc_lt _ _ _ hl3).trans SB.2.1, (World.cell?_alloc_lt _ _ _ hl3).trans SB.2.2⟩
    refine hK _ _ (fun _ => SC) ?_
    clear hK K
    try simp only [Act.put, List.setIfInBounds_toArray, List.set_cons_zero, List.set_cons_succ]
    have b34 : Below w3.heap.size w3 (w3.alloc (.cells (madeCells #[.int .u64 0] m) 29)) := (Below.refl _ _).alloc (Nat.le_refl _) _
    have HG4 : Hid ((w3.alloc (.cells (madeCells #[.int .u64 0] m) 29)).heap[w3.heap.size]? = some (.cells (madeCells #[.int .u64 0] m) 29 (0, 0))) := Lib.hid (heap_alloc_new _ _)
    have HST := Lib.hid ((isSt_own hO3).keep b34)
    have HNE : Hid (0 < n → ∀ g, A'.map (·.block) = some g → g ≠ w3.heap.size) := Lib.hid (fun _ g hg => by have := (hO3.lt g hg).2; omega)
    have HLOW : Hid (0 < n → ∀ g, A'.map (·.block) = some g → w.heap.size ≤ g) := Lib.hid (fun _ g hg => by have := (hO3.lt g hg).1; omega)
    have HB4 : Hid (Below w.heap.size w (w3.alloc (.cells (madeCells #[.int .u64 0] m) 29))) := Lib.hid (B0.out.trans ((BD.out.trans (hb3.trans (b34.mono hsz3))).mono B0.out.size))
    have HGW : Hid (w.heap.size ≤ w3.heap.size) := Lib.hid (by omega)
    clear hO3 b34 SA SB s0 s1 s2
    refine Hd.one (i := 6) rfl (by kernel_rfl) rfl (fun K hK => ?_)
    go_simp
    refine hK _ _ (fun h => absurd h (by omega)) ?_
    clear hK K
    try simp only [Act.put, List.setIfInBounds_toArray, List.set_cons_zero, List.set_cons_succ]
    refine Hd.one (i := 7) rfl (by kernel_rfl) rfl (fun K hK => ?_)
    go_simp
    refine hK _ _ (fun h => absurd h (by omega)) ?_
    clear hK K
    try simp only [Act.put, List.setIfInBounds_toArray, List.set_cons_zero, List.set_cons_succ]
    refine Hd.one (i := 8) rfl (by kernel_rfl) rfl (fun K hK => ?_)
    go_simp
    refine hK _ _ (fun h => absurd h (by omega)) ?_
    clear hK K
    try simp only [Act.put, List.setIfInBounds_toArray, List.set_cons_zero, List.set_cons_succ]
    refine Hd.done (by kernel_rfl) ?_ _
    have hsz4 : (w3.alloc (.cells (madeCells #[.int .u64 0] m) 29)).heap.size = w3.heap.size + 1 := by first | rfl | simp
    obtain ⟨q, hq⟩ : ∃ q, w3.heap.size + 1 = q := ⟨_, rfl⟩
    obtain ⟨W5, hW5⟩ : ∃ W5, W5 = (w3.alloc (.cells (madeCells #[.int .u64 0] m) 29)).alloc (.cells #[.int .i64 x, .int .i64 y, .slice A' n c', .slice none 0 0, .slice (some ⟨w3.heap.size, 0, none⟩) m m, .slice none 0 0, .pointer none, .slice none 0 0, .bool false, .bool false] 105) := ⟨_, rfl⟩
    have MM : Mid W5 (w3.alloc (.cells (madeCells #[.int .u64 0] m) 29)).heap.size w3.heap.size m x y A' n c' l ls [] 0 none 0 := Mid.start HWm.out HG4.out HST.out HNE.out hW5
    have BW5 : Below (w3.alloc (.cells (madeCells #[.int .u64 0] m) 29)).heap.size (w3.alloc (.cells (madeCells #[.int .u64 0] m) 29)) W5 := by rw [hW5]; exact (Below.refl _ _).alloc (Nat.le_refl _) _
    have BB5 := Lib.hid (HB4.out.trans (BW5.mono HB4.out.size))
    have HQ := Lib.hid (show w.heap.size ≤ (w3.alloc (.cells (madeCells #[.int .u64 0] m) 29)).heap.size from HB4.out.size)
    rw [← hW5]
    rw [hsz4] at MM HQ
    rw [hq] at MM HQ ⊢
    have MID := Lib.hid MM
    have HCI := Lib.hid (HS.out.keep BB5.out)
    clear MM BW5 HG4 HST HNE HB4 hW5 hq hsz4
    go_wp2_with fail
    go_loopw [24] (fun i wr => ∃ (k cc : Nat) (CA : Option Addr) (L : List Cd), i = .int .i64 k ∧ k ≤ n4 ∧ Mid wr q w3.heap.size m x y A' n c' l ls L k CA cc ∧ Below w.heap.size w wr) (fun i _ => n4 - (intOf i).toNat)
    case atStart => exact ⟨0, 0, none, [], rfl, by omega, MID.out, BB5.out⟩
    case round =>
      obtain ⟨k, cc, CA, L, rfl, hk, hmid, hbel⟩ := hrel
      have HM5 := Lib.hid hmid
      have HBL := Lib.hid hbel
      clear hmid hbel MID
      have z3 := HM5.out.foc.cs.2.2.2.1
      have zl : k ≤ cc ∧ cc ≤ maxLen := ⟨HM5.out.own.sl.le, HM5.out.own.sl.cap_le⟩
      have hql := HM5.out.foc.qlt
      by_cases hc : k < n4
      · obtain ⟨b, o, hA1, hb, s0, s1, s2, hx, hy, hI⟩ := (HS.out.keep HBL.out).cell (k := k) (by omega)
        have hn5 := HN.out k (by omega)
        obtain ⟨cd, hcd⟩ : ∃ cd, ls.getD k zeroCd = cd := ⟨_, rfl⟩
        have HCD2 := Lib.hid hcd
        rw [hcd] at s0 s1 s2 hx hy hI hn5
        clear hcd
        obtain ⟨x1, y1, A4, n5, c5, l5⟩ := cd
        subst hA1
        have XY := Lib.hid (And.intro hx hy)
        have HI4 := Lib.hid hI
        clear hx hy hI
        dsimp only at s0 s1 s2 hn5
        have d0 : decide ((k : Int) < (n4 : Int)) = true := decide_eq_true (by omega)
        have d2 : (k : Int) < (n4 : Int) := by omega
        go_wp2_with fail
        obtain ⟨WA, hWA⟩ : ∃ WA, wr.alloc (.cells #[.int .i64 x1, .int .i64 y1, .slice A4 n5 c5] 24) = WA := ⟨_, rfl⟩
        have bWA : Below wr.heap.size wr WA := by rw [← hWA]; exact (Below.refl _ _).alloc (Nat.le_refl _) _
        have a0 : WA.cell? ⟨wr.heap.size, 0, none⟩ = some (.int .i64 x1) := by rw [← hWA]; simp
        have a1 : WA.cell? ⟨wr.heap.size, 1, none⟩ = some (.int .i64 y1) := by rw [← hWA]; simp
        have a2 : WA.cell? ⟨wr.heap.size, 2, none⟩ = some (.slice A4 n5 c5) := by rw [← hWA]; simp
        have a7 : WA.cell? ⟨q, 3, none⟩ = some (.slice CA k cc) := (bWA.cell (p := ⟨q, 3, none⟩) hql).trans z3
        have hzA : WA.heap.size = wr.heap.size + 1 := by rw [← hWA]; simp
        have HIA := Lib.hid (HI4.out.keep (bWA.trans (below_drawn WA 1 |>.mono bWA.size)))
        rw [hWA]
        clear hWA z3 s0 s1 s2
        refine Hd.start 9 (fun w' => w'.cell? ⟨q, 3, none⟩ = some (.slice CA k cc) ∧ w'.cell? ⟨wr.heap.size, 0, none⟩ = some (.int .i64 x1) ∧ w'.cell? ⟨wr.heap.size, 1, none⟩ = some (.int .i64 y1) ∧ w'.cell? ⟨wr.heap.size, 2, none⟩ = some (.slice A4 n5 c5)) (by kernel_rfl) ?_
        have SA : WA.drew.cell? ⟨q, 3, none⟩ = some (.slice CA k cc) ∧ WA.drew.cell? ⟨wr.heap.size, 0, none⟩ = some (.int .i64 x1) ∧ WA.drew.cell? ⟨wr.heap.size, 1, none⟩ = some (.int .i64 y1) ∧ WA.drew.cell? ⟨wr.heap.size, 2, none⟩ = some (.slice A4 n5 c5) := ⟨a7, a0, a1, a2⟩
        refine Hd.take (i := 0) (v := ?v5) rfl (by decide +kernel) (by decide +kernel) (fun _ _ _ h => h) rfl ?hy5 SA ?rest5
        case hy5 =>
          intro wq hSw
          obtain ⟨t7, x0, x1, x2⟩ := hSw
          go_simp
          try with_reducible rfl
        try simp only [Act.put, List.setIfInBounds_toArray, List.set_cons_zero, List.set_cons_succ]
        refine Hd.take (i := 1) (v := ?v6) rfl (by decide +kernel) (by decide +kernel) (fun _ _ _ h => h) rfl ?hy6 SA ?rest6
        case hy6 =>
          intro wq hSw
          obtain ⟨t7, x0, x1, x2⟩ := hSw
          go_simp
          try with_reducible rfl
        try simp only [Act.put, List.setIfInBounds_toArray, List.set_cons_zero, List.set_cons_succ]
        refine Hd.take (i := 2) (v := ?v7) rfl (by decide +kernel) (by decide +kernel) (fun _ _ _ h => h) rfl ?hy7 SA ?rest7
        case hy7 =>
          intro wq hSw
          obtain ⟨t7, x0, x1, x2⟩ := hSw
          go_simp
          try with_reducible rfl
        try simp only [Act.put, List.setIfInBounds_toArray, List.set_cons_zero, List.set_cons_succ]
        refine Hd.take (i := 3) (v := ?v8) rfl (by decide +kernel) (by decide +kernel) (fun _ _ _ h => h) rfl ?hy8 SA ?rest8
        case hy8 =>
          intro wq hSw
          obtain ⟨t7, x0, x1, x2⟩ := hSw
          go_simp
          try with_reducible rfl
        try simp only [Act.put, List.setIfInBounds_toArray, List.set_cons_zero, List.set_cons_succ]
        refine Hd.take (i := 4) (v := ?v9) rfl (by decide +kernel) (by decide +kernel) (fun _ _ _ h => h) rfl ?hy9 SA ?rest9
        case hy9 =>
          intro wq hSw
          obtain ⟨t7, x0, x1, x2⟩ := hSw
          go_simp
          try with_reducible rfl
        try simp only [Act.put, List.setIfInBounds_toArray, List.set_cons_zero, List.set_cons_succ]
        refine Hd.take (i := 5) (v := ?v10) rfl (by decide +kernel) (by decide +kernel) (fun _ _ _ h => h) rfl ?hy10 SA ?rest10
        case hy10 =>
          intro wq hSw
          obtain ⟨t7, x0, x1, x2⟩ := hSw
          go_simp
          try with_reducible rfl
        try simp only [Act.put, List.setIfInBounds_toArray, List.set_cons_zero, List.set_cons_succ]
        refine Hd.one (i := 6) rfl (by kernel_rfl) rfl (fun K hK => ?_)
        go_simp
        refine (cclone_any x1 y1 A4 n5 c5 l5 WA.drew HIA.out hn5).mono ?_
        rintro e w6 ⟨A6, c6, rfl, hO6, hb6⟩
        have hI6 := isSt_own hO6
        have hqA : q < WA.drew.heap.size := by show q < WA.heap.size; omega
        have hcA : wr.heap.size < WA.drew.heap.size := by show wr.heap.size < WA.heap.size; omega
        have SB : w6.cell? ⟨q, 3, none⟩ = some (.slice CA k cc) ∧ w6.cell? ⟨wr.heap.size, 0, none⟩ = some (.int .i64 x1) ∧ w6.cell? ⟨wr.heap.size, 1, none⟩ = some (.int .i64 y1) ∧ w6.cell? ⟨wr.heap.size, 2, none⟩ = some (.slice A4 n5 c5) := ⟨(hb6.cell (p := ⟨q, 3, none⟩) hqA).trans SA.1, (hb6.cell (p := ⟨wr.heap.size, 0, none⟩) hcA).trans SA.2.1, (hb6.cell (p := ⟨wr.heap.size, 1, none⟩) hcA).trans SA.2.2.1, (hb6.cell (p := ⟨wr.heap.size, 2, none⟩) hcA).trans SA.2.2.2⟩
        have hsz6 := hb6.size
        have hq6 : q < w6.heap.size := Nat.lt_of_lt_of_le hqA hsz6
        have hc6 : wr.heap.size < w6.heap.size := Nat.lt_of_lt_of_le hcA hsz6
        have LO6 : 0 < n5 → ∀ g, A6.map (·.block) = some g → wr.heap.size ≤ g := fun _ g hg => by have := (hO6.lt g hg).1; have : WA.drew.heap.size = WA.heap.size := rfl; omega
        have b66 : Below wr.heap.size wr w6 := bWA.trans (((below_drawn WA 1).trans hb6).mono bWA.size)
        refine hK _ _ (fun _ => SB) ?_
        clear hK K
        try simp only [Act.put, List.setIfInBounds_toArray, List.set_cons_zero, List.set_cons_succ]
        refine Hd.one (i := 7) rfl (by kernel_rfl) rfl (fun K hK => ?_)
        go_simp
        have SC : (w6.alloc (.cells #[.int .i64 x1, .int .i64 y1, .slice A6 n5 c6] 24)).cell? ⟨q, 3, none⟩ = some (.slice CA k cc) ∧ (w6.alloc (.cells #[.int .i64 x1, .int .i64 y1, .slice A6 n5 c6] 24)).cell? ⟨wr.heap.size, 0, none⟩ = some (.int .i64 x1) ∧ (w6.alloc (.cells #[.int .i64 x1, .int .i64 y1, .slice A6 n5 c6] 24)).cell? ⟨wr.heap.size, 1, none⟩ = some (.int .i64 y1) ∧ (w6.alloc (.cells #[.int .i64 x1, .int .i64 y1, .slice A6 n5 c6] 24)).cell? ⟨wr.heap.size, 2, none⟩ = some (.slice A4 n5 c5) := ⟨(World.cell?_alloc_lt _ _ _ hq6).trans SB.1, (World.cell?_alloc_lt _ _ _ hc6).trans SB.2.1, (World.cell?_alloc_lt _ _ _ hc6).trans SB.2.2.1, (World.cell?_alloc_lt _ _ _ hc6).trans SB.2.2.2⟩
        refine hK _ _ (fun _ => SC) ?_
        clear hK K
        try simp only [Act.put, List.setIfInBounds_toArray, List.set_cons_zero, List.set_cons_succ]
        refine Hd.one (i := 8) rfl (by kernel_rfl) rfl (fun K hK => ?_)
        have BW3 : Hid (Below wr.heap.size wr (w6.alloc (.cells #[.int .i64 x1, .int .i64 y1, .slice A6 n5 c6] 24))) := Lib.hid (b66.alloc b66.size _)
        have hsl : Sl (w6.alloc (.cells #[.int .i64 x1, .int .i64 y1, .slice A6 n5 c6] 24)) (some ⟨w6.heap.size, 0, none⟩) 1 1 3 (fun _ => cdL ⟨x1, y1, A6, n5, c6, l5⟩) := sl_one w6 (cdL ⟨x1, y1, A6, n5, c6, l5⟩) 24
        have hlr := HM5.out.own
        refine wp_app _ _ _ rfl elCd (q + 1) CA k cc _ rfl (hlr.keep BW3.out) (some ⟨w6.heap.size, 0, none⟩) 1 1 (fun _ => cdL ⟨x1, y1, A6, n5, c6, l5⟩) rfl hsl (fun _ _ => rfl) (fun _ _ u hu => cd_ones ⟨x1, y1, A6, n5, c6, l5⟩ _ (List.mem_singleton.2 rfl) u hu) (by unfold maxLen; omega) (by omega) (by simp; omega) ?_
        intro A5 c5b w5 hown5 hg5 hat5
        have hq5 : w5.heap[q]? = (w6.alloc (.cells #[.int .i64 x1, .int .i64 y1, .slice A6 n5 c6] 24)).heap[q]? := hg5.block q (Nat.lt_of_lt_of_le hql BW3.out.size) (fun e => by have := (HM5.out.own.lt q e.symm).1; omega)
        have TT := Lib.hid (HM5.out.more (c := ⟨x1, y1, A6, n5, c6, l5⟩) BW3.out (by rw [HCD2.out]) (by rw [HCD2.out]) ⟨XY.out.1, XY.out.2, hI6.keep ((Below.refl _ _).alloc (Nat.le_refl _) _)⟩ hn5 LO6 hown5 hg5 hat5)
        have fq5 : ∀ i, w5.frozen? ⟨q, i, none⟩ = false := fun i => ((blk_same hq5).2 i).trans ((HM5.out.foc.keep BW3.out).free i)
        have y55 := ((blk_same hq5).1 3).trans SC.1
        have hb5 : ∀ i, w5.cell? ⟨wr.heap.size, i, none⟩ = (w6.alloc (.cells #[.int .i64 x1, .int .i64 y1, .slice A6 n5 c6] 24)).cell? ⟨wr.heap.size, i, none⟩ := (blk_same (hg5.block wr.heap.size (by simp; omega) (fun e => by have := (HM5.out.own.lt _ e.symm).2; omega))).1
        refine hK _ _ (fun _ => ⟨y55, (hb5 _).trans SC.2.1, (hb5 _).trans SC.2.2.1, (hb5 _).trans SC.2.2.2⟩) ?_
        clear hown5 hg5 hat5 hq5 hsl SB SA SC hb5 hO6 hI6
        clear hK K
        try simp only [Act.put, List.setIfInBounds_toArray, List.set_cons_zero, List.set_cons_succ]
        refine Hd.one (i := 9) rfl (by kernel_rfl) rfl (fun K hK => ?_)
        go_simp
        refine hK _ _ (fun h => absurd h (by omega)) ?_
        clear hK K
        try simp only [Act.put, List.setIfInBounds_toArray, List.set_cons_zero, List.set_cons_succ]
        refine Hd.one (i := 10) rfl (by kernel_rfl) rfl (fun K hK => ?_)
        go_simp
        refine hK _ _ (fun h => absurd h (by omega)) ?_
        clear hK K
        try simp only [Act.put, List.setIfInBounds_toArray, List.set_cons_zero, List.set_cons_succ]
        refine Hd.one (i := 11) rfl (by kernel_rfl) rfl (fun K hK => ?_)
        go_simp
        refine hK _ _ (fun h => absurd h (by omega)) ?_
        clear hK K
        try simp only [Act.put, List.setIfInBounds_toArray, List.set_cons_zero, List.set_cons_succ]
        refine Hd.done (by kernel_rfl) ?_ _
        go_wp2_with fail
        go_roundw
        case rel => exact ⟨k + 1, _, _, _, by go_num, by omega, TT.out.1, HBL.out.trans (TT.out.2.below (fun g hg => by
          rcases List.mem_cons.1 hg with e | e
          · rw [e]; exact HQ.out
          · have := (HM5.out.own.lt g (by simpa using e)).1; have := HQ.out; omega) HBL.out.size)⟩
        case measure => simp [intOf]; omega
      · obtain rfl : k = n4 := by omega
        have d0 : decide ((k : Int) < (k : Int)) = false := decide_eq_false (by omega)
        have hL := HM5.out.cls.len
        have EB : Hid (L.map lnOf = begunL ls) := Lib.hid (by
          rw [cls_begun HM5.out.cls (by have := HLn.out; omega)]
          exact begun_take (by omega) (by have := HLn.out; omega) (by have := HLn.out; have := N4.out; omega))
        have HMB := HM5.out
        rw [← hL] at HMB
        have BR := HMB.bare (w0 := w) hn HU0.out (fun j hj => HU.out j (by omega)) (fun g h0 hg => HLOW.out h0 g hg) HQ.out
        have RB := Lib.hid (rbegin_any BR (by omega))
        clear BR HMB
        have hgq := HM5.out.gq
        go_wp2_with fail
        refine RB.out.mono ?_
        rintro e w9 ⟨rfl, G', t', hR, hG, hO⟩
        have RR := Lib.hid hR
        have HG := Lib.hid hG
        have HO9 := Lib.hid hO
        clear hR hG hO z3
        go_wp2_with fail
        go_ret
        have hsz := HBL.out.size
        have hHQ := HQ.out
        have hgw := HGW.out
        refine ⟨q, fun k => w.heap.size ≤ k ∧ k < wr.heap.size ∧ k ≠ q ∧ k ≠ w3.heap.size, G', ⟨x, y, A', n, c', l⟩, L, t', rfl, by rw [HM.out, ← EB.out]; exact RR.out, rfl, rfl, EB.out, by omega, fun k hk => ?_, fun k hk => hk.1, HBL.out.trans (HO9.out.below (fun g hg => ?_) HBL.out.size)⟩
        · rcases HG.out k hk with e | e
          · simp at e; omega
          · omega
        · simp at hg; omega
  · go_simp
    have hl3 : w.heap.size < (W.alloc (.cells (madeCells #[.int .u64 0] m) 29)).drew.heap.size := by simp; omega
    have SB : (W.alloc (.cells (madeCells #[.int .u64 0] m) 29)).drew.cell? ⟨w.heap.size, 0, none⟩ = some (.int .i64 x) ∧ (W.alloc (.cells (madeCells #[.int .u64 0] m) 29)).drew.cell? ⟨w.heap.size, 1, none⟩ = some (.int .i64 y) ∧ (W.alloc (.cells (madeCells #[.int .u64 0] m) 29)).drew.cell? ⟨w.heap.size, 2, none⟩ = some (.slice A n cap) := ⟨(World.cell?_alloc_lt _ _ _ hlt).trans SA.1, (World.cell?_alloc_lt _ _ _ hlt).trans SA.2.1, (World.cell?_alloc_lt _ _ _ hlt).trans SA.2.2⟩
    refine hK _ _ (fun _ => SB) ?_
    clear hK K
    try simp only [Act.put, List.setIfInBounds_toArray, List.set_cons_zero, List.set_cons_succ]
    have b33 : Below W.heap.size W (W.alloc (.cells (madeCells #[.int .u64 0] m) 29)).drew := ((Below.refl _ _).alloc (Nat.le_refl _) _).drew
    have HG3 : (W.alloc (.cells (madeCells #[.int .u64 0] m) 29)).drew.heap[W.heap.size]? = some (.cells (madeCells #[.int .u64 0] m) 29 (0, 0)) := heap_alloc_new _ _
    obtain ⟨w3, hw3⟩ : ∃ w3, (W.alloc (.cells (madeCells #[.int .u64 0] m) 29)).drew = w3 := ⟨_, rfl⟩
    rw [hw3] at b33 HG3 SB hl3
    rw [hw3]
    have hg3 : W.heap.size < w3.heap.size := (Array.getElem?_eq_some_iff.1 HG3).1
    clear hw3
    obtain ⟨gB, hgB⟩ : ∃ gB, W.heap.size = gB := ⟨_, rfl⟩
    have hgB2 : w.heap.size < gB := by rw [← hgB]; exact hlt
    rw [hgB] at HG3 hg3 ⊢
    have HC3 := Lib.hid (HC.out.keep b33)
    refine Hd.one (i := 1) rfl (by kernel_rfl) rfl (fun K hK => ?_)
    go_simp
    refine (cclone_any x y A n cap l w3 HC3.out hn).mono ?_
    rintro e w4 ⟨A', c', rfl, hO4, hb4⟩
    have SC : w4.cell? ⟨w.heap.size, 0, none⟩ = some (.int .i64 x) ∧ w4.cell? ⟨w.heap.size, 1, none⟩ = some (.int .i64 y) ∧ w4.cell? ⟨w.heap.size, 2, none⟩ = some (.slice A n cap) := ⟨(hb4.cell (p := ⟨w.heap.size, 0, none⟩) hl3).trans SB.1, (hb4.cell (p := ⟨w.heap.size, 1, none⟩) hl3).trans SB.2.1, (hb4.cell (p := ⟨w.heap.size, 2, none⟩) hl3).trans SB.2.2⟩
    refine hK _ _ (fun _ => SC) ?_
    clear hK K
    try simp only [Act.put, List.setIfInBounds_toArray, List.set_cons_zero, List.set_cons_succ]
    have HG4 : Hid (w4.heap[gB]? = some (.cells (madeCells #[.int .u64 0] m) 29 (0, 0))) := Lib.hid ((hb4.block gB hg3).trans HG3)
    have HST := Lib.hid (isSt_own hO4)
    have HNE : Hid (0 < n → ∀ g, A'.map (·.block) = some g → g ≠ gB) := Lib.hid (fun _ g hg => by have := (hO4.lt g hg).1; omega)
    have HLOW : Hid (0 < n → ∀ g, A'.map (·.block) = some g → w.heap.size ≤ g) := Lib.hid (fun _ g hg => by have := (hO4.lt g hg).1; omega)
    have HB4 : Hid (Below w.heap.size w w4) := Lib.hid (B0.out.trans ((b33.trans (hb4.mono b33.size)).mono B0.out.size))
    have HGW : Hid (w.heap.size ≤ gB) := Lib.hid (by omega)
    clear hO4 b33 HG3 hg3 SA SB s0 s1 s2 hgB hgB2
    refine Hd.one (i := 6) rfl (by kernel_rfl) rfl (fun K hK => ?_)
    go_simp
    refine hK _ _ (fun h => absurd h (by omega)) ?_
    clear hK K
    try simp only [Act.put, List.setIfInBounds_toArray, List.set_cons_zero, List.set_cons_succ]
    refine Hd.one (i := 7) rfl (by kernel_rfl) rfl (fun K hK => ?_)
    go_simp
    refine hK _ _ (fun h => absurd h (by omega)) ?_
    clear hK K
    try simp only [Act.put, List.setIfInBounds_toArray, List.set_cons_zero, List.set_cons_succ]
    refine Hd.one (i := 8) rfl (by kernel_rfl) rfl (fun K hK => ?_)
    go_simp
    refine hK _ _ (fun h => absurd h (by omega)) ?_
    clear hK K
    try simp only [Act.put, List.setIfInBounds_toArray, List.set_cons_zero, List.set_cons_succ]
    refine Hd.done (by kernel_rfl) ?_ _
    have hsz4 : w4.heap.size = w4.heap.size := by first | rfl | simp
    obtain ⟨q, hq⟩ : ∃ q, w4.heap.size = q := ⟨_, rfl⟩
    obtain ⟨W5, hW5⟩ : ∃ W5, W5 = w4.alloc (.cells #[.int .i64 x, .int .i64 y, .slice A' n c', .slice none 0 0, .slice (some ⟨gB, 0, none⟩) m m, .slice none 0 0, .pointer none, .slice none 0 0, .bool false, .bool false] 105) := ⟨_, rfl⟩
    have MM : Mid W5 w4.heap.size gB m x y A' n c' l ls [] 0 none 0 := Mid.start HWm.out HG4.out HST.out HNE.out hW5
    have BW5 : Below w4.heap.size w4 W5 := by rw [hW5]; exact (Below.refl _ _).alloc (Nat.le_refl _) _
    have BB5 := Lib.hid (HB4.out.trans (BW5.mono HB4.out.size))
    have HQ := Lib.hid (show w.heap.size ≤ w4.heap.size from HB4.out.size)
    rw [← hW5]
    rw [hsz4] at MM HQ
    rw [hq] at MM HQ ⊢
    have MID := Lib.hid MM
    have HCI := Lib.hid (HS.out.keep BB5.out)
    clear MM BW5 HG4 HST HNE HB4 hW5 hq hsz4
    go_wp2_with fail
    go_loopw [24] (fun i wr => ∃ (k cc : Nat) (CA : Option Addr) (L : List Cd), i = .int .i64 k ∧ k ≤ n4 ∧ Mid wr q gB m x y A' n c' l ls L k CA cc ∧ Below w.heap.size w wr) (fun i _ => n4 - (intOf i).toNat)
    case atStart => exact ⟨0, 0, none, [], rfl, by omega, MID.out, BB5.out⟩
    case round =>
      obtain ⟨k, cc, CA, L, rfl, hk, hmid, hbel⟩ := hrel
      have HM5 := Lib.hid hmid
      have HBL := Lib.hid hbel
      clear hmid hbel MID
      have z3 := HM5.out.foc.cs.2.2.2.1
      have zl : k ≤ cc ∧ cc ≤ maxLen := ⟨HM5.out.own.sl.le, HM5.out.own.sl.cap_le⟩
      have hql := HM5.out.foc.qlt
      by_cases hc : k < n4
      · obtain ⟨b, o, hA1, hb, s0, s1, s2, hx, hy, hI⟩ := (HS.out.keep HBL.out).cell (k := k) (by omega)
        have hn5 := HN.out k (by omega)
        obtain ⟨cd, hcd⟩ : ∃ cd, ls.getD k zeroCd = cd := ⟨_, rfl⟩
        have HCD2 := Lib.hid hcd
        rw [hcd] at s0 s1 s2 hx hy hI hn5
        clear hcd
        obtain ⟨x1, y1, A4, n5, c5, l5⟩ := cd
        subst hA1
        have XY := Lib.hid (And.intro hx hy)
        have HI4 := Lib.hid hI
        clear hx hy hI
        dsimp only at s0 s1 s2 hn5
        have d0 : decide ((k : Int) < (n4 : Int)) = true := decide_eq_true (by omega)
        have d2 : (k : Int) < (n4 : Int) := by omega
        go_wp2_with fail
        obtain ⟨WA, hWA⟩ : ∃ WA, wr.alloc (.cells #[.int .i64 x1, .int .i64 y1, .slice A4 n5 c5] 24) = WA := ⟨_, rfl⟩
        have bWA : Below wr.heap.size wr WA := by rw [← hWA]; exact (Below.refl _ _).alloc (Nat.le_refl _) _
        have a0 : WA.cell? ⟨wr.heap.size, 0, none⟩ = some (.int .i64 x1) := by rw [← hWA]; simp
        have a1 : WA.cell? ⟨wr.heap.size, 1, none⟩ = some (.int .i64 y1) := by rw [← hWA]; simp
        have a2 : WA.cell? ⟨wr.heap.size, 2, none⟩ = some (.slice A4 n5 c5) := by rw [← hWA]; simp
        have a7 : WA.cell? ⟨q, 3, none⟩ = some (.slice CA k cc) := (bWA.cell (p := ⟨q, 3, none⟩) hql).trans z3
        have hzA : WA.heap.size = wr.heap.size + 1 := by rw [← hWA]; simp
        have HIA := Lib.hid (HI4.out.keep (bWA.trans (below_drawn WA 1 |>.mono bWA.size)))
        rw [hWA]
        clear hWA z3 s0 s1 s2
        refine Hd.start 9 (fun w' => w'.cell? ⟨q, 3, none⟩ = some (.slice CA k cc) ∧ w'.cell? ⟨wr.heap.size, 0, none⟩ = some (.int .i64 x1) ∧ w'.cell? ⟨wr.heap.size, 1, none⟩ = some (.int .i64 y1) ∧ w'.cell? ⟨wr.heap.size, 2, none⟩ = some (.slice A4 n5 c5)) (by kernel_rfl) ?_
        have SA : WA.drew.cell? ⟨q, 3, none⟩ = some (.slice CA k cc) ∧ WA.drew.cell? ⟨wr.heap.size, 0, none⟩ = some (.int .i64 x1) ∧ WA.drew.cell? ⟨wr.heap.size, 1, none⟩ = some (.int .i64 y1) ∧ WA.drew.cell? ⟨wr.heap.size, 2, none⟩ = some (.slice A4 n5 c5) := ⟨a7, a0, a1, a2⟩
        refine Hd.take (i := 0) (v := ?v11) rfl (by decide +kernel) (by decide +kernel) (fun _ _ _ h => h) rfl ?hy11 SA ?rest11
        case hy11 =>
          intro wq hSw
          obtain ⟨t7, x0, x1, x2⟩ := hSw
          go_simp
          try with_reducible rfl
        try simp only [Act.put, List.setIfInBounds_toArray, List.set_cons_zero, List.set_cons_succ]
        refine Hd.take (i := 1) (v := ?v12) rfl (by decide +kernel) (by decide +kernel) (fun _ _ _ h => h) rfl ?hy12 SA ?rest12
        case hy12 =>
          intro wq hSw
          obtain ⟨t7, x0, x1, x2⟩ := hSw
          go_simp
          try with_reducible rfl
        try simp only [Act.put, List.setIfInBounds_toArray, List.set_cons_zero, List.set_cons_succ]
        refine Hd.take (i := 2) (v := ?v13) rfl (by decide +kernel) (by decide +kernel) (fun _ _ _ h => h) rfl ?hy13 SA ?rest13
        case hy13 =>
          intro wq hSw
          obtain ⟨t7, x0, x1, x2⟩ := hSw
          go_simp
          try with_reducible rfl
        try simp only [Act.put, List.setIfInBounds_toArray, List.set_cons_zero, List.set_cons_succ]
        refine Hd.take (i := 3) (v := ?v14) rfl (by decide +kernel) (by decide +kernel) (fun _ _ _ h => h) rfl ?hy14 SA ?rest14
        case hy14 =>
          intro wq hSw
          obtain ⟨t7, x0, x1, x2⟩ := hSw
          go_simp
          try with_reducible rfl
        try simp only [Act.put, List.setIfInBounds_toArray, List.set_cons_zero, List.set_cons_succ]
        refine Hd.take (i := 4) (v := ?v15) rfl (by decide +kernel) (by decide +kernel) (fun _ _ _ h => h) rfl ?hy15 SA ?rest15
        case hy15 =>
          intro wq hSw
          obtain ⟨t7, x0, x1, x2⟩ := hSw
          go_simp
          try with_reducible rfl
        try simp only [Act.put, List.setIfInBounds_toArray, List.set_cons_zero, List.set_cons_succ]
        refine Hd.take (i := 5) (v := ?v16) rfl (by decide +kernel) (by decide +kernel) (fun _ _ _ h => h) rfl ?hy16 SA ?rest16
        case hy16 =>
          intro wq hSw
          obtain ⟨t7, x0, x1, x2⟩ := hSw
          go_simp
          try with_reducible rfl
        try simp only [Act.put, List.setIfInBounds_toArray, List.set_cons_zero, List.set_cons_succ]
        refine Hd.one (i := 6) rfl (by kernel_rfl) rfl (fun K hK => ?_)
        go_simp
        refine (cclone_any x1 y1 A4 n5 c5 l5 WA.drew HIA.out hn5).mono ?_
        rintro e w6 ⟨A6, c6, rfl, hO6, hb6⟩
        have hI6 := isSt_own hO6
        have hqA : q < WA.drew.heap.size := by show q < WA.heap.size; omega
        have hcA : wr.heap.size < WA.drew.heap.size := by show wr.heap.size < WA.heap.size; omega
        have SB : w6.cell? ⟨q, 3, none⟩ = some (.slice CA k cc) ∧ w6.cell? ⟨wr.heap.size, 0, none⟩ = some (.int .i64 x1) ∧ w6.cell? ⟨wr.heap.size, 1, none⟩ = some (.int .i64 y1) ∧ w6.cell? ⟨wr.heap.size, 2, none⟩ = some (.slice A4 n5 c5) := ⟨(hb6.cell (p := ⟨q, 3, none⟩) hqA).trans SA.1, (hb6.cell (p := ⟨wr.heap.size, 0, none⟩) hcA).trans SA.2.1, (hb6.cell (p := ⟨wr.heap.size, 1, none⟩) hcA).trans SA.2.2.1, (hb6.cell (p := ⟨wr.heap.size, 2, none⟩) hcA).trans SA.2.2.2⟩
        have hsz6 := hb6.size
        have hq6 : q < w6.heap.size := Nat.lt_of_lt_of_le hqA hsz6
        have hc6 : wr.heap.size < w6.heap.size := Nat.lt_of_lt_of_le hcA hsz6
        have LO6 : 0 < n5 → ∀ g, A6.map (·.block) = some g → wr.heap.size ≤ g := fun _ g hg => by have := (hO6.lt g hg).1; have : WA.drew.heap.size = WA.heap.size := rfl; omega
        have b66 : Below wr.heap.size wr w6 := bWA.trans (((below_drawn WA 1).trans hb6).mono bWA.size)
        refine hK _ _ (fun _ => SB) ?_
        clear hK K
        try simp only [Act.put, List.setIfInBounds_toArray, List.set_cons_zero, List.set_cons_succ]
        refine Hd.one (i := 7) rfl (by kernel_rfl) rfl (fun K hK => ?_)
        go_simp
        have SC : (w6.alloc (.cells #[.int .i64 x1, .int .i64 y1, .slice A6 n5 c6] 24)).cell? ⟨q, 3, none⟩ = some (.slice CA k cc) ∧ (w6.alloc (.cells #[.int .i64 x1, .int .i64 y1, .slice A6 n5 c6] 24)).cell? ⟨wr.heap.size, 0, none⟩ = some (.int .i64 x1) ∧ (w6.alloc (.cells #[.int .i64 x1, .int .i64 y1, .slice A6 n5 c6] 24)).cell? ⟨wr.heap.size, 1, none⟩ = some (.int .i64 y1) ∧ (w6.alloc (.cells #[.int .i64 x1, .int .i64 y1, .slice A6 n5 c6] 24)).cell? ⟨wr.heap.size, 2, none⟩ = some (.slice A4 n5 c5) := ⟨(World.cell?_alloc_lt _ _ _ hq6).trans SB.1, (World.cell?_alloc_lt _ _ _ hc6).trans SB.2.1, (World.cell?_alloc_lt _ _ _ hc6).trans SB.2.2.1, (World.cell?_alloc_lt _ _ _ hc6).trans SB.2.2.2⟩
        refine hK _ _ (fun _ => SC) ?_
        clear hK K
        try simp only [Act.put, List.setIfInBounds_toArray, List.set_cons_zero, List.set_cons_succ]
        refine Hd.one (i := 8) rfl (by kernel_rfl) rfl (fun K hK => ?_)
        have BW3 : Hid (Below wr.heap.size wr (w6.alloc (.cells #[.int .i64 x1, .int .i64 y1, .slice A6 n5 c6] 24))) := Lib.hid (b66.alloc b66.size _)
        have hsl : Sl (w6.alloc (.cells #[.int .i64 x1, .int .i64 y1, .slice A6 n5 c6] 24)) (some ⟨w6.heap.size, 0, none⟩) 1 1 3 (fun _ => cdL ⟨x1, y1, A6, n5, c6, l5⟩) := sl_one w6 (cdL ⟨x1, y1, A6, n5, c6, l5⟩) 24
        have hlr := HM5.out.own
        refine wp_app _ _ _ rfl elCd (q + 1) CA k cc _ rfl (hlr.keep BW3.out) (some ⟨w6.heap.size, 0, none⟩) 1 1 (fun _ => cdL ⟨x1, y1, A6, n5, c6, l5⟩) rfl hsl (fun _ _ => rfl) (fun _ _ u hu => cd_ones ⟨x1, y1, A6, n5, c6, l5⟩ _ (List.mem_singleton.2 rfl) u hu) (by unfold maxLen; omega) (by omega) (by simp; omega) ?_
        intro A5 c5b w5 hown5 hg5 hat5
        have hq5 : w5.heap[q]? = (w6.alloc (.cells #[.int .i64 x1, .int .i64 y1, .slice A6 n5 c6] 24)).heap[q]? := hg5.block q (Nat.lt_of_lt_of_le hql BW3.out.size) (fun e => by have := (HM5.out.own.lt q e.symm).1; omega)
        have TT := Lib.hid (HM5.out.more (c := ⟨x1, y1, A6, n5, c6, l5⟩) BW3.out (by rw [HCD2.out]) (by rw [HCD2.out]) ⟨XY.out.1, XY.out.2, hI6.keep ((Below.refl _ _).alloc (Nat.le_refl _) _)⟩ hn5 LO6 hown5 hg5 hat5)
        have fq5 : ∀ i, w5.frozen? ⟨q, i, none⟩ = false := fun i => ((blk_same hq5).2 i).trans ((HM5.out.foc.keep BW3.out).free i)
        have y55 := ((blk_same hq5).1 3).trans SC.1
        have hb5 : ∀ i, w5.cell? ⟨wr.heap.size, i, none⟩ = (w6.alloc (.cells #[.int .i64 x1, .int .i64 y1, .slice A6 n5 c6] 24)).cell? ⟨wr.heap.size, i, none⟩ := (blk_same (hg5.block wr.heap.size (by simp; omega) (fun e => by have := (HM5.out.own.lt _ e.symm).2; omega))).1
        refine hK _ _ (fun _ => ⟨y55, (hb5 _).trans SC.2.1, (hb5 _).trans SC.2.2.1, (hb5 _).trans SC.2.2.2⟩) ?_
        clear hown5 hg5 hat5 hq5 hsl SB SA SC hb5 hO6 hI6
        clear hK K
        try simp only [Act.put, List.setIfInBounds_toArray, List.set_cons_zero, List.set_cons_succ]
        refine Hd.one (i := 9) rfl (by kernel_rfl) rfl (fun K hK => ?_)
        go_simp
        refine hK _ _ (fun h => absurd h (by omega)) ?_
        clear hK K
        try simp only [Act.put, List.setIfInBounds_toArray, List.set_cons_zero, List.set_cons_succ]
        refine Hd.one (i := 10) rfl (by kernel_rfl) rfl (fun K hK => ?_)
        go_simp
        refine hK _ _ (fun h => absurd h (by omega)) ?_
        clear hK K
        try simp only [Act.put, List.setIfInBounds_toArray, List.set_cons_zero, List.set_cons_succ]
        refine Hd.one (i := 11) rfl (by kernel_rfl) rfl (fun K hK => ?_)
        go_simp
        refine hK _ _ (fun h => absurd h (by omega)) ?_
        clear hK K
        try simp only [Act.put, List.setIfInBounds_toArray, List.set_cons_zero, List.set_cons_succ]
        refine Hd.done (by kernel_rfl) ?_ _
        go_wp2_with fail
        go_roundw
        case rel => exact ⟨k + 1, _, _, _, by go_num, by omega, TT.out.1, HBL.out.trans (TT.out.2.below (fun g hg => by
          rcases List.mem_cons.1 hg with e | e
          · rw [e]; exact HQ.out
          · have := (HM5.out.own.lt g (by simpa using e)).1; have := HQ.out; omega) HBL.out.size)⟩
        case measure => simp [intOf]; omega
      · obtain rfl : k = n4 := by omega
        have d0 : decide ((k : Int) < (k : Int)) = false := decide_eq_false (by omega)
        have hL := HM5.out.cls.len
        have EB : Hid (L.map lnOf = begunL ls) := Lib.hid (by
          rw [cls_begun HM5.out.cls (by have := HLn.out; omega)]
          exact begun_take (by omega) (by have := HLn.out; omega) (by have := HLn.out; have := N4.out; omega))
        have HMB := HM5.out
        rw [← hL] at HMB
        have BR := HMB.bare (w0 := w) hn HU0.out (fun j hj => HU.out j (by omega)) (fun g h0 hg => HLOW.out h0 g hg) HQ.out
        have RB := Lib.hid (rbegin_any BR (by omega))
        clear BR HMB
        have hgq := HM5.out.gq
        go_wp2_with fail
        refine RB.out.mono ?_
        rintro e w9 ⟨rfl, G', t', hR, hG, hO⟩
        have RR := Lib.hid hR
        have HG := Lib.hid hG
        have HO9 := Lib.hid hO
        clear hR hG hO z3
        go_wp2_with fail
        go_ret
        have hsz := HBL.out.size
        have hHQ := HQ.out
        have hgw := HGW.out
        refine ⟨q, fun k => w.heap.size ≤ k ∧ k < wr.heap.size ∧ k ≠ q ∧ k ≠ gB, G', ⟨x, y, A', n, c', l⟩, L, t', rfl, by rw [HM.out, ← EB.out]; exact RR.out, rfl, rfl, EB.out, by omega, fun k hk => ?_, fun k hk => hk.1, HBL.out.trans (HO9.out.below (fun g hg => ?_) HBL.out.size)⟩
        · rcases HG.out k hk with e | e
          · simp at e; omega
          · omega
        · simp at hg; omega
end Go.Proofs.Ytdhihmeknoofoaa.Ph
