/-
  WALK: the law ElideMeans.
-/
import Derived.Test.YtdhihmeknoofoaaStmDuo
import Derived.Test.YtdhihmeknoofoaaElideCodesWalk
namespace Go.Proofs.Ytdhihmeknoofoaa.ElMn
set_option linter.unusedVariables false
set_option linter.unusedSimpArgs false
open Go.RowKit Go.WideShapes Go.ChangeShapes Cm Mm Ow Ow2 Me Stp StW StC StM StF StO ElW ElR ElS ElL ElC Rm Sp Sn Sa Sc Sg Sd Sx Sr
open ElM (Cd zeroCd cdL okCd IsCd open_codes open_bools)

/-- what is so of the codes made so far; X: the blocks of the rows that have them -/
structure Made (g : List St → List St) (w : World) (ls L : List Cd) (k : Nat) (X : List Nat) : Prop where
  len : L.length = k
  n : ∀ j, j < k → (ls.getD j zeroCd).n ≤ 60
  x : ∀ j, j < k → (L.getD j zeroCd).x = (ls.getD j zeroCd).x
  l : ∀ j, j < k → (L.getD j zeroCd).l = g (ls.getD j zeroCd).l
  ok : ∀ j, j < k → okCd w (L.getD j zeroCd)
  n2 : ∀ j, j < k → (L.getD j zeroCd).n ≤ 65536
  far : ∀ j, j < k → 0 < (L.getD j zeroCd).n → ∀ g, (L.getD j zeroCd).A.map (·.block) = some g → g ∉ X
theorem Made.nil (g : List St → List St) (w : World) (ls : List Cd) (X : List Nat) : Made g w ls [] 0 X := ⟨rfl, fun j hj => absurd hj (by omega), fun j hj => absurd hj (by omega), fun j hj => absurd hj (by omega), fun j hj => absurd hj (by omega), fun j hj => absurd hj (by omega), fun j hj => absurd hj (by omega)⟩
theorem Made.keep {g : List St → List St} {w w' : World} {ls L : List Cd} {k : Nat} {X : List Nat} (h : Made g w ls L k X) (hb : Below w.heap.size w w') : Made g w' ls L k X :=
  ⟨h.len, h.n, h.x, h.l, fun j hj => ⟨(h.ok j hj).1, (h.ok j hj).2.1, (h.ok j hj).2.2.keep hb⟩, h.n2, h.far⟩
theorem Made.snoc {f : List St → List St} {w : World} {ls L : List Cd} {k : Nat} {X : List Nat} (h : Made f w ls L k X) {c : Cd} (h1 : (ls.getD k zeroCd).n ≤ 60) (h2 : c.x = (ls.getD k zeroCd).x) (h3 : c.l = f (ls.getD k zeroCd).l) (h4 : okCd w c) (h5 : c.n ≤ 65536) (h6 : 0 < c.n → ∀ g, c.A.map (·.block) = some g → g ∉ X) : Made f w ls (L ++ [c]) (k + 1) X := by
  have e1 : ∀ j, j < k → (L ++ [c]).getD j zeroCd = L.getD j zeroCd := fun j hj => by
    have : j < L.length := by rw [h.len]; exact hj
    simp [List.getD, List.getElem?_append_left this]
  have e2 : (L ++ [c]).getD k zeroCd = c := by rw [← h.len]; simp [List.getD]
  have key : ∀ (P : Nat → Cd → Prop), (∀ j, j < k → P j (L.getD j zeroCd)) → P k c → ∀ j, j < k + 1 → P j ((L ++ [c]).getD j zeroCd) := fun P p1 p2 j hj => by
    by_cases e : j = k
    · subst e; rw [e2]; exact p2
    · rw [e1 j (by omega)]; exact p1 j (by omega)
  refine ⟨by simp [h.len], fun j hj => ?_, key (fun j d => d.x = (ls.getD j zeroCd).x) h.x h2, key (fun j d => d.l = f (ls.getD j zeroCd).l) h.l h3, key (fun j d => okCd w d) h.ok h4, key (fun j d => d.n ≤ 65536) h.n2 h5, key (fun j d => 0 < d.n → ∀ g, d.A.map (·.block) = some g → g ∉ X) h.far h6⟩
  by_cases e : j = k
  · subst e; exact h1
  · exact h.n j (by omega)
theorem Made.app {f : List St → List St} {w w' : World} {ls L : List Cd} {k : Nat} {X X' : List Nat} (h : Made f w ls L k X) (ho : Only X w w') (hat : ∀ b ∈ X', b ∈ X ∨ w.heap.size ≤ b) : Made f w' ls L k X' := by
  refine ⟨h.len, h.n, h.x, h.l, fun j hj => ⟨(h.ok j hj).1, (h.ok j hj).2.1, isSt_only0 (h.ok j hj).2.2 ho (h.far j hj)⟩, h.n2, fun j hj h0 g hg hm => ?_⟩
  rcases hat g hm with e | e
  · exact h.far j hj h0 g hg e
  · have := isSt_lt (h.ok j hj).2.2 h0 g hg
    omega
def two (A B : Option Addr) : List Nat := (A.map (·.block)).toList ++ (B.map (·.block)).toList
theorem mem_two {A B : Option Addr} {b : Nat} : b ∈ two A B ↔ A.map (·.block) = some b ∨ B.map (·.block) = some b := by unfold two; simp
/-- both rows as they are between two rounds -/
structure Rows2 (w : World) (base : Nat) (sole : List Bool) (ls Lf Lm : List Cd) (k : Nat) (Af Am : Option Addr) (cf cm : Nat) : Prop where
  of : Own w base 24 3 Af k cf (Lf.map cdL)
  om : Own w base 24 3 Am k cm (Lm.map cdL)
  mf : Made flush w ls Lf k (two Af Am)
  mm : Made (fun l => elide sole (flush l)) w ls Lm k (two Af Am)
  ne : ∀ g, Af.map (·.block) = some g → Am.map (·.block) ≠ some g
theorem Rows2.keep {w w' : World} {base : Nat} {sole : List Bool} {ls Lf Lm : List Cd} {k : Nat} {Af Am : Option Addr} {cf cm : Nat} (h : Rows2 w base sole ls Lf Lm k Af Am cf cm) (hb : Below w.heap.size w w') : Rows2 w' base sole ls Lf Lm k Af Am cf cm :=
  ⟨h.of.keep hb, h.om.keep hb, h.mf.keep hb, h.mm.keep hb, h.ne⟩
/-- a code put behind the first row -/
structure Rows1 (w : World) (base : Nat) (sole : List Bool) (ls Lf Lm : List Cd) (k : Nat) (Af Am : Option Addr) (cf cm : Nat) : Prop where
  of : Own w base 24 3 Af (k + 1) cf (Lf.map cdL)
  om : Own w base 24 3 Am k cm (Lm.map cdL)
  mf : Made flush w ls Lf (k + 1) (two Af Am)
  mm : Made (fun l => elide sole (flush l)) w ls Lm k (two Af Am)
  ne : ∀ g, Af.map (·.block) = some g → Am.map (·.block) ≠ some g
theorem Rows1.keep {w w' : World} {base : Nat} {sole : List Bool} {ls Lf Lm : List Cd} {k : Nat} {Af Am : Option Addr} {cf cm : Nat} (h : Rows1 w base sole ls Lf Lm k Af Am cf cm) (hb : Below w.heap.size w w') : Rows1 w' base sole ls Lf Lm k Af Am cf cm :=
  ⟨h.of.keep hb, h.om.keep hb, h.mf.keep hb, h.mm.keep hb, h.ne⟩
theorem only_row {w w' : World} {B : Nat} {X : Option Nat} {Y : List Nat} (hb : Below B w w') (hk : ∀ b, b < w.heap.size → X ≠ some b → w'.heap[b]? = w.heap[b]?) (hY : ∀ b, X = some b → b ∈ Y) : Only Y w w' :=
  ⟨hb.os, hb.tape, hb.output, hb.size, fun q hq hn => hk q hq (fun e => hn (hY q e))⟩
theorem Rows2.first {w w' : World} {base : Nat} {sole : List Bool} {ls Lf Lm : List Cd} {k : Nat} {Af Am A6 : Option Addr} {cf cm c6 : Nat} {c : Cd} (h : Rows2 w base sole ls Lf Lm k Af Am cf cm) (h1 : (ls.getD k zeroCd).n ≤ 60) (h2 : c.x = (ls.getD k zeroCd).x) (h3 : c.l = flush (ls.getD k zeroCd).l) (h4 : okCd w c) (h5 : c.n ≤ 65536) (h6 : 0 < c.n → ∀ g, c.A.map (·.block) = some g → g ∉ two Af Am)
    (hown : Own w' base 24 3 A6 (k + 1) c6 (Lf.map cdL ++ [cdL c])) (hb : Below base w w') (hk : ∀ b, b < w.heap.size → Af.map (·.block) ≠ some b → w'.heap[b]? = w.heap[b]?) (hat : A6.map (·.block) = Af.map (·.block) ∨ ∀ b, A6.map (·.block) = some b → w.heap.size ≤ b) :
    Rows1 w' base sole ls (Lf ++ [c]) Lm k A6 Am c6 cm := by
  have ho := only_row (Y := two Af Am) hb hk (fun b e => mem_two.2 (.inl e))
  have ho1 := only_row (Y := (Af.map (·.block)).toList) hb hk (fun b e => by rw [e]; simp)
  have hX : ∀ b ∈ two A6 Am, b ∈ two Af Am ∨ w.heap.size ≤ b := fun b hb => by
    rcases mem_two.1 hb with e | e
    · rcases hat with e2 | e2
      · rw [e2] at e; exact .inl (mem_two.2 (.inl e))
      · exact .inr (e2 b e)
    · exact .inl (mem_two.2 (.inr e))
  refine ⟨by rw [List.map_append]; exact hown, own_only h.om ho1 (fun g hg hm => ?_), (h.mf.snoc h1 h2 h3 h4 h5 h6).app ho hX, h.mm.app ho hX, fun g hg hg2 => ?_⟩
  · exact h.ne g (by simpa using hm) hg
  · rcases hat with e2 | e2
    · rw [e2] at hg; exact h.ne g hg hg2
    · have := e2 g hg; have := (h.om.lt g hg2).2; omega
theorem Rows1.second {w w' : World} {base : Nat} {sole : List Bool} {ls Lf Lm : List Cd} {k : Nat} {Af Am A6 : Option Addr} {cf cm c6 : Nat} {c : Cd} (h : Rows1 w base sole ls Lf Lm k Af Am cf cm) (h1 : (ls.getD k zeroCd).n ≤ 60) (h2 : c.x = (ls.getD k zeroCd).x) (h3 : c.l = elide sole (flush (ls.getD k zeroCd).l)) (h4 : okCd w c) (h5 : c.n ≤ 65536) (h6 : 0 < c.n → ∀ g, c.A.map (·.block) = some g → g ∉ two Af Am)
    (hown : Own w' base 24 3 A6 (k + 1) c6 (Lm.map cdL ++ [cdL c])) (hb : Below base w w') (hk : ∀ b, b < w.heap.size → Am.map (·.block) ≠ some b → w'.heap[b]? = w.heap[b]?) (hat : A6.map (·.block) = Am.map (·.block) ∨ ∀ b, A6.map (·.block) = some b → w.heap.size ≤ b) :
    Rows2 w' base sole ls Lf (Lm ++ [c]) (k + 1) Af A6 cf c6 := by
  have ho := only_row (Y := two Af Am) hb hk (fun b e => mem_two.2 (.inr e))
  have ho1 := only_row (Y := (Am.map (·.block)).toList) hb hk (fun b e => by rw [e]; simp)
  have hX : ∀ b ∈ two Af A6, b ∈ two Af Am ∨ w.heap.size ≤ b := fun b hb => by
    rcases mem_two.1 hb with e | e
    · exact .inl (mem_two.2 (.inl e))
    · rcases hat with e2 | e2
      · rw [e2] at e; exact .inl (mem_two.2 (.inr e))
      · exact .inr (e2 b e)
  refine ⟨own_only h.of ho1 (fun g hg hm => ?_), by rw [List.map_append]; exact hown, h.mf.app ho hX, (h.mm.snoc h1 h2 h3 h4 h5 h6).app ho hX, fun g hg hg2 => ?_⟩
  · exact h.ne g hg (by simpa using hm)
  · rcases hat with e2 | e2
    · rw [e2] at hg2; exact h.ne g hg hg2
    · have := e2 g hg2; have := (h.of.lt g hg).2; omega

set_option maxRecDepth 200000 in
set_option maxHeartbeats 12800000 in
theorem walkMeans {H : Type} {enc : TypeId × Value → H} {d0 d1 d3 : DataW H} {P0 P1 P3 : List MemPlace} {r : Reach} {b0 : Nat} (v0 v1 : Value) (words : Int) (v3 : Value) (w : World)
    (k0 : DataW.Trod enc Try.prog w 0 (fun _ => true) true 32 v0 d0 P0) (ok0 : Value.okWide Try.prog w r b0 32 v0)
    (k1 : DataW.Trod enc Try.prog w 0 (fun _ => true) true 57 v1 d1 P1) (ok1 : Value.okWide Try.prog w r b0 57 v1)
    (_ : (Lit.int .i64 words).wf = true)
    (k3 : DataW.Trod enc Try.prog w 0 (fun _ => true) true 33 v3 d3 P3) (ok3 : Value.okWide Try.prog w r b0 33 v3) :
    Calls Try.prog 10 #[v0, v1, .int .i64 words, v3] w fun e w' => e = .returned (.bool true) ∧ Below w.heap.size w w' := by
  obtain ⟨A1, n1, c1, ls, rfl, hC⟩ := open_codes k0 ok0
  obtain ⟨As, ns, cs, sole, rfl, hS⟩ := open_bools k1 ok1
  obtain ⟨A3, n3, c3, os, rfl, hO⟩ := open_ints k3 ok3
  clear k0 ok0 k1 ok1 k3 ok3
  have HL1 := Lib.hid hC.1
  have HC := Lib.hid hC
  have HOw := Lib.hid hO
  have HS := Lib.hid hS
  clear hC hO hS
  go_enter Try.func10, Try.ntmps10
  go_wp2_with fail
  refine (alive16_any _).mono ?_
  rintro e w2 ⟨rfl, hb2⟩
  have BB := Lib.hid hb2
  by_cases hc1 : (4 : Int) < n1
  · go_wp2_with fail
    go_ret
    exact ⟨rfl, BB.out⟩
  by_cases hc3 : (100 : Int) < n3
  · go_wp2_with fail
    go_ret
    exact ⟨rfl, BB.out⟩
  by_cases hc2 : (30 : Int) < ns
  · go_wp2_with fail
    go_ret
    exact ⟨rfl, BB.out⟩
  by_cases hc4 : (64 : Int) < words
  · go_wp2_with fail
    go_ret
    exact ⟨rfl, BB.out⟩
  have HC2 := Lib.hid (HC.out.keep hb2)
  have HS2 := Lib.hid (HS.out.keep hb2)
  clear hb2
  go_wp2_with fail
  go_loopw [10, 11, 12] (fun vf vm i wr => ∃ (k cf cm : Nat) (Af Am : Option Addr) (Lf Lm : List Cd), k ≤ n1 ∧ i = .int .i64 k ∧ vf = .slice Af k cf ∧ vm = .slice Am k cm ∧ Rows2 wr w2.heap.size sole ls Lf Lm k Af Am cf cm ∧ Below w2.heap.size w2 wr) (fun _ _ i _ => n1 - (intOf i).toNat)
  case atStart => exact ⟨0, 0, 0, none, none, [], [], by omega, rfl, rfl, rfl, ⟨Own.nil _ _ _ _, Own.nil _ _ _ _, Made.nil _ _ _ _, Made.nil _ _ _ _, fun g hg => by cases hg⟩, Below.refl _ _⟩
  case round =>
    obtain ⟨k, cf, cm, Af, Am, Lf, Lm, hk, rfl, rfl, rfl, hrows, hbel⟩ := hrel
    have HR := Lib.hid hrows
    clear hrows
    have hsz := hbel.size
    have HC3 := Lib.hid (HC2.out.keep hbel)
    have HS3 := Lib.hid (HS2.out.keep hbel)
    by_cases hkn : k < n1
    · obtain ⟨b, o, hA1, hb, s0, s1, s2, hx, hy, hI⟩ := HC3.out.cell (k := k) hkn
      have hcap := HC3.out.2.1.le
      obtain ⟨cd, hcd⟩ : ∃ cd, ls.getD k zeroCd = cd := ⟨_, rfl⟩
      have HCD := Lib.hid hcd
      rw [hcd] at s0 s1 s2 hx hy hI
      clear hcd
      obtain ⟨x1, y1, A4, n4, c4, l4⟩ := cd
      have i1 : (k : Int) < n1 := by omega
      subst hA1
      have HI4 := Lib.hid hI
      have XY := Lib.hid (And.intro hx hy)
      have HL4 := Lib.hid hI.1
      clear hI hx hy
      dsimp only at s0 s1 s2
      by_cases h60 : (60 : Int) < n4
      · go_wp2_with fail
        go_ret
        exact ⟨rfl, BB.out.trans (hbel.mono BB.out.size)⟩
      · go_wp2_with fail
        refine (rflush_any x1 y1 A4 n4 c4 l4 wr HI4.out (by omega)).mono ?_
        rintro e w3 ⟨A5, m5, c5, rfl, hown5, hb5⟩
        have hI5 := isSt_own hown5
        have hm5 : m5 ≤ 65536 := by have := hI5.1; have := flush_len l4; have := HL4.out; omega
        have hs5 := hb5.size
        have HR5 := Lib.hid (HR.out.keep hb5)
        have R1 : Hid (∀ A6 c6 w6, Own w6 w2.heap.size 24 3 A6 (k + 1) c6 (Lf.map cdL ++ [cdL ⟨x1, y1, A5, m5, c5, flush l4⟩]) → Below w2.heap.size w3 w6 → (∀ b, b < w3.heap.size → Af.map (·.block) ≠ some b → w6.heap[b]? = w3.heap[b]?) → (A6.map (·.block) = Af.map (·.block) ∨ ∀ b, A6.map (·.block) = some b → w3.heap.size ≤ b) → Rows1 w6 w2.heap.size sole ls (Lf ++ [⟨x1, y1, A5, m5, c5, flush l4⟩]) Lm k A6 Am c6 cm) := Lib.hid (fun A6 c6 w6 q1 q2 q3 q4 =>
          HR5.out.first (c := ⟨x1, y1, A5, m5, c5, flush l4⟩) (by rw [HCD.out]; show n4 ≤ 60; omega) (by rw [HCD.out]) (by rw [HCD.out]) ⟨XY.out.1, XY.out.2, hI5⟩ hm5 (fun h0 g hg e => by
            have h7 := (hown5.lt g hg).1
            rcases mem_two.1 e with e | e
            · have h8 := (HR.out.of.lt g e).2; omega
            · have h8 := (HR.out.om.lt g e).2; omega) q1 q2 q3 q4)
        have HS5 := Lib.hid (HS3.out.keep hb5)
        have HI55 := Lib.hid hI5
        clear hown5 hI5
        have hkm : k ≤ 4 := by omega
        have GD := Lib.hid (show (Lf ++ [(⟨x1, y1, A5, m5, c5, flush l4⟩ : Cd)]).getD k zeroCd = ⟨x1, y1, A5, m5, c5, flush l4⟩ from by rw [← HR.out.mf.len]; simp [List.getD])
        go_wp2_with (at_builtin; refine Ow2.wpList_appN _ rfl _ _ rfl elCd w2.heap.size Af k cf 1 w3.heap.size _ [cdL ⟨x1, y1, A5, m5, c5, flush l4⟩] rfl rfl HR5.out.of rfl rfl (cd_each _) (cd_ones _) (by unfold maxLen; omega) (by omega) (by omega) _ rfl ?_; intro A6 c6 w6 hown6 hbel6 hkp6 hat6; have HB6 := Lib.hid (hbel.trans ((hb5.mono hsz).trans hbel6)); have HR6 := Lib.hid (R1.out A6 c6 w6 hown6 hbel6 hkp6 hat6); have HS6 : Hid (IsBo w6 As ns cs sole) := Lib.hid (HS.out.keep (BB.out.trans (HB6.out.mono BB.out.size))); have CF6 := Lib.hid (isCd_own HR6.out.of HR6.out.mf.ok); obtain ⟨bf, of6, hAf, hbf, f0, f1, f2, -, -, hIf⟩ := CF6.out.cell (k := k) (by omega); have hcapf := CF6.out.2.1.le; rw [GD.out] at f0 f1 f2 hIf; dsimp only at f0 f1 f2 hIf; subst hAf; have HIf := Lib.hid hIf; clear hown6 hbel6 hkp6 hat6 hIf)
        refine (elide_any x1 y1 A5 As m5 c5 ns cs (flush l4) sole w6 HIf.out HS6.out hm5).mono ?_
        rintro e w7 ⟨A7, m7, c7, rfl, hown7, hb7⟩
        have hI7 := isSt_own hown7
        have hm7 : m7 ≤ 65536 := by have := hI7.1; have := elide_le sole _ (flush l4) (Nat.le_refl _); have := HIf.out.1; omega
        have hs7 := hb7.size
        have HR7 := Lib.hid (HR6.out.keep hb7)
        have R2 : Hid (∀ A8 c8 w8, Own w8 w2.heap.size 24 3 A8 (k + 1) c8 (Lm.map cdL ++ [cdL ⟨x1, y1, A7, m7, c7, elide sole (flush l4)⟩]) → Below w2.heap.size w7 w8 → (∀ b, b < w7.heap.size → Am.map (·.block) ≠ some b → w8.heap[b]? = w7.heap[b]?) → (A8.map (·.block) = Am.map (·.block) ∨ ∀ b, A8.map (·.block) = some b → w7.heap.size ≤ b) → Rows2 w8 w2.heap.size sole ls (Lf ++ [⟨x1, y1, A5, m5, c5, flush l4⟩]) (Lm ++ [⟨x1, y1, A7, m7, c7, elide sole (flush l4)⟩]) (k + 1) (some ⟨bf, of6, none⟩) A8 c6 c8) := Lib.hid (fun A8 c8 w8 q1 q2 q3 q4 =>
          HR7.out.second (c := ⟨x1, y1, A7, m7, c7, elide sole (flush l4)⟩) (by rw [HCD.out]; show n4 ≤ 60; omega) (by rw [HCD.out]) (by rw [HCD.out]) ⟨XY.out.1, XY.out.2, hI7⟩ hm7 (fun h0 g hg e => by
            have h7 := (hown7.lt g hg).1
            rcases mem_two.1 e with e | e
            · have h8 := (HR6.out.of.lt g e).2; omega
            · have h8 := (HR6.out.om.lt g e).2; omega) q1 q2 q3 q4)
        clear hown7 hI7
        have hz6 := HB6.out.size
        go_wp2_with (at_builtin; refine Ow2.wpList_appN _ rfl _ _ rfl elCd w2.heap.size Am k cm 1 w7.heap.size _ [cdL ⟨x1, y1, A7, m7, c7, elide sole (flush l4)⟩] rfl rfl HR7.out.om rfl rfl (cd_each _) (cd_ones _) (by unfold maxLen; omega) (by omega) (by omega) _ rfl ?_; intro A8 c8 w8 hown8 hbel8 hkp8 hat8; have HB8 := Lib.hid (HB6.out.trans ((hb7.mono hz6).trans hbel8)); have HR8 := Lib.hid (R2.out A8 c8 w8 hown8 hbel8 hkp8 hat8); clear hown8 hbel8 hkp8 hat8)
        go_roundw
        case rel => exact ⟨k + 1, c6, c8, _, A8, _, _, by omega, by go_num, rfl, rfl, HR8.out, HB8.out⟩
        case measure => simp [intOf]; omega
    · obtain rfl : k = n1 := by omega
      clear hkn
      have CF := Lib.hid (isCd_own HR.out.of HR.out.mf.ok)
      have CM := Lib.hid (isCd_own HR.out.om HR.out.mm.ok)
      have BW1 := Lib.hid (BB.out.trans (hbel.mono BB.out.size))
      have LF := Lib.hid HR.out.mf.len
      have LM := Lib.hid HR.out.mm.len
      have hnil : ∀ wx : World, IsSt wx none 0 0 [] := fun wx => ⟨rfl, Sl.nil _ _ _⟩
      have cod1 : ∀ i, i < Lf.length → Cod wr (fun q => q < wr.heap.size) (Lf.getD i zeroCd) := fun i hi => by
        have hi' : i < k := by have := LF.out; omega
        exact ⟨HR.out.mf.n2 i hi', (HR.out.mf.ok i hi').2.2, fun h0 => isSt_lt (HR.out.mf.ok i hi').2.2 h0⟩
      have NA := Lib.hid (new_len LF.out 0 0 none 0 0 [] Af cf words wr (fun q => q < wr.heap.size) (fun _ h => h) (cod_mk (hnil _) (by decide)) CF.out cod1 (fun h0 => isCd_lt CF.out (by have := LF.out; omega)))
      clear cod1
      go_wp2_with fail
      refine NA.out.mono ?_
      rintro e w3 ⟨qa, Ga, ta, rfl, hRa, hGa, hb3⟩
      have HRa := Lib.hid hRa
      have HGa := Lib.hid hGa
      clear hRa hGa NA
      have hz3 := hb3.size
      have CM3 := Lib.hid (CM.out.keep hb3)
      have cod2 : ∀ i, i < Lm.length → Cod w3 (fun q => q < w3.heap.size ∧ q ∉ Ga) (Lm.getD i zeroCd) := fun i hi => by
        have hi' : i < k := by have := LM.out; omega
        refine ⟨HR.out.mm.n2 i hi', (HR.out.mm.ok i hi').2.2.keep hb3, fun h0 g hg => ?_⟩
        have h9 := isSt_lt (HR.out.mm.ok i hi').2.2 h0 g hg
        exact ⟨by omega, fun hm => by have := HGa.out g hm; omega⟩
      have cf2 : 0 < Lm.length → ∀ g, Am.map (·.block) = some g → g < w3.heap.size ∧ g ∉ Ga := fun h0 g hg => by
        have h9 := (HR.out.om.lt g hg).2
        exact ⟨by omega, fun hm => by have := HGa.out g hm; omega⟩
      have NB := Lib.hid (new_len LM.out 0 0 none 0 0 [] Am cm words w3 (fun q => q < w3.heap.size ∧ q ∉ Ga) (fun _ h => h.1) ⟨by decide, hnil _, fun h0 => absurd h0 (by decide)⟩ CM3.out cod2 cf2)
      clear cod2 cf2
      go_wp2_with fail
      refine NB.out.mono ?_
      rintro e w5 ⟨qb, Gb, tb, rfl, hRb, hGb, hb5⟩
      have hz5 := hb5.size
      have DD0 : Hid (Duo w5 w.heap.size qa qb (fun q => q < wr.heap.size) (fun q => q < w3.heap.size ∧ q ∉ Ga) ⟨0, 0, none, 0, 0, []⟩ ⟨0, 0, none, 0, 0, []⟩ Lf Lm _ _) := Lib.hid
        ⟨Ga, Gb, ta, tb, HRa.out.keep hb5, hRb, fun q hq hm => by have h7 := HRa.out.gLt q hq; have h8 := hGb q hm; omega, fun q hq hc => hc.2 hq, fun q hq hc => by have h8 := hGb q hq; omega,
          fun q hq => by have h8 := HGa.out q hq; have h9 := BW1.out.size; omega, fun q hq => by have h8 := hGb q hq; have h9 := BW1.out.size; omega, by have h9 := BW1.out.size; omega⟩
      have HRL : Hid (InsR (lnOf ⟨0, 0, none, 0, 0, []⟩) (lnOf ⟨0, 0, none, 0, 0, []⟩)) := Lib.hid (ins_ln rfl (Ins.refl _))
      have HTW : Hid (Two InsR (begunL Lm) (begunL Lf)) := Lib.hid (two_take (by have h7 := LF.out; have h8 := LM.out; omega) (fun i hi => by
        have hi' : i < k := by have := LM.out; omega
        exact ins_ln (by rw [HR.out.mf.x i hi', HR.out.mm.x i hi']) (by rw [HR.out.mf.l i hi', HR.out.mm.l i hi']; exact ins_elide sole _ _ (Nat.le_refl _))))
      have SS0 : Hid (Same InsR (zeros (Rm.words words)).length 0 ⟨some (lnOf ⟨0, 0, none, 0, 0, []⟩), [], zeros (Rm.words words), []⟩ ⟨some (lnOf ⟨0, 0, none, 0, 0, []⟩), [], zeros (Rm.words words), []⟩) := Lib.hid
        ⟨⟨HRL.out, .nil, rfl, rfl, rfl⟩, fun _ _ => rfl, fun _ _ => rfl, Nat.le_refl 0⟩
      generalize (zeros (Rm.words words)).length = N at *
      have BW5 := Lib.hid (BW1.out.trans ((hb3.trans (hb5.mono hz3)).mono BW1.out.size))
      have HLA := Lib.hid (show Lf.length ≤ 65536 by have := LF.out; omega)
      have HLB := Lib.hid (show Lm.length ≤ 65536 by have := LM.out; omega)
      clear hRb hGb NB
      generalize (fun q => q < w3.heap.size ∧ q ∉ Ga) = Cb at *
      generalize (fun q => q < wr.heap.size) = Ca at *
      clear HR HC3 CF CM CM3 HRa HGa
      go_wp2_with fail
      go_loopw [15] (fun i wr => ∃ (k : Nat) (ma mb : Mch Ln), k ≤ n3 ∧ i = .int .i64 k ∧ Duo wr w.heap.size qa qb Ca Cb ⟨0, 0, none, 0, 0, []⟩ ⟨0, 0, none, 0, 0, []⟩ Lf Lm ma mb ∧ Same InsR N k mb ma ∧ Below w.heap.size w wr) (fun i _ => n3 - (intOf i).toNat)
      case atStart => exact ⟨0, _, _, by omega, rfl, DD0.out, SS0.out, BW5.out⟩
      case round =>
        obtain ⟨k, ma, mb, hk, rfl, hDD, hSS, hbel⟩ := hrel
        have DD := Lib.hid hDD
        have SS := Lib.hid hSS
        clear hDD hSS DD0 SS0
        by_cases hkn : k < n3
        · obtain ⟨b, o, hA3, hb, sw⟩ := HOw.out.cell (k := k) hkn
          have s0 := (hbel.cell (p := ⟨b, o + k, none⟩) hb).trans sw
          obtain ⟨z, hz⟩ : ∃ z, os.getD k 0 = z := ⟨_, rfl⟩
          rw [hz] at s0 sw
          have SW := Lib.hid sw
          clear hz sw
          have i1 : (k : Int) < n3 := by omega
          have hcap := (HOw.out).2.le
          subst hA3
          go_wp2_with fail
          refine (stepA_any DD.out SS.out.nb z HLA.out (by rw [← SS.out.both.out]; exact Nat.le_trans SS.out.len (by omega))).mono ?_
          rintro e w3 ⟨rfl, c3, hb3, hd3, hs3⟩
          by_cases hra : (stepM goL (begunL Lf) ma z).1 = 2
          · rw [hra] at c3
            have S3 := Lib.hid hs3
            have s3 := ((hbel.trans hb3).cell (p := ⟨b, o + k, none⟩) hb).trans SW.out
            clear hd3 hs3
            go_wp2_with fail
            refine (stepS_any S3.out SS.out.na z HLB.out (Nat.le_trans SS.out.len (by omega)) _ c3).mono ?_
            rintro e w4 ⟨rfl, c4, -, hb4⟩
            go_wp2_with fail
            refine (stuck_any qa true _ c4).mono ?_
            rintro e w5 ⟨rfl, rfl⟩
            go_wp2_with fail
            go_ret
            exact ⟨rfl, (hbel.trans hb3).trans hb4⟩
          · have D3 := Lib.hid (hd3 hra)
            clear hd3 hs3
            rw [show ((stepM goL (begunL Lf) ma z).1 == 2) = false from beq_eq_false_iff_ne.2 hra] at c3
            have HRA := Lib.hid hra
            have s3 := ((hbel.trans hb3).cell (p := ⟨b, o + k, none⟩) hb).trans SW.out
            go_wp2_with fail
            refine (stepA_any D3.out.swap SS.out.na z HLB.out (Nat.le_trans SS.out.len (by omega))).mono ?_
            rintro e w4 ⟨rfl, c4, hb4, hd4, ⟨Ga4, ta4, r4, _⟩⟩
            have c5 := r4.foc.c8
            rw [r4.ill] at c5
            by_cases hrb : (stepM goL (begunL Lm) mb z).1 = 2
            · rw [hrb] at c4
              clear hd4 r4
              go_wp2_with fail
              refine (stuck_any qa false _ c5).mono ?_
              rintro e w5 ⟨rfl, rfl⟩
              go_wp2_with fail
              refine (stuck_any qb true _ c4).mono ?_
              rintro e w5 ⟨rfl, rfl⟩
              go_wp2_with fail
              go_ret
              exact ⟨rfl, (hbel.trans hb3).trans hb4⟩
            · have D4 := Lib.hid (hd4 hrb).swap
              obtain ⟨es, SZ0⟩ := SS.out.step (ins_alike _) HTW.out z (by first | exact hrb | omega) (by first | exact hra | omega)
              have SZ := Lib.hid SZ0
              have BT := Lib.hid ((hbel.trans hb3).trans hb4)
              clear hd4 r4 c3 c4 c5 SZ0 hb3 hb4 hbel DD SS D3
              have hlA := (by have := SZ.out.len; rw [SZ.out.both.out] at this; exact this)
              have hlB := SZ.out.len
              have HOL := Lib.hid (show _ ≤ 1000000 from Nat.le_trans hlA (by omega))
              have HOM := Lib.hid (show _ ≤ 1000000 from Nat.le_trans hlB (by omega))
              have HOE := Lib.hid (decide_eq_true (SZ.out.both.out.symm))
              have HNE := Lib.hid (decide_eq_true (SZ.out.both.now.symm))
              clear hlA hlB
              rw [es]
              have hbb : (((stepM goL (begunL Lf) ma z).1 == 0) != ((stepM goL (begunL Lf) ma z).1 == 0)) = false := by simp
              clear es hra hrb HRA
              generalize ((stepM goL (begunL Lf) ma z).1 == 0) = okb at *
              go_wp2_with fail
              refine (stuck_any qa false _ D4.out.cells.1).mono ?_
              rintro e w4 ⟨rfl, rfl⟩
              go_wp2_with fail
              refine (stuck_any qb false _ D4.out.cells.2).mono ?_
              rintro e w4 ⟨rfl, rfl⟩
              go_wp2_with fail
              refine (outA_any D4.out HOL.out).mono ?_
              rintro e w5 ⟨A5, n5, c5, rfl, row5, hb5⟩
              have D5 := Lib.hid (D4.out.keep hb5)
              have U5 := Lib.hid (isU_of_row row5)
              clear row5
              go_wp2_with fail
              refine (outA_any D5.out.swap HOM.out).mono ?_
              rintro e w6 ⟨A6, n6, c6, rfl, row6, hb6⟩
              have D6 := Lib.hid (D5.out.keep hb6)
              have U6 := Lib.hid (isU_of_row row6)
              clear row6
              go_wp2_with fail
              refine (samew_any A5 A6 n5 c5 n6 c6 _ _ w6 (U5.out.keep hb6) U6.out).mono ?_
              rintro e w7 ⟨rfl, m7, rfl⟩
              rw [HOE.out]
              have b7 := below_drawn w6 m7
              have D7 := Lib.hid (D6.out.keep b7)
              obtain ⟨w7, hw7⟩ : ∃ w7, w6.drewN m7 = w7 := ⟨_, rfl⟩
              rw [hw7] at D7 b7
              rw [hw7]
              go_wp2_with fail
              refine (cellsA_any D7.out).mono ?_
              rintro e w8 ⟨A8, n8, c8, rfl, row8, hb8⟩
              have D8 := Lib.hid (D7.out.keep hb8)
              have U8 := Lib.hid (isU_of_row row8)
              clear row8
              go_wp2_with fail
              refine (cellsA_any D8.out.swap).mono ?_
              rintro e w9 ⟨A9, n9, c9, rfl, row9, hb9⟩
              have D9 := Lib.hid (D8.out.keep hb9)
              have U9 := Lib.hid (isU_of_row row9)
              clear row9
              go_wp2_with fail
              refine (samew_any A8 A9 n8 c8 n9 c9 _ _ w9 (U8.out.keep hb9) U9.out).mono ?_
              rintro e wa ⟨rfl, ma9, rfl⟩
              rw [HNE.out]
              have D10 := Lib.hid (D9.out.keep (below_drawn w9 ma9))
              have BZ := Lib.hid (below_seq (below_seq (below_seq (below_seq (below_seq hb5 hb6) b7) hb8) hb9) (below_drawn w9 ma9))
              clear hb5 hb6 b7 hb8 hb9
              go_wp2_with fail
              go_roundw
              case rel => exact ⟨k + 1, _, _, by omega, by go_num, D10.out, SZ.out, BT.out.trans (BZ.out.mono BT.out.size)⟩
              case measure => simp [intOf]; omega
        · obtain rfl : k = n3 := by omega
          go_wp2_with fail
          go_ret
          exact ⟨rfl, hbel⟩
end Go.Proofs.Ytdhihmeknoofoaa.ElMn
