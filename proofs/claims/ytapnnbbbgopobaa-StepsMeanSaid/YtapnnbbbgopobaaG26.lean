/-
  THE REFERENCE'S RUN, as a whole: its strands, and what they own.
-/
import Derived.Test.YtapnnbbbgopobaaRnI
import Derived.Test.YtapnnbbbgopobaaG05
import Derived.Test.YtapnnbbbgopobaaG23
import Derived.Test.YtapnnbbbgopobaaG24
import Derived.Test.YtapnnbbbgopobaaG14
import Derived.Deep.Cut
set_option linter.unusedVariables false
set_option linter.unusedSimpArgs false
namespace Go.Proofs.Ytapnnbbbgopobaa.Rn
open Go.RowKit Cm Mm Ow Me Ml Lg Stp Rr Lr
structure As where
  nm : List ByteArray
  v : List Int
  st : List Bd
  en : Bool
structure Ar where
  now : List Int
  out : List Int
  rc : Option As
  ts : List As
def zeroA : As := ⟨[], [], [], false⟩
def begA (b : Bd) : As := ⟨nmsB b, begV b, [b], false⟩
def aftA (a : As) (r : Nat × Ss) : As := ⟨a.nm, r.2.v, r.2.st, if r.1 = 0 then a.en else r.1 == 1⟩
def goA (cs : List Lay.Cl) (a : As) (now out : List Int) : Nat × Ss := goS cs a.nm 1000 ⟨a.st, a.v, now, out⟩
def coreA (cs : List Lay.Cl) (s : Ar) (c : Int) : Option (Bool × Ar) :=
  if c < 0 ∨ (s.ts.length : Int) ≤ c then some (false, s)
  else if (goA cs (s.ts.getD c.toNat zeroA) s.now s.out).1 = 2 then none
  else some ((goA cs (s.ts.getD c.toNat zeroA) s.now s.out).1 == 0, ⟨(goA cs (s.ts.getD c.toNat zeroA) s.now s.out).2.now, (goA cs (s.ts.getD c.toNat zeroA) s.now s.out).2.out, s.rc, s.ts.set c.toNat (aftA (s.ts.getD c.toNat zeroA) (goA cs (s.ts.getD c.toNat zeroA) s.now s.out))⟩)
def stepA (cs : List Lay.Cl) (tb : List (ByteArray × Bd)) (s : Ar) (c : Int) : Option (Bool × Ar) :=
  match s.rc with
  | none => coreA cs s c
  | some a => if (goA cs a s.now s.out).1 = 2 then none
    else if (goA cs a s.now s.out).1 = 0 then some (true, ⟨(goA cs a s.now s.out).2.now, (goA cs a s.now s.out).2.out, some (aftA a (goA cs a s.now s.out)), s.ts⟩)
    else coreA cs ⟨(goA cs a s.now s.out).2.now, (goA cs a s.now s.out).2.out, none, tb.map fun t => begA t.2⟩ c
def doneA (s : Ar) : Bool := s.ts.all (·.en) && s.rc.isNone
structure PgB (w : World) (B0 : Nat) (f : Rf) (tb : List (ByteArray × Bd)) (rb : Bd) : Prop where
  tl : tb.length = f.tn
  t4 : f.tn ≤ 4
  th : ∀ i, i < f.tn → ∃ b o BA bn bc, f.tA = some ⟨b, o, none⟩ ∧ b < B0 ∧ b < w.heap.size ∧ w.cell? ⟨b, o + i * 2 + 1, none⟩ = some (.slice BA bn bc) ∧ IsBdP (Fr.Lo B0) w (tb.getD i zeroTh).2 BA bn bc ∧ bsz (tb.getD i zeroTh).2 ≤ 50000 ∧ CelB f.cs (tb.getD i zeroTh).2
  rc : IsBdP (Fr.Lo B0) w rb f.rA f.rn f.rc ∧ bsz rb ≤ 50000 ∧ CelB f.cs rb
theorem PgB.only {w w' : World} {B0 : Nat} {f : Rf} {tb : List (ByteArray × Bd)} {rb : Bd} (h : PgB w B0 f tb rb) {Y : List Nat} (ho : Only Y w w') (hY : ∀ g ∈ Y, B0 ≤ g) : PgB w' B0 f tb rb := by
  have hL : ∀ g ∈ Y, ¬ Fr.Lo B0 g := fun g hg hh => by have := hY g hg; unfold Fr.Lo at hh; omega
  refine ⟨h.tl, h.t4, fun i hi => ?_, isP_only ho hL h.rc.1, h.rc.2⟩
  obtain ⟨b, o, BA, bn, bc, e, h1, h2, h3, h4, h5, h6⟩ := h.th i hi
  exact ⟨b, o, BA, bn, bc, e, h1, Nat.lt_of_lt_of_le h2 ho.size, (only_cell ho h2 (fun hx => hL b hx h1) _).trans h3, isP_only ho hL h4, h5, h6⟩
def StA (w : World) (B0 : Nat) (cs : List Lay.Cl) (t : Nat × List Nat) (a : As) : Prop := Sr w B0 t.1 t.2 a.nm a.v a.st false a.en ∧ CelS cs a.st
theorem Sr.only {w w' : World} {B0 p : Nat} {F : List Nat} {names : List ByteArray} {v : List Int} {st : List Bd} {sk en : Bool} (h : Sr w B0 p F names v st sk en) {Y : List Nat} (ho : Only Y w w') (hY : ∀ g ∈ Y, B0 ≤ g ∧ g ∉ F) : Sr w' B0 p F names v st sk en := by
  obtain ⟨_, _, _, _, _, _, _, _, _, h, e⟩ := h
  exact ⟨_, _, _, _, _, _, _, _, _, h.only ho (fun g hg => ⟨(hY g hg).1, (hY g hg).2, fun hx => (hY g hg).2 (h.fn g hx)⟩), e⟩
theorem Sr.ge {w : World} {B0 p : Nat} {F : List Nat} {names : List ByteArray} {v : List Int} {st : List Bd} {sk en : Bool} (h : Sr w B0 p F names v st sk en) : ∀ g ∈ F, B0 ≤ g ∧ g < w.heap.size := by
  obtain ⟨_, _, _, _, _, _, _, _, _, h, e⟩ := h
  exact sr_ge h
theorem Rn.only {w w' : World} {B0 q : Nat} {f : Rf} {G : List Nat} {now out : List Int} {rec_ l : Value} {ill : Bool} (h : Rn w B0 q f G now out rec_ l ill) {Y : List Nat} (ho : Only Y w w') (hY : ∀ g ∈ Y, B0 ≤ g ∧ g ∉ G) : Rn w' B0 q f G now out rec_ l ill := by
  obtain ⟨_, _, _, _, _, h⟩ := h
  exact ⟨_, _, _, _, _, h.only ho hY⟩
theorem Rn.ge {w : World} {B0 q : Nat} {f : Rf} {G : List Nat} {now out : List Int} {rec_ l : Value} {ill : Bool} (h : Rn w B0 q f G now out rec_ l ill) : ∀ g ∈ G, B0 ≤ g ∧ g < w.heap.size := by
  obtain ⟨_, _, _, _, _, h⟩ := h
  exact rn_ge h
def recV : Option (Nat × List Nat) → Value
  | none => .pointer none
  | some t => .pointer (some ⟨t.1, 0, none⟩)
def ptrL (t : Nat × List Nat) : List Value := [.pointer (some ⟨t.1, 0, none⟩)]
def zeroQ : Nat × List Nat := (0, [])
structure RunV (w : World) (B0 q : Nat) (f : Rf) (tb : List (ByteArray × Bd)) (rb : Bd) (X : List Nat) (s : Ar) (G : List Nat) (LA : Option Addr) (lc : Nat) (rq : Option (Nat × List Nat)) (tq : List (Nat × List Nat)) (lab : Nat → Nat) : Prop where
  rn : Rn w B0 q f G s.now s.out (recV rq) (.slice LA tq.length lc) false
  pg : PgB w B0 f tb rb
  row : Own w B0 72 1 LA tq.length lc (tq.map ptrL)
  tl : tq.length = s.ts.length
  r0 : s.rc = none → rq = none
  r1 : ∀ a, s.rc = some a → s.ts = [] ∧ ∃ t, rq = some t ∧ StA w B0 f.cs t a
  th : ∀ i, i < tq.length → StA w B0 f.cs (tq.getD i zeroQ) (s.ts.getD i zeroA)
  lg : ∀ k ∈ G, lab k = 0
  ll : ∀ k, LA.map (·.block) = some k → lab k = 1
  lr : ∀ t, rq = some t → ∀ k ∈ t.2, lab k = 2
  lt : ∀ i, i < tq.length → ∀ k ∈ (tq.getD i zeroQ).2, lab k = 3 + i
  xg : ∀ k ∈ G, k ∈ X
  xl : ∀ k, LA.map (·.block) = some k → k ∈ X
  xr : ∀ t, rq = some t → ∀ k ∈ t.2, k ∈ X
  xt : ∀ i, i < tq.length → ∀ k ∈ (tq.getD i zeroQ).2, k ∈ X
  xx : ∀ k ∈ X, B0 ≤ k ∧ k < w.heap.size
def Run (w : World) (B0 q : Nat) (f : Rf) (tb : List (ByteArray × Bd)) (rb : Bd) (X : List Nat) (s : Ar) : Prop := ∃ G LA lc rq tq lab, RunV w B0 q f tb rb X s G LA lc rq tq lab
section
variable {w w' : World} {B0 q : Nat} {f : Rf} {tb : List (ByteArray × Bd)} {rb : Bd} {X : List Nat} {s : Ar} {G : List Nat} {LA : Option Addr} {lc : Nat} {rq : Option (Nat × List Nat)} {tq : List (Nat × List Nat)} {lab : Nat → Nat}
theorem RunV.only (h : RunV w B0 q f tb rb X s G LA lc rq tq lab) {Y : List Nat} (ho : Only Y w w') (hY : ∀ g ∈ Y, B0 ≤ g ∧ g ∉ X) : RunV w' B0 q f tb rb X s G LA lc rq tq lab :=
  ⟨h.rn.only ho (fun g hg => ⟨(hY g hg).1, fun hx => (hY g hg).2 (h.xg g hx)⟩), h.pg.only ho (fun g hg => (hY g hg).1), own_only h.row ho (fun g hg hx => (hY g hx).2 (h.xl g hg)), h.tl, h.r0, fun a ha => by
    obtain ⟨h1, t, h2, h3⟩ := h.r1 a ha
    exact ⟨h1, t, h2, h3.1.only ho (fun g hg => ⟨(hY g hg).1, fun hx => (hY g hg).2 (h.xr t h2 g hx)⟩), h3.2⟩, fun i hi => ⟨(h.th i hi).1.only ho (fun g hg => ⟨(hY g hg).1, fun hx => (hY g hg).2 (h.xt i hi g hx)⟩), (h.th i hi).2⟩, h.lg, h.ll, h.lr, h.lt, h.xg, h.xl, h.xr, h.xt, fun k hk => ⟨(h.xx k hk).1, Nat.lt_of_lt_of_le (h.xx k hk).2 ho.size⟩⟩
theorem Run.only (h : Run w B0 q f tb rb X s) {Y : List Nat} (ho : Only Y w w') (hY : ∀ g ∈ Y, B0 ≤ g ∧ g ∉ X) : Run w' B0 q f tb rb X s := by
  obtain ⟨G, LA, lc, rq, tq, lab, h⟩ := h
  exact ⟨G, LA, lc, rq, tq, lab, h.only ho hY⟩
theorem RunV.keep (h : RunV w B0 q f tb rb X s G LA lc rq tq lab) (hb : Below w.heap.size w w') : RunV w' B0 q f tb rb X s G LA lc rq tq lab := h.only (Y := []) (Only.of_below hb) (fun g hg => by cases hg)
theorem Run.keep (h : Run w B0 q f tb rb X s) (hb : Below w.heap.size w w') : Run w' B0 q f tb rb X s := h.only (Y := []) (Only.of_below hb) (fun g hg => by cases hg)
end
theorem goS_cel {cs : List Lay.Cl} {nm : List ByteArray} : ∀ (k : Nat) (s : Ss), CelS cs s.st → CelS cs (goS cs nm k s).2.st
  | 0, s, h => by
    have hd := h.drop
    rw [goS]
    split
    · rename_i e; rw [e] at hd; exact hd
    · exact fun b hb => by cases hb
  | k + 1, s, h => by
    have hd := h.drop
    rw [goS]
    split
    · rename_i hh body els rest st e
      rw [e] at hd
      have h0 := hd _ (List.mem_cons_self)
      have hr : CelS cs st := fun b hb => hd b (List.mem_cons_of_mem _ hb)
      have hq : CelS cs (rest :: st) := fun b hb => by
        rcases List.mem_cons.1 hb with rfl | hb
        · exact h0.2.2.2
        · exact hr b hb
      by_cases ha : isActS hh.kind = true
      · rw [if_pos ha]
        unfold actS
        repeat' split
        all_goals exact hq
      · rw [if_neg ha]
        refine goS_cel k _ ?_
        unfold quietS
        split
        · exact hq
        · split
          · rename_i h6
            intro b hb
            rcases List.mem_cons.1 hb with e1 | hb
            · subst e1
              split
              · exact h0.2.2.1 h6
              · exact h0.2.1 (.inl h6)
            · exact hq b hb
          · split
            · rename_i h7
              dsimp only
              split
              · exact hq
              · intro b hb
                rcases List.mem_cons.1 hb with e1 | hb
                · subst e1; exact h0.2.1 (.inr h7)
                · rcases List.mem_cons.1 hb with e1 | hb
                  · subst e1; exact h0
                  · exact hr b hb
            · exact hq
    · exact fun b hb => by cases hb
section
variable {w w' : World} {B0 q : Nat} {f : Rf} {tb : List (ByteArray × Bd)} {rb : Bd} {X : List Nat} {s : Ar} {G : List Nat} {LA : Option Addr} {lc : Nat} {rq : Option (Nat × List Nat)} {tq : List (Nat × List Nat)} {lab : Nat → Nat}
def labN (w : World) (lab : Nat → Nat) (G : List Nat) (j k : Nat) : Nat := if k < w.heap.size then lab k else if k ∈ G then 0 else j
theorem RunV.wentRec {t : Nat × List Nat} (h : RunV w B0 q f tb rb X s G LA lc (some t) tq lab) {a : As} (ha : s.rc = some a) {e : Ending} (hW : GoA w B0 q t.1 f G t.2 (recV (some t)) (.slice LA tq.length lc) a.nm a.en (goA f.cs a s.now s.out) e w') (h2 : (goA f.cs a s.now s.out).1 ≠ 2) :
    e = .returned (.bool ((goA f.cs a s.now s.out).1 == 0)) ∧ ∃ G' F' lab', RunV w' B0 q f tb rb (X ++ (G' ++ F')) ⟨(goA f.cs a s.now s.out).2.now, (goA f.cs a s.now s.out).2.out, some (aftA a (goA f.cs a s.now s.out)), s.ts⟩ G' LA lc (some (t.1, F')) tq lab' ∧ Only X w w' ∧ ∀ k ∈ X ++ (G' ++ F'), k ∈ X ∨ w.heap.size ≤ k := by
  obtain ⟨h1, G', F', hR, hS, hO, hG, hF, hd⟩ := hW
  obtain ⟨hts, t2, ht2, hst⟩ := h.r1 a ha
  injection ht2 with ht2
  subst ht2
  have htq : tq = [] := List.length_eq_zero_iff.1 (by rw [h.tl, hts]; rfl)
  have hb : ((goA f.cs a s.now s.out).1 == 2) = false := by simpa using h2
  rw [hb] at hR hS
  have hX : Only X w w' := hO.more (fun g hg => by
    rcases List.mem_append.1 hg with hg | hg
    · exact h.xg g hg
    · exact h.xr _ rfl g hg)
  have hB : ∀ g ∈ G ++ t.2, B0 ≤ g := fun g hg => by
    rcases List.mem_append.1 hg with hg | hg
    · exact (h.xx g (h.xg g hg)).1
    · exact (h.xx g (h.xr _ rfl g hg)).1
  have hnL : ∀ g, LA.map (·.block) = some g → g ∉ G ++ t.2 := fun g hg hx => by
    have := h.ll g hg
    rcases List.mem_append.1 hx with hx | hx
    · have := h.lg g hx; omega
    · have := h.lr _ rfl g hx; omega
  refine ⟨h1, G', F', labN w lab G' 2, ⟨hR, h.pg.only hO hB, own_only h.row hO hnL, h.tl, fun e => (by cases e), fun a2 e2 => ?_, fun i hi => absurd hi (by rw [htq]; simp), fun k hk => ?_, fun k hk => ?_, fun t3 e3 k hk => ?_, fun i hi => absurd hi (by rw [htq]; simp), fun k hk => by simp [hk], fun k hk => by simp [h.xl k hk], fun t3 e3 k hk => ?_, fun i hi => absurd hi (by rw [htq]; simp), fun k hk => ?_⟩, hX, fun k hk => ?_⟩
  · injection e2 with e2
    subst e2
    refine ⟨hts, _, rfl, ?_, ?_⟩
    · exact hS
    · exact goS_cel 1000 _ hst.2
  · unfold labN
    split
    · rcases hG k hk with e | e
      · exact h.lg k e
      · omega
    · first | rfl | rw [if_pos hk]
  · unfold labN
    rw [if_pos (h.row.lt k hk).2]
    exact h.ll k hk
  · injection e3 with e3
    subst e3
    unfold labN
    split
    · rcases hF k hk with e | e
      · exact h.lr _ rfl k e
      · omega
    · rw [if_neg (hd k hk)]
  · injection e3 with e3
    subst e3
    simp [hk]
  · rcases List.mem_append.1 hk with hk | hk
    · exact ⟨(h.xx k hk).1, Nat.lt_of_lt_of_le (h.xx k hk).2 hO.size⟩
    · rcases List.mem_append.1 hk with hk | hk
      · exact hR.ge k hk
      · exact hS.ge k hk
  · rcases List.mem_append.1 hk with hk | hk
    · exact .inl hk
    · rcases List.mem_append.1 hk with hk | hk
      · exact (hG k hk).imp (h.xg k) id
      · exact (hF k hk).imp (h.xr _ rfl k) id
theorem RunV.wentThr (h : RunV w B0 q f tb rb X s G LA lc rq tq lab) {i : Nat} (hi : i < tq.length) (hrc : s.rc = none) {e : Ending} (hW : GoA w B0 q (tq.getD i zeroQ).1 f G (tq.getD i zeroQ).2 (recV rq) (.slice LA tq.length lc) (s.ts.getD i zeroA).nm (s.ts.getD i zeroA).en (goA f.cs (s.ts.getD i zeroA) s.now s.out) e w') (h2 : (goA f.cs (s.ts.getD i zeroA) s.now s.out).1 ≠ 2) :
    e = .returned (.bool ((goA f.cs (s.ts.getD i zeroA) s.now s.out).1 == 0)) ∧ ∃ X', Run w' B0 q f tb rb X' ⟨(goA f.cs (s.ts.getD i zeroA) s.now s.out).2.now, (goA f.cs (s.ts.getD i zeroA) s.now s.out).2.out, s.rc, s.ts.set i (aftA (s.ts.getD i zeroA) (goA f.cs (s.ts.getD i zeroA) s.now s.out))⟩ ∧ Only X w w' ∧ ∀ k ∈ X', k ∈ X ∨ w.heap.size ≤ k := by
  obtain ⟨h1, G', F', hR, hS, hO, hG, hF, hd⟩ := hW
  have hb : ((goA f.cs (s.ts.getD i zeroA) s.now s.out).1 == 2) = false := by simpa using h2
  rw [hb] at hR hS
  have hti := h.tl
  have hrq := h.r0 hrc
  subst hrq
  have hX : Only X w w' := hO.more (fun g hg => by
    rcases List.mem_append.1 hg with hg | hg
    · exact h.xg g hg
    · exact h.xt i hi g hg)
  have hB : ∀ g ∈ G ++ (tq.getD i zeroQ).2, B0 ≤ g := fun g hg => by
    rcases List.mem_append.1 hg with hg | hg
    · exact (h.xx g (h.xg g hg)).1
    · exact (h.xx g (h.xt i hi g hg)).1
  have hnL : ∀ g, LA.map (·.block) = some g → g ∉ G ++ (tq.getD i zeroQ).2 := fun g hg hx => by
    have := h.ll g hg
    rcases List.mem_append.1 hx with hx | hx
    · have := h.lg g hx; omega
    · have := h.lt i hi g hx; omega
  have hgq : ∀ j, (tq.set i ((tq.getD i zeroQ).1, F')).getD j zeroQ = if j = i then ((tq.getD i zeroQ).1, F') else tq.getD j zeroQ := fun j => by
    by_cases hj : j = i
    · subst hj
      simp [List.getD, hi]
    · rw [if_neg hj]
      simp only [List.getD]
      rw [List.getElem?_set_ne (fun e => hj e.symm)]
  have hga : ∀ j, (s.ts.set i (aftA (s.ts.getD i zeroA) (goA f.cs (s.ts.getD i zeroA) s.now s.out))).getD j zeroA = if j = i then aftA (s.ts.getD i zeroA) (goA f.cs (s.ts.getD i zeroA) s.now s.out) else s.ts.getD j zeroA := fun j => by
    by_cases hj : j = i
    · subst hj
      simp [List.getD, show j < s.ts.length by omega]
    · rw [if_neg hj]
      simp only [List.getD]
      rw [List.getElem?_set_ne (fun e => hj e.symm)]
  have hmap : (tq.set i ((tq.getD i zeroQ).1, F')).map ptrL = tq.map ptrL := by
    rw [List.map_set]
    apply List.ext_getElem?
    intro j
    by_cases hj : j = i
    · subst hj
      simp [hi, ptrL, List.getD]
    · rw [List.getElem?_set_ne (fun e => hj e.symm)]
  refine ⟨h1, X ++ (G' ++ F'), ⟨G', LA, lc, none, tq.set i ((tq.getD i zeroQ).1, F'), labN w lab G' (3 + i), ⟨by rw [List.length_set]; exact hR, h.pg.only hO hB, by rw [List.length_set, hmap]; exact own_only h.row hO hnL, by simp [hti], fun _ => rfl, fun a ha => ?_, fun j hj => ?_, fun k hk => ?_, fun k hk => ?_, fun t3 e3 => (by cases e3), fun j hj k hk => ?_, fun k hk => by simp [hk], fun k hk => by simp [h.xl k hk], fun t3 e3 => (by cases e3), fun j hj k hk => ?_, fun k hk => ?_⟩⟩, hX, fun k hk => ?_⟩
  · dsimp only at ha
    rw [hrc] at ha
    cases ha
  · rw [List.length_set] at hj
    rw [hgq, hga]
    by_cases e : j = i
    · subst e
      rw [if_pos rfl, if_pos rfl]
      exact ⟨hS, goS_cel 1000 _ (h.th j hj).2⟩
    · rw [if_neg e, if_neg e]
      refine ⟨(h.th j hj).1.only hO (fun g hg => ⟨hB g hg, fun hx => ?_⟩), (h.th j hj).2⟩
      have := h.lt j hj g hx
      rcases List.mem_append.1 hg with hg | hg
      · have := h.lg g hg; omega
      · have := h.lt i hi g hg; omega
  · unfold labN
    split
    · rcases hG k hk with e | e
      · exact h.lg k e
      · omega
    · first | rfl | rw [if_pos hk]
  · unfold labN
    rw [if_pos (h.row.lt k hk).2]
    exact h.ll k hk
  · rw [List.length_set] at hj
    rw [hgq] at hk
    unfold labN
    by_cases e : j = i
    · subst e
      rw [if_pos rfl] at hk
      split
      · rcases hF k hk with e | e
        · exact h.lt j hj k e
        · omega
      · rw [if_neg (hd k hk)]
    · rw [if_neg e] at hk
      rw [if_pos (h.xx k (h.xt j hj k hk)).2]
      exact h.lt j hj k hk
  · rw [List.length_set] at hj
    rw [hgq] at hk
    by_cases e : j = i
    · rw [if_pos e] at hk
      simp [hk]
    · rw [if_neg e] at hk
      simp [h.xt j hj k hk]
  · rcases List.mem_append.1 hk with hk | hk
    · exact ⟨(h.xx k hk).1, Nat.lt_of_lt_of_le (h.xx k hk).2 hO.size⟩
    · rcases List.mem_append.1 hk with hk | hk
      · exact hR.ge k hk
      · exact hS.ge k hk
  · rcases List.mem_append.1 hk with hk | hk
    · exact .inl hk
    · rcases List.mem_append.1 hk with hk | hk
      · exact (hG k hk).imp (h.xg k) id
      · exact (hF k hk).imp (h.xt i hi k) id
end
end Go.Proofs.Ytapnnbbbgopobaa.Rn
namespace Go.Proofs.Ytapnnbbbgopobaa.Sx
open Go.RowKit Stp Rm Sp
structure Mch (L : Type) where
  rc : Option L
  l : List L
  now : List Int
  out : List Int
structure Res (L : Type) where
  r : Nat
  ln : L
  now : List Int
  out : List Int
section
variable {L M : Type}
def coreM (go : L → List Int → List Int → Res L) (m : Mch L) (core : Int) : Nat × Mch L :=
  if h : 0 ≤ core ∧ core < m.l.length then
    let x := go (m.l[core.toNat]'(by omega)) m.now m.out
    (x.r, ⟨m.rc, m.l.set core.toNat x.ln, x.now, x.out⟩)
  else (1, m)
def stepM (go : L → List Int → List Int → Res L) (begun : List L) (m : Mch L) (core : Int) : Nat × Mch L :=
  match m.rc with
  | none => coreM go m core
  | some a =>
    let x := go a m.now m.out
    if x.r = 1 then coreM go ⟨none, begun, x.now, x.out⟩ core else (x.r, ⟨some x.ln, m.l, x.now, x.out⟩)
def crashM (start : L) (m : Mch L) : Mch L := ⟨some start, [], m.now, m.out⟩
inductive Two (R : L → M → Prop) : List L → List M → Prop where
  | nil : Two R [] []
  | cons {a : L} {b : M} {l : List L} {k : List M} : R a b → Two R l k → Two R (a :: l) (b :: k)
variable {R : L → M → Prop}
theorem Two.len {l : List L} {k : List M} (h : Two R l k) : l.length = k.length := by induction h with | nil => rfl | cons _ _ ih => simp [ih]
theorem Two.get {l : List L} {k : List M} (h : Two R l k) : ∀ (i : Nat) (hl : i < l.length) (hk : i < k.length), R l[i] k[i] := by
  induction h with
  | nil => intro i hl; exact absurd hl (by simp)
  | cons hr _ ih =>
    intro i hl hk
    cases i with
    | zero => exact hr
    | succ i => exact ih i (by simpa using hl) (by simpa using hk)
theorem Two.set {l : List L} {k : List M} (h : Two R l k) {a : L} {b : M} (hr : R a b) : ∀ i, Two R (l.set i a) (k.set i b) := by
  induction h with
  | nil => intro i; simpa using Two.nil
  | cons h1 h2 ih =>
    intro i
    cases i with
    | zero => exact .cons hr h2
    | succ i => exact .cons h1 (ih i)
def OptR (R : L → M → Prop) : Option L → Option M → Prop
  | none, none => True
  | some a, some b => R a b
  | _, _ => False
structure Both (R : L → M → Prop) (N : Nat) (a : Mch L) (b : Mch M) : Prop where
  rc : OptR R a.rc b.rc
  l : Two R a.l b.l
  now : a.now = b.now
  out : a.out = b.out
  words : a.now.length = N
def Alike (R : L → M → Prop) (N : Nat) (go : L → List Int → List Int → Res L) (go' : M → List Int → List Int → Res M) : Prop :=
  ∀ a b now out, R a b → now.length = N → (go a now out).r ≠ 2 → (go' b now out).r ≠ 2 →
    (go a now out).r = (go' b now out).r ∧ R (go a now out).ln (go' b now out).ln ∧ (go a now out).now = (go' b now out).now ∧ (go a now out).out = (go' b now out).out ∧ (go a now out).now.length = N
variable {N : Nat} {go : L → List Int → List Int → Res L} {go' : M → List Int → List Int → Res M}
theorem core_alike (hA : Alike R N go go') {a : Mch L} {b : Mch M} (h : Both R N a b) (core : Int) (h1 : (coreM go a core).1 ≠ 2) (h2 : (coreM go' b core).1 ≠ 2) :
    (coreM go a core).1 = (coreM go' b core).1 ∧ Both R N (coreM go a core).2 (coreM go' b core).2 := by
  obtain ⟨hr, hl, hn, ho, hw⟩ := h
  have hlen := hl.len
  unfold coreM at h1 h2 ⊢
  by_cases hc : 0 ≤ core ∧ core < a.l.length
  · have hc' : 0 ≤ core ∧ core < b.l.length := by omega
    simp only [dif_pos hc, dif_pos hc'] at h1 h2 ⊢
    rw [← hn, ← ho] at h2 ⊢
    obtain ⟨e1, e2, e3, e4, e5⟩ := hA _ _ a.now a.out (hl.get core.toNat (by omega) (by omega)) hw h1 h2
    exact ⟨e1, hr, hl.set e2 _, e3, e4, e5⟩
  · have hc' : ¬ (0 ≤ core ∧ core < b.l.length) := by omega
    simp only [dif_neg hc, dif_neg hc']
    exact ⟨trivial, hr, hl, hn, ho, hw⟩
theorem step_alike (hA : Alike R N go go') {beg : List L} {beg' : List M} (hb : Two R beg beg') {a : Mch L} {b : Mch M} (h : Both R N a b) (core : Int) (h1 : (stepM go beg a core).1 ≠ 2) (h2 : (stepM go' beg' b core).1 ≠ 2) :
    (stepM go beg a core).1 = (stepM go' beg' b core).1 ∧ Both R N (stepM go beg a core).2 (stepM go' beg' b core).2 := by
  obtain ⟨ar, al, anow, aout⟩ := a
  obtain ⟨br, bl, bnow, bout⟩ := b
  have h0 := h
  obtain ⟨hr, hl, hn, ho, hw⟩ := h
  dsimp only at hr hl hn ho hw
  subst hn ho
  cases ar with
  | none =>
    cases br with
    | none => exact core_alike hA h0 core h1 h2
    | some y => exact hr.elim
  | some x =>
    cases br with
    | none => exact hr.elim
    | some y =>
      unfold stepM at h1 h2 ⊢
      dsimp only at h1 h2 ⊢
      have q1 : (go x anow aout).r ≠ 2 := by
        intro e
        rw [if_neg (by omega)] at h1
        exact h1 e
      have q2 : (go' y anow aout).r ≠ 2 := by
        intro e
        rw [if_neg (by omega)] at h2
        exact h2 e
      obtain ⟨e1, e2, e3, e4, e5⟩ := hA x y anow aout hr hw q1 q2
      rw [e1] at h1 ⊢
      by_cases hz : (go' y anow aout).r = 1
      · rw [if_pos hz] at h1 h2 ⊢
        rw [if_pos hz]
        exact core_alike hA (a := ⟨none, beg, (go x anow aout).now, (go x anow aout).out⟩) (b := ⟨none, beg', (go' y anow aout).now, (go' y anow aout).out⟩) ⟨trivial, hb, e3, e4, e5⟩ core h1 h2
      · rw [if_neg hz, if_neg hz]
        exact ⟨rfl, e2, hl, e3, e4, e5⟩
theorem crash_alike {s : L} {s' : M} (hs : R s s') {a : Mch L} {b : Mch M} (h : Both R N a b) : Both R N (crashM s a) (crashM s' b) := ⟨hs, .nil, h.now, h.out, h.words⟩
end
structure Ln where
  c : List St
  v : List Int
  at_ : Nat
  en : Bool
def goL (a : Ln) (now out : List Int) : Res Ln :=
  ⟨(goV a.c 20000 ⟨a.at_, a.v, now, out⟩).1, ⟨a.c, (goV a.c 20000 ⟨a.at_, a.v, now, out⟩).2.v, (goV a.c 20000 ⟨a.at_, a.v, now, out⟩).2.at_, a.en || (goV a.c 20000 ⟨a.at_, a.v, now, out⟩).1 == 1⟩, (goV a.c 20000 ⟨a.at_, a.v, now, out⟩).2.now, (goV a.c 20000 ⟨a.at_, a.v, now, out⟩).2.out⟩
structure InsR (a b : Ln) : Prop where
  ins : Ins a.c b.c
  at_ : Ins (a.c.drop a.at_) (b.c.drop b.at_)
  v : a.v = b.v
  en : a.en = b.en
end Go.Proofs.Ytapnnbbbgopobaa.Sx
namespace Go.Proofs.Ytapnnbbbgopobaa.Rn
open Go.RowKit Cm Mm Ow Me Ml Lg Stp Rr Lr Rm Sp Sx
/-! ### names -/
def hasN (l : List ByteArray) (s : ByteArray) : Prop := l.any (fun m => Fr.sameS m s) = true
def Ext (l l' : List ByteArray) : Prop := ∀ s, hasN l s → hasN l' s
theorem Ext.refl (l : List ByteArray) : Ext l l := fun _ h => h
theorem Ext.trans {a b c : List ByteArray} (h : Ext a b) (k : Ext b c) : Ext a c := fun s hs => k s (h s hs)
theorem idx_has {l : List ByteArray} {s : ByteArray} (h : hasN l s) : idxN l s < l.length := by
  unfold hasN at h
  unfold idxN
  rw [List.any_eq_true] at h
  obtain ⟨x, hx, e⟩ := h
  exact List.findIdx_lt_length_of_exists ⟨x, hx, e⟩
theorem addN_has (l : List ByteArray) (s : ByteArray) : hasN (Fr.addN l s) s := by
  unfold Fr.addN hasN
  split
  · assumption
  · rw [List.any_append]
    simp [Fr.sameS]
theorem addN_ext (l : List ByteArray) (s : ByteArray) : Ext l (Fr.addN l s) := fun t ht => by
  unfold Fr.addN
  split
  · exact ht
  · unfold hasN at ht ⊢
    rw [List.any_append, ht]
    rfl
theorem exN_ext : ∀ (x : Ex) (l : List ByteArray), Ext l (Fr.exN l x)
  | .num _, l => Ext.refl _
  | .name s, l => addN_ext l s
  | .op _ a b, l => (exN_ext a l).trans (exN_ext b _)
theorem exN_names {names : List ByteArray} : ∀ (x : Ex) (l : List ByteArray), Ext (Fr.exN l x) names → namesE names x
  | .num _, l, _ => trivial
  | .name s, l, h => idx_has (h s (addN_has l s))
  | .op _ a b, l, h => ⟨exN_names a l ((exN_ext b _).trans h), exN_names b _ h⟩
theorem ownN_ext (l : List ByteArray) (h : Hd) : Ext l (Fr.ownN l h) := by
  unfold Fr.ownN
  dsimp only
  have e1 : Ext l (if Fr.isNamed h.kind then Fr.addN l h.name else l) := by split; exact addN_ext _ _; exact Ext.refl _
  have e2 : ∀ l1, Ext l1 (if Fr.isCelled h.kind then Fr.exN l1 h.i else l1) := fun l1 => by split; exact exN_ext _ _; exact Ext.refl _
  have e3 : ∀ l1, Ext l1 (if Fr.isXd h.kind then Fr.exN l1 h.x else l1) := fun l1 => by split; exact exN_ext _ _; exact Ext.refl _
  have e4 : ∀ l1, Ext l1 (if h.kind = 3 then Fr.exN l1 h.y else l1) := fun l1 => by split; exact exN_ext _ _; exact Ext.refl _
  exact ((e1.trans (e2 _)).trans (e3 _)).trans (e4 _)
theorem ownN_ok {cs : List Lay.Cl} {l names : List ByteArray} {h : Hd} (hE : Ext (Fr.ownN l h) names) (hc : Fr.isCelled h.kind = true → cix cs h.cell < cs.length) : Mi.OkH cs names h := by
  unfold Fr.ownN at hE
  dsimp only at hE
  have e2 : ∀ l1, Ext l1 (if Fr.isCelled h.kind then Fr.exN l1 h.i else l1) := fun l1 => by split; exact exN_ext _ _; exact Ext.refl _
  have e3 : ∀ l1, Ext l1 (if Fr.isXd h.kind then Fr.exN l1 h.x else l1) := fun l1 => by split; exact exN_ext _ _; exact Ext.refl _
  have e4 : ∀ l1, Ext l1 (if h.kind = 3 then Fr.exN l1 h.y else l1) := fun l1 => by split; exact exN_ext _ _; exact Ext.refl _
  refine ⟨fun hk => ?_, fun hk => ?_, fun hk => ?_, fun hk => ?_, fun hk => ?_⟩
  · have hn : Fr.isNamed h.kind = true := by unfold Fr.isNamed; rcases hk with e | e | e <;> rw [e] <;> decide
    rw [hn] at hE
    exact idx_has (hE _ (e4 _ _ (e3 _ _ (e2 _ _ (addN_has l h.name)))))
  · have hn : Fr.isCelled h.kind = true := by unfold Fr.isCelled; rcases hk with e | e | e <;> rw [e] <;> decide
    rw [hn] at hE
    exact exN_names h.i _ (((e3 _).trans (e4 _)).trans hE)
  · exact hc (by unfold Fr.isCelled; rcases hk with e | e | e <;> rw [e] <;> decide)
  · have hn : Fr.isXd h.kind = true := by unfold Fr.isXd; rcases hk with e | e | e | e | e | e <;> rw [e] <;> decide
    rw [hn] at hE
    exact exN_names h.x _ ((e4 _).trans hE)
  · rw [if_pos hk] at hE
    exact exN_names h.y _ hE
theorem namesN_ext : ∀ (b : Bd) (l : List ByteArray), Ext l (Fr.namesN l b)
  | .nil, l => Ext.refl _
  | .cons h body els rest, l => by
    rw [Fr.namesN]
    have e2 : ∀ l1, Ext l1 (if h.kind = 6 ∨ h.kind = 7 then Fr.namesN l1 body else l1) := fun l1 => by split; exact namesN_ext body _; exact Ext.refl _
    have e3 : ∀ l1, Ext l1 (if h.kind = 6 then Fr.namesN l1 els else l1) := fun l1 => by split; exact namesN_ext els _; exact Ext.refl _
    exact (((ownN_ext l h).trans (e2 _)).trans (e3 _)).trans (namesN_ext rest _)
theorem ok_body {cs : List Lay.Cl} {names : List ByteArray} : ∀ (b : Bd) (l : List ByteArray), CelB cs b → Ext (Fr.namesN l b) names → Mi.OkB cs names b
  | .nil, l, _, _ => trivial
  | .cons h body els rest, l, hc, hE => by
    rw [Fr.namesN] at hE
    have e2 : ∀ l1, Ext l1 (if h.kind = 6 ∨ h.kind = 7 then Fr.namesN l1 body else l1) := fun l1 => by split; exact namesN_ext body _; exact Ext.refl _
    have e3 : ∀ l1, Ext l1 (if h.kind = 6 then Fr.namesN l1 els else l1) := fun l1 => by split; exact namesN_ext els _; exact Ext.refl _
    refine ⟨ownN_ok ((((e2 _).trans (e3 _)).trans (namesN_ext rest _)).trans hE) hc.1, fun h67 => ?_, fun h6 => ?_, ok_body rest _ hc.2.2.2 hE⟩
    · refine ok_body body (Fr.ownN l h) (hc.2.1 h67) ?_
      have := ((e3 (if h.kind = 6 ∨ h.kind = 7 then Fr.namesN (Fr.ownN l h) body else Fr.ownN l h)).trans (namesN_ext rest _)).trans hE
      rw [if_pos h67] at this
      exact this
    · refine ok_body els (if h.kind = 6 ∨ h.kind = 7 then Fr.namesN (Fr.ownN l h) body else Fr.ownN l h) (hc.2.2.1 h6) ?_
      have := (namesN_ext rest (if h.kind = 6 then Fr.namesN (if h.kind = 6 ∨ h.kind = 7 then Fr.namesN (Fr.ownN l h) body else Fr.ownN l h) els else (if h.kind = 6 ∨ h.kind = 7 then Fr.namesN (Fr.ownN l h) body else Fr.ownN l h))).trans hE
      rw [if_pos h6] at this
      exact this
/-! ### what is put in, and left out -/
theorem ins_trim {d : List St} : ∀ {c : List St}, Ins c d → ∀ {e : List St}, Ins e d → (∀ s ∈ c, s.kind ≠ 6 ∧ s.kind ≠ 7) → Ins c e := by
  intro c hc
  induction hc with
  | nil => intro e he _; cases he; exact .nil
  | cons s hc ih =>
    intro e he hn
    cases he with
    | cons _ he => exact .cons s (ih he (fun t ht => hn t (List.mem_cons_of_mem _ ht)))
    | skip _ hk he => have := hn s (List.mem_cons_self); omega
  | skip s hk hc ih =>
    intro e he hn
    cases he with
    | cons _ he => exact .skip s hk (ih he hn)
    | skip _ hk he => exact ih he hn
def noF (c : List St) : Bool := c.all fun s => !(s.kind == 6) && !(s.kind == 7)
theorem noF_app (a b : List St) : noF (a ++ b) = (noF a && noF b) := by unfold noF; rw [List.all_append]
theorem noF_codeE (names : List ByteArray) : ∀ (x : Ex) (k : Nat), noF (codeE names x k) = true
  | .num _, _ => rfl
  | .name _, _ => rfl
  | .op o a b, k => by rw [codeE, noF_app, noF_app, noF_codeE names a, noF_codeE names b]; rfl
theorem noF_codeP (cells : List Cl) (names : List ByteArray) (h : Hd) (k : Nat) : noF (codeP cells names h k) = true := by
  rw [codeP, noF_app, noF_codeE]; rfl
theorem noF_codeH (cells : List Cl) (names : List ByteArray) (h : Hd) (k : Nat) : noF (codeH cells names h k) = true := by
  unfold codeH
  repeat' split
  all_goals first
    | rfl
    | (simp only [noF_app, noF_codeE, noF_codeP, Bool.true_and]; rfl)
theorem noF_codeB (cells : List Cl) (names : List ByteArray) : ∀ (b : Bd) (k l : Nat), noF (codeB cells names b k l) = true
  | .nil, k, l => rfl
  | .cons h body els rest, k, l => by
    rw [codeB]
    split
    · simp only [noF_app, noF_codeE, noF_codeB cells names body, noF_codeB cells names els, noF_codeB cells names rest, Bool.true_and, Bool.and_true]; rfl
    · split
      · simp only [noF_app, noF_codeE, noF_codeB cells names body, noF_codeB cells names rest, Bool.true_and, Bool.and_true]; rfl
      · simp only [noF_app, noF_codeH, noF_codeB cells names rest, Bool.true_and, Bool.and_true]
theorem noF_of (cs : List Lay.Cl) (b : Bd) : ∀ s ∈ codeOf cs b, s.kind ≠ 6 ∧ s.kind ≠ 7 := by
  have h : noF (codeOf cs b) = true := by unfold codeOf; rw [noF_app, noF_codeB]; rfl
  intro s hs
  unfold noF at h
  rw [List.all_eq_true] at h
  simpa using h s hs
theorem goS_r {cs : List Lay.Cl} {nm : List ByteArray} : ∀ (k : Nat) (s : Ss), (goS cs nm k s).1 = 0 ∨ (goS cs nm k s).1 = 1 ∨ (goS cs nm k s).1 = 2
  | 0, s => by
    rw [goS]
    split
    · exact .inr (.inr rfl)
    · exact .inr (.inl rfl)
  | k + 1, s => by
    rw [goS]
    split
    · split
      · exact .inl rfl
      · exact goS_r k _
    · exact .inr (.inl rfl)
/-! ### a strand and a thread -/
structure MR (cs : List Lay.Cl) (a : As) (m : Ln) : Prop where
  cont : Mi.Cont cs a.nm m.c m.v.length a.st m.at_
  agree : Agree a.nm.length m.v a.v
  nd : (Mi.labs m.c).Nodup
  en : a.en = m.en
def AlR (cs : List Lay.Cl) (a : As) (b : Ln) : Prop := ∃ m, MR cs a m ∧ InsR m b
def goR (cs : List Lay.Cl) (a : As) (now out : List Int) : Res As := ⟨(goA cs a now out).1, aftA a (goA cs a now out), (goA cs a now out).2.now, (goA cs a now out).2.out⟩
theorem al_alike {cs : List Lay.Cl} (hcs : CellsOk cs) {N : Nat} (hN1 : cwords cs = N) (hN2 : N ≤ 1024) : Sx.Alike (AlR cs) N (goR cs) goL := by
  intro a b now out hR hN h1 h2
  obtain ⟨m, hm, hi⟩ := hR
  have hrel : Mi.Rel cs a.nm m.c m.v.length N ⟨a.st, a.v, now, out⟩ ⟨m.at_, m.v, now, out⟩ := ⟨hm.cont, hm.agree, rfl, rfl, rfl, hN⟩
  obtain ⟨n, q, hq, hr⟩ := Mi.sim hcs hN1 hN2 hm.nd 1000 _ _ hrel h1
  have e0 := hq 0
  have h1' : (goA cs a now out).1 ≠ 2 := h1
  have hgo : goV m.c n ⟨m.at_, m.v, now, out⟩ = ((goA cs a now out).1, q) := e0
  have h2' : (goV b.c 20000 ⟨b.at_, b.v, now, out⟩).1 ≠ 2 := h2
  obtain ⟨e1, e2⟩ := go_sim hi.ins (n + 20000) n 20000 ⟨m.at_, m.v, now, out⟩ ⟨b.at_, b.v, now, out⟩ (by omega) ⟨hi.at_, hi.v, rfl, rfl⟩ (by rw [hgo]; exact h1') h2'
  rw [hgo] at e1 e2
  dsimp only at e1 e2
  refine ⟨e1, ⟨⟨m.c, q.v, q.at_, m.en || (goA cs a now out).1 == 1⟩, ⟨?_, ?_, hm.nd, ?_⟩, ⟨hi.ins, e2.at_, e2.v, ?_⟩⟩, ?_, ?_, ?_⟩
  · have := hr.cont
    rw [← hr.len] at this
    exact this
  · exact hr.agree
  · show (if (goA cs a now out).1 = 0 then a.en else (goA cs a now out).1 == 1) = (m.en || (goA cs a now out).1 == 1)
    have h3 := goS_r (cs := cs) (nm := a.nm) 1000 ⟨a.st, a.v, now, out⟩
    have h3' : (goA cs a now out).1 = 0 ∨ (goA cs a now out).1 = 1 ∨ (goA cs a now out).1 = 2 := h3
    rcases h3' with e | e | e
    · rw [e, if_pos rfl, hm.en]; simp
    · rw [e, if_neg (by decide)]; simp
    · exact absurd e h1'
  · show (m.en || (goA cs a now out).1 == 1) = (b.en || (goV b.c 20000 ⟨b.at_, b.v, now, out⟩).1 == 1)
    rw [hi.en, e1]
  · show (goA cs a now out).2.now = (goV b.c 20000 ⟨b.at_, b.v, now, out⟩).2.now
    rw [← e2.now]
    exact hr.now.symm
  · show (goA cs a now out).2.out = (goV b.c 20000 ⟨b.at_, b.v, now, out⟩).2.out
    rw [← e2.out]
    exact hr.out.symm
  · exact hr.words
end Go.Proofs.Ytapnnbbbgopobaa.Rn
namespace Go.Proofs.Ytapnnbbbgopobaa.Sc
open Go.RowKit Cm Mm Ow Ow2 Me Stp StW Rm Sp Sn Sa
def Stc (w : World) (g : Nat) (s : St) : Prop := w.heap[g]? = some (.cells #[.int .i64 s.kind, .int .i64 s.d, .int .i64 s.a, .int .i64 s.b, .int .i64 s.c, .int .i64 s.to, .int .i64 s.cell, .int .u64 s.n, .int .u8 s.op] 55 (0, 0))
theorem Stc.same {w w' : World} {g : Nat} {s : St} (h : Stc w g s) (hb : w'.heap[g]? = w.heap[g]?) : Stc w' g s := hb.trans h
theorem Stc.lt {w : World} {g : Nat} {s : St} (h : Stc w g s) : g < w.heap.size := (Array.getElem?_eq_some_iff.1 h).1
theorem Stc.far {w w' : World} {g : Nat} {s : St} {G : List Nat} (h : Stc w g s) (ho : Only G w w') (hn : g ∉ G) : Stc w' g s := h.same (ho.block g h.lt hn)
theorem Stc.keep {w w' : World} {g : Nat} {s : St} (h : Stc w g s) (hb : Below w.heap.size w w') : Stc w' g s := h.same (hb.block g h.lt)
theorem Stc.c0 {w : World} {g : Nat} {s : St} (h : Stc w g s) : w.cell? ⟨g, 0, none⟩ = some (.int .i64 s.kind) := by unfold Stc at h; simp [World.cell?, h]
theorem Stc.c1 {w : World} {g : Nat} {s : St} (h : Stc w g s) : w.cell? ⟨g, 1, none⟩ = some (.int .i64 s.d) := by unfold Stc at h; simp [World.cell?, h]
theorem Stc.c2 {w : World} {g : Nat} {s : St} (h : Stc w g s) : w.cell? ⟨g, 2, none⟩ = some (.int .i64 s.a) := by unfold Stc at h; simp [World.cell?, h]
theorem Stc.c3 {w : World} {g : Nat} {s : St} (h : Stc w g s) : w.cell? ⟨g, 3, none⟩ = some (.int .i64 s.b) := by unfold Stc at h; simp [World.cell?, h]
theorem Stc.c4 {w : World} {g : Nat} {s : St} (h : Stc w g s) : w.cell? ⟨g, 4, none⟩ = some (.int .i64 s.c) := by unfold Stc at h; simp [World.cell?, h]
theorem Stc.c5 {w : World} {g : Nat} {s : St} (h : Stc w g s) : w.cell? ⟨g, 5, none⟩ = some (.int .i64 s.to) := by unfold Stc at h; simp [World.cell?, h]
theorem Stc.c6 {w : World} {g : Nat} {s : St} (h : Stc w g s) : w.cell? ⟨g, 6, none⟩ = some (.int .i64 s.cell) := by unfold Stc at h; simp [World.cell?, h]
theorem Stc.c7 {w : World} {g : Nat} {s : St} (h : Stc w g s) : w.cell? ⟨g, 7, none⟩ = some (.int .u64 s.n) := by unfold Stc at h; simp [World.cell?, h]
theorem Stc.c8 {w : World} {g : Nat} {s : St} (h : Stc w g s) : w.cell? ⟨g, 8, none⟩ = some (.int .u8 s.op) := by unfold Stc at h; simp [World.cell?, h]
theorem Stc.new (w : World) (s : St) : Stc (w.alloc (.cells #[.int .i64 s.kind, .int .i64 s.d, .int .i64 s.a, .int .i64 s.b, .int .i64 s.c, .int .i64 s.to, .int .i64 s.cell, .int .u64 s.n, .int .u8 s.op] 55)) w.heap.size s := heap_alloc_new w _
end Go.Proofs.Ytapnnbbbgopobaa.Sc
namespace Go.Proofs.Ytapnnbbbgopobaa.Sg
open Go.RowKit Cm Mm Ow Ow2 Me Stp StW Rm Sp Sn Sa Sc
theorem goV_quiet {c : List St} {k : Nat} {p : Ps} {s : St} (hs : c.getD p.at_ zeroSt = s) (hp : p.at_ < c.length) (hq : isAct s.kind = false) : goV c (k + 1) p = goV c k (quietV c s { p with at_ := p.at_ + 1 }) := by
  rw [goV, if_neg (by omega), hs, hq]; rfl
theorem goV_act {c : List St} {k : Nat} {p : Ps} {s : St} (hs : c.getD p.at_ zeroSt = s) (hp : p.at_ < c.length) (hq : isAct s.kind = true) : goV c (k + 1) p = (0, actV s { p with at_ := p.at_ + 1 }) := by
  rw [goV, if_neg (by omega), hs, hq]; rfl
theorem goV_stuck {c : List St} {p : Ps} (hp : p.at_ < c.length) : goV c 0 p = (2, p) := by
  rw [goV, if_neg (by omega)]
theorem jumpV_le (c : List St) (to9 : Int) : jumpV c to9 ≤ c.length := List.findIdx_le_length
theorem quietV_now (c : List St) (s : St) (p : Ps) : (quietV c s p).now = p.now ∧ (quietV c s p).out = p.out := by
  unfold quietV; repeat' split
  all_goals exact ⟨rfl, rfl⟩
theorem quietV_at (c : List St) (s : St) (p : Ps) (h : p.at_ ≤ c.length) : (quietV c s p).at_ ≤ c.length := by
  unfold quietV; repeat' split
  all_goals first | exact h | exact jumpV_le _ _ | exact Nat.le_refl _
theorem actV_at (s : St) (p : Ps) : (actV s p).at_ = p.at_ := by
  unfold actV; repeat' split
  all_goals rfl
theorem goV_at (c : List St) : ∀ (k : Nat) (p : Ps), p.at_ ≤ c.length → (goV c k p).2.at_ ≤ c.length := by
  intro k
  induction k with
  | zero => intro p h; rw [goV]; split <;> exact h
  | succ k ih =>
    intro p h
    rw [goV]
    split
    · exact h
    · split
      · rw [actV_at]; show p.at_ + 1 ≤ _; omega
      · exact ih _ (quietV_at _ _ _ (by show p.at_ + 1 ≤ _; omega))
theorem quiet0 {c : List St} {s : St} {a : Nat} {v now out : List Int} (h : s.kind = 0) : quietV c s ⟨a, v, now, out⟩ = ⟨a, putV v s.d s.n, now, out⟩ := by unfold quietV; rw [if_pos h]
theorem quiet1 {c : List St} {s : St} {a : Nat} {v now out : List Int} (h : s.kind = 1) : quietV c s ⟨a, v, now, out⟩ = ⟨a, putV v s.d (getV v s.a), now, out⟩ := by unfold quietV; rw [h]; rfl
theorem quiet2 {c : List St} {s : St} {a : Nat} {v now out : List Int} (h : s.kind = 2) : quietV c s ⟨a, v, now, out⟩ = ⟨a, putV v s.d (opV s.op (getV v s.a) (getV v s.b)), now, out⟩ := by unfold quietV; rw [h]; rfl
theorem quiet10 {c : List St} {s : St} {a : Nat} {v now out : List Int} (h : s.kind = 10) : quietV c s ⟨a, v, now, out⟩ = ⟨jumpV c s.to, v, now, out⟩ := by unfold quietV; rw [h]; rfl
theorem quiet11 {c : List St} {s : St} {a : Nat} {v now out : List Int} (h : s.kind = 11) : quietV c s ⟨a, v, now, out⟩ = ⟨if getV v s.a = 0 then jumpV c s.to else a, v, now, out⟩ := by unfold quietV; rw [h]; simp only [show ¬ (11 : Int) = 0 by decide, show ¬ (11 : Int) = 1 by decide, show ¬ (11 : Int) = 2 by decide, show ¬ (11 : Int) = 10 by decide, if_false, if_true]; split <;> rfl
theorem quiet12 {c : List St} {s : St} {a : Nat} {v now out : List Int} (h : s.kind = 12) : quietV c s ⟨a, v, now, out⟩ = ⟨c.length, v, now, out⟩ := by unfold quietV; rw [h]; rfl
theorem quietO {c : List St} {s : St} {p : Ps} (h : ¬ s.kind = 0 ∧ ¬ s.kind = 1 ∧ ¬ s.kind = 2 ∧ ¬ s.kind = 10 ∧ ¬ s.kind = 11 ∧ ¬ s.kind = 12) : quietV c s p = p := by
  obtain ⟨h1, h2, h3, h4, h5, h6⟩ := h
  unfold quietV; rw [if_neg h1, if_neg h2, if_neg h3, if_neg h4, if_neg h5, if_neg h6]
end Go.Proofs.Ytapnnbbbgopobaa.Sg
namespace Go.Proofs.Ytapnnbbbgopobaa.Sd
open Go.RowKit Cm Mm Ow Ow2 Me Stp StW Rm Sp Sn Sa Sc Sg
def c400 (x : Int) : Nat := (max 0 (min x 400)).toNat
theorem c400_int (x : Int) : max 0 (min x 400) = (c400 x : Int) := by unfold c400; omega
theorem c400_le (x : Int) : c400 x ≤ 400 := by unfold c400; omega
def freshV (x : Int) : List Int := List.replicate (c400 x) 0
theorem row_made4 {w : World} {g n : Nat} {e : TypeId} {z : Value} (hn : n ≤ 400) (h : w.heap[g]? = some (.cells (madeCells #[z] n) e (0, 0))) : w.ownsRow 0 e 1 (.slice (some ⟨g, 0, none⟩) n n) n (List.replicate n z) := by
  refine ⟨by simp, .inr ⟨g, n, _, rfl, Nat.zero_le _, h, Nat.le_refl _, by unfold maxLen; omega, by rw [size_madeCells]; omega, ?_⟩⟩
  rw [toList_madeCells_one, Nat.mul_one]
  exact List.take_of_length_le (by simp)
end Go.Proofs.Ytapnnbbbgopobaa.Sd
namespace Go.Proofs.Ytapnnbbbgopobaa.Sr
open Go.RowKit Cm Mm Ow Ow2 Me Stp StW Rm Sp Sn Sa Sc Sg Sd Sx
open ElM (Cd zeroCd cdL okCd IsCd)
theorem isSt_only0 {w w' : World} {G : List Nat} {A : Option Addr} {n cap : Nat} {l : List St} (h : IsSt w A n cap l) (ho : Only G w w') (hn : 0 < n → ∀ g, A.map (·.block) = some g → g ∉ G) : IsSt w' A n cap l :=
  ⟨h.1, h.2.le, h.2.cap_le, fun h0 => by
    obtain ⟨b, o, e, hl, hc⟩ := h.2.at_ h0
    exact ⟨b, o, e, Nat.lt_of_lt_of_le hl ho.size, fun i hi j hj => (ho.cell (p := ⟨b, o + (i * 9 + j), none⟩) hl (hn h0 b (by rw [e]; rfl))).trans (hc i hi j hj)⟩⟩
structure Cod (w : World) (B : Nat → Prop) (c : Cd) : Prop where
  n : c.n ≤ 65536
  st : IsSt w c.A c.n c.cap c.l
  low : 0 < c.n → ∀ g, c.A.map (·.block) = some g → B g
theorem Cod.far {w w' : World} {B : Nat → Prop} {c : Cd} {X : List Nat} (h : Cod w B c) (ho : Only X w w') (hX : ∀ k ∈ X, ¬ B k) : Cod w' B c :=
  ⟨h.n, isSt_only0 h.st ho (fun h0 g hg hm => hX g hm (h.low h0 g hg)), h.low⟩
abbrev zeroU : Value × List Nat := (.pointer none, [])
structure Prt where
  H : Hm
  Fm : List Nat
  Fo : List Nat
  Fr : List Nat
  O : Option Addr
  oc : Nat
  kept : List Int
  ver : List Int
  LA : Option Addr
  lc : Nat
  us : List (Value × List Nat)
  CA : Option Addr
  cc : Nat
  lab : Nat → Nat
theorem isCd_far {w w' : World} {B : Nat → Prop} {CA : Option Addr} {cc : Nat} {cs : List Cd} {X : List Nat} (h : IsCd w CA cs.length cc cs) (hc : ∀ i, i < cs.length → Cod w B (cs.getD i zeroCd)) (hf : 0 < cs.length → ∀ g, CA.map (·.block) = some g → B g)
    (ho : Only X w w') (hX : ∀ k ∈ X, ¬ B k) : IsCd w' CA cs.length cc cs :=
  ⟨h.1, ⟨h.2.1.le, h.2.1.cap_le, fun h0 => by
    obtain ⟨b, o, e, hl, hc⟩ := h.2.1.at_ h0
    exact ⟨b, o, e, Nat.lt_of_lt_of_le hl ho.size, fun i hi j hj => (ho.cell (p := ⟨b, o + (i * 3 + j), none⟩) hl (fun hm => hX b hm (hf h0 b (by rw [e]; rfl)))).trans (hc i hi j hj)⟩⟩, fun i hi => ⟨(h.2.2 i hi).1, (h.2.2 i hi).2.1, ((hc i hi).far ho hX).st⟩⟩
section
variable {w w' : World} {q : Nat} {B : Nat → Prop} {G : List Nat} {s : Cd} {cs : List Cd} {m : Mch Ln} {t : Prt}
theorem goV_same (c : List St) : ∀ (k : Nat) (p : Ps), (goV c k p).1 ≠ 0 → (goV c k p).2.now = p.now ∧ (goV c k p).2.out = p.out
  | 0, p, _ => by unfold goV; split <;> exact ⟨rfl, rfl⟩
  | k + 1, p, h => by
    rw [goV] at h ⊢
    by_cases h1 : c.length ≤ p.at_
    · rw [if_pos h1]; exact ⟨rfl, rfl⟩
    · rw [if_neg h1] at h ⊢
      by_cases h2 : isAct (c.getD p.at_ zeroSt).kind = true
      · rw [if_pos h2] at h; exact absurd rfl h
      · rw [if_neg h2] at h ⊢
        obtain ⟨e1, e2⟩ := goV_same c k _ h
        obtain ⟨f1, f2⟩ := quietV_now c (c.getD p.at_ zeroSt) { p with at_ := p.at_ + 1 }
        exact ⟨e1.trans f1, e2.trans f2⟩
theorem goL_same {a : Ln} {now out : List Int} (h : (goL a now out).r ≠ 0) : (goL a now out).now = now ∧ (goL a now out).out = out := goV_same a.c 20000 ⟨a.at_, a.v, now, out⟩ h
end
end Go.Proofs.Ytapnnbbbgopobaa.Sr
namespace Go.Proofs.Ytapnnbbbgopobaa.Sr
open Go.RowKit Cm Mm Ow Ow2 Me Stp StW Rm Sp Sn Sa Sc Sg Sd Sx
open ElM (Cd zeroCd cdL okCd IsCd)
def lnOf (c : Cd) : Ln := ⟨c.l, freshV c.x, 0, false⟩
def begunL (cs : List Cd) : List Ln := (cs.take 4).map lnOf
theorem isSt_lt {w : World} {A : Option Addr} {n cap : Nat} {l : List St} (h : IsSt w A n cap l) (h0 : 0 < n) : ∀ g, A.map (·.block) = some g → g < w.heap.size := fun g hg => by
  obtain ⟨b, o, e, hl, _⟩ := h.2.at_ h0
  rw [e] at hg
  cases hg
  exact hl
section
variable {w w' : World} {q : Nat} {B : Nat → Prop} {G : List Nat} {s : Cd} {cs : List Cd} {m : Mch Ln} {t : Prt}
end
end Go.Proofs.Ytapnnbbbgopobaa.Sr
namespace Go.Proofs.Ytapnnbbbgopobaa.Sr
open Go.RowKit Cm Mm Ow Ow2 Me Stp StW Rm Sp Sn Sa Sc Sg Sd Sx
open ElM (Cd zeroCd cdL okCd IsCd)
section
variable {w w' : World} {q : Nat} {B : Nat → Prop} {G : List Nat} {s : Cd} {cs : List Cd} {m : Mch Ln} {t : Prt}
end
theorem goV_r (c : List St) : ∀ (k : Nat) (p : Ps), (goV c k p).1 ≤ 2
  | 0, p => by unfold goV; split <;> simp
  | k + 1, p => by
    rw [goV]
    split
    · simp
    · split
      · simp
      · exact goV_r c k _
theorem goL_r (a : Ln) (now out : List Int) : (goL a now out).r = 0 ∨ (goL a now out).r = 1 ∨ (goL a now out).r = 2 := by
  have := goV_r a.c 20000 ⟨a.at_, a.v, now, out⟩
  have e : (goL a now out).r = (goV a.c 20000 ⟨a.at_, a.v, now, out⟩).1 := rfl
  omega
theorem step_some {beg l : List Ln} {a : Ln} {now out : List Int} {core : Int} (h : (goL a now out).r ≠ 1) : stepM goL beg ⟨some a, l, now, out⟩ core = ((goL a now out).r, ⟨some (goL a now out).ln, l, (goL a now out).now, (goL a now out).out⟩) := by
  unfold stepM; dsimp only; rw [if_neg h]
theorem step_end {beg l : List Ln} {a : Ln} {now out : List Int} {core : Int} (h : (goL a now out).r = 1) : stepM goL beg ⟨some a, l, now, out⟩ core = coreM goL ⟨none, beg, now, out⟩ core := by
  unfold stepM; dsimp only; rw [if_pos h]
  obtain ⟨e1, e2⟩ := goL_same (a := a) (now := now) (out := out) (by rw [h]; decide)
  rw [e1, e2]
theorem begun_take {cs : List Cd} {k : Nat} (h : k ≤ 4) (h2 : k ≤ cs.length) (h3 : ¬ k < cs.length ∨ ¬ k < 4) : (cs.take k).map lnOf = begunL cs := by
  unfold begunL
  by_cases e : k = 4
  · rw [e]
  · rw [List.take_of_length_le (by omega : cs.length ≤ k), List.take_of_length_le (by omega : cs.length ≤ 4)]
theorem begun_snoc {cs : List Cd} {k : Nat} (h : k < cs.length) : (cs.take (k + 1)).map lnOf = (cs.take k).map lnOf ++ [lnOf (cs.getD k zeroCd)] := by
  rw [List.take_add_one, List.map_append]; simp only [List.getD, List.getElem?_eq_getElem h, Option.toList_some, List.map_cons, List.map_nil, Option.getD_some]
end Go.Proofs.Ytapnnbbbgopobaa.Sr
namespace Go.Proofs.Ytapnnbbbgopobaa.Sr
open Go.RowKit Cm Mm Ow Ow2 Me Stp StW Rm Sp Sn Sa Sc Sg Sd Sx
open ElM (Cd zeroCd cdL okCd IsCd)
end Go.Proofs.Ytapnnbbbgopobaa.Sr
namespace Go.Proofs.Ytapnnbbbgopobaa.Sr
open Go.RowKit Go.WideShapes Go.ChangeShapes Cm Mm Ow Ow2 Me Stp StW Rm Sp Sn Sa Sc Sg Sd Sx
open ElM (Cd zeroCd cdL okCd IsCd)
def IsI (w : World) (A : Option Addr) (n cap : Nat) (l : List Int) : Prop := l.length = n ∧ Sl w A n cap 1 (fun i => [.int .i64 (l.getD i 0)])
theorem IsI.keep {w w' : World} {A : Option Addr} {n cap : Nat} {l : List Int} (h : IsI w A n cap l) (hb : Below w.heap.size w w') : IsI w' A n cap l := ⟨h.1, h.2.keep hb⟩
theorem IsI.cell {w : World} {A : Option Addr} {n cap : Nat} {l : List Int} (h : IsI w A n cap l) {k : Nat} (hk : k < n) : ∃ b o, A = some ⟨b, o, none⟩ ∧ b < w.heap.size ∧ w.cell? ⟨b, o + k, none⟩ = some (.int .i64 (l.getD k 0)) := by
  obtain ⟨b, o, e, hl, hc⟩ := h.2.at_ (by omega)
  have := hc k hk 0 (by omega)
  rw [Nat.mul_one, Nat.add_zero] at this
  exact ⟨b, o, e, hl, this⟩
set_option maxRecDepth 100000 in
theorem open_ints {H : Type} {enc : TypeId × Value → H} {w : World} {v : Value} {d : DataW H} {p : List MemPlace} {r : Reach} {b0 : Nat}
    (h : DataW.Trod enc Try.prog w 0 (fun _ => true) true 23 v d p) (hok : Value.okWide Try.prog w r b0 23 v) :
    ∃ A n cap, ∃ l : List Int, v = .slice A n cap ∧ IsI w A n cap l := by
  obtain ⟨a0, len, cap0, rfl⟩ := okWide_slice Try.underlying23 hok
  obtain ⟨fuel, hf⟩ := h
  obtain ⟨A, n, cap, l, hcs, hl, hsl, hk, _⟩ := open_sl (α := Int) 0 (fun z => [.int .i64 z]) (fun _ => True) 1 Try.underlying23 (by kernel_rfl) (by decide) (fun m cs y hy => by
    obtain ⟨z0, e0, _, h0⟩ := DataW.trod_int Try.underlying3 hy
    exact ⟨z0, e0, trivial⟩) hf
  have hcs' : [Value.slice a0 len cap0] = [Value.slice A n cap] := hcs
  injection hcs' with hcs'
  exact ⟨A, n, cap, l, hcs', ⟨hl, hsl⟩⟩
theorem elCd : El Try.prog 35 34 3 40 := by
  obtain ⟨i, h1, h2, h3, h4⟩ := info_parts (P := Try.prog) (e := 34) (z := .agg #[.int .i64 0, .int .i64 0, .slice none 0 0]) (size := 3) (bytes := 40) (by kernel_rfl)
  exact ⟨Try.underlying35, ⟨i, _, h1, h2, h3, h4, rfl⟩, by decide⟩
theorem cd_ones (c : Cd) : ∀ y ∈ [cdL c], ∀ u ∈ y, u.oneCell' = true := fun y hy u hu => by
  simp at hy; subst hy
  simp [cdL] at hu
  rcases hu with rfl | rfl | rfl <;> rfl
theorem isCd_own {w : World} {B : Nat} {A : Option Addr} {n c : Nat} {l : List Cd} (h : Own w B 34 3 A n c (l.map cdL)) (hk : ∀ i, i < n → okCd w (l.getD i zeroCd)) : IsCd w A n c l := by
  have hl : l.length = n := by have := h.len; simpa using this
  refine ⟨hl, h.sl.ext (fun i hi => ?_), hk⟩
  simp [List.getD, show i < l.length by omega]
section
variable {w w' : World} {W qa qb : Nat} {Ca Cb : Nat → Prop} {sa sb : Cd} {csa csb : List Cd} {ma mb : Mch Ln}
end
end Go.Proofs.Ytapnnbbbgopobaa.Sr
