/-
  WALKS: the reference's strand: put, over.
-/
import Derived.Test.YtapnnbbbgopobaaG22
import Derived.Test.YtapnnbbbgopobaaG21
set_option linter.unusedVariables false
set_option linter.unusedSimpArgs false
namespace Go.Proofs.Ytapnnbbbgopobaa.Rn
open Go.RowKit Cm Mm Ow Me Ml Lg Stp Rr Lr
def Sr (w : World) (B0 q : Nat) (F : List Nat) (names : List ByteArray) (v : List Int) (st : List Bd) (sk en : Bool) : Prop := ∃ nA nn nc vA vc KA kn kc rows, SrV w B0 q F names v sk en nA nn nc vA vc KA kn kc rows ∧ stk rows = st
section
variable {w w' : World} {B0 q : Nat} {F : List Nat} {names : List ByteArray} {v : List Int} {st : List Bd} {sk en : Bool} {nA : Option Addr} {nn nc : Nat} {vA : Option Addr} {vc : Nat} {KA : Option Addr} {kn kc : Nat} {rows : List Lv}
theorem SrV.qlt (h : SrV w B0 q F names v sk en nA nn nc vA vc KA kn kc rows) : q < w.heap.size := (Array.getElem?_eq_some_iff.1 h.blk).1
theorem SrV.y0 (h : SrV w B0 q F names v sk en nA nn nc vA vc KA kn kc rows) : w.cell? ⟨q, 0, none⟩ = some (.slice nA nn nc) := by simp only [World.cell?, h.blk]; simp
theorem SrV.y1 (h : SrV w B0 q F names v sk en nA nn nc vA vc KA kn kc rows) : w.cell? ⟨q, 1, none⟩ = some (.slice vA nn vc) := by simp only [World.cell?, h.blk]; simp
theorem SrV.y2 (h : SrV w B0 q F names v sk en nA nn nc vA vc KA kn kc rows) : w.cell? ⟨q, 2, none⟩ = some (.slice KA kn kc) := by simp only [World.cell?, h.blk]; simp
theorem SrV.y3 (h : SrV w B0 q F names v sk en nA nn nc vA vc KA kn kc rows) : w.cell? ⟨q, 3, none⟩ = some (.bool sk) := by simp only [World.cell?, h.blk]; simp
theorem SrV.y4 (h : SrV w B0 q F names v sk en nA nn nc vA vc KA kn kc rows) : w.cell? ⟨q, 4, none⟩ = some (.bool en) := by simp only [World.cell?, h.blk]; simp
theorem SrV.free (h : SrV w B0 q F names v sk en nA nn nc vA vc KA kn kc rows) (k : Nat) : w.frozen? ⟨q, k, none⟩ = false := by simp only [World.frozen?, h.blk]; simp
theorem SrV.qv (h : SrV w B0 q F names v sk en nA nn nc vA vc KA kn kc rows) : vA.map (·.block) ≠ some q := fun hx => by
  obtain ⟨cur, e⟩ := h.vr.type hx
  rw [h.blk] at e
  injection e with e
  injection e with _ e
  exact absurd e (by decide)
theorem SrV.qk (h : SrV w B0 q F names v sk en nA nn nc vA vc KA kn kc rows) : KA.map (·.block) ≠ some q := fun hx => by
  obtain ⟨cur, e⟩ := h.kr.type hx
  rw [h.blk] at e
  injection e with e
  injection e with _ e
  exact absurd e (by decide)
theorem SrV.qn (h : SrV w B0 q F names v sk en nA nn nc vA vc KA kn kc rows) : nA.map (·.block) ≠ some q := fun hx => by
  obtain ⟨cur, e⟩ := Own.type h.nm hx
  rw [h.blk] at e
  injection e with e
  injection e with _ e
  exact absurd e (by decide)
theorem SrV.vk (h : SrV w B0 q F names v sk en nA nn nc vA vc KA kn kc rows) : ∀ g, vA.map (·.block) = some g → KA.map (·.block) ≠ some g := own_ne h.vr h.kr (by decide)
theorem SrV.nv (h : SrV w B0 q F names v sk en nA nn nc vA vc KA kn kc rows) : ∀ g, nA.map (·.block) = some g → vA.map (·.block) ≠ some g := own_ne h.nm h.vr (by decide)
theorem SrV.nk (h : SrV w B0 q F names v sk en nA nn nc vA vc KA kn kc rows) : ∀ g, nA.map (·.block) = some g → KA.map (·.block) ≠ some g := own_ne h.nm h.kr (by decide)
theorem LvOk.only {M : Nat} (h : LvOk w B0 M rows) {G : List Nat} (ho : Only G w w') (hG : ∀ g ∈ G, B0 ≤ g) : LvOk w' B0 M rows := ⟨fun i hi => isP_only ho (fun g hg hh => by have := hG g hg; unfold Fr.Lo at hh; omega) (h.bd i hi), h.at_, h.wt⟩
theorem SrV.only (h : SrV w B0 q F names v sk en nA nn nc vA vc KA kn kc rows) {G : List Nat} (ho : Only G w w') (hG : ∀ g ∈ G, B0 ≤ g ∧ g ∉ F ∧ nA.map (·.block) ≠ some g) : SrV w' B0 q F names v sk en nA nn nc vA vc KA kn kc rows :=
  ⟨(ho.block q h.qlt (fun hx => (hG q hx).2.1 h.fq)).trans h.blk, h.nm.only ho (fun g hg hx => (hG g hx).2.2 hg), own_only h.vr ho (fun g hg hx => (hG g hx).2.1 (h.fv g hg)), own_only h.kr ho (fun g hg hx => (hG g hx).2.1 (h.fk g hg)), h.ok.only ho (fun g hg => (hG g hg).1), h.hq, h.fq, h.fv, h.fk, h.fn, h.ff, h.n2⟩
theorem SrV.keep (h : SrV w B0 q F names v sk en nA nn nc vA vc KA kn kc rows) (hb : Below w.heap.size w w') : SrV w' B0 q F names v sk en nA nn nc vA vc KA kn kc rows := h.only (G := []) (Only.of_below hb) (fun g hg => by cases hg)
theorem SrV.lenv (h : SrV w B0 q F names v sk en nA nn nc vA vc KA kn kc rows) : v.length = nn := by simpa using h.vr.len
theorem SrV.lenn (h : SrV w B0 q F names v sk en nA nn nc vA vc KA kn kc rows) : names.length = nn := h.nm.len
theorem SrV.lenk (h : SrV w B0 q F names v sk en nA nn nc vA vc KA kn kc rows) : rows.length = kn := by simpa using h.kr.len
theorem SrV.isv (h : SrV w B0 q F names v sk en nA nn nc vA vc KA kn kc rows) : IsU w vA nn vc v := isU_of_row (by
  have := h.vr.row
  rw [show (v.map uL).flatten = v.map uw by
    have : ∀ l : List Int, (l.map uL).flatten = l.map uw := fun l => by
      induction l with
      | nil => rfl
      | cons a l ih => simp [uL, uw, ih]
    exact this v] at this
  exact this)
theorem SrV.isn (h : SrV w B0 q F names v sk en nA nn nc vA vc KA kn kc rows) : IsN w nA nn nc names := isN_of h.nm
theorem SrV.knb (h : SrV w B0 q F names v sk en nA nn nc vA vc KA kn kc rows) : kn ≤ 100001 := by
  have hl := h.lenk
  rcases Nat.lt_or_ge 100001 kn with h1 | h1
  · have := h.ok.wt (kn - 1) (by omega); omega
  · exact h1
end
section
variable {w w' : World} {B0 q : Nat} {F : List Nat} {names : List ByteArray} {v : List Int} {st : List Bd} {sk en : Bool} {nA : Option Addr} {nn nc : Nat} {vA : Option Addr} {vc : Nat} {KA : Option Addr} {kn kc : Nat} {rows : List Lv} {g : Nat}
theorem SrV.setV (h : SrV w B0 q F names v sk en nA nn nc (some ⟨g, 0, none⟩) vc KA kn kc rows) {i : Nat} (hi : i < nn) (x : Int) : SrV (w.setCell ⟨g, i, none⟩ (.int .u64 x)) B0 q F names (v.set i x) sk en nA nn nc (some ⟨g, 0, none⟩) vc KA kn kc rows := by
  have hS := only_q w g i (.int .u64 x)
  have hg : g ≠ q := fun e => h.qv (by rw [← e]; rfl)
  have hgB : B0 ≤ g := (h.vr.lt g rfl).1
  have e := own_cell h.vr (j := 0) hi (by omega) (.int .u64 x)
  rw [Nat.mul_one, Nat.add_zero] at e
  have e2 : (v.map uL).set i (((v.map uL).getD i []).set 0 (.int .u64 x)) = (v.set i x).map uL := by
    have hl := h.lenv
    rw [List.map_set]
    congr 1
    simp [List.getD, show i < v.length by omega, uL]
  rw [e2] at e
  exact ⟨(hS.block q h.qlt (by simp; omega)).trans h.blk, h.nm.only hS (fun k hk hx => by simp at hx; subst hx; exact h.nv k hk rfl), e, own_only h.kr hS (fun k hk hx => by simp at hx; subst hx; exact h.vk k rfl hk), h.ok.only hS (fun k hk => by simp at hk; omega), h.hq, h.fq, h.fv, h.fk, h.fn, h.ff, h.n2⟩
theorem SrV.cut (h : SrV w B0 q F names v sk en nA nn nc vA vc KA kn kc rows) {k : Nat} (hk : k ≤ kn) : SrV (w.setCell ⟨q, 2, none⟩ (.slice KA k kc)) B0 q F names v sk en nA nn nc vA vc KA k kc (rows.take k) := by
  have hS := only_q w q 2 (.slice KA k kc)
  have hl := h.lenk
  have e := own_take h.kr hk
  rw [← List.map_take] at e
  have hgd : ∀ i, i < k → (rows.take k).getD i zeroLv = rows.getD i zeroLv := fun i hi => by simp [List.getD, hi]
  refine ⟨Lx.blk_set h.blk _, h.nm.only hS (fun k hk hx => by simp at hx; subst hx; exact h.qn hk), own_only h.vr hS (fun k hk hx => by simp at hx; subst hx; exact h.qv hk), own_only e hS (fun k hk hx => by simp at hx; subst hx; exact h.qk hk), ?_, h.hq, h.fq, h.fv, h.fk, h.fn, h.ff, h.n2⟩
  have h2 := h.ok.only hS (fun k hk => by simp at hk; have := h.hq; omega)
  exact ⟨fun i hi => by
    have hi' : i < k := by simp at hi; omega
    rw [hgd i hi']; exact h2.bd i (by omega), fun i hi => by
    have hi' : i < k := by simp at hi; omega
    rw [hgd i hi']; exact h2.at_ i (by omega), fun i hi => by
    have hi' : i < k := by simp at hi; omega
    rw [hgd i hi']; exact h2.wt i (by omega)⟩
theorem SrV.cellk (h : SrV w B0 q F names v sk en nA nn nc vA vc KA kn kc rows) {i : Nat} (hi : i < kn) : ∃ kb, KA = some ⟨kb, 0, none⟩ ∧ kb < w.heap.size ∧ w.cell? ⟨kb, i * 2, none⟩ = some (.slice (rows.getD i zeroLv).A (rows.getD i zeroLv).n (rows.getD i zeroLv).c) ∧ w.cell? ⟨kb, i * 2 + 1, none⟩ = some (.int .i64 (rows.getD i zeroLv).at_) := by
  have hl := h.lenk
  obtain ⟨b, o, e, hb, hc⟩ := h.kr.sl.at_ (by omega)
  have ho : o = 0 := by
    rcases h.kr.row.2 with ⟨h1, _⟩ | ⟨g, cp, cur, h1, _⟩
    · rw [e] at h1; cases h1
    · rw [e] at h1
      injection h1 with h1
      injection h1 with h1
      injection h1
  subst ho
  refine ⟨b, e, hb, ?_, ?_⟩
  · have := hc i hi 0 (by omega)
    simpa [List.getD, lvL, show i < rows.length by omega] using this
  · have := hc i hi 1 (by omega)
    simpa [List.getD, lvL, show i < rows.length by omega] using this
end
theorem stk_snoc (rows : List Lv) (r : Lv) : stk (rows ++ [r]) = remn r :: stk rows := by simp [stk]
theorem rows_split {rows : List Lv} {m : Nat} (h : rows.length = m + 1) : rows = rows.take m ++ [rows.getD m zeroLv] := by
  have e : rows.take (m + 1) = rows := List.take_of_length_le (by omega)
  have e2 : rows.take (m + 1) = rows.take m ++ [rows.getD m zeroLv] := by
    rw [List.take_add_one]
    simp [List.getD, show m < rows.length by omega]
  rw [← e2, e]
set_option maxHeartbeats 3200000 in
theorem sput_any {w : World} {B0 q : Nat} {F : List Nat} {names : List ByteArray} {v : List Int} {st : List Bd} {sk en : Bool} (s : ByteArray) (x : Int) (h : Sr w B0 q F names v st sk en) :
    Calls Try.prog 60 #[.pointer (some ⟨q, 0, none⟩), .string s, .int .u64 x] w fun e w' => e = .returned (.tuple #[]) ∧ Sr w' B0 q F names (setE names v s x) st sk en ∧ Only F w w' := by
  obtain ⟨nA, nn, nc, vA, vc, KA, kn, kc, rows, h, hst⟩ := h
  have H := Lib.hid h
  have HST := Lib.hid hst
  have y0 := h.y0
  have y1 := h.y1
  have hn2 := h.n2
  have LN := Lib.hid h.lenn
  clear h hst
  go_enter Try.func60, Try.ntmps60
  go_wp2_with fail
  go_loopw [6] (fun i wr => ∃ (k : Nat), k ≤ nn ∧ i = .int .i64 k ∧ Hid (∀ i, i < k → ((names.getD i ⟨#[]⟩).toList == s.toList) = false) ∧ w = wr) (fun i _ => nn - (intOf i).toNat)
  case atStart => exact ⟨0, by omega, rfl, fun i hi => absurd hi (by omega), rfl⟩
  case round =>
    obtain ⟨k, hk, rfl, hno, rfl⟩ := hrel
    by_cases hkn : k < nn
    · have hki : (k : Int) < (nn : Int) := by omega
      have d1 : decide ((k : Int) < (nn : Int)) = true := decide_eq_true hki
      obtain ⟨b, o, rfl, hb, g0⟩ := H.out.isn.cell hkn
      generalize hc : names.getD k ⟨#[]⟩ = m at *
      have HC := Lib.hid hc; clear hc
      cases hs : (m.toList == s.toList)
      · go_wp2_with fail
        go_roundw
        case rel => exact ⟨k + 1, by omega, by go_num, fun i hi => (by
          by_cases e : i = k
          · subst e; rw [HC.out]; exact hs
          · exact hno.out i (by omega)), trivial⟩
        case measure => simp [intOf]; omega
      · have HE : Hid (setE names v s x = v.set k x) := Lib.hid (by
          have e := idx_at (k := k) (by have := LN.out; omega) hno.out (by rw [HC.out]; exact hs)
          have hl : k < names.length := by have := LN.out; omega
          unfold setE
          rw [e, if_pos hl])
        obtain ⟨vb, vo, e, hvb, u0⟩ := H.out.isv.cell hkn
        have hvo : vo = 0 := by
          rcases H.out.vr.row.2 with ⟨h1, _⟩ | ⟨g, cp, cur, h1, _⟩
          · rw [e] at h1; cases h1
          · rw [e] at h1
            injection h1 with h1
            injection h1 with h1
            injection h1
        subst e hvo
        obtain ⟨cur, hty⟩ := H.out.vr.type (g := vb) rfl
        have uf : ∀ i, w.frozen? ⟨vb, i, none⟩ = false := fun i => by simp only [World.frozen?, hty]; simp
        have H2 := Lib.hid (H.out.setV hkn x)
        have O2 := Lib.hid ((only_q w vb k (.int .u64 x)).more (F' := F) (fun y hy => by simp at hy; rw [hy]; exact H.out.fv vb rfl))
        have u0' : w.cell? ⟨vb, k, none⟩ = some (.int .u64 (v.getD k 0)) := by simpa [uw] using u0
        clear u0 hty
        go_wp2_with fail
        refine bodyPost_ret (results_none rfl _ _ _) rfl ?_
        exact ⟨rfl, ⟨_, _, _, _, _, _, _, _, rows, by rw [HE.out]; exact H2.out, HST.out⟩, O2.out⟩
    · obtain rfl : k = nn := by omega
      have d1 : decide ((k : Int) < (k : Int)) = false := decide_eq_false (by omega)
      have HE : Hid (setE names v s x = v) := Lib.hid (by
        have e := idx_no (nl := names) (s := s) (by rw [LN.out]; exact hno.out)
        unfold setE
        rw [if_neg e])
      go_wp2_with fail
      go_end0
      exact ⟨rfl, ⟨nA, k, nc, vA, vc, KA, kn, kc, rows, by rw [HE.out]; exact H.out, HST.out⟩, Only.refl _ _⟩
set_option maxRecDepth 20000 in
set_option maxHeartbeats 6400000 in
theorem sover_any {w : World} {B0 q : Nat} {F : List Nat} {names : List ByteArray} {v : List Int} {st : List Bd} {sk en : Bool} (h : Sr w B0 q F names v st sk en) :
    Calls Try.prog 58 #[.pointer (some ⟨q, 0, none⟩)] w fun e w' => e = .returned (.bool (dropNil st).isEmpty) ∧ Sr w' B0 q F names v (dropNil st) sk en ∧ Only F w w' := by
  have H0 := Lib.hid h
  clear h
  go_enter Try.func58, Try.ntmps58
  go_wp2_with fail
  go_loopw [] (fun wr => ∃ st1, Sr wr B0 q F names v st1 sk en ∧ Only F w wr ∧ dropNil st1 = dropNil st) (fun wr => (match wr.cell? ⟨q, 2, none⟩ with | some (.slice _ n _) => n | _ => 0))
  case atStart => exact ⟨st, H0.out, Only.refl _ _, rfl⟩
  case round =>
    obtain ⟨st1, ⟨nA, nn, nc, vA, vc, KA, kn, kc, rows, hR, rfl⟩, hO, hD⟩ := hrel
    have R := Lib.hid hR
    have O := Lib.hid hO
    have D := Lib.hid hD
    have y2 := hR.y2
    have hl := hR.lenk
    have hkb := hR.knb
    clear hR hO hD H0
    by_cases hk0 : kn = 0
    · subst hk0
      have HE : Hid (dropNil st = [] ∧ stk rows = []) := Lib.hid (by
        have e : rows = [] := List.length_eq_zero_iff.1 hl
        rw [e] at D
        exact ⟨D.out.symm, by rw [e]; rfl⟩)
      go_upto_region 1 with fail
      go_quiet (fail)
      have RD := Lib.hid (R.out.keep (below_drawn wr nq))
      have OD := Lib.hid (O.out.seq (Only.of_below (F := F) (below_drawn wr nq)))
      have y2' : (wr.drewN nq).cell? ⟨q, 2, none⟩ = _ := y2
      clear y2
      generalize wr.drewN nq = w5 at *
      go_wp2_with fail
      go_ret
      exact ⟨by rw [HE.out.1]; rfl, ⟨nA, nn, nc, vA, vc, KA, 0, kc, rows, RD.out, by rw [HE.out.2, HE.out.1]⟩, OD.out⟩
    · obtain ⟨m, rfl⟩ : ∃ m, kn = m + 1 := ⟨kn - 1, by omega⟩
      obtain ⟨kb, rfl, hkl, k0, k1⟩ := R.out.cellk (i := m) (by omega)
      have i1 : IntKind.i64.wrap ((m : Int) + 1 - 1) = (m : Int) := by rw [IntWalk.i64_in _ ⟨by omega, by omega⟩]; omega
      have i0 : IntKind.i64.wrap (m : Int) = (m : Int) := IntWalk.i64_in _ ⟨by omega, by omega⟩
      have d3 : ((m : Int) + 1 == 0) = false := by simp; omega
      have hmc : (m : Int) ≤ (kc : Int) := by
        rcases R.out.kr.row.2 with ⟨h1, _⟩ | ⟨g, cp, cur, h1, h2, h3, h4, h5, h6, h7⟩
        · cases h1
        · injection h1 with h8 h9 h10
          subst h10
          omega
      have hm0 : (0 : Int) ≤ (m : Int) := by omega
      have dm : decide (0 < (m : Int) + 1) = true := decide_eq_true (by omega)
      have HSP : Hid (stk rows = remn (rows.getD m zeroLv) :: stk (rows.take m)) := Lib.hid (by
        have e := stk_snoc (rows.take m) (rows.getD m zeroLv)
        rw [← rows_split hl] at e
        exact e)
      have hbd := R.out.ok.bd m (by omega)
      have hat := R.out.ok.at_ m (by omega)
      generalize hr : rows.getD m zeroLv = r at *
      have HR := Lib.hid hr
      clear hr
      obtain ⟨rA, rn, rc, rb, ra⟩ := r
      dsimp only at *
      by_cases hlt : ra < rn
      · have d2 : decide ((rn : Int) ≤ (ra : Int)) = false := decide_eq_false (by omega)
        have HE : Hid (dropNil st = stk rows ∧ (dropNil st).isEmpty = false) := Lib.hid (by
          have hb := hbd.1
          obtain ⟨blk, off, -, -, -, hatt⟩ := hbd.2.2.2 (by omega)
          obtain ⟨h, b1, b2, vs, hd, -⟩ := Fr.bd_at rb ra hatt (by omega)
          have e : dropNil (stk rows) = stk rows := by
            rw [HSP.out]
            unfold remn
            dsimp only
            rw [hd]
            rfl
          rw [← D.out, e]
          exact ⟨rfl, by rw [HSP.out]; rfl⟩)
        clear hbd
        go_upto_region 1 with fail
        go_quiet (fail)
        have RD := Lib.hid (R.out.keep (below_drawn wr nq))
        have OD := Lib.hid (O.out.seq (Only.of_below (F := F) (below_drawn wr nq)))
        have y2' : (wr.drewN nq).cell? ⟨q, 2, none⟩ = _ := y2
        clear y2 k0 k1
        generalize wr.drewN nq = w5 at *
        go_wp2_with fail
        go_ret
        exact ⟨by rw [HE.out.2]; rfl, ⟨nA, nn, nc, vA, vc, _, m + 1, kc, rows, RD.out, HE.out.1.symm⟩, OD.out⟩
      · have d2 : decide ((rn : Int) ≤ (ra : Int)) = true := decide_eq_true (by omega)
        have HE : Hid (dropNil (stk (rows.take m)) = dropNil st) := Lib.hid (by
          have hb := hbd.1
          have e : remn ⟨rA, rn, rc, rb, ra⟩ = .nil := by
            unfold remn
            exact Fr.dropB_all rb ra (by omega)
          rw [← D.out, HSP.out, e]
          rfl)
        clear hbd
        go_upto_region 1 with fail
        go_quiet (fail)
        have RD := Lib.hid (R.out.keep (below_drawn wr nq))
        have OD := Lib.hid (O.out.seq (Only.of_below (F := F) (below_drawn wr nq)))
        have y2' : (wr.drewN nq).cell? ⟨q, 2, none⟩ = some (.slice (some ⟨kb, 0, none⟩) (m + 1) kc) := y2
        have hm2 : (match wr.cell? ⟨q, 2, none⟩ with | some (.slice _ n _) => n | _ => 0) = m + 1 := by rw [y2]
        have HM := Lib.hid hm2
        clear y2 k0 k1 hm2
        generalize wr.drewN nq = w5 at *
        go_upto_region 2 with fail
        have RE := Lib.hid (RD.out.keep (Below.refl _ _).drew)
        have OE := Lib.hid (OD.out.drew)
        have SA : w5.drew.cell? ⟨q, 2, none⟩ = some (.slice (some ⟨kb, 0, none⟩) (m + 1) kc) := y2'
        have y2'' := RE.out.y2
        have yf := RE.out.free
        have RF := Lib.hid (RE.out.cut (k := m) (by omega))
        have OF := Lib.hid (OE.out.setCell (p := ⟨q, 2, none⟩) RE.out.fq (.slice (some ⟨kb, 0, none⟩) m kc))
        refine Hd.start 12 (fun w' => w'.cell? ⟨q, 2, none⟩ = some (.slice (some ⟨kb, 0, none⟩) (m + 1) kc)) (by kernel_rfl) ?_
        refine Hd.take (i := 0) (v := ?vo0) rfl (by decide +kernel) (by decide +kernel) (fun _ _ _ h => h) rfl ?hyo0 SA ?resto0
        case hyo0 =>
          intro wq hSw
          have s1 := hSw
          go_simp
          try with_reducible rfl
        try simp only [Act.put, zA, zB, zC]
        refine Hd.take (i := 1) (v := ?vo1) rfl (by decide +kernel) (by decide +kernel) (fun _ _ _ h => h) rfl ?hyo1 SA ?resto1
        case hyo1 =>
          intro wq hSw
          have s1 := hSw
          go_simp
          try with_reducible rfl
        try simp only [Act.put, zA, zB, zC]
        refine Hd.take (i := 2) (v := ?vo2) rfl (by decide +kernel) (by decide +kernel) (fun _ _ _ h => h) rfl ?hyo2 SA ?resto2
        case hyo2 =>
          intro wq hSw
          have s1 := hSw
          go_simp
          try with_reducible rfl
        try simp only [Act.put, zA, zB, zC]
        refine Hd.take (i := 3) (v := ?vo3) rfl (by decide +kernel) (by decide +kernel) (fun _ _ _ h => h) rfl ?hyo3 SA ?resto3
        case hyo3 =>
          intro wq hSw
          have s1 := hSw
          go_simp
          try with_reducible rfl
        try simp only [Act.put, zA, zB, zC]
        refine Hd.take (i := 4) (v := ?vo4) rfl (by decide +kernel) (by decide +kernel) (fun _ _ _ h => h) rfl ?hyo4 SA ?resto4
        case hyo4 =>
          intro wq hSw
          have s1 := hSw
          go_simp
          try with_reducible rfl
        try simp only [Act.put, zA, zB, zC]
        refine Hd.take (i := 5) (v := ?vo5) rfl (by decide +kernel) (by decide +kernel) (fun _ _ _ h => h) rfl ?hyo5 SA ?resto5
        case hyo5 =>
          intro wq hSw
          have s1 := hSw
          go_simp
          try with_reducible rfl
        try simp only [Act.put, zA, zB, zC]
        refine Hd.take (i := 6) (v := ?vo6) rfl (by decide +kernel) (by decide +kernel) (fun _ _ _ h => h) rfl ?hyo6 SA ?resto6
        case hyo6 =>
          intro wq hSw
          have s1 := hSw
          go_simp
          try with_reducible rfl
        try simp only [Act.put, zA, zB, zC]
        refine Hd.take (i := 7) (v := ?vo7) rfl (by decide +kernel) (by decide +kernel) (fun _ _ _ h => h) rfl ?hyo7 SA ?resto7
        case hyo7 =>
          intro wq hSw
          have s1 := hSw
          go_simp
          try with_reducible rfl
        try simp only [Act.put, zA, zB, zC]
        refine Hd.take (i := 8) (v := ?vo8) rfl (by decide +kernel) (by decide +kernel) (fun _ _ _ h => h) rfl ?hyo8 SA ?resto8
        case hyo8 =>
          intro wq hSw
          have s1 := hSw
          go_simp
          try with_reducible rfl
        try simp only [Act.put, zA, zB, zC]
        refine Hd.take (i := 9) (v := ?vo9) rfl (by decide +kernel) (by decide +kernel) (fun _ _ _ h => h) rfl ?hyo9 SA ?resto9
        case hyo9 =>
          intro wq hSw
          have s1 := hSw
          go_simp
          try with_reducible rfl
        try simp only [Act.put, zA, zB, zC]
        refine Hd.take (i := 10) (v := ?vo10) rfl (by decide +kernel) (by decide +kernel) (fun _ _ _ h => h) rfl ?hyo10 SA ?resto10
        case hyo10 =>
          intro wq hSw
          have s1 := hSw
          go_simp
          try with_reducible rfl
        try simp only [Act.put, zA, zB, zC]
        refine Hd.take (i := 11) (v := ?vo11) rfl (by decide +kernel) (by decide +kernel) (fun _ _ _ h => h) rfl ?hyo11 SA ?resto11
        case hyo11 =>
          intro wq hSw
          have s1 := hSw
          go_simp
          try with_reducible rfl
        try simp only [Act.put, zA, zB, zC]
        refine Hd.one (i := 12) rfl (by kernel_rfl) rfl (fun K hK => ?_)
        go_simp
        refine hK _ _ (fun h => absurd h (by omega)) ?_
        clear hK K
        try simp only [Act.put, zA, zB, zC]
        refine Hd.one (i := 13) rfl (by kernel_rfl) rfl (fun K hK => ?_)
        go_simp
        refine hK _ _ (fun h => absurd h (by omega)) ?_
        clear hK K
        try simp only [Act.put, zA, zB, zC]
        refine Hd.one (i := 14) rfl (by kernel_rfl) rfl (fun K hK => ?_)
        go_simp
        refine hK _ _ (fun h => absurd h (by omega)) ?_
        clear hK K
        try simp only [Act.put, zA, zB, zC]
        refine Hd.done (by kernel_rfl) ?_ _
        go_wp2_with fail
        go_roundw
        case rel => exact ⟨_, ⟨nA, nn, nc, vA, vc, _, m, kc, _, RF.out, rfl⟩, OF.out, HE.out⟩
        case measure =>
          have e2 : (match (w5.drew.setCell ⟨q, 2, none⟩ (.slice (some ⟨kb, 0, none⟩) m kc)).cell? ⟨q, 2, none⟩ with | some (.slice _ n _) => n | _ => 0) = m := by rw [RF.out.y2]
          rw [HM.out]
          exact Nat.lt_of_le_of_lt (Nat.le_of_eq e2) (by omega)
end Go.Proofs.Ytapnnbbbgopobaa.Rn
namespace Go.Proofs.Ytapnnbbbgopobaa.Rn
open Go.RowKit Cm Mm Ow Me Ml Lg Stp Rr Lr
theorem own_zero {w : World} {B g n : Nat} (hn : n ≤ maxLen) (hB : B ≤ g) (h : w.heap[g]? = some (.cells (madeCells #[.int .u64 0] n) 53 (0, 0))) : Own w B 53 1 (some ⟨g, 0, none⟩) n n ((List.replicate n (0 : Int)).map uL) := by
  refine ⟨by simp, fun x hx => by simp at hx; obtain ⟨_, rfl⟩ := hx; rfl, ?_⟩
  have e : ((List.replicate n (0 : Int)).map uL).flatten = List.replicate n (.int .u64 0) := by
    induction n with
    | zero => rfl
    | succ n ih => simp [List.replicate_succ, uL, Function.comp]
  rw [e]
  refine ⟨by simp, .inr ⟨g, n, _, rfl, hB, h, Nat.le_refl _, hn, by rw [size_madeCells]; omega, ?_⟩⟩
  rw [toList_madeCells_one, Nat.mul_one]
  exact List.take_of_length_le (by simp)
def begV (b : Bd) : List Int := List.replicate (nmsB b).length 0
def BegA (w : World) (B0 : Nat) (b : Bd) (e : Ending) (w' : World) : Prop := ∃ q F, e = .returned (.pointer (some ⟨q, 0, none⟩)) ∧ Sr w' B0 q F (nmsB b) (begV b) [b] false false ∧ Below w.heap.size w w' ∧ ∀ g ∈ F, w.heap.size ≤ g
set_option maxRecDepth 20000 in
set_option maxHeartbeats 3200000 in
theorem begun_any {b : Bd} {w : World} {B0 : Nat} {BA : Option Addr} {bn bc : Nat} (hb : IsBdP (Fr.Lo B0) w b BA bn bc) (hB0 : B0 ≤ w.heap.size) (hz : bsz b ≤ 50000) :
    Calls Try.prog 37 #[.slice BA bn bc] w (BegA w B0 b) := by
  have HBD := Lib.hid hb
  have LC := Lib.hid (Fr.locals_any (isV_of (fun b _ => Nat.zero_le b) hb) (by omega))
  clear hb
  go_enter Try.func37, Try.ntmps37
  go_wp2_with fail
  refine LC.out.mono ?_
  rintro en w2 ⟨nA, nn, nc, rfl, hN, hb2⟩
  have hnl : nn = (nmsB b).length := hN.len.symm
  have hnb : nn ≤ 50000 := by
    have e : (Fr.namesN [] b).length ≤ 0 + bsz b := (Fr.namesN_len b []).2
    rw [hnl]; unfold nmsB; omega
  have HNL := Lib.hid hnl
  clear hnl
  have hm := run_make_u nn (by omega)
  have s1 : (w2.alloc (.cells (madeCells #[.int .u64 0] nn) 53)).heap.size = w2.heap.size + 1 := by simp
  have s2 : ((w2.alloc (.cells (madeCells #[.int .u64 0] nn) 53)).alloc (.cells #[.slice BA bn bc, .int .i64 0] 116)).heap.size = w2.heap.size + 2 := by simp
  have HB3 : Hid (Below w.heap.size w (((w2.alloc (.cells (madeCells #[.int .u64 0] nn) 53)).alloc (.cells #[.slice BA bn bc, .int .i64 0] 116)).alloc (.cells #[.slice nA nn nc, .slice (some ⟨w2.heap.size, 0, none⟩) nn nn, .slice (some ⟨w2.heap.size + 1, 0, none⟩) 1 1, .bool false, .bool false] 88))) := Lib.hid (hb2.trans (((((Below.refl w2.heap.size w2).alloc (Nat.le_refl _) _).alloc (by simp) _).alloc (by simp <;> omega) _).mono hb2.size))
  have B12 : Below w2.heap.size w2 (((w2.alloc (.cells (madeCells #[.int .u64 0] nn) 53)).alloc (.cells #[.slice BA bn bc, .int .i64 0] 116)).alloc (.cells #[.slice nA nn nc, .slice (some ⟨w2.heap.size, 0, none⟩) nn nn, .slice (some ⟨w2.heap.size + 1, 0, none⟩) 1 1, .bool false, .bool false] 88)) := (((Below.refl _ _).alloc (Nat.le_refl _) _).alloc (by simp) _).alloc (by simp <;> omega) _
  have h1 : (((w2.alloc (.cells (madeCells #[.int .u64 0] nn) 53)).alloc (.cells #[.slice BA bn bc, .int .i64 0] 116)).alloc (.cells #[.slice nA nn nc, .slice (some ⟨w2.heap.size, 0, none⟩) nn nn, .slice (some ⟨w2.heap.size + 1, 0, none⟩) 1 1, .bool false, .bool false] 88)).heap[w2.heap.size]? = some (.cells (madeCells #[.int .u64 0] nn) 53 (0, 0)) := by
    rw [Below.heap_alloc _ _ _ (by simp <;> omega), Below.heap_alloc _ _ _ (by simp)]
    exact heap_alloc_new _ _
  have h2 : (((w2.alloc (.cells (madeCells #[.int .u64 0] nn) 53)).alloc (.cells #[.slice BA bn bc, .int .i64 0] 116)).alloc (.cells #[.slice nA nn nc, .slice (some ⟨w2.heap.size, 0, none⟩) nn nn, .slice (some ⟨w2.heap.size + 1, 0, none⟩) 1 1, .bool false, .bool false] 88)).heap[w2.heap.size + 1]? = some (.cells #[.slice BA bn bc, .int .i64 0] 116 (0, 0)) := by
    rw [Below.heap_alloc _ _ _ (by simp), ← s1]
    exact heap_alloc_new _ _
  have h3 : (((w2.alloc (.cells (madeCells #[.int .u64 0] nn) 53)).alloc (.cells #[.slice BA bn bc, .int .i64 0] 116)).alloc (.cells #[.slice nA nn nc, .slice (some ⟨w2.heap.size, 0, none⟩) nn nn, .slice (some ⟨w2.heap.size + 1, 0, none⟩) 1 1, .bool false, .bool false] 88)).heap[w2.heap.size + 2]? = some (.cells #[.slice nA nn nc, .slice (some ⟨w2.heap.size, 0, none⟩) nn nn, .slice (some ⟨w2.heap.size + 1, 0, none⟩) 1 1, .bool false, .bool false] 88 (0, 0)) := by
    rw [← s2]
    exact heap_alloc_new _ _
  have hwb := hb2.size
  have hqS : Sr (((w2.alloc (.cells (madeCells #[.int .u64 0] nn) 53)).alloc (.cells #[.slice BA bn bc, .int .i64 0] 116)).alloc (.cells #[.slice nA nn nc, .slice (some ⟨w2.heap.size, 0, none⟩) nn nn, .slice (some ⟨w2.heap.size + 1, 0, none⟩) 1 1, .bool false, .bool false] 88)) B0 (w2.heap.size + 2) ([w2.heap.size + 2, w2.heap.size, w2.heap.size + 1] ++ (nA.map (·.block)).toList) (nmsB b) (begV b) [b] false false := by
    refine ⟨nA, nn, nc, _, nn, _, 1, 1, [⟨BA, bn, bc, b, 0⟩], ⟨h3, Own.low (hN.keep B12) hB0, ?_, ?_, ⟨fun i hi => ?_, fun i hi => ?_, fun i hi => ?_⟩, by omega, by simp, fun g hg => by simp at hg; simp [hg], fun g hg => by simp at hg; simp [hg], fun g hg => List.mem_append_right _ (Fr.mem_blk.2 hg), fun g hg => ?_, by omega⟩, ?_⟩
    · unfold begV
      rw [← HNL.out]
      exact own_zero (by unfold maxLen; omega) (by omega) h1
    · refine ⟨rfl, fun x hx => by simp at hx; subst hx; rfl, by simp [lvL], .inr ⟨w2.heap.size + 1, 1, _, rfl, by omega, h2, Nat.le_refl _, by unfold maxLen; omega, rfl, rfl⟩⟩
    · obtain rfl : i = 0 := by simpa using hi
      exact isP_only (Only.of_below (F := []) (hb2.trans (B12.mono hwb))) (fun g hg => by cases hg) HBD.out
    · obtain rfl : i = 0 := by simpa using hi
      exact Nat.zero_le _
    · obtain rfl : i = 0 := by simpa using hi
      show 0 + bsz b ≤ 100000
      omega
    · rcases List.mem_append.1 hg with hg | hg
      · simp at hg
        rcases hg with rfl | rfl | rfl
        · exact .inl rfl
        · exact .inr (.inl rfl)
        · exact .inr (.inr (.inl rfl))
      · exact .inr (.inr (.inr (Fr.mem_blk.1 hg)))
    · simp [stk, remn]
      cases b <;> rfl
  have HQ := Lib.hid hqS
  have HNN := Lib.hid (fun g hg => (hN.lt g hg).1)
  clear hN hb2 s1 s2 h1 h2 h3 hqS B12
  go_wp2_with fail
  go_ret
  exact ⟨w2.heap.size + 2, _, rfl, HQ.out, HB3.out, fun g hg => by
    rcases List.mem_append.1 hg with hg | hg
    · simp at hg; omega
    · exact HNN.out g (Fr.mem_blk.1 hg)⟩
end Go.Proofs.Ytapnnbbbgopobaa.Rn
namespace Go.Proofs.Ytapnnbbbgopobaa.Rn
open Go.RowKit Cm Mm Ow Me Ml Lg Stp Rr Lr
structure Rf where
  cA : Option Addr
  cn : Nat
  cc : Nat
  cs : List Lay.Cl
  tA : Option Addr
  tn : Nat
  tc : Nat
  rA : Option Addr
  rn : Nat
  rc : Nat
structure RnV (w : World) (B0 q : Nat) (f : Rf) (G : List Nat) (now out : List Int) (rec_ l : Value) (ill : Bool) (NA : Option Addr) (nc : Nat) (OA : Option Addr) (on oc : Nat) : Prop where
  blk : w.heap[q]? = some (.cells #[.slice f.cA f.cn f.cc, .slice f.tA f.tn f.tc, .slice f.rA f.rn f.rc, .slice NA now.length nc, .slice OA on oc, rec_, l, .bool ill] 75 (0, 0))
  nr : Own w B0 53 1 NA now.length nc (now.map uL)
  or_ : Own w B0 53 1 OA on oc (out.map uL)
  no : ∀ g, NA.map (·.block) = some g → OA.map (·.block) ≠ some g
  hq : B0 ≤ q
  cl : Lay.IsCl w f.cA f.cn f.cc f.cs
  cb : 0 < f.cn → ∀ b o m, f.cA = some ⟨b, o, m⟩ → b < B0
  gq : q ∈ G
  gn : ∀ g, NA.map (·.block) = some g → g ∈ G
  go : ∀ g, OA.map (·.block) = some g → g ∈ G
  gg : ∀ g ∈ G, g = q ∨ NA.map (·.block) = some g ∨ OA.map (·.block) = some g
  wd : (now.length : Int) = cwords f.cs
  w64 : now.length ≤ 64
  c2 : f.cn ≤ 65536
  ok : CellsOk f.cs
  ol : on ≤ 1000000
section
variable {w w' : World} {B0 q : Nat} {f : Rf} {G : List Nat} {now out : List Int} {rec_ l : Value} {ill : Bool} {NA : Option Addr} {nc : Nat} {OA : Option Addr} {on oc : Nat}
theorem RnV.qlt (h : RnV w B0 q f G now out rec_ l ill NA nc OA on oc) : q < w.heap.size := (Array.getElem?_eq_some_iff.1 h.blk).1
theorem RnV.y0 (h : RnV w B0 q f G now out rec_ l ill NA nc OA on oc) : w.cell? ⟨q, 0, none⟩ = some (.slice f.cA f.cn f.cc) := cells_of h.blk rfl
theorem RnV.y3 (h : RnV w B0 q f G now out rec_ l ill NA nc OA on oc) : w.cell? ⟨q, 3, none⟩ = some (.slice NA now.length nc) := cells_of h.blk rfl
theorem RnV.y4 (h : RnV w B0 q f G now out rec_ l ill NA nc OA on oc) : w.cell? ⟨q, 4, none⟩ = some (.slice OA on oc) := cells_of h.blk rfl
theorem RnV.y5 (h : RnV w B0 q f G now out rec_ l ill NA nc OA on oc) : w.cell? ⟨q, 5, none⟩ = some rec_ := cells_of h.blk rfl
theorem RnV.y6 (h : RnV w B0 q f G now out rec_ l ill NA nc OA on oc) : w.cell? ⟨q, 6, none⟩ = some l := cells_of h.blk rfl
theorem RnV.y7 (h : RnV w B0 q f G now out rec_ l ill NA nc OA on oc) : w.cell? ⟨q, 7, none⟩ = some (.bool ill) := cells_of h.blk rfl
theorem RnV.free (h : RnV w B0 q f G now out rec_ l ill NA nc OA on oc) (k : Nat) : w.frozen? ⟨q, k, none⟩ = false := by simp only [World.frozen?, h.blk]; simp
theorem RnV.only (h : RnV w B0 q f G now out rec_ l ill NA nc OA on oc) {X : List Nat} (ho : Only X w w') (hX : ∀ g ∈ X, B0 ≤ g ∧ g ∉ G) : RnV w' B0 q f G now out rec_ l ill NA nc OA on oc :=
  ⟨(ho.block q h.qlt (fun hx => (hX q hx).2 h.gq)).trans h.blk, own_only h.nr ho (fun g hg hx => (hX g hx).2 (h.gn g hg)), own_only h.or_ ho (fun g hg hx => (hX g hx).2 (h.go g hg)), h.no, h.hq, Fr.cl_only h.cl ho (fun h0 b o m hA hx => by have := h.cb h0 b o m hA; have := (hX b hx).1; omega), h.cb, h.gq, h.gn, h.go, h.gg, h.wd, h.w64, h.c2, h.ok, h.ol⟩
theorem RnV.keep (h : RnV w B0 q f G now out rec_ l ill NA nc OA on oc) (hb : Below w.heap.size w w') : RnV w' B0 q f G now out rec_ l ill NA nc OA on oc := h.only (X := []) (Only.of_below hb) (fun g hg => by cases hg)
theorem RnV.qn (h : RnV w B0 q f G now out rec_ l ill NA nc OA on oc) : NA.map (·.block) ≠ some q := fun hx => by
  obtain ⟨cur, e⟩ := h.nr.type hx
  rw [h.blk] at e
  injection e with e
  injection e with _ e
  exact absurd e (by decide)
theorem RnV.qo (h : RnV w B0 q f G now out rec_ l ill NA nc OA on oc) : OA.map (·.block) ≠ some q := fun hx => by
  obtain ⟨cur, e⟩ := h.or_.type hx
  rw [h.blk] at e
  injection e with e
  injection e with _ e
  exact absurd e (by decide)
theorem lenU (l : List Int) : (l.map uL).flatten = l.map uw := by
  induction l with
  | nil => rfl
  | cons a l ih => simp [uL, uw, ih]
theorem RnV.isn (h : RnV w B0 q f G now out rec_ l ill NA nc OA on oc) : IsU w NA now.length nc now := isU_of_row (by have := h.nr.row; rw [lenU] at this; exact this)
end
set_option maxRecDepth 20000 in
set_option maxHeartbeats 6400000 in
theorem word_any {w : World} {B0 q p : Nat} {f : Rf} {G : List Nat} {now out : List Int} {rec_ l : Value} {ill : Bool} {NA : Option Addr} {nc : Nat} {OA : Option Addr} {on oc : Nat} {F : List Nat} {names : List ByteArray} {v : List Int} {sk en : Bool} {nA : Option Addr} {nn nnc : Nat} {vA : Option Addr} {vc : Nat} {KA : Option Addr} {kn kc : Nat} {rows : List Lv} {B1 : Nat} {h : Hd} {b1 b2 : Bd} {vs : List Value}
    (hR : RnV w B0 q f G now out rec_ l ill NA nc OA on oc) (hS : SrV w B0 p F names v sk en nA nn nnc vA vc KA kn kc rows) (hs : StP (Fr.Lo B1) w h b1 b2 vs) (hcx : cix f.cs h.cell < f.cs.length) :
    Calls Try.prog 76 #[.pointer (some ⟨q, 0, none⟩), .pointer (some ⟨p, 0, none⟩), .agg vs.toArray] w fun e w' => e = .returned (.int .i64 (wordE f.cs names v h : Nat)) ∧ Below w.heap.size w w' := by
  have hb0 := below_new w (.cells vs.toArray 122)
  have HB := Lib.hid hb0
  have R := Lib.hid (hR.keep hb0)
  have S := Lib.hid (hS.keep hb0)
  have G0 := heap_alloc_new w (.cells vs.toArray 122)
  have HCX := Lib.hid hcx
  have hfl := hR.cl.1
  have hc2 := hR.c2
  have hcs := hR.ok
  have SZ : Hid ((f.cs.getD (cix f.cs h.cell) Lay.zero).2 = csize f.cs h.cell ∧ 1 ≤ csize f.cs h.cell ∧ csize f.cs h.cell ≤ 64) := Lib.hid (by
    have e : csize f.cs h.cell = (f.cs.getD (cix f.cs h.cell) Lay.zero).2 := by
      unfold csize
      simp only [List.getD, List.getElem?_eq_getElem hcx, Option.getD_some]
    have := hcs _ hcx
    have e2 : (f.cs.getD (cix f.cs h.cell) (⟨#[]⟩, 0)).2 = (f.cs.getD (cix f.cs h.cell) Lay.zero).2 := by
      simp only [List.getD, List.getElem?_eq_getElem hcx, Option.getD_some]
    rw [e2, ← e] at this
    exact ⟨e.symm, this⟩)
  have PL : Hid (Lay.place f.cs (cix f.cs h.cell : Nat) = 4096 + 8 * cbase f.cs (cix f.cs h.cell) ∧ 0 ≤ cbase f.cs (cix f.cs h.cell) ∧ cbase f.cs (cix f.cs h.cell) ≤ 64 * 65536) := Lib.hid (by
    have e : Lay.place f.cs (cix f.cs h.cell : Nat) = 4096 + 8 * cbase f.cs (cix f.cs h.cell) := by
      unfold Lay.place
      rw [if_pos ⟨Int.natCast_nonneg _, by omega⟩]
      rfl
    have := Lay.words_take_bd f.cs (cix f.cs h.cell) (by omega)
    exact ⟨e, this.1, by have := this.2; show Lay.words (f.cs.take (cix f.cs h.cell)) ≤ _; omega⟩)
  have FE : Hid (Lay.find f.cs h.cell.toList = (cix f.cs h.cell : Nat)) := Lib.hid (find_cix hcx)
  have WE : Hid (wordE f.cs names v h = (cbase f.cs (cix f.cs h.cell) + bits .and .u64 (evalE names v h.i) (csize f.cs h.cell - 1)).toNat) := Lib.hid rfl
  obtain ⟨WW, hWW⟩ : ∃ x, wordE f.cs names v h = x := ⟨_, rfl⟩
  rw [hWW] at WE
  rw [hWW]
  clear hWW
  obtain ⟨cx, hcxe⟩ : ∃ cx, cix f.cs h.cell = cx := ⟨_, rfl⟩
  rw [hcxe] at SZ PL FE HCX WE
  clear hcx hcxe hcs
  obtain ⟨vi, vx, vy, BA, bn, bc, EA, en', ec, hvs, hi, hx, hy, hr⟩ := hs
  have XI := Lib.hid (exV_of (B := 0) (fun b _ => Nat.zero_le b) hi)
  obtain ⟨i0, i1, i2, i3, i4, rfl⟩ := Fr.len5 (Fr.exP_len hi)
  have v3 : vs.toArray[3]? = some (.string h.cell) := by rw [hvs]; rfl
  have v4 : vs.toArray[4]? = some i0 := by rw [hvs]; rfl
  have v5 : vs.toArray[5]? = some i1 := by rw [hvs]; rfl
  have v6 : vs.toArray[6]? = some i2 := by rw [hvs]; rfl
  have v7 : vs.toArray[7]? = some i3 := by rw [hvs]; rfl
  have v8 : vs.toArray[8]? = some i4 := by rw [hvs]; rfl
  clear hvs hi hx hy hr
  obtain ⟨W, hW⟩ : ∃ W, w.alloc (.cells vs.toArray 122) = W := ⟨_, rfl⟩
  have hgl0 : w.heap.size < W.heap.size := by rw [← hW]; simp
  rw [hW] at HB R S G0 hb0
  have z3 := cells_of G0 v3
  have z4 := cells_of G0 v4
  have z5 := cells_of G0 v5
  have z6 := cells_of G0 v6
  have z7 := cells_of G0 v7
  have z8 := cells_of G0 v8
  have y0 := R.out.y0
  have p0 := S.out.y0
  have p1 := S.out.y1
  obtain ⟨cb, co, hcA, hcb, -, g1, -⟩ := R.out.cl.cell (k := cx) (by have := HCX.out; omega)
  rw [SZ.out.1] at g1
  rw [hcA] at y0
  have FF : Hid (∀ n : Nat, Calls Try.prog 50 #[.slice (some ⟨cb, co, none⟩) f.cn f.cc, .string h.cell] (W.drewN n) fun e w' => e = .returned (.int .i64 (cx : Nat)) ∧ W.drewN n = w') := Lib.hid (fun n => by
    have := Lay.rfind_any f.cA f.cn f.cc h.cell f.cs _ (R.out.cl.keep (below_drawn W n)) hc2
    rw [FE.out, hcA] at this
    exact this)
  have hcc : (cx : Int) < (f.cn : Int) := by have := HCX.out; omega
  have HCA := Lib.hid hcA
  have hS1 := SZ.out.2.1
  have hS2 := SZ.out.2.2
  generalize csize f.cs h.cell = sz at *
  have XI2 := Lib.hid (exV_keep hb0 XI.out)
  clear hcA hR hS G0 hb0 XI v3 v4 v5 v6 v7 v8
  go_enter Try.func76, Try.ntmps76
  go_upto_region 1 with fail
  try rw [hW]
  clear hW
  go_quiet ((go_at_call 50; exact quiet_left (FF.out _)))
  have i1' : IntKind.i64.wrap (sz - 1) = sz - 1 := IntWalk.i64_in _ ⟨by omega, by omega⟩
  have i2' : IntKind.u64.wrap (sz - 1) = sz - 1 := by show (sz - 1) % 18446744073709551616 = sz - 1; omega
  obtain ⟨g, hg⟩ : ∃ g, w.heap.size = g := ⟨_, rfl⟩
  rw [hg] at z4 z5 z6 z7 z8 hgl0
  clear z3 FF
  go_upto_region 2 with fail
  try simp only [hg]
  clear hg
  obtain ⟨WD, hWD⟩ : ∃ w', (W.drewN nq).drew = w' := ⟨_, rfl⟩
  have HD : Hid (Below W.heap.size W WD) := Lib.hid (by rw [← hWD]; exact (below_drawn W nq).drew)
  have hgl : g < WD.heap.size := Nat.lt_of_lt_of_le hgl0 HD.out.size
  have hpl : p < WD.heap.size := Nat.lt_of_lt_of_le S.out.qlt HD.out.size
  have hql : q < WD.heap.size := Nat.lt_of_lt_of_le R.out.qlt HD.out.size
  have hcbl : cb < WD.heap.size := Nat.lt_of_lt_of_le hcb HD.out.size
  have SA : WD.cell? ⟨g, 4, none⟩ = some i0 ∧ WD.cell? ⟨g, 5, none⟩ = some i1 ∧ WD.cell? ⟨g, 6, none⟩ = some i2 ∧ WD.cell? ⟨g, 7, none⟩ = some i3 ∧ WD.cell? ⟨g, 8, none⟩ = some i4 ∧ WD.cell? ⟨p, 0, none⟩ = some (.slice nA nn nnc) ∧ WD.cell? ⟨p, 1, none⟩ = some (.slice vA nn vc) ∧ WD.cell? ⟨q, 0, none⟩ = some (.slice (some ⟨cb, co, none⟩) f.cn f.cc) ∧ WD.cell? ⟨cb, co + cx * 2 + 1, none⟩ = some (.int .i64 sz) := by
    rw [← hWD]
    exact ⟨z4, z5, z6, z7, z8, p0, p1, y0, g1⟩
  refine Hd.start 23 (fun w' => w'.cell? ⟨g, 4, none⟩ = some i0 ∧ w'.cell? ⟨g, 5, none⟩ = some i1 ∧ w'.cell? ⟨g, 6, none⟩ = some i2 ∧ w'.cell? ⟨g, 7, none⟩ = some i3 ∧ w'.cell? ⟨g, 8, none⟩ = some i4 ∧ w'.cell? ⟨p, 0, none⟩ = some (.slice nA nn nnc) ∧ w'.cell? ⟨p, 1, none⟩ = some (.slice vA nn vc) ∧ w'.cell? ⟨q, 0, none⟩ = some (.slice (some ⟨cb, co, none⟩) f.cn f.cc) ∧ w'.cell? ⟨cb, co + cx * 2 + 1, none⟩ = some (.int .i64 sz)) (by kernel_rfl) ?_
  try rw [hWD]
  clear hWD z4 z5 z6 z7 z8 p0 p1 y0 g1
  refine Hd.take (i := 0) (v := ?vw0) rfl (by decide +kernel) (by decide +kernel) (fun _ _ _ h => h) rfl ?hyw0 SA ?restw0
  case hyw0 =>
    intro wq hSw
    obtain ⟨s1, s2, s3, s4, s5, s6, s7, s8, s9⟩ := hSw
    go_simp
    try with_reducible rfl
  try simp only [Act.put, zA, zB, zC]
  refine Hd.take (i := 1) (v := ?vw1) rfl (by decide +kernel) (by decide +kernel) (fun _ _ _ h => h) rfl ?hyw1 SA ?restw1
  case hyw1 =>
    intro wq hSw
    obtain ⟨s1, s2, s3, s4, s5, s6, s7, s8, s9⟩ := hSw
    go_simp
    try with_reducible rfl
  try simp only [Act.put, zA, zB, zC]
  refine Hd.take (i := 2) (v := ?vw2) rfl (by decide +kernel) (by decide +kernel) (fun _ _ _ h => h) rfl ?hyw2 SA ?restw2
  case hyw2 =>
    intro wq hSw
    obtain ⟨s1, s2, s3, s4, s5, s6, s7, s8, s9⟩ := hSw
    go_simp
    try with_reducible rfl
  try simp only [Act.put, zA, zB, zC]
  refine Hd.take (i := 3) (v := ?vw3) rfl (by decide +kernel) (by decide +kernel) (fun _ _ _ h => h) rfl ?hyw3 SA ?restw3
  case hyw3 =>
    intro wq hSw
    obtain ⟨s1, s2, s3, s4, s5, s6, s7, s8, s9⟩ := hSw
    go_simp
    try with_reducible rfl
  try simp only [Act.put, zA, zB, zC]
  refine Hd.take (i := 4) (v := ?vw4) rfl (by decide +kernel) (by decide +kernel) (fun _ _ _ h => h) rfl ?hyw4 SA ?restw4
  case hyw4 =>
    intro wq hSw
    obtain ⟨s1, s2, s3, s4, s5, s6, s7, s8, s9⟩ := hSw
    go_simp
    try with_reducible rfl
  try simp only [Act.put, zA, zB, zC]
  refine Hd.take (i := 5) (v := ?vw5) rfl (by decide +kernel) (by decide +kernel) (fun _ _ _ h => h) rfl ?hyw5 SA ?restw5
  case hyw5 =>
    intro wq hSw
    obtain ⟨s1, s2, s3, s4, s5, s6, s7, s8, s9⟩ := hSw
    go_simp
    try with_reducible rfl
  try simp only [Act.put, zA, zB, zC]
  refine Hd.take (i := 6) (v := ?vw6) rfl (by decide +kernel) (by decide +kernel) (fun _ _ _ h => h) rfl ?hyw6 SA ?restw6
  case hyw6 =>
    intro wq hSw
    obtain ⟨s1, s2, s3, s4, s5, s6, s7, s8, s9⟩ := hSw
    go_simp
    try with_reducible rfl
  try simp only [Act.put, zA, zB, zC]
  refine Hd.take (i := 7) (v := ?vw7) rfl (by decide +kernel) (by decide +kernel) (fun _ _ _ h => h) rfl ?hyw7 SA ?restw7
  case hyw7 =>
    intro wq hSw
    obtain ⟨s1, s2, s3, s4, s5, s6, s7, s8, s9⟩ := hSw
    go_simp
    try with_reducible rfl
  try simp only [Act.put, zA, zB, zC]
  refine Hd.take (i := 8) (v := ?vw8) rfl (by decide +kernel) (by decide +kernel) (fun _ _ _ h => h) rfl ?hyw8 SA ?restw8
  case hyw8 =>
    intro wq hSw
    obtain ⟨s1, s2, s3, s4, s5, s6, s7, s8, s9⟩ := hSw
    go_simp
    try with_reducible rfl
  try simp only [Act.put, zA, zB, zC]
  refine Hd.take (i := 9) (v := ?vw9) rfl (by decide +kernel) (by decide +kernel) (fun _ _ _ h => h) rfl ?hyw9 SA ?restw9
  case hyw9 =>
    intro wq hSw
    obtain ⟨s1, s2, s3, s4, s5, s6, s7, s8, s9⟩ := hSw
    go_simp
    try with_reducible rfl
  try simp only [Act.put, zA, zB, zC]
  refine Hd.take (i := 11) (v := ?vw11) rfl (by decide +kernel) (by decide +kernel) (fun _ _ _ h => h) rfl ?hyw11 SA ?restw11
  case hyw11 =>
    intro wq hSw
    obtain ⟨s1, s2, s3, s4, s5, s6, s7, s8, s9⟩ := hSw
    go_simp
    try with_reducible rfl
  try simp only [Act.put, zA, zB, zC]
  refine Hd.take (i := 12) (v := ?vw12) rfl (by decide +kernel) (by decide +kernel) (fun _ _ _ h => h) rfl ?hyw12 SA ?restw12
  case hyw12 =>
    intro wq hSw
    obtain ⟨s1, s2, s3, s4, s5, s6, s7, s8, s9⟩ := hSw
    go_simp
    try with_reducible rfl
  try simp only [Act.put, zA, zB, zC]
  refine Hd.take (i := 13) (v := ?vw13) rfl (by decide +kernel) (by decide +kernel) (fun _ _ _ h => h) rfl ?hyw13 SA ?restw13
  case hyw13 =>
    intro wq hSw
    obtain ⟨s1, s2, s3, s4, s5, s6, s7, s8, s9⟩ := hSw
    go_simp
    try with_reducible rfl
  try simp only [Act.put, zA, zB, zC]
  refine Hd.take (i := 14) (v := ?vw14) rfl (by decide +kernel) (by decide +kernel) (fun _ _ _ h => h) rfl ?hyw14 SA ?restw14
  case hyw14 =>
    intro wq hSw
    obtain ⟨s1, s2, s3, s4, s5, s6, s7, s8, s9⟩ := hSw
    go_simp
    try with_reducible rfl
  try simp only [Act.put, zA, zB, zC]
  refine Hd.take (i := 15) (v := ?vw15) rfl (by decide +kernel) (by decide +kernel) (fun _ _ _ h => h) rfl ?hyw15 SA ?restw15
  case hyw15 =>
    intro wq hSw
    obtain ⟨s1, s2, s3, s4, s5, s6, s7, s8, s9⟩ := hSw
    go_simp
    try with_reducible rfl
  try simp only [Act.put, zA, zB, zC]
  refine Hd.take (i := 16) (v := ?vw16) rfl (by decide +kernel) (by decide +kernel) (fun _ _ _ h => h) rfl ?hyw16 SA ?restw16
  case hyw16 =>
    intro wq hSw
    obtain ⟨s1, s2, s3, s4, s5, s6, s7, s8, s9⟩ := hSw
    go_simp
    try with_reducible rfl
  try simp only [Act.put, zA, zB, zC]
  refine Hd.take (i := 17) (v := ?vw17) rfl (by decide +kernel) (by decide +kernel) (fun _ _ _ h => h) rfl ?hyw17 SA ?restw17
  case hyw17 =>
    intro wq hSw
    obtain ⟨s1, s2, s3, s4, s5, s6, s7, s8, s9⟩ := hSw
    go_simp
    try with_reducible rfl
  try simp only [Act.put, zA, zB, zC]
  refine Hd.take (i := 18) (v := ?vw18) rfl (by decide +kernel) (by decide +kernel) (fun _ _ _ h => h) rfl ?hyw18 SA ?restw18
  case hyw18 =>
    intro wq hSw
    obtain ⟨s1, s2, s3, s4, s5, s6, s7, s8, s9⟩ := hSw
    go_simp
    try with_reducible rfl
  try simp only [Act.put, zA, zB, zC]
  refine Hd.take (i := 19) (v := ?vw19) rfl (by decide +kernel) (by decide +kernel) (fun _ _ _ h => h) rfl ?hyw19 SA ?restw19
  case hyw19 =>
    intro wq hSw
    obtain ⟨s1, s2, s3, s4, s5, s6, s7, s8, s9⟩ := hSw
    go_simp
    try with_reducible rfl
  try simp only [Act.put, zA, zB, zC]
  refine Hd.take (i := 20) (v := ?vw20) rfl (by decide +kernel) (by decide +kernel) (fun _ _ _ h => h) rfl ?hyw20 SA ?restw20
  case hyw20 =>
    intro wq hSw
    obtain ⟨s1, s2, s3, s4, s5, s6, s7, s8, s9⟩ := hSw
    go_simp
    try with_reducible rfl
  try simp only [Act.put, zA, zB, zC]
  refine Hd.take (i := 21) (v := ?vw21) rfl (by decide +kernel) (by decide +kernel) (fun _ _ _ h => h) rfl ?hyw21 SA ?restw21
  case hyw21 =>
    intro wq hSw
    obtain ⟨s1, s2, s3, s4, s5, s6, s7, s8, s9⟩ := hSw
    go_simp
    try with_reducible rfl
  try simp only [Act.put, zA, zB, zC]
  refine Hd.one (i := 10) rfl (by kernel_rfl) rfl (fun K hK => ?_)
  go_simp
  have S2 := Lib.hid (S.out.keep HD.out)
  refine (eval_any h.i (exV_keep HD.out XI2.out) S2.out.isn S2.out.isv S2.out.n2).mono ?_
  rintro e w2 ⟨rfl, hb2⟩
  have SB : w2.cell? ⟨g, 4, none⟩ = some i0 ∧ w2.cell? ⟨g, 5, none⟩ = some i1 ∧ w2.cell? ⟨g, 6, none⟩ = some i2 ∧ w2.cell? ⟨g, 7, none⟩ = some i3 ∧ w2.cell? ⟨g, 8, none⟩ = some i4 ∧ w2.cell? ⟨p, 0, none⟩ = some (.slice nA nn nnc) ∧ w2.cell? ⟨p, 1, none⟩ = some (.slice vA nn vc) ∧ w2.cell? ⟨q, 0, none⟩ = some (.slice (some ⟨cb, co, none⟩) f.cn f.cc) ∧ w2.cell? ⟨cb, co + cx * 2 + 1, none⟩ = some (.int .i64 sz) := ⟨(hb2.cell (p := ⟨g, 4, none⟩) hgl).trans SA.1, (hb2.cell (p := ⟨g, 5, none⟩) hgl).trans SA.2.1, (hb2.cell (p := ⟨g, 6, none⟩) hgl).trans SA.2.2.1, (hb2.cell (p := ⟨g, 7, none⟩) hgl).trans SA.2.2.2.1, (hb2.cell (p := ⟨g, 8, none⟩) hgl).trans SA.2.2.2.2.1, (hb2.cell (p := ⟨p, 0, none⟩) hpl).trans SA.2.2.2.2.2.1, (hb2.cell (p := ⟨p, 1, none⟩) hpl).trans SA.2.2.2.2.2.2.1, (hb2.cell (p := ⟨q, 0, none⟩) hql).trans SA.2.2.2.2.2.2.2.1, (hb2.cell (p := ⟨cb, co + cx * 2 + 1, none⟩) hcbl).trans SA.2.2.2.2.2.2.2.2⟩
  have B2 := Lib.hid (HD.out.trans (hb2.mono HD.out.size))
  refine hK _ _ (fun _ => SB) ?_
  clear hK K hb2 SA S2
  try simp only [Act.put, zA, zB, zC]
  refine Hd.one (i := 22) rfl (by kernel_rfl) rfl (fun K hK => ?_)
  go_simp
  refine hK _ _ (fun _ => SB) ?_
  clear hK K
  try simp only [Act.put, zA, zB, zC]
  refine Hd.one (i := 23) rfl (by kernel_rfl) rfl (fun K hK => ?_)
  go_simp
  refine hK _ _ (fun h => absurd h (by omega)) ?_
  clear hK K SB
  try simp only [Act.put, zA, zB, zC]
  refine Hd.done (by kernel_rfl) ?_ _
  have R2 := Lib.hid (R.out.keep B2.out)
  have y0 := R2.out.y0
  obtain ⟨X, hX⟩ : ∃ X, bits .and .u64 (evalE names v h.i) (sz - 1) = X := ⟨_, rfl⟩
  have hX2 := and_low (evalE names v h.i) (m := sz - 1) (by omega) (by omega)
  rw [hX] at hX2 WE
  obtain ⟨CB, hCB⟩ : ∃ C, cbase f.cs cx = C := ⟨_, rfl⟩
  rw [hCB] at PL WE
  have hp1 := PL.out.2.1
  have hp2 := PL.out.2.2
  have PE : Hid (Lay.place f.cs (cx : Nat) = 4096 + 8 * CB) := Lib.hid PL.out.1
  have j1 : IntKind.i64.wrap (4096 + 8 * CB - 4096) = 8 * CB := by rw [IntWalk.i64_in _ ⟨by omega, by omega⟩]; omega
  have j2 : IntKind.i64.wrap X = X := IntWalk.i64_in _ ⟨by omega, by omega⟩
  have j3 : IntKind.i64.wrap (CB + X) = CB + X := IntWalk.i64_in _ ⟨by omega, by omega⟩
  have j4 : (8 * CB).tdiv 8 = CB := by rw [Int.mul_comm]; exact Int.mul_tdiv_cancel _ (by decide)
  have HX := Lib.hid hX
  clear hX hCB
  go_upto_region 3 with fail
  try rw [HX.out]
  go_wp2_with fail
  refine (Lay.rat_any f.cA f.cn f.cc (cx : Nat) f.cs _ R2.out.cl hc2).mono ?_
  rintro en w7 ⟨rfl, hb7⟩
  rw [PE.out]
  have B7 := Lib.hid (B2.out.trans (hb7.mono B2.out.size))
  clear hb7
  go_wp2_with fail
  go_ret
  refine ⟨?_, HB.out.trans (B7.out.mono HB.out.size)⟩
  rw [WE.out]
  have e : ((CB + X).toNat : Int) = CB + X := by omega
  rw [e]
  rfl
end Go.Proofs.Ytapnnbbbgopobaa.Rn
