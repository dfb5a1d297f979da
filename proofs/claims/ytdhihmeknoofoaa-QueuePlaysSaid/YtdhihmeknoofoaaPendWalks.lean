/-
  WALKS: pending writes: May, the program's and the document's; the document's Last.
-/
import Derived.Test.YtdhihmeknoofoaaProg
import Derived.Test.YtdhihmeknoofoaaPendPlain
import Derived.Test.YtdhihmeknoofoaaMem
import Derived.Test.YtdhihmeknoofoaaOwn
import Derived.Deep.DeepCutAuto
namespace Go.Proofs.Ytdhihmeknoofoaa.PnW
set_option linter.unusedVariables false
set_option linter.unusedSimpArgs false
open Go.RowKit Cm Mm Ow Pnd

/-- a write as a value, and the slice that holds writes -/
def wrL (x : Wr) : List Value := [.int .i64 x.at', .int .u64 x.v, .bool x.rel]
def IsW (w : World) (A : Option Addr) (n cap : Nat) (l : List Wr) : Prop := l.length = n ∧ Sl w A n cap 3 (fun i => wrL (l.getD i zeroWr))
theorem IsW.keep {w w' : World} {A : Option Addr} {n cap : Nat} {l : List Wr} (h : IsW w A n cap l) (hb : Below w.heap.size w w') : IsW w' A n cap l := ⟨h.1, h.2.keep hb⟩
theorem IsW.cell {w : World} {A : Option Addr} {n cap : Nat} {l : List Wr} (h : IsW w A n cap l) {k : Nat} (hk : k < n) :
    ∃ b o, A = some ⟨b, o, none⟩ ∧ b < w.heap.size ∧ w.cell? ⟨b, o + k * 3, none⟩ = some (.int .i64 (l.getD k zeroWr).at') ∧ w.cell? ⟨b, o + k * 3 + 1, none⟩ = some (.int .u64 (l.getD k zeroWr).v) ∧ w.cell? ⟨b, o + k * 3 + 2, none⟩ = some (.bool (l.getD k zeroWr).rel) := by
  obtain ⟨b, o, e, hb, hc⟩ := h.2.at_ (by omega)
  exact ⟨b, o, e, hb, by simpa [wrL] using hc k hk 0 (by omega), by simpa [wrL, Nat.add_assoc] using hc k hk 1 (by omega), by simpa [wrL, Nat.add_assoc] using hc k hk 2 (by omega)⟩
theorem IsW.take {w : World} {A : Option Addr} {n cap k : Nat} {l : List Wr} (h : IsW w A n cap l) (hk : k ≤ n) : IsW w A k cap (l.take k) :=
  ⟨by rw [List.length_take, h.1]; omega, (h.2.take hk).ext fun i hi => by
    congr 1
    simp only [List.getD, List.getElem?_take, if_pos hi]⟩

def findI (l : List Wr) (a : Int) : Int := match l.findIdx? (fun x => x.at' == a) with | some i => (i : Int) | none => -1
theorem find_none (l : List Wr) (a : Int) (h : ∀ i, i < l.length → ((l.getD i zeroWr).at' == a) = false) : findI l a = -1 := by
  unfold findI
  have e : l.findIdx? (fun c => c.at' == a) = none := by
    rw [List.findIdx?_eq_none_iff]
    intro x hx
    obtain ⟨i, hi, rfl⟩ := List.getElem_of_mem hx
    have := h i hi
    simpa [List.getD, hi] using this
  rw [e]
theorem find_some (l : List Wr) (a : Int) (k : Nat) (hk : k < l.length) (h : ∀ i, i < k → ((l.getD i zeroWr).at' == a) = false) (hs : ((l.getD k zeroWr).at' == a) = true) : findI l a = (k : Int) := by
  unfold findI
  have e : l.findIdx? (fun c => c.at' == a) = some k := by
    rw [List.findIdx?_eq_some_iff_getElem]
    refine ⟨hk, by simpa [List.getD, hk] using hs, fun j hj => ?_⟩
    have := h j hj
    simpa [List.getD, show j < l.length by omega] using this
  rw [e]
theorem find_any (l : List Wr) (a : Int) : decide (0 ≤ findI l a) = l.any fun x => x.at' == a := by
  unfold findI
  cases h : l.findIdx? (fun x => x.at' == a) with
  | none =>
    rw [List.findIdx?_eq_none_iff] at h
    rw [List.any_eq_false.2 fun x hx => by simpa using h x hx]
    rfl
  | some i =>
    rw [List.findIdx?_eq_some_iff_getElem] at h
    obtain ⟨hi, hp, _⟩ := h
    rw [List.any_eq_true.2 ⟨l[i], List.getElem_mem hi, hp⟩]
    simp

theorem clo_any (x : Wr) (A : Option Addr) (n cap i p q : Nat) (l : List Wr) (w : World) (hI : IsW w A n cap l) (hp : w.cell? ⟨p, 0, none⟩ = some (.slice A n cap)) (hq : w.cell? ⟨q, 0, none⟩ = some (.int .i64 (i : Int))) (hi : i < n) :
    Calls Try.prog 63 #[.agg #[.int .i64 x.at', .int .u64 x.v, .bool x.rel], .pointer (some ⟨p, 0, none⟩), .pointer (some ⟨q, 0, none⟩)] w fun e w' => e = .returned (.bool (x.at' == (l.getD i zeroWr).at')) ∧ Below w.heap.size w w' := by
  have hB : Below w.heap.size w (w.alloc (.cells #[.int .i64 x.at', .int .u64 x.v, .bool x.rel] 53)) := (Below.refl _ _).alloc (Nat.le_refl _) _
  have hp' := (World.cell?_of_block (hB.block p (World.block_lt_of_cell? w _ hp)) : (w.alloc _).cell? ⟨p, 0, none⟩ = _).trans hp
  have hq' := (World.cell?_of_block (hB.block q (World.block_lt_of_cell? w _ hq)) : (w.alloc _).cell? ⟨q, 0, none⟩ = _).trans hq
  obtain ⟨b, o, rfl, hb, g0, g1, g2⟩ := (hI.keep hB).cell hi
  clear g1 g2 hp hq hI hb
  have HB := Lib.hid hB
  clear hB
  have f1 : (0 : Int) ≤ (i : Int) := by omega
  have f2 : (i : Int) < (n : Int) := by omega
  generalize (l.getD i zeroWr).at' = a at *
  go_enter Try.func63, Try.ntmps63
  go_wp2_with fail
  go_quiet (fail)
  go_wp2_with fail
  go_ret
  exact ⟨rfl, below_drewN HB.out _⟩

theorem no_snoc {l : List Wr} {a : Int} {k : Nat} {c : Wr} (hno : Hid (∀ i, i < k → ((l.getD i zeroWr).at' == a) = false)) (hc : Hid (l.getD k zeroWr = c)) (h : (c.at' == a) = false) :
    Hid (∀ i, i < k + 1 → ((l.getD i zeroWr).at' == a) = false) := fun i hi => by
  by_cases e : i = k
  · subst e; rw [hc.out]; exact h
  · exact hno.out i (by omega)
set_option maxHeartbeats 1600000 in
theorem idx_any (A : Option Addr) (m cap n cap' i p q : Nat) (l s : List Wr) (w : World) (h : IsW w A m cap s) (hI : IsW w A n cap' l) (hn : n ≤ 65536) (hm : m ≤ n) (hp : w.cell? ⟨p, 0, none⟩ = some (.slice A n cap')) (hq : w.cell? ⟨q, 0, none⟩ = some (.int .i64 (i : Int))) (hi : i < n) :
    Calls Try.prog 81 #[.slice A m cap, .func (.func 63) #[] #[.pointer (some ⟨p, 0, none⟩), .pointer (some ⟨q, 0, none⟩)]] w fun e w' => e = .returned (.int .i64 (findI s (l.getD i zeroWr).at')) ∧ Below w.heap.size w w' := by
  have hl := Lib.hid h.1
  have HP := Lib.hid hp
  have HQ := Lib.hid hq
  have HI := Lib.hid hI
  have lp := Lib.hid (World.block_lt_of_cell? w _ hp)
  have lq := Lib.hid (World.block_lt_of_cell? w _ hq)
  clear hp hq hI
  go_enter Try.func81, Try.ntmps81
  go_wp2
  go_loopw [8] (fun j wr => ∃ (k : Nat), k ≤ m ∧ j = .int .i64 k ∧ Hid (∀ x, x < k → ((s.getD x zeroWr).at' == (l.getD i zeroWr).at') = false) ∧ Below w.heap.size w wr) (fun j _ => m - (intOf j).toNat)
  case atStart => exact ⟨0, by omega, rfl, fun i hi => absurd hi (by omega), Below.refl _ _⟩
  case round =>
    obtain ⟨k, hk, rfl, hno, hbel⟩ := hrel
    have HB := Lib.hid hbel
    clear hbel
    by_cases hkn : k < m
    · obtain ⟨b, o, rfl, hb, g0, g1, g2⟩ := (h.keep HB.out).cell hkn
      have C := Lib.hid (clo_any (s.getD k zeroWr) _ n cap' i p q l wr (HI.out.keep HB.out) ((HB.out.cell (p := ⟨p, 0, none⟩) lp.out).trans HP.out) ((HB.out.cell (p := ⟨q, 0, none⟩) lq.out).trans HQ.out) hi)
      generalize hc : s.getD k zeroWr = c at *
      have HC := Lib.hid hc; clear hc
      obtain ⟨c1, c2, c3⟩ := c
      cases hs : (c1 == (l.getD i zeroWr).at')
      · rw [hs] at C
        go_wp2_with (go_at_call 63; refine C.out.mono ?_; rintro e w' ⟨rfl, hb2⟩)
        go_roundw
        case rel => exact ⟨k + 1, by omega, by go_num, no_snoc hno HC hs, below_seq HB.out hb2⟩
        case measure => simp [intOf]; omega
      · rw [hs] at C
        go_wp2_with (go_at_call 63; refine C.out.mono ?_; rintro e w' ⟨rfl, hb2⟩)
        go_ret
        exact ⟨ret1 (find_some s _ k (by have := hl.out; omega) hno.out (by rw [HC.out]; exact hs)).symm, below_seq HB.out hb2⟩
    · obtain rfl : k = m := by omega
      go_wp2_with fail
      go_ret
      exact ⟨ret1 (find_none s _ (by rw [hl.out]; exact hno.out)).symm, HB.out⟩
theorem has_any (A : Option Addr) (m cap n cap' i p q : Nat) (l s : List Wr) (w : World) (h : IsW w A m cap s) (hI : IsW w A n cap' l) (hn : n ≤ 65536) (hm : m ≤ n) (hp : w.cell? ⟨p, 0, none⟩ = some (.slice A n cap')) (hq : w.cell? ⟨q, 0, none⟩ = some (.int .i64 (i : Int))) (hi : i < n) :
    Calls Try.prog 62 #[.slice A m cap, .func (.func 63) #[] #[.pointer (some ⟨p, 0, none⟩), .pointer (some ⟨q, 0, none⟩)]] w fun e w' => e = .returned (.bool (s.any fun x => x.at' == (l.getD i zeroWr).at')) ∧ Below w.heap.size w w' := by
  have C := Lib.hid (idx_any A m cap n cap' i p q l s w h hI hn hm hp hq hi)
  have HF := Lib.hid (find_any s (l.getD i zeroWr).at')
  clear h hI hp hq
  go_enter Try.func62, Try.ntmps62
  go_wp2_with fail
  refine C.out.mono ?_
  rintro e w' ⟨rfl, hb2⟩
  go_wp2_with fail
  go_ret
  exact ⟨retb HF.out, hb2⟩

set_option maxHeartbeats 1600000 in
theorem may_any (A : Option Addr) (n cap : Nat) (i : Int) (l : List Wr) (w : World) (h : IsW w A n cap l) (hn : n ≤ 65536) :
    Calls Try.prog 33 #[.slice A n cap, .int .i64 i] w fun e w' => e = .returned (.bool (may l i)) ∧ Below w.heap.size w w' := by
  have hl := h.1
  obtain ⟨W, hW⟩ : ∃ W, W = (w.alloc (.cells #[.slice A n cap] 50)).alloc (.cells #[.int .i64 i] 3) := ⟨_, rfl⟩
  have hB : Below w.heap.size w W := by rw [hW]; exact ((Below.refl _ _).alloc (Nat.le_refl _) _).alloc (by simp) _
  have hp : W.cell? ⟨w.heap.size, 0, none⟩ = some (.slice A n cap) := by
    rw [hW, World.cell?_alloc_lt _ _ _ (by simp)]
    simp [World.cell?_alloc_new]
  have hq : W.cell? ⟨w.heap.size + 1, 0, none⟩ = some (.int .i64 i) := by
    have e : (w.alloc (.cells #[.slice A n cap] 50)).heap.size = w.heap.size + 1 := by simp
    rw [hW, ← e]
    exact World.cell?_alloc_new _ _ _ 0
  have hI := h.keep hB
  have hcp : n ≤ cap := hI.2.le
  have HW := Lib.hid hW
  have HB := Lib.hid hB
  clear hW hB h
  by_cases hin : 0 ≤ i ∧ i < n
  · obtain ⟨k, rfl⟩ := Int.eq_ofNat_of_zero_le hin.1
    have hk : k < n := by omega
    have hM : may l (k : Int) = (!((l.getD k zeroWr).rel && decide (0 < k)) && first l k) := by
      unfold may
      rw [decide_eq_true (by omega), Int.toNat_natCast, Bool.true_and]
      congr 3
      simp
    have C := Lib.hid (has_any A k cap n cap k w.heap.size (w.heap.size + 1) l (l.take k) W (hI.take (by omega)) hI hn (by omega) hp hq hk)
    have HF : first l k = !((l.take k).any fun x => x.at' == (l.getD k zeroWr).at') := rfl
    generalize ((l.take k).any fun x => x.at' == (l.getD k zeroWr).at') = fb at *
    obtain ⟨b, o, rfl, hb, g0, g1, g2⟩ := hI.cell hk
    have HM := Lib.hid (hM.trans (by rw [HF]))
    clear hM HF hI g0 g1 hin hl
    generalize (l.getD k zeroWr).rel = rl at *
    have t1 : decide (n ≤ k) = false := by simp; omega
    have f2 : (k : Int) < (n : Int) := by omega
    have hcap := hcp
    have f3 : k ≤ cap := by omega
    have f4 : (k : Int) ≤ (cap : Int) := by omega
    have f5 : ¬ cap = 0 := by omega
    clear hcap hcp
    have hcase : rl = false ∨ (rl = true ∧ decide (0 < k) = false) ∨ (rl = true ∧ decide (0 < k) = true) := by cases rl <;> cases decide (0 < k) <;> simp
    rcases hcase with rfl | ⟨rfl, h2⟩ | ⟨rfl, h2⟩
    · go_enter Try.func33, Try.ntmps33
      go_upto_region 1 with (fail)
      rw [← HW.out]
      go_wp2_with fail
      refine C.out.mono ?_
      rintro e w' ⟨rfl, hb2⟩
      go_wp2_with fail
      go_ret
      exact ⟨retb (by rw [HM.out]; simp), HB.out.trans (hb2.mono HB.out.size)⟩
    · rw [h2] at HM
      go_enter Try.func33, Try.ntmps33
      go_upto_region 1 with (fail)
      rw [← HW.out]
      go_wp2_with fail
      refine C.out.mono ?_
      rintro e w' ⟨rfl, hb2⟩
      go_wp2_with fail
      go_ret
      exact ⟨retb (by rw [HM.out]; simp), HB.out.trans (hb2.mono HB.out.size)⟩
    · rw [h2] at HM
      go_enter Try.func33, Try.ntmps33
      go_upto_region 1 with (fail)
      rw [← HW.out]
      go_wp2_with fail
      go_ret
      exact ⟨retb (by rw [HM.out]; simp), HB.out⟩
  · have hM : may l i = false := by
      unfold may
      rw [decide_eq_false (by omega)]
      simp
    have HM := Lib.hid hM
    clear hM hI hl
    obtain h | ⟨h, h2⟩ : decide (i < 0) = true ∨ (decide (i < 0) = false ∧ decide ((n : Int) ≤ i) = true) := by simp; omega
    all_goals
      clear hin
      go_enter Try.func33, Try.ntmps33
      go_upto_region 1 with (fail)
      rw [← HW.out]
      go_wp2_with fail
      go_ret
      exact ⟨by rw [HM.out]; rfl, HB.out⟩
end Go.Proofs.Ytdhihmeknoofoaa.PnW
