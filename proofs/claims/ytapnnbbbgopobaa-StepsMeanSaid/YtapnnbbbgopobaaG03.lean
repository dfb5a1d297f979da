/-
  WALK: flush.Code: accesses made durable.
-/
import Derived.Test.YtapnnbbbgopobaaStWalks
set_option linter.unusedVariables false
set_option linter.unusedSimpArgs false
namespace Go.Proofs.Ytapnnbbbgopobaa.StC
open Go.RowKit Cm Mm Ow Stp StW
end Go.Proofs.Ytapnnbbbgopobaa.StC
namespace Go.Proofs.Ytapnnbbbgopobaa.StM
open Go.RowKit Cm Mm Ow Stp StW
theorem acc_kind (s : St) : (s.kind == 3 || s.kind == 4 || s.kind == 5) = access s := rfl
end Go.Proofs.Ytapnnbbbgopobaa.StM
namespace Go.Proofs.Ytapnnbbbgopobaa.StF
open Go.RowKit Cm Mm Ow Stp StW StC StM
structure Vr (w : World) (p : Nat) (x y : Int) (A : Option Addr) (m c : Nat) : Prop where
  c0 : w.cell? ⟨p, 0, none⟩ = some (.int .i64 x)
  c1 : w.cell? ⟨p, 1, none⟩ = some (.int .i64 y)
  c2 : w.cell? ⟨p, 2, none⟩ = some (.slice A m c)
  fr : ∀ o, w.frozen? ⟨p, o, none⟩ = false
theorem Vr.same {w w' : World} {p : Nat} {x y : Int} {A : Option Addr} {m c : Nat} (h : Vr w p x y A m c) (hb : w'.heap[p]? = w.heap[p]?) : Vr w' p x y A m c := by
  obtain ⟨h1, h2⟩ := Ow2.blk_same hb
  exact ⟨(h1 0).trans h.c0, (h1 1).trans h.c1, (h1 2).trans h.c2, fun o => (h2 o).trans (h.fr o)⟩
theorem Vr.lt {w : World} {p : Nat} {x y : Int} {A : Option Addr} {m c : Nat} (h : Vr w p x y A m c) : p < w.heap.size := World.block_lt_of_cell? w _ h.c0
theorem Vr.keep {w w' : World} {p : Nat} {x y : Int} {A : Option Addr} {m c : Nat} (h : Vr w p x y A m c) (hb : Below w.heap.size w w') : Vr w' p x y A m c := h.same (hb.block _ h.lt)
theorem Vr.set {w : World} {p : Nat} {x y : Int} {A : Option Addr} {m c : Nat} (h : Vr w p x y A m c) (A2 : Option Addr) (m2 c2 : Nat) : Vr (w.setCell ⟨p, 2, none⟩ (.slice A2 m2 c2)) p x y A2 m2 c2 :=
  ⟨(World.cell?_setCell_other _ _ _ _ (by simp)).trans h.c0, (World.cell?_setCell_other _ _ _ _ (by simp)).trans h.c1, World.cell?_setCell_same _ _ _ h.c2, fun o => by rw [World.frozen?_setCell]; exact h.fr o⟩
theorem vr_new (w : World) (x y : Int) (A : Option Addr) (m c p : Nat) (t : TypeId) (hp : w.heap.size = p) : Vr (w.alloc (.cells #[.int .i64 x, .int .i64 y, .slice A m c] t)) p x y A m c := by
  subst hp
  exact ⟨by simp, by simp, by simp, fun o => by simp⟩
theorem below_al (w : World) (o : Obj) : Below w.heap.size w (w.alloc o) := (Below.refl _ _).alloc (Nat.le_refl _) _
set_option maxHeartbeats 1600000 in
theorem rflush_any (x y : Int) (A : Option Addr) (n cap : Nat) (l : List St) (w : World) (h : IsSt w A n cap l) (hn : n ≤ 65536) :
    Calls Try.prog 7 #[.agg #[.int .i64 x, .int .i64 y, .slice A n cap]] w (GaveC w x y (flush l)) := by
  have hl := Lib.hid h.1
  obtain ⟨W, hW⟩ : ∃ W, W = ((w.alloc (.cells #[.int .i64 x, .int .i64 y, .slice A n cap] 34)).alloc (.cells #[.int .i64 0, .int .i64 0, .slice none 0 0] 34)).alloc (.cells #[.int .i64 x, .int .i64 y, .slice none 0 0] 34) := ⟨_, rfl⟩
  have hB : Below w.heap.size w W := by rw [hW]; go_grown
  have hWs : W.heap.size = w.heap.size + 1 + 1 + 1 := by rw [hW]; simp
  have hWl : w.heap.size + 1 + 1 < W.heap.size := by omega
  have hV : Vr W (w.heap.size + 1 + 1) x y none 0 0 := by rw [hW]; exact vr_new _ _ _ _ _ _ _ _ (by simp)
  have hU : Vr W (w.heap.size + 1) 0 0 none 0 0 := by rw [hW]; exact (vr_new _ _ _ _ _ _ _ _ (by simp)).keep (below_al _ _)
  have hT : Vr W w.heap.size x y A n cap := by rw [hW]; exact ((vr_new _ _ _ _ _ _ _ _ rfl).keep (below_al _ _)).keep (below_al _ _)
  have HW := Lib.hid hW
  have HWs := Lib.hid hWs
  have hS := Lib.hid h
  clear hWs hW h
  go_enter Try.func7, Try.ntmps7
  go_wp2
  have HT := Lib.hid hT
  have HU := Lib.hid hU
  have HV := Lib.hid hV
  clear hT hU hV
  go_loopw [4] (fun i wr => ∃ (k m c : Nat) (A' : Option Addr), k ≤ n ∧ i = .int .i64 k ∧ Vr wr (w.heap.size + 1 + 1) x y A' m c ∧ Own wr W.heap.size 55 9 A' m c ((flush (l.take k)).map stL) ∧ Below (w.heap.size + 1 + 1) W wr) (fun i _ => n - (intOf i).toNat)
  case atStart => exact ⟨0, 0, 0, none, by omega, rfl, by rw [← HW.out]; exact HV.out, Own.nil _ _ _ _, by rw [← HW.out]; exact Below.refl _ _⟩
  case round =>
    obtain ⟨k, m, c, A', hk, rfl, ⟨v0, v1, v2, v3⟩, hown, hbel⟩ := hrel
    have hsz := hbel.size
    obtain ⟨t0, t1, t2, t3⟩ := HT.out.same (hbel.block _ (by omega))
    have hst := Lib.hid (hS.out.keep (hB.trans (hbel.mono (by omega))))
    have hm : m ≤ 3 * k := by have := flush_len_take l k; have := hown.len; simp at this; omega
    have hp3 : w.heap.size + 1 + 1 < wr.heap.size := World.block_lt_of_cell? wr _ v0
    have hp1 : w.heap.size < wr.heap.size := by omega
    have hn1 : ¬ (w.heap.size + 1 + 1 = wr.heap.size) := by omega
    have hn2 : ¬ (wr.heap.size = w.heap.size + 1 + 1) := by omega
    have hWz : W.heap.size ≤ wr.heap.size := by have := HWs.out; omega
    by_cases hkn : k < n
    · have hfs := Lib.hid (flush_snoc l k (by have := hl.out; omega))
      obtain ⟨b, o, rfl, hb, s0, s1, s2, s3, s4, s5, s6, s7, s8⟩ := hst.out.cell (k := k) (by omega)
      generalize hc : l.getD k zeroSt = s at *
      clear hc
      have hV1 := Lib.hid (Vr.keep ⟨v0, v1, v2, v3⟩ (below_al wr (.cells #[.int .i64 s.kind, .int .i64 s.d, .int .i64 s.a, .int .i64 s.b, .int .i64 s.c, .int .i64 s.to, .int .i64 s.cell, .int .u64 s.n, .int .u8 s.op] 55)))
      have v2' := hV1.out.c2
      have hrow := hown.lt
      have HO := Lib.hid hown; clear hown
      have HR := Lib.hid hrow; clear hrow
      cases hacc : access s
      all_goals
        go_wp2_with (at_builtin; refine Ow2.wpList_appN _ rfl _ _ rfl elSt W.heap.size A' m c 1 (wr.heap.size + 1) _ [stL s] (by simp) rfl (HO.out.keep (below_al _ _)) rfl rfl (st_each [s]) (st_ones [s]) (by unfold maxLen; omega) (by omega) (by simp; omega) _ rfl ?_; intro A2 c2 w2 hown2 hbel2 hkp2 hat2; have hq2 := (Ow2.blk_same (hkp2 wr.heap.size (by simp) (fun e => by have := (HR.out _ e).2; omega))).1; have hv := hV1.out.same (hkp2 (w.heap.size + 1 + 1) (by simp; omega) (fun e => by have := (HR.out _ e).1; omega)); have vv2 := hv.c2; have vv3 := hv.fr; have hv := Lib.hid hv; have hz2 := hbel2.size; simp at hz2; have HO2 := Lib.hid hown2; have HK2 := Lib.hid hkp2; clear hown2 hkp2 hat2)
        refine (raccess_any s.kind _).mono ?_
        rintro e w3 ⟨rfl, rfl⟩
        rw [acc_kind, hacc]
        obtain ⟨w5, hw5⟩ : ∃ w5, w5 = w2.setCell ⟨w.heap.size + 1 + 1, 2, none⟩ (.slice A2 (m + 1) c2) := ⟨_, rfl⟩
        rw [← hw5]
        have V5 : Vr w5 (w.heap.size + 1 + 1) x y A2 (m + 1) c2 := by rw [hw5]; exact Vr.set hv.out A2 (m + 1) c2
        have u2 := V5.c2
        have u3 := V5.fr
        have hq5 : ∀ o, w5.cell? ⟨wr.heap.size, o, none⟩ = w2.cell? ⟨wr.heap.size, o, none⟩ := fun o => by rw [hw5]; exact World.cell?_setCell_other _ _ _ _ (by first | (simp; done) | (simp; omega))
        have hz5 : w2.heap.size = w5.heap.size := by rw [hw5]; simp
        have O5 : Own w5 W.heap.size 55 9 A2 (m + 1) c2 ((flush (l.take k)).map stL ++ [stL s]) := by rw [hw5]; exact Ow2.own_set HO2.out (by show w.heap.size + 1 + 1 < W.heap.size; omega) _
        have B5 : Below (w.heap.size + 1 + 1) W w5 := by rw [hw5]; exact ((hbel.alloc (by omega) _).trans (hbel2.mono (by omega))).setCell (by simp) _
        have hz5' : w2.heap.size ≤ w5.heap.size := by omega
        have O5 := Lib.hid O5
        have B5 := Lib.hid B5
        have V5 := Lib.hid V5
        clear hw5 hz5 vv2 vv3
      · go_wp2_with fail
        go_roundw
        case rel => exact ⟨k + 1, m + 1, c2, A2, by omega, by go_num, V5.out, by rw [hfs.out, List.map_append]; unfold flush1; rw [hacc]; exact O5.out, B5.out⟩
        case measure => simp [intOf]; omega
      · have hrow5 := Lib.hid O5.out.lt
        go_wp2_with (at_builtin; refine Ow2.wpList_appN _ rfl _ _ rfl elSt W.heap.size A2 (m + 1) c2 2 w5.heap.size _ [stL (fl s), stL sy] rfl rfl O5.out rfl rfl (st_each [fl s, sy]) (st_ones [fl s, sy]) (by unfold maxLen; omega) (by omega) (by omega) _ rfl ?_; intro A4 c4 w4 hown4 hbel4 hkp4 hat4; have hv4 := V5.out.same (hkp4 (w.heap.size + 1 + 1) (by omega) (fun e => by have := (hrow5.out _ e).1; omega)); have x2 := hv4.c2; have x3 := hv4.fr; have hv4 := Lib.hid hv4; have hz4 := hbel4.size; have HO4 := Lib.hid hown4; clear hown4 hkp4 hat4)
        go_roundw
        case rel => exact ⟨k + 1, m + 1 + 2, c4, A4, by omega, by go_num, hv4.out.set _ _ _, by rw [hfs.out, List.map_append]; unfold flush1; rw [hacc]; simpa using Ow2.own_set HO4.out (by show w.heap.size + 1 + 1 < W.heap.size; omega) _, (B5.out.trans (hbel4.mono (by omega))).setCell (by simp) _⟩
        case measure => simp [intOf]; omega
    · obtain rfl : k = n := by omega
      have e : l.take k = l := by rw [← hl.out]; exact List.take_length
      rw [e] at hown
      have HO := Lib.hid hown; clear hown
      obtain ⟨r0, r1, r2, r3⟩ := HU.out.same (hbel.block _ (by omega))
      clear e
      go_wp2
      refine bodyPost_ret (v := .agg #[.int .i64 x, .int .i64 y, .slice A' m c]) (by simp [results, Try.results7, go_sem, r0, r1, r2, r3]) rfl ?_
      exact ⟨A', m, c, rfl, (Ow2.own_set (Ow2.own_set (Ow2.own_set HO.out (by show w.heap.size + 1 < W.heap.size; omega) _) (by show w.heap.size + 1 < W.heap.size; omega) _) (by show w.heap.size + 1 < W.heap.size; omega) _).low (by omega), (((hB.trans (hbel.mono (by omega))).setCell (by simp) _).setCell (by simp) _).setCell (by simp) _⟩
end Go.Proofs.Ytapnnbbbgopobaa.StF
namespace Go.Proofs.Ytapnnbbbgopobaa.ElW
open Go.RowKit Cm Mm Ow Stp StW StC StM StF
def IsBo (w : World) (A : Option Addr) (n cap : Nat) (l : List Bool) : Prop := l.length = n ∧ Sl w A n cap 1 (fun i => [.bool (l.getD i false)])
theorem IsBo.keep {w w' : World} {A : Option Addr} {n cap : Nat} {l : List Bool} (h : IsBo w A n cap l) (hb : Below w.heap.size w w') : IsBo w' A n cap l := ⟨h.1, h.2.keep hb⟩
theorem IsBo.cell {w : World} {A : Option Addr} {n cap : Nat} {l : List Bool} (h : IsBo w A n cap l) {k : Nat} (hk : k < n) :
    ∃ b o, A = some ⟨b, o, none⟩ ∧ b < w.heap.size ∧ w.cell? ⟨b, o + k, none⟩ = some (.bool (l.getD k false)) := by
  obtain ⟨b, o, e, hb, hc⟩ := h.2.at_ (by omega)
  exact ⟨b, o, e, hb, by simpa using hc k hk 0 (by omega)⟩
theorem elide_next {sole : List Bool} {l L : List St} {i : Nat} {b : Bool} (h : i < l.length) (H : L ++ elide sole (l.drop i) = elide sole l) (hb : (bare sole (l.getD i zeroSt) && flw l i) = b) :
    (L ++ [l.getD i zeroSt]) ++ elide sole (l.drop (if b then i + 3 else i + 1)) = elide sole l := by
  rw [← H, elide_step sole h, hb]; simp
theorem bare_no3 {sole : List Bool} {s : St} (h : (s.kind == 3) = false) : bare sole s = false := by unfold bare; rw [h]; rfl
theorem bare_neg {sole : List Bool} {s : St} (h : ¬ 0 ≤ s.cell) : bare sole s = false := by unfold bare; rw [decide_eq_false (fun x => h x.1)]; simp
theorem bare_far {sole : List Bool} {s : St} (h : ¬ s.cell < sole.length) : bare sole s = false := by unfold bare; rw [decide_eq_false (fun x => h x.2)]; simp
theorem bare_in {sole : List Bool} {s : St} (h : (s.kind == 3) = true) (h0 : 0 ≤ s.cell) (h1 : s.cell < sole.length) : bare sole s = sole.getD s.cell.toNat false := by unfold bare; rw [h, decide_eq_true ⟨h0, h1⟩]; simp
end Go.Proofs.Ytapnnbbbgopobaa.ElW
