/-
  WALK: the law PendingFirst.
-/
import Derived.Test.YtdhihmeknoofoaaPendOwn
namespace Go.Proofs.Ytdhihmeknoofoaa.PnF
set_option linter.unusedVariables false
set_option linter.unusedSimpArgs false
open Go.RowKit Go.WideShapes Go.ChangeShapes Cm Mm Ow Ow2 Pnd PnW PnL PnO

/-- what a round's head finds: the rest, what went, and how many -/
def Rel (w : World) (B n : Nat) (l : List Wr) (t6 t7 t8 : Value) (wr : World) : Prop :=
  ∃ (A1 : Option Addr) (c1 : Nat) (A2 : Option Addr) (c2 : Nat) (g r : List Wr), t6 = .slice A1 r.length c1 ∧ t7 = .slice A2 g.length c2 ∧ t8 = .int .i64 (g.length : Nat) ∧ g.length + r.length = n ∧
    Own wr B 53 3 A1 r.length c1 (r.map wrL) ∧ Own wr B 53 3 A2 g.length c2 (g.map wrL) ∧ (∀ x, A1.map (·.block) = some x → A2.map (·.block) ≠ some x) ∧ (∀ a, only a (g ++ r) = only a l) ∧ Below w.heap.size w wr
theorem Rel.keep {w wr wr' : World} {B n : Nat} {l : List Wr} {t6 t7 t8 : Value} (h : Rel w B n l t6 t7 t8 wr) (hb : Below wr.heap.size wr wr') : Rel w B n l t6 t7 t8 wr' := by
  obtain ⟨A1, c1, A2, c2, g, r, e1, e2, e3, hn, h1, h2, h3, h4, h5⟩ := h
  exact ⟨A1, c1, A2, c2, g, r, e1, e2, e3, hn, h1.keep hb, h2.keep hb, h3, h4, h5.trans (hb.mono h5.size)⟩

theorem ne_of {A5 A3 : Option Addr} {gb N : Nat} (h : A5.map (·.block) = A3.map (·.block) ∨ ∀ b, A5.map (·.block) = some b → N ≤ b) (hne : A3.map (·.block) ≠ some gb) (hlt : gb < N) : A5.map (·.block) ≠ some gb := by
  rcases h with h | h
  · rw [h]; exact hne
  · intro e; have := h gb e; omega
/-- the row behind the one that is taken out -/
theorem sl_rest {w : World} {gb n c k : Nat} {l : List Wr} (h : IsW w (some ⟨gb, 0, none⟩) n c l) (hk : k < n) : Sl w (if c = k + 1 then some ⟨gb, 0, none⟩ else some ⟨gb, (k + 1) * 3, none⟩) (n - (k + 1)) (c - (k + 1)) 3 (fun i => wrL ((l.drop (k + 1)).getD i zeroWr)) := by
  have hd : ∀ i, wrL (l.getD (k + 1 + i) zeroWr) = wrL ((l.drop (k + 1)).getD i zeroWr) := fun i => by simp [List.getD, List.getElem?_drop]
  by_cases hc : c = k + 1
  · rw [if_pos hc]
    have := h.2.le
    exact ⟨by omega, by unfold maxLen; omega, fun h0 => absurd h0 (by omega)⟩
  · rw [if_neg hc]
    have := (h.2.drop (k := k + 1) (by omega)).ext (fun i _ => hd i)
    rw [Nat.zero_add] at this
    exact this
theorem cut_rows (r : List Wr) (k : Nat) (h : k < r.length) : [] ++ (List.range k).map (fun i => wrL ((r.take k).getD i zeroWr)) ++ (List.range (r.length - (k + 1))).map (fun i => wrL ((r.drop (k + 1)).getD i zeroWr)) = (r.take k ++ r.drop (k + 1)).map wrL := by
  have h1 := range_map (r.take k)
  have h2 := range_map (r.drop (k + 1))
  rw [List.length_take, Nat.min_eq_left (by omega)] at h1
  rw [List.length_drop] at h2
  rw [List.nil_append, h1, h2, List.map_append]

set_option maxRecDepth 20000 in
set_option maxHeartbeats 6400000 in
theorem walk {H : Type} {enc : TypeId × Value → H} {d0 d1 : DataW H} {P0 P1 : List MemPlace} {rc : Reach} {b0 : Nat} (v0 v1 : Value) (w : World)
    (k0 : DataW.Trod enc Try.prog w 0 (fun _ => true) true 50 v0 d0 P0) (ok0 : Value.okWide Try.prog w rc b0 50 v0)
    (k1 : DataW.Trod enc Try.prog w 0 (fun _ => true) true 33 v1 d1 P1) (ok1 : Value.okWide Try.prog w rc b0 33 v1) :
    Calls Try.prog 7 #[v0, v1] w fun e w' => e = .returned (.bool true) ∧ Below w.heap.size w w' := by
  obtain ⟨A, n, cap, l, rfl, hI⟩ := open_writes k0 ok0
  obtain ⟨A', m, cap', p, rfl, hpl, hP⟩ := open_ints k1 ok1
  clear k0 ok0 k1 ok1
  have HI := Lib.hid hI
  have HP := Lib.hid hP
  have hl := Lib.hid hI.1
  clear hI hP hpl
  by_cases hin : n ≤ 40 ∧ n ≤ m
  · obtain ⟨hn, hm⟩ := hin
    have t1 : decide (40 < (n : Int)) = false := by simp; omega
    have t2 : decide (m < n) = false := by simp; omega
    have t3 : (n : Int) ≤ 40 := by omega
    have hz1 : Hid ([] ++ (List.range n).map (fun i => wrL (l.getD i zeroWr)) = l.map wrL) := Lib.hid (by rw [← hl.out, List.nil_append, range_map])
    go_enter Try.func7, Try.ntmps7
    go_wp2_with fail
    refine (QuT.alive_any _).mono ?_
    rintro e w1 ⟨rfl, hb1⟩
    have B1 := Lib.hid hb1
    clear hb1
    go_wp2_with (at_builtin; refine wpList_app _ rfl _ _ rfl elW w1.heap.size none 0 0 [] rfl (Own.nil _ _ _ _) A n cap (fun i => wrL (l.getD i zeroWr)) rfl (HI.out.keep B1.out).2 (fun _ _ => rfl) (fun i _ => wr_one _) (by unfold maxLen; omega) (by omega) (Nat.le_refl _) ?_; intro A2 c2 w2 hown2 hg2 hat2; rw [hz1.out] at hown2; rw [Nat.zero_add] at hown2 ⊢; have HO2 := Lib.hid hown2; have BB2 : Hid (Below w1.heap.size w1 w2) := Lib.hid ((Below.refl _ _).grown hg2 (Nat.le_refl _) (fun k hk => by cases hk)); clear hown2 hg2 hat2)
    have B2 := Lib.hid (B1.out.trans (BB2.out.mono B1.out.size))
    have HS := Lib.hid B1.out.size
    generalize hB : w1.heap.size = B at *
    clear hB
    go_loopw [6, 7, 8] (fun t6 t7 t8 wr => Rel w B n l t6 t7 t8 wr) (fun _ _ t8 _ => n - (intOf t8).toNat)
    case atStart => exact ⟨A2, c2, none, 0, [], l, by rw [hl.out], rfl, rfl, by rw [hl.out]; simp, by rw [hl.out]; exact HO2.out, Own.nil _ _ _ _, fun x _ => by simp, fun a => rfl, B2.out⟩
    case round =>
      obtain ⟨A1, c1, A3, c3, g, r, rfl, rfl, rfl, hgr, ho1, ho3, hap, hon, hbel⟩ := hrel
      have O1 := Lib.hid ho1
      have O3 := Lib.hid ho3
      have AP := Lib.hid hap
      have ON := Lib.hid hon
      have HB := Lib.hid hbel
      clear ho1 ho3 hap hon hbel
      by_cases hr0 : 0 < r.length
      · go_wp2_with fail
        refine (may_any A1 r.length c1 0 r _ (isW_own O1.out) (by omega)).mono ?_
        rintro e w3 ⟨rfl, hb3⟩
        rw [may_zero r hr0]
        have O1b := Lib.hid (O1.out.keep hb3)
        have O3b := Lib.hid (O3.out.keep hb3)
        have HBb := Lib.hid (HB.out.trans (hb3.mono HB.out.size))
        clear hb3
        obtain ⟨b, o, rfl, hc⟩ := int_cell (HP.out.keep HBb.out) (k := g.length) (by omega)
        generalize p.getD g.length 0 = x at *
        have hx := and_1023 x
        go_wp2_with fail
        obtain ⟨k0, hk0⟩ := Int.eq_ofNat_of_zero_le (Int.emod_nonneg (bits BinOp.and IntKind.i64 x 1023) (show ((r.length : Nat) : Int) ≠ 0 by omega))
        have hk1 : k0 < r.length := by have := Int.emod_lt_of_pos (bits BinOp.and IntKind.i64 x 1023) (show (0 : Int) < ((r.length : Nat) : Int) by omega); omega
        rw [hk0]
        clear hk0 hx
        refine (may_any A1 r.length c1 (k0 : Int) r _ (isW_own O1b.out) (by omega)).mono ?_
        rintro e w4 ⟨rfl, hb4⟩
        have O1c := Lib.hid (O1b.out.keep hb4)
        have O3c := Lib.hid (O3b.out.keep hb4)
        have HBc := Lib.hid (HBb.out.trans (hb4.mono HBb.out.size))
        have hmf : may r (k0 : Int) = true → first r k0 = true := may_first
        have HMF := Lib.hid hmf
        clear hb4 hmf hc
        generalize may r (k0 : Int) = mb at *
        go_upto_if 52 with (fail)
        go_cut [9] (fun s9 wx => ∃ k : Nat, k < r.length ∧ s9 = .int .i64 k ∧ Hid (first r k = true) ∧ wx = w4)
        case first =>
          cases mb
          · go_wp2_with fail
            go_meet
            exact ⟨0, hr0, rfl, Lib.hid (first_zero r), rfl⟩
          · go_wp2_with fail
            go_meet
            exact ⟨k0, hk1, rfl, Lib.hid (HMF.out trivial), rfl⟩
        case rest =>
          obtain ⟨k, hk, rfl, hfk, rfl⟩ := hcut
          obtain ⟨gb, hgb⟩ := own_head O1c.out hr0
          subst hgb
          have e1 := (isW_own O1c.out).cell hk
          obtain ⟨b1, o1, e1, hbl, q0, q1, q2⟩ := e1
          injection e1 with e1
          injection e1 with e1 e2
          subst e1 e2
          rw [Nat.zero_add] at q0 q1 q2
          have hlt := O1c.out.lt gb rfl
          have hcp : r.length ≤ c1 := (isW_own O1c.out).2.le
          have AP' := AP.out gb rfl
          have HON := Lib.hid (fun a => (only_move g r k hk hfk.out a).trans (ON.out a))
          generalize hcc : r.getD k zeroWr = c at *
          have HCC := Lib.hid hcc
          clear hcc
          obtain ⟨ca, cv, cr⟩ := c
          have f1 : (k : Int) < ((r.length : Nat) : Int) := by omega
          have f2 : (k : Int) ≤ 40 := by omega
          go_wp2_with (at_builtin; refine Ow2.wpList_appN _ rfl _ _ rfl elW B A3 g.length c3 1 wc.heap.size _ [wrL ⟨ca, cv, cr⟩] rfl rfl O3c.out rfl rfl (wr_each _) (wr_ones _) (by unfold maxLen; omega) (by omega) (by omega) _ rfl ?_; intro A5 c5 w5 hown5 hbel5 hkp5 hat5; have O5 := Lib.hid hown5; have B5 := Lib.hid hbel5; have O1d := Lib.hid (own_same O1c.out (fun x hx => hkp5 x (O1c.out.lt x hx).2 (fun e => by injection hx with hx; subst hx; exact AP' e))); have H5 : Hid (A5.map (·.block) ≠ some gb) := Lib.hid (ne_of hat5 AP' hlt.2); clear hown5 hbel5 hkp5 hat5 q0 q1 q2)
          have HW5 := Lib.hid ((isW_own O1d.out).keep ((Below.refl _ _).drew))
          have f3 : k ≤ c1 := by omega
          have f4 : (k : Int) ≤ (c1 : Int) := by omega
          have f5 : ¬ c1 = 0 := by omega
          have f6 : IntKind.i64.wrap ((k : Int) + 1) = (k : Int) + 1 := by rw [IntKind.wrap_i64]; omega
          have f7 : (0 : Int) ≤ (k : Int) + 1 := by omega
          have f8 : ((k : Int) + 1).toNat = k + 1 := by omega
          have f9 : (k : Int) + 1 ≤ ((r.length : Nat) : Int) := by omega
          have f10 : k + 1 ≤ r.length := by omega
          have f11 : r.length ≤ c1 := hcp
          have f12 : ((r.length : Nat) : Int) ≤ (c1 : Int) := by omega
          clear hcp
          refine Hd.start 8 (fun _ => True) (by kernel_rfl) ?_
          refine Hd.take (i := 0) (v := ?v1) rfl (by kernel_rfl) (by kernel_rfl) (fun _ _ _ h => h) rfl ?hy1 trivial ?rest1
          case hy1 =>
            intro wq hSw
            go_simp
            try with_reducible rfl
          try simp only [Act.put, List.setIfInBounds_toArray, List.set_cons_zero, List.set_cons_succ]
          refine Hd.take (i := 1) (v := ?v2) rfl (by kernel_rfl) (by kernel_rfl) (fun _ _ _ h => h) rfl ?hy2 trivial ?rest2
          case hy2 =>
            intro wq hSw
            go_simp
            try with_reducible rfl
          try simp only [Act.put, List.setIfInBounds_toArray, List.set_cons_zero, List.set_cons_succ]
          refine Hd.take (i := 2) (v := ?v3) rfl (by kernel_rfl) (by kernel_rfl) (fun _ _ _ h => h) rfl ?hy3 trivial ?rest3
          case hy3 =>
            intro wq hSw
            go_simp
            try with_reducible rfl
          try simp only [Act.put, List.setIfInBounds_toArray, List.set_cons_zero, List.set_cons_succ]
          refine Hd.take (i := 4) (v := ?v4) rfl (by kernel_rfl) (by kernel_rfl) (fun _ _ _ h => h) rfl ?hy4 trivial ?rest4
          case hy4 =>
            intro wq hSw
            go_simp
            try with_reducible rfl
          try simp only [Act.put, List.setIfInBounds_toArray, List.set_cons_zero, List.set_cons_succ]
          refine Hd.take (i := 5) (v := ?v5) rfl (by kernel_rfl) (by kernel_rfl) (fun _ _ _ h => h) rfl ?hy5 trivial ?rest5
          case hy5 =>
            intro wq hSw
            go_simp
            try with_reducible rfl
          try simp only [Act.put, List.setIfInBounds_toArray, List.set_cons_zero, List.set_cons_succ]
          refine Hd.take (i := 6) (v := ?v6) rfl (by kernel_rfl) (by kernel_rfl) (fun _ _ _ h => h) rfl ?hy6 trivial ?rest6
          case hy6 =>
            intro wq hSw
            go_simp
            try with_reducible rfl
          try simp only [Act.put, List.setIfInBounds_toArray, List.set_cons_zero, List.set_cons_succ]
          refine Hd.take (i := 7) (v := ?v7) rfl (by kernel_rfl) (by kernel_rfl) (fun _ _ _ h => h) rfl ?hy7 trivial ?rest7
          case hy7 =>
            intro wq hSw
            go_simp
            try with_reducible rfl
          try simp only [Act.put, List.setIfInBounds_toArray, List.set_cons_zero, List.set_cons_succ]
          refine Hd.one (i := 3) rfl (by kernel_rfl) rfl (fun K hK => ?_)
          refine wp_app _ _ _ rfl elW w5.heap.size none 0 0 [] rfl (Own.nil _ _ _ _) (some ⟨gb, 0, none⟩) k c1 (fun i => wrL ((r.take k).getD i zeroWr)) rfl (HW5.out.take (by omega)).2 (fun _ _ => rfl) (fun i _ => wr_one _) (by unfold maxLen; omega) (by omega) (Nat.le_refl _) ?_
          intro A6 c6 w6 hown6 hg6 hat6
          have O6 := Lib.hid hown6
          have B6 : Hid (Below w5.heap.size w5 w6) := Lib.hid (((Below.refl w5.heap.size w5).drew).grown hg6 (Nat.le_refl _) (fun k hk => by cases hk))
          refine hK _ _ (fun _ => trivial) ?_
          have H6 : Hid (∀ x, A6.map (·.block) = some x → w5.heap.size ≤ x) := Lib.hid (fun x hx => (O6.out.lt x hx).1)
          clear hK K hown6 hg6 hat6
          try simp only [Act.put, List.setIfInBounds_toArray, List.set_cons_zero, List.set_cons_succ]
          refine Hd.one (i := 8) rfl (by kernel_rfl) rfl (fun K hK => ?_)
          refine wp_app _ _ _ rfl elW w5.heap.size A6 (0 + k) c6 _ rfl O6.out (if c1 = k + 1 then some ⟨gb, 0, none⟩ else some ⟨gb, (k + 1) * 3, none⟩) (r.length - (k + 1)) (c1 - (k + 1)) (fun i => wrL ((r.drop (k + 1)).getD i zeroWr)) rfl (sl_rest ((isW_own O1d.out).keep B6.out) hk) (fun _ _ => rfl) (fun i _ => wr_one _) (by unfold maxLen; omega) (by omega) B6.out.size ?_
          intro A8 c8 w8 hown8 hg8 hat8
          rw [cut_rows r k hk] at hown8
          have hB8 : Below w5.heap.size w5 w8 := B6.out.grown hg8 B6.out.size (fun k hk => H6.out k hk)
          have O8 := Lib.hid hown8
          have B8 := Lib.hid hB8
          refine hK _ _ (fun h => absurd h (by omega)) ?_
          clear hK K hown8 hg8 hat8 hB8
          try simp only [Act.put, List.setIfInBounds_toArray, List.set_cons_zero, List.set_cons_succ]
          refine Hd.one (i := 9) rfl (by kernel_rfl) rfl (fun K hK => ?_)
          go_simp
          refine hK _ _ (fun h => absurd h (by omega)) ?_
          clear hK K
          try simp only [Act.put, List.setIfInBounds_toArray, List.set_cons_zero, List.set_cons_succ]
          refine Hd.done (by kernel_rfl) ?_ _
          have hlen : (r.take k ++ r.drop (k + 1)).length = k + (r.length - (k + 1)) := by rw [List.length_append, List.length_take, List.length_drop]; omega
          have HLn := Lib.hid hlen
          have h5 := Nat.le_trans hlt.1 (Nat.le_of_lt hlt.2)
          have BW5 := Lib.hid (HBc.out.trans (B5.out.mono (Nat.le_trans HS.out (Nat.le_refl _))))
          clear hlen f1 f2 f3 f4 f5 f6 f7 f8 f9 f10 f11 f12
          go_wp2_with fail
          go_roundw
          case rel =>
            refine ⟨A8, c8, A5, c5, g ++ [⟨ca, cv, cr⟩], r.take k ++ r.drop (k + 1), by rw [HLn.out], by simp, by simp, ?_, ?_, ?_, ?_, HON.out, ?_⟩
            · rw [HLn.out]; simp; omega
            · have := O8.out.low (Nat.le_trans h5 B5.out.size)
              rw [Nat.zero_add] at this
              rw [HLn.out]; exact this
            · have := O5.out.keep B8.out
              simpa using this
            · intro x hx e
              have := (O8.out.lt x hx).1
              have := (O5.out.lt x e).2
              omega
            · exact BW5.out.trans (B8.out.mono BW5.out.size)
          case measure => simp [intOf]; omega
      · obtain rfl : r = [] := List.length_eq_zero_iff.1 (by omega)
        have hall : ∀ a, lastV l a = lastV g a := fun a => (last_same (by have := ON.out a; rw [List.append_nil] at this; exact this)).symm
        have HA := Lib.hid hall
        have hgn : g.length = n := by simpa using hgr
        have HG := Lib.hid hgn
        clear hall hgn hgr hr0
        go_wp2_with fail
        go_loop [10] (fun i => ∃ j : Nat, j ≤ n ∧ i = .int .i64 j) (fun i => n - (intOf i).toNat)
        case atStart => exact ⟨0, Nat.zero_le _, rfl⟩
        case round =>
          obtain ⟨j, hj, rfl⟩ := hrel
          by_cases hjn : j < n
          · have hIr := HI.out.keep HB.out
            have hL := Lib.hid hIr
            obtain ⟨b, o, rfl, hbl, q0, q1, q2⟩ := hIr.cell hjn
            clear hIr q1 q2 hbl
            generalize (l.getD j zeroWr).at' = a at *
            have f1 : (j : Int) < (n : Int) := by omega
            go_wp2_with fail
            refine (rlast_any _ n cap a l _ hL.out (by omega)).mono ?_
            rintro e w' ⟨rfl, rfl⟩
            rw [HA.out a]
            go_wp2_with fail
            refine (rlast_any A3 g.length c3 a g _ (isW_own O3.out) (by have := HG.out; omega)).mono ?_
            rintro e w' ⟨rfl, rfl⟩
            go_wp2_with fail
            go_round
            case rel => exact ⟨j + 1, by omega, by go_num⟩
            case measure => simp [intOf]; omega
          · obtain rfl : j = n := by omega
            go_wp2_with fail
            go_ret
            exact ⟨rfl, HB.out⟩
  · obtain h | ⟨h, h2⟩ : decide (40 < (n : Int)) = true ∨ (decide (40 < (n : Int)) = false ∧ decide (m < n) = true) := by simp; omega
    all_goals
      clear hin
      go_enter Try.func7, Try.ntmps7
      go_wp2_with fail
      refine (QuT.alive_any _).mono ?_
      rintro e w1 ⟨rfl, hb1⟩
      go_wp2_with fail
      go_ret
      exact ⟨rfl, hb1⟩
end Go.Proofs.Ytdhihmeknoofoaa.PnF
