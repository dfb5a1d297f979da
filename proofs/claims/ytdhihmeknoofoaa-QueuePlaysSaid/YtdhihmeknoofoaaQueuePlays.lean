/-
  WALK: the law QueuePlays.
-/
import Derived.Test.YtdhihmeknoofoaaQueueSt
import Derived.Test.YtdhihmeknoofoaaPendOwn
import Derived.Test.YtdhihmeknoofoaaHeld
namespace Go.Proofs.Ytdhihmeknoofoaa.QuD
set_option linter.unusedVariables false
set_option linter.unusedSimpArgs false
open Go.RowKit Go.WideShapes Go.ChangeShapes Cm Mm Ow Ow2 Del Qu QuB QuC

theorem ro_snoc {w : World} {B : Nat} {A : Option Addr} {n c : Nat} {L : List Int} {x : Int} (h : Ow.Own w B 3 1 A n c (((vq L).map fun v => [v]) ++ [[.int .i64 x]])) : Ro w B A n c (L ++ [x]) := by
  show Ow.Own _ _ _ _ _ _ _ _
  rw [vq_snoc, List.map_append]; exact h
theorem ro_cell {w : World} {B g n c : Nat} {L : List Int} (h : Ro w B (some ⟨g, 0, none⟩) n c L) {k : Nat} (hk : k < n) : w.cell? ⟨g, k, none⟩ = some (.int .i64 (L.getD k 0)) := by
  have h' : Ow.Own w B 3 1 (some ⟨g, 0, none⟩) n c ((vq L).map fun v => [v]) := h
  have hl : L.length = n := by simpa [vq_len] using h'.len
  rw [(own_cell h' hk).1, vq_get L k (by omega)]
theorem cut_rows (M : List Int) (i : Nat) (h : i < M.length) : [] ++ (List.range i).map (fun j => [Value.int .i64 ((M.take i).getD j 0)]) ++ (List.range (M.length - (i + 1))).map (fun j => [Value.int .i64 ((M.drop (i + 1)).getD j 0)]) = (vq (M.eraseIdx i)).map fun v => [v] := by
  have key : ∀ L : List Int, (List.range L.length).map (fun j => [Value.int .i64 (L.getD j 0)]) = (vq L).map fun v => [v] := fun L => by
    refine List.ext_getElem (by simp [vq]) (fun i h1 h2 => ?_)
    simp only [List.length_map, vq_len] at h2
    simp [List.getD, h2, vq]
  have h1 := key (M.take i)
  have h2 := key (M.drop (i + 1))
  rw [List.length_take, Nat.min_eq_left (by omega)] at h1
  rw [List.length_drop] at h2
  rw [List.nil_append, h1, h2, List.eraseIdx_eq_take_drop_succ]
  unfold vq
  rw [List.map_append, List.map_append]
theorem is_take {w : World} {A : Option Addr} {n cap k : Nat} {l : List Int} (h : Is w A n cap l) (hk : k ≤ n) : Is w A k cap (l.take k) :=
  ⟨by rw [List.length_take, h.1]; omega, (h.2.take hk).ext fun i hi => by
    congr 2
    simp only [List.getD, List.getElem?_take, if_pos hi]⟩

set_option maxRecDepth 20000 in
set_option maxHeartbeats 6400000 in
theorem walk {H : Type} {enc : TypeId × Value → H} {d0 d1 : DataW H} {P0 P1 : List MemPlace} {rc : Reach} {b0 : Nat} (v0 v1 : Value) (w : World)
    (k0 : DataW.Trod enc Try.prog w 0 (fun _ => true) true 33 v0 d0 P0) (ok0 : Value.okWide Try.prog w rc b0 33 v0)
    (k1 : DataW.Trod enc Try.prog w 0 (fun _ => true) true 33 v1 d1 P1) (ok1 : Value.okWide Try.prog w rc b0 33 v1) :
    Calls Try.prog 11 #[v0, v1] w fun e w' => e = .returned (.bool true) ∧ Below w.heap.size w w' := by
  obtain ⟨A, n, cap, l, rfl, hl, hS⟩ := PnO.open_ints k0 ok0
  obtain ⟨T, m, tc, cu, rfl, hm, hT⟩ := PnO.open_ints k1 ok1
  clear k0 ok0 k1 ok1
  have HI : Hid (Is w A n cap l) := Lib.hid ⟨hl, hS⟩
  have HT : Hid (Is w T m tc cu) := Lib.hid ⟨hm, hT⟩
  clear hl hS hm hT
  by_cases hin : n ≤ 100 ∧ m ≤ 100
  · obtain ⟨hn, hm⟩ := hin
    have t1 : decide (100 < (n : Int)) = false := by simp; omega
    have t2 : decide (100 < (m : Int)) = false := by simp; omega
    have t3 : (n : Int) ≤ 100 := by omega
    have t4 : (m : Int) ≤ 100 := by omega
    go_enter Try.func11, Try.ntmps11
    go_wp2_with fail
    refine (QuT.alive_any _).mono ?_
    rintro e w1 ⟨rfl, hb1⟩
    have B1 := Lib.hid hb1
    clear hb1
    go_wp2_with fail
    have hsz : ((w1.alloc (.cells #[.slice none 0 0] 66)).alloc (.cells #[.slice none 0 0] 66)).heap.size = w1.heap.size + 2 := by simp
    have HQ0 : Hid (QS w ((w1.alloc (.cells #[.slice none 0 0] 66)).alloc (.cells #[.slice none 0 0] 66)) w1.heap.size (w1.heap.size + 1) (w1.heap.size + 2) [] none 0 [] none 0 [] none 0) := Lib.hid
      ⟨⟨(World.cell?_alloc_lt _ _ _ (by simp)).trans (World.cell?_alloc_new _ _ _ 0), by simp⟩, Ow.Own.nil _ _ _ _, ⟨by have := World.cell?_alloc_new (w1.alloc (.cells #[.slice none 0 0] 66)) #[.slice none 0 0] 66 0; rw [World.size_alloc] at this; exact this, by simp⟩, Ow.Own.nil _ _ _ _, Ow.Own.nil _ _ _ _, fun g hg => by simp at hg, fun g hg => by simp at hg, fun g hg => by simp at hg,
        (B1.out.alloc B1.out.size _).alloc (by have := B1.out.size; simp; omega) _, B1.out.size, by omega, by omega, by omega⟩
    generalize (w1.alloc (.cells #[.slice none 0 0] 66)).alloc (.cells #[.slice none 0 0] 66) = W at *
    generalize w1.heap.size = q at *
    clear B1 hsz
    go_loopw [8, 9] (fun t8 i wr => ∃ (k : Nat) (L Lo : List Int) (Aq Ao Aw : Option Addr) (cq co cw : Nat), k ≤ n ∧ i = .int .i64 k ∧ t8 = .slice Aw L.length cw ∧ QS w wr q (q + 1) (q + 2) L Aq cq Lo Ao co L Aw cw ∧ L.length ≤ k ∧ Lo.length = k) (fun _ i _ => n - (intOf i).toNat)
    case atStart => exact ⟨0, [], [], none, none, none, 0, 0, 0, by omega, rfl, rfl, HQ0.out, by simp, rfl⟩
    case round =>
      obtain ⟨k, L, Lo, Aq, Ao, Aw, cq, co, cw, hk, rfl, rfl, hQ, hL, hLo⟩ := hrel
      have HQ := Lib.hid hQ
      clear hQ
      by_cases hkn : k < n
      · have k1 : (k : Int) < n := by omega
        have k2 : (k : Int) ≤ 100 := by omega
        obtain ⟨b, o, rfl, hb, hc0⟩ := HI.out.cell (k := k) hkn
        have hc := (HQ.out.bel.cell (p := ⟨b, o + k, none⟩) hb).trans hc0
        generalize l.getD k 0 = x at *
        go_wp2_with fail
        refine (add_any q (q + 2) Aq L.length cq L x wr HQ.out.Q HQ.out.RQ (by omega) HQ.out.g4 (by omega)).mono ?_
        rintro e w3 ⟨rfl, Aq3, cq3, ac3⟩
        have Q3 := Lib.hid (HQ.out.updQ ac3 (by simp))
        clear ac3
        go_wp2_with fail
        refine (add_any (q + 1) (q + 2) Ao Lo.length co Lo (k : Int) w3 Q3.out.O Q3.out.RO (by omega) Q3.out.g4 (by omega)).mono ?_
        rintro e w4 ⟨rfl, Ao4, co4, ac4⟩
        have Q4 := Lib.hid (Q3.out.updO ac4 (by simp))
        have hc4 := (Q4.out.bel.cell (p := ⟨b, o + k, none⟩) hb).trans hc0
        clear ac4 hc
        by_cases hkm : k < m
        · obtain ⟨tb, to_, rfl, htb, hz0⟩ := HT.out.cell (k := k) hkm
          have km : (k : Int) < m := by omega
          generalize cu.getD k 0 = z at *
          by_cases hz : 0 ≤ z ∧ z < ((L.length + 1 : Nat) : Int)
          · obtain ⟨z1, z2⟩ := hz
            obtain ⟨i, rfl⟩ := Int.eq_ofNat_of_zero_le z1
            have hi : i < L.length + 1 := by omega
            clear z1 z2
            go_wp2_with (at_builtin; refine Ow2.wpList_appN _ rfl _ _ rfl iel (q + 2) Aw L.length cw 1 w4.heap.size _ [[.int .i64 x]] rfl rfl Q4.out.RW rfl rfl (fun y hy => by simp at hy; subst hy; rfl) (fun y hy u hu => by simp at hy; subst hy; simp at hu; subst hu; rfl) (by unfold maxLen; omega) (by omega) Q4.out.g4 _ rfl ?_; intro A5 c5 w5 hown5 hbel5 hkp5 hat5; have Q5 := Lib.hid (Q4.out.updW (ro_snoc hown5) (by simp) hkp5 hat5 hbel5); obtain ⟨M, hM⟩ : ∃ M, L ++ [x] = M := ⟨_, rfl⟩; have hlen : L.length + 1 = M.length := (by rw [← hM, List.length_append]; rfl); rw [hM] at Q5; rw [hlen]; clear hown5 hbel5 hkp5 hat5 hM; have hz5 := (Q5.out.bel.cell (p := ⟨tb, to_ + k, none⟩) htb).trans hz0)
            rw [hlen] at hi
            have hML : M.length ≤ 101 := by omega
            refine (cut_any q (q + 2) i _ M.length _ M w5 Q5.out.Q Q5.out.RQ (by omega) Q5.out.g4 (by omega) hi).mono ?_
            rintro e w6 ⟨rfl, c6, ac6⟩
            have hel0 : (M.eraseIdx i).length = M.length - 1 := by rw [List.length_eraseIdx, if_pos hi]
            have Q6 := Lib.hid (Q5.out.updQ ac6 hel0.symm)
            have hel := Lib.hid hel0
            clear hel0
            obtain ⟨gw, rfl⟩ := PnO.own_head Q6.out.RW (by omega)
            have hz6 := (Q6.out.bel.cell (p := ⟨tb, to_ + k, none⟩) htb).trans hz0
            have hw6 := ro_cell Q6.out.RW hi
            have IW := Lib.hid (is_row Q6.out.RW)
            have hcp : M.length ≤ c5 := IW.out.2.le
            have hcm : c5 ≤ maxLen := IW.out.2.cap_le
            have rows := Lib.hid (cut_rows M i hi)
            generalize M.getD i 0 = y at *
            clear ac6 hz5
            have f1 : (i : Int) < ((M.length : Nat) : Int) := by omega
            have f2 : (i : Int) ≤ 101 := by omega
            have f3 : i ≤ c5 := by omega
            have f4 : (i : Int) ≤ (c5 : Int) := by omega
            have f5 : ¬ c5 = 0 := by omega
            have f6 : IntKind.i64.wrap ((i : Int) + 1) = (i : Int) + 1 := by rw [IntKind.wrap_i64]; omega
            have f7 : (0 : Int) ≤ (i : Int) + 1 := by omega
            have f8 : ((i : Int) + 1).toNat = i + 1 := by omega
            have f9 : (i : Int) + 1 ≤ ((M.length : Nat) : Int) := by omega
            have f10 : i + 1 ≤ M.length := by omega
            have f11 : M.length ≤ c5 := hcp
            have f12 : ((M.length : Nat) : Int) ≤ (c5 : Int) := by omega
            have f13 : (y != y) = false := by simp
            clear hcp
            go_wp2_with fail
            have HS6 := Lib.hid Q6.out.g4
            refine Hd.start 14 (fun w' => w'.cell? ⟨tb, to_ + k, none⟩ = some (.int .i64 (i : Int))) (by kernel_rfl) ?_
            have hSw : w6.drew.cell? ⟨tb, to_ + k, none⟩ = some (.int .i64 (i : Int)) := hz6
            refine Hd.take (i := 0) (v := ?v0) rfl (by kernel_rfl) (by kernel_rfl) (fun _ _ _ h => h) rfl ?hy0 hSw ?rest0
            case hy0 =>
              intro wq hSq
              go_simp
              try with_reducible rfl
            try simp only [Act.put, List.setIfInBounds_toArray, List.set_cons_zero, List.set_cons_succ]
            refine Hd.take (i := 1) (v := ?v1) rfl (by kernel_rfl) (by kernel_rfl) (fun _ _ _ h => h) rfl ?hy1 hSw ?rest1
            case hy1 =>
              intro wq hSq
              go_simp
              try with_reducible rfl
            try simp only [Act.put, List.setIfInBounds_toArray, List.set_cons_zero, List.set_cons_succ]
            refine Hd.take (i := 2) (v := ?v2) rfl (by kernel_rfl) (by kernel_rfl) (fun _ _ _ h => h) rfl ?hy2 hSw ?rest2
            case hy2 =>
              intro wq hSq
              go_simp
              try with_reducible rfl
            try simp only [Act.put, List.setIfInBounds_toArray, List.set_cons_zero, List.set_cons_succ]
            refine Hd.take (i := 3) (v := ?v3) rfl (by kernel_rfl) (by kernel_rfl) (fun _ _ _ h => h) rfl ?hy3 hSw ?rest3
            case hy3 =>
              intro wq hSq
              go_simp
              try with_reducible rfl
            try simp only [Act.put, List.setIfInBounds_toArray, List.set_cons_zero, List.set_cons_succ]
            refine Hd.take (i := 4) (v := ?v4) rfl (by kernel_rfl) (by kernel_rfl) (fun _ _ _ h => h) rfl ?hy4 hSw ?rest4
            case hy4 =>
              intro wq hSq
              go_simp
              try with_reducible rfl
            try simp only [Act.put, List.setIfInBounds_toArray, List.set_cons_zero, List.set_cons_succ]
            refine Hd.take (i := 5) (v := ?v5) rfl (by kernel_rfl) (by kernel_rfl) (fun _ _ _ h => h) rfl ?hy5 hSw ?rest5
            case hy5 =>
              intro wq hSq
              go_simp
              try with_reducible rfl
            try simp only [Act.put, List.setIfInBounds_toArray, List.set_cons_zero, List.set_cons_succ]
            refine Hd.take (i := 7) (v := ?v7) rfl (by kernel_rfl) (by kernel_rfl) (fun _ _ _ h => h) rfl ?hy7 hSw ?rest7
            case hy7 =>
              intro wq hSq
              go_simp
              try with_reducible rfl
            try simp only [Act.put, List.setIfInBounds_toArray, List.set_cons_zero, List.set_cons_succ]
            refine Hd.take (i := 8) (v := ?v8) rfl (by kernel_rfl) (by kernel_rfl) (fun _ _ _ h => h) rfl ?hy8 hSw ?rest8
            case hy8 =>
              intro wq hSq
              go_simp
              try with_reducible rfl
            try simp only [Act.put, List.setIfInBounds_toArray, List.set_cons_zero, List.set_cons_succ]
            refine Hd.take (i := 9) (v := ?v9) rfl (by kernel_rfl) (by kernel_rfl) (fun _ _ _ h => h) rfl ?hy9 hSw ?rest9
            case hy9 =>
              intro wq hSq
              go_simp
              try with_reducible rfl
            try simp only [Act.put, List.setIfInBounds_toArray, List.set_cons_zero, List.set_cons_succ]
            refine Hd.take (i := 10) (v := ?v10) rfl (by kernel_rfl) (by kernel_rfl) (fun _ _ _ h => h) rfl ?hy10 hSw ?rest10
            case hy10 =>
              intro wq hSq
              go_simp
              try with_reducible rfl
            try simp only [Act.put, List.setIfInBounds_toArray, List.set_cons_zero, List.set_cons_succ]
            refine Hd.take (i := 11) (v := ?v11) rfl (by kernel_rfl) (by kernel_rfl) (fun _ _ _ h => h) rfl ?hy11 hSw ?rest11
            case hy11 =>
              intro wq hSq
              go_simp
              try with_reducible rfl
            try simp only [Act.put, List.setIfInBounds_toArray, List.set_cons_zero, List.set_cons_succ]
            refine Hd.take (i := 12) (v := ?v12) rfl (by kernel_rfl) (by kernel_rfl) (fun _ _ _ h => h) rfl ?hy12 hSw ?rest12
            case hy12 =>
              intro wq hSq
              go_simp
              try with_reducible rfl
            try simp only [Act.put, List.setIfInBounds_toArray, List.set_cons_zero, List.set_cons_succ]
            refine Hd.take (i := 13) (v := ?v13) rfl (by kernel_rfl) (by kernel_rfl) (fun _ _ _ h => h) rfl ?hy13 hSw ?rest13
            case hy13 =>
              intro wq hSq
              go_simp
              try with_reducible rfl
            try simp only [Act.put, List.setIfInBounds_toArray, List.set_cons_zero, List.set_cons_succ]
            refine Hd.one (i := 6) rfl (by kernel_rfl) rfl (fun K hK => ?_)
            refine wp_app _ _ _ rfl iel w6.heap.size none 0 0 [] rfl (Ow.Own.nil _ _ _ _) (some ⟨gw, 0, none⟩) i c5 (fun j => [.int .i64 ((M.take i).getD j 0)]) rfl (is_take (IW.out.keep ((Below.refl _ _).drew)) (by omega)).2 (fun _ _ => rfl) (fun j _ => by intro u hu; simp at hu; subst hu; rfl) (by unfold maxLen; omega) (by omega) (Nat.le_refl _) ?_
            intro A7 c7 w7 hown7 hg7 hat7
            have O7 := Lib.hid hown7
            have B7 : Hid (Below w6.heap.size w6 w7) := Lib.hid (((Below.refl w6.heap.size w6).drew).grown hg7 (Nat.le_refl _) (fun k hk => by cases hk))
            have H7 : Hid (∀ x, A7.map (·.block) = some x → w6.heap.size ≤ x) := Lib.hid (fun x hx => (O7.out.lt x hx).1)
            refine hK _ _ (fun _ => ((Q6.out.bel.trans (B7.out.mono (by have := Q6.out.g1; have := Q6.out.g4; omega))).cell (p := ⟨tb, to_ + k, none⟩) htb).trans hz0) ?_
            clear hK K hown7 hg7 hat7 hSw
            try simp only [Act.put, List.setIfInBounds_toArray, List.set_cons_zero, List.set_cons_succ]
            refine Hd.one (i := 14) rfl (by kernel_rfl) rfl (fun K hK => ?_)
            refine wp_app _ _ _ rfl iel w6.heap.size A7 (0 + i) c7 _ rfl O7.out (if c5 = i + 1 then some ⟨gw, 0, none⟩ else some ⟨gw, i + 1, none⟩) (M.length - (i + 1)) (c5 - (i + 1)) (fun j => [.int .i64 ((M.drop (i + 1)).getD j 0)]) rfl (is_rest (IW.out.keep B7.out) hi) (fun _ _ => rfl) (fun j _ => by intro u hu; simp at hu; subst hu; rfl) (by unfold maxLen; omega) (by omega) B7.out.size ?_
            intro A8 c8 w8 hown8 hg8 hat8
            rw [rows.out] at hown8
            have O8 := Lib.hid hown8
            have hB8 : Below w6.heap.size w6 w8 := B7.out.grown hg8 B7.out.size (fun k hk => H7.out k hk)
            have en : 0 + i + (M.length - (i + 1)) = (M.eraseIdx i).length := by rw [hel.out]; omega
            have Q8 := Lib.hid (Q6.out.updW (A' := A8) (c' := c8) (L' := M.eraseIdx i) (O8.out.low HS6.out) en (fun b hb _ => hB8.block b hb) (.inr fun b hb => (O8.out.lt b hb).1) (hB8.mono HS6.out))
            refine hK _ _ (fun h => absurd h (by omega)) ?_
            rw [en]
            clear hK K hown8 hg8 hat8 hB8 O8 en rows
            generalize M.eraseIdx i = M2 at *
            try simp only [Act.put, List.setIfInBounds_toArray, List.set_cons_zero, List.set_cons_succ]
            refine Hd.one (i := 15) rfl (by kernel_rfl) rfl (fun K hK => ?_)
            go_simp
            refine hK _ _ (fun h => absurd h (by omega)) ?_
            clear hK K
            try simp only [Act.put, List.setIfInBounds_toArray, List.set_cons_zero, List.set_cons_succ]
            refine Hd.done (by kernel_rfl) ?_ _
            clear f1 f2 f3 f4 f5 f6 f7 f8 f9 f10 f11 f12 hw6 hz6
            go_wp2_with fail
            all_goals
              refine (ilen_any q (vq M2) w8 Q8.out.iQ).mono ?_
              rintro e wl ⟨rfl, rfl⟩
              rw [vq_len]
              go_wp2_with fail
              go_roundw
              case rel => exact ⟨k + 1, M2, Lo ++ [(k : Int)], _, _, _, _, _, _, by omega, by go_num, rfl, Q8.out, by rw [hel.out]; omega, by simp; omega⟩
              case measure => simp [intOf]; omega
          · obtain z1 | ⟨z1, z2⟩ : z < 0 ∨ (0 ≤ z ∧ ((L.length + 1 : Nat) : Int) ≤ z) := by omega
            · clear hz
              go_wp2_with (at_builtin; refine Ow2.wpList_appN _ rfl _ _ rfl iel (q + 2) Aw L.length cw 1 w4.heap.size _ [[.int .i64 x]] rfl rfl Q4.out.RW rfl rfl (fun y hy => by simp at hy; subst hy; rfl) (fun y hy u hu => by simp at hy; subst hy; simp at hu; subst hu; rfl) (by unfold maxLen; omega) (by omega) Q4.out.g4 _ rfl ?_; intro A5 c5 w5 hown5 hbel5 hkp5 hat5; have Q5 := Lib.hid (Q4.out.updW (ro_snoc hown5) (by simp) hkp5 hat5 hbel5); obtain ⟨M, hM⟩ : ∃ M, L ++ [x] = M := ⟨_, rfl⟩; have hlen : L.length + 1 = M.length := (by rw [← hM, List.length_append]; rfl); rw [hM] at Q5; rw [hlen]; clear hown5 hbel5 hkp5 hat5 hM; have hz5 := (Q5.out.bel.cell (p := ⟨tb, to_ + k, none⟩) htb).trans hz0)
              refine (icut_out q z (vq M) w5 Q5.out.iQ (.inl z1)).mono ?_
              rintro e w6 ⟨rfl, rfl⟩
              have hMl : (M.length : Int) ≤ 101 := by omega
              go_wp2_with fail
              refine (ilen_any q (vq M) w5 Q5.out.iQ).mono ?_
              rintro e wl ⟨rfl, rfl⟩
              rw [vq_len]
              go_wp2_with fail
              go_roundw
              case rel => exact ⟨k + 1, M, Lo ++ [(k : Int)], _, _, _, _, _, _, by omega, by go_num, rfl, Q5.out, by omega, by simp; omega⟩
              case measure => simp [intOf]; omega
            · clear hz
              go_wp2_with (at_builtin; refine Ow2.wpList_appN _ rfl _ _ rfl iel (q + 2) Aw L.length cw 1 w4.heap.size _ [[.int .i64 x]] rfl rfl Q4.out.RW rfl rfl (fun y hy => by simp at hy; subst hy; rfl) (fun y hy u hu => by simp at hy; subst hy; simp at hu; subst hu; rfl) (by unfold maxLen; omega) (by omega) Q4.out.g4 _ rfl ?_; intro A5 c5 w5 hown5 hbel5 hkp5 hat5; have Q5 := Lib.hid (Q4.out.updW (ro_snoc hown5) (by simp) hkp5 hat5 hbel5); obtain ⟨M, hM⟩ : ∃ M, L ++ [x] = M := ⟨_, rfl⟩; have hlen : L.length + 1 = M.length := (by rw [← hM, List.length_append]; rfl); rw [hM] at Q5; rw [hlen]; clear hown5 hbel5 hkp5 hat5 hM; have hz5 := (Q5.out.bel.cell (p := ⟨tb, to_ + k, none⟩) htb).trans hz0)
              rw [hlen] at z2
              refine (icut_out q z (vq M) w5 Q5.out.iQ (.inr (by rw [vq_len]; exact z2))).mono ?_
              rintro e w6 ⟨rfl, rfl⟩
              have hMl : (M.length : Int) ≤ 101 := by omega
              go_wp2_with fail
              refine (ilen_any q (vq M) w5 Q5.out.iQ).mono ?_
              rintro e wl ⟨rfl, rfl⟩
              rw [vq_len]
              go_wp2_with fail
              go_roundw
              case rel => exact ⟨k + 1, M, Lo ++ [(k : Int)], _, _, _, _, _, _, by omega, by go_num, rfl, Q5.out, by omega, by simp; omega⟩
              case measure => simp [intOf]; omega
        · have km : ¬ (k : Int) < m := by omega
          go_wp2_with (at_builtin; refine Ow2.wpList_appN _ rfl _ _ rfl iel (q + 2) Aw L.length cw 1 w4.heap.size _ [[.int .i64 x]] rfl rfl Q4.out.RW rfl rfl (fun y hy => by simp at hy; subst hy; rfl) (fun y hy u hu => by simp at hy; subst hy; simp at hu; subst hu; rfl) (by unfold maxLen; omega) (by omega) Q4.out.g4 _ rfl ?_; intro A5 c5 w5 hown5 hbel5 hkp5 hat5; have Q5 := Lib.hid (Q4.out.updW (ro_snoc hown5) (by simp) hkp5 hat5 hbel5); obtain ⟨M, hM⟩ : ∃ M, L ++ [x] = M := ⟨_, rfl⟩; have hlen : L.length + 1 = M.length := (by rw [← hM, List.length_append]; rfl); rw [hM] at Q5; rw [hlen]; clear hown5 hbel5 hkp5 hat5 hM)
          refine (ilen_any q (vq M) w5 Q5.out.iQ).mono ?_
          rintro e wl ⟨rfl, rfl⟩
          rw [vq_len]
          go_wp2_with fail
          go_roundw
          case rel => exact ⟨k + 1, M, Lo ++ [(k : Int)], _, _, _, _, _, _, by omega, by go_num, rfl, Q5.out, by omega, by simp; omega⟩
          case measure => simp [intOf]; omega
      · obtain rfl : k = n := by omega
        have HS := Lib.hid (is_row HQ.out.RQ)
        have HW := Lib.hid (is_row HQ.out.RW)
        have HB := Lib.hid HQ.out.bel
        go_wp2_with fail
        refine (QuA.alls_any q Aq L.length cq L wr rfl HQ.out.Q.1 HQ.out.Q.lt HS.out.2 (by omega)).mono ?_
        rintro e w3 ⟨A3, c3, rfl, hrow, hb3⟩
        have H3 := Lib.hid (is_owns hrow)
        have HW3 := Lib.hid (HW.out.keep hb3)
        have B3 := Lib.hid (HB.out.trans (hb3.mono HB.out.size))
        clear hrow hb3
        go_wp2_with fail
        refine (same_any A3 Aw L.length c3 cw L w3 H3.out HW3.out (by omega)).mono ?_
        rintro e w4 ⟨rfl, hb4⟩
        have B4 := Lib.hid (B3.out.trans (hb4.mono B3.out.size))
        clear hb4
        go_wp2_with fail
        go_ret
        exact ⟨rfl, B4.out⟩
  · obtain h | ⟨h, h2⟩ : decide (100 < (n : Int)) = true ∨ (decide (100 < (n : Int)) = false ∧ decide (100 < (m : Int)) = true) := by simp; omega
    all_goals
      clear hin
      go_enter Try.func11, Try.ntmps11
      go_wp2_with fail
      refine (QuT.alive_any _).mono ?_
      rintro e w1 ⟨rfl, hb1⟩
      go_wp2_with fail
      go_ret
      exact ⟨rfl, hb1⟩
end Go.Proofs.Ytdhihmeknoofoaa.QuD
