/-
  WALKS: the reference's run: Crash, Out, Cells, Done, Stuck.
-/
import Derived.Test.YtapnnbbbgopobaaG31
import Derived.Test.YtapnnbbbgopobaaG05
import Derived.Deep.RegionHeld3
import Derived.Deep.DrawnRows
set_option linter.unusedVariables false
set_option linter.unusedSimpArgs false
namespace Go.Proofs.Ytapnnbbbgopobaa.Rn
open Go.RowKit Cm Mm Ow Me Ml Lg Stp Rr Lr
set_option maxHeartbeats 1600000 in
theorem rout13_any {w : World} {B0 q : Nat} {f : Rf} {tb : List (ByteArray × Bd)} {rb : Bd} {X : List Nat} {s : Ar} (h : Run w B0 q f tb rb X s) (ho : s.out.length ≤ 1000000) :
    Calls Try.prog 22 #[.pointer (some ⟨q, 0, none⟩)] w (GaveU w s.out) := by
  obtain ⟨now, out, rc, ts⟩ := s
  obtain ⟨G, LA, lc, rq, tq, lab, h⟩ := h
  obtain ⟨NA, nc, OA, on, oc, h⟩ := h.rn
  dsimp only at h ho ⊢
  have g5 := h.y4
  have hl : out.length = on := by first | rfl | simpa using h.or_.len
  have hsl : Sl w OA on oc 1 (fun i => [.int .u64 (out.getD i 0)]) := h.or_.sl.ext (fun i hi => by simp [List.getD, uL, show i < out.length by omega])
  have e : List.map (fun i => [Value.int .u64 (out.getD i 0)]) (List.range on) = (out.map uw).map fun v => [v] := by
    refine List.ext_getElem (by simp [hl]) (fun i h1 h2 => ?_)
    simp at h1
    simp [List.getD, uw, show i < out.length by omega]
  have HG := Lib.hid (show ∀ (A : Option Addr) (c : Nat) (w' : World), Own w' w.heap.size 53 1 A on c (List.map (fun i => [Value.int .u64 (out.getD i 0)]) (List.range on)) → Below w.heap.size w w' → GaveU w out (.returned (.slice A on c)) w' from fun A c w' ho hb => ⟨A, _, c, rfl, row_of_own (by rwa [e] at ho), hb⟩)
  have HS := Lib.hid hsl
  have hb : on ≤ 1000000 := by omega
  clear h e hsl hl ho
  go_enter Try.func22, Try.ntmps22
  go_wp2_with (at_builtin; refine wpList_app _ rfl _ _ rfl elU64 w.heap.size none 0 0 [] rfl (Own.nil _ _ _ _) OA on oc _ rfl HS.out (fun _ _ => rfl) (fun _ _ u hu => by simp at hu; subst hu; rfl) (by unfold maxLen; omega) (by omega) (Nat.le_refl _) ?_; intro A2' c2' w2 hown hg hat)
  simp only [Nat.zero_add, List.nil_append] at hown
  go_ret
  exact HG.out _ _ _ (by simpa using hown) ((Below.refl _ _).grown hg (Nat.le_refl _) (fun k hk => by cases hk))
set_option maxHeartbeats 1600000 in
theorem rcells13_any {w : World} {B0 q : Nat} {f : Rf} {tb : List (ByteArray × Bd)} {rb : Bd} {X : List Nat} {s : Ar} (h : Run w B0 q f tb rb X s) (ho : s.now.length ≤ 1000000) :
    Calls Try.prog 24 #[.pointer (some ⟨q, 0, none⟩)] w (GaveU w s.now) := by
  obtain ⟨now, out, rc, ts⟩ := s
  obtain ⟨G, LA, lc, rq, tq, lab, h⟩ := h
  obtain ⟨NA, nc, OA, on, oc, h⟩ := h.rn
  dsimp only at h ho ⊢
  have g5 := h.y3
  have hl : now.length = now.length := by first | rfl | simpa using h.nr.len
  have hsl : Sl w NA now.length nc 1 (fun i => [.int .u64 (now.getD i 0)]) := h.nr.sl.ext (fun i hi => by simp [List.getD, uL, show i < now.length by omega])
  have e : List.map (fun i => [Value.int .u64 (now.getD i 0)]) (List.range now.length) = (now.map uw).map fun v => [v] := by
    refine List.ext_getElem (by simp [hl]) (fun i h1 h2 => ?_)
    simp at h1
    simp [List.getD, uw, show i < now.length by omega]
  have HG := Lib.hid (show ∀ (A : Option Addr) (c : Nat) (w' : World), Own w' w.heap.size 53 1 A now.length c (List.map (fun i => [Value.int .u64 (now.getD i 0)]) (List.range now.length)) → Below w.heap.size w w' → GaveU w now (.returned (.slice A now.length c)) w' from fun A c w' ho hb => ⟨A, _, c, rfl, row_of_own (by rwa [e] at ho), hb⟩)
  have HS := Lib.hid hsl
  have hb : now.length ≤ 1000000 := by omega
  clear h e hsl hl ho
  go_enter Try.func24, Try.ntmps24
  go_wp2_with (at_builtin; refine wpList_app _ rfl _ _ rfl elU64 w.heap.size none 0 0 [] rfl (Own.nil _ _ _ _) NA now.length nc _ rfl HS.out (fun _ _ => rfl) (fun _ _ u hu => by simp at hu; subst hu; rfl) (by unfold maxLen; omega) (by omega) (Nat.le_refl _) ?_; intro A2' c2' w2 hown hg hat)
  simp only [Nat.zero_add, List.nil_append] at hown
  go_ret
  exact HG.out _ _ _ (by simpa using hown) ((Below.refl _ _).grown hg (Nat.le_refl _) (fun k hk => by cases hk))
theorem rstuck13_any {w : World} {q : Nat} {b : Bool} (h : w.cell? ⟨q, 7, none⟩ = some (.bool b)) : Calls Try.prog 17 #[.pointer (some ⟨q, 0, none⟩)] w fun e w' => e = .returned (.bool b) ∧ w = w' := by
  go_enter Try.func17, Try.ntmps17
  go_wp2
  go_ret
  exact ⟨rfl, rfl⟩
theorem Run.y7 {w : World} {B0 q : Nat} {f : Rf} {tb : List (ByteArray × Bd)} {rb : Bd} {X : List Nat} {s : Ar} (h : Run w B0 q f tb rb X s) : w.cell? ⟨q, 7, none⟩ = some (.bool false) := by
  obtain ⟨G, LA, lc, rq, tq, lab, h⟩ := h
  exact h.rn.y7
theorem all_at {l : List As} {k : Nat} (hk : k < l.length) (h : (l.getD k zeroA).en = false) : l.all (·.en) = false := by
  rw [List.all_eq_false]
  refine ⟨l[k], List.getElem_mem hk, ?_⟩
  have e : l.getD k zeroA = l[k] := by simp [List.getD, hk]
  rw [e] at h
  simp [h]
theorem all_low {l : List As} (h : ∀ i, i < l.length → (l.getD i zeroA).en = true) : l.all (·.en) = true := by
  rw [List.all_eq_true]
  intro x hx
  obtain ⟨i, hi, rfl⟩ := List.getElem_of_mem hx
  have := h i hi
  simpa [List.getD, hi] using this
set_option maxHeartbeats 3200000 in
theorem rdone13_any {w : World} {B0 q : Nat} {f : Rf} {tb : List (ByteArray × Bd)} {rb : Bd} {X : List Nat} {s : Ar} (h : Run w B0 q f tb rb X s) (hn : s.ts.length ≤ 65536) :
    Calls Try.prog 19 #[.pointer (some ⟨q, 0, none⟩)] w fun e w' => e = .returned (.bool (doneA s)) ∧ w = w' := by
  obtain ⟨G, LA, lc, rq, tq, lab, h⟩ := h
  have H := Lib.hid h
  have y6 := h.rn.y6
  have y5 := h.rn.y5
  have hl := h.tl
  have hnn : tq.length ≤ 65536 := by omega
  have HL := Lib.hid hl
  clear h hn hl
  go_enter Try.func19, Try.ntmps19
  go_wp2_with fail
  go_loop [3] (fun i => ∃ (k : Nat), k ≤ tq.length ∧ i = .int .i64 k ∧ Hid (∀ j, j < k → (s.ts.getD j zeroA).en = true)) (fun i => tq.length - (intOf i).toNat)
  case atStart => exact ⟨0, by omega, rfl, fun j hj => absurd hj (by omega)⟩
  case round =>
    obtain ⟨k, hk, rfl, hlow⟩ := hrel
    by_cases hkn : k < tq.length
    · have hki : (k : Int) < (tq.length : Int) := by omega
      have d1 : decide ((k : Int) < (tq.length : Int)) = true := decide_eq_true hki
      obtain ⟨lb, lo, hLA, hlb, hcel⟩ := H.out.row.sl.at_ (by omega)
      have k0 : w.cell? ⟨lb, lo + k, none⟩ = some (.pointer (some ⟨(tq.getD k zeroQ).1, 0, none⟩)) := by
        have := hcel k hkn 0 (by omega)
        simpa [List.getD, hkn, ptrL] using this
      have y4 := (H.out.th k hkn).1.y4
      rw [hLA] at y6
      obtain ⟨p, hp⟩ : ∃ p, (tq.getD k zeroQ).1 = p := ⟨_, rfl⟩
      obtain ⟨b, hb⟩ : ∃ b, (s.ts.getD k zeroA).en = b := ⟨_, rfl⟩
      rw [hp] at k0 y4
      rw [hb] at y4
      have HB := Lib.hid hb
      clear hcel hLA hp hb
      cases b with
      | true =>
        go_wp2_with fail
        go_round
        case rel => exact ⟨k + 1, hkn, by go_num, fun j hj => (by
          by_cases e : j = k
          · subst e; exact HB.out
          · exact hlow.out j (by omega))⟩
        case measure => simp [intOf]; omega
      | false =>
        go_wp2_with fail
        go_ret
        refine ⟨?_, rfl⟩
        unfold doneA
        rw [all_at (by have := HL.out; omega) HB.out]
        rfl
    · obtain rfl : k = tq.length := by omega
      have d1 : decide ((tq.length : Int) < (tq.length : Int)) = false := decide_eq_false (by omega)
      have HA : Hid (s.ts.all (·.en) = true) := Lib.hid (all_low (fun i hi => hlow.out i (by have := HL.out; omega)))
      cases hrc : s.rc with
      | none =>
        have hrq := H.out.r0 hrc
        subst hrq
        unfold recV at y5
        have HE : Hid (doneA s = true) := Lib.hid (by unfold doneA; rw [HA.out, hrc]; rfl)
        clear hrc
        go_wp2_with fail
        go_ret
        exact ⟨congrArg (fun b => Ending.returned (.bool b)) HE.out.symm, rfl⟩
      | some a =>
        obtain ⟨-, t, ht, -⟩ := H.out.r1 a hrc
        subst ht
        unfold recV at y5
        dsimp only at y5
        have HE : Hid (doneA s = false) := Lib.hid (by unfold doneA; rw [HA.out, hrc]; rfl)
        clear hrc
        go_wp2_with fail
        go_ret
        exact ⟨congrArg (fun b => Ending.returned (.bool b)) HE.out.symm, rfl⟩
def CrR (w : World) (B0 q : Nat) (f : Rf) (tb : List (ByteArray × Bd)) (rb : Bd) (X : List Nat) (s : Ar) (e : Ending) (w' : World) : Prop := e = .returned (.tuple #[]) ∧ (∃ X', Run w' B0 q f tb rb X' ⟨s.now, s.out, some (begA rb), []⟩ ∧ ∀ k ∈ X', k ∈ X ∨ w.heap.size ≤ k) ∧ Only X w w'
set_option maxRecDepth 20000 in
set_option maxHeartbeats 3200000 in
theorem rcrash13_any {w : World} {B0 q : Nat} {f : Rf} {tb : List (ByteArray × Bd)} {rb : Bd} {X : List Nat} {s : Ar} (h : Run w B0 q f tb rb X s) :
    Calls Try.prog 13 #[.pointer (some ⟨q, 0, none⟩)] w (CrR w B0 q f tb rb X s) := by
  obtain ⟨G, LA, lc, rq, tq, lab, h⟩ := h
  have H := Lib.hid h
  have y2 := h.rn.y2
  have BG := Lib.hid (begun_any (B0 := B0) h.pg.rc.1 (by have := h.rn.gq.2; omega) h.pg.rc.2.1)
  clear h
  go_enter Try.func13, Try.ntmps13
  go_wp2_with fail
  refine BG.out.mono ?_
  rintro e w1 ⟨np, nF, rfl, hS, hb, hF⟩
  have h1 := H.out.keep hb
  have gq := H.out.rn.gq
  have hqF : q ∉ nF := fun hx => by have := hF q hx; omega
  have o5 := only_q w1 q 5 (.pointer (some ⟨np, 0, none⟩))
  have o6 := only_q (w1.setCell ⟨q, 5, none⟩ (.pointer (some ⟨np, 0, none⟩))) q 6 (.slice none 0 0)
  have hBq : ∀ g ∈ [q], B0 ≤ g := fun g hg => by simp at hg; subst hg; exact gq.2.1
  have OX : Hid (Only X w ((w1.setCell ⟨q, 5, none⟩ (.pointer (some ⟨np, 0, none⟩))).setCell ⟨q, 6, none⟩ (.slice none 0 0))) := Lib.hid (((Only.of_below hb).setCell (p := ⟨q, 5, none⟩) (H.out.xg q gq.1) _).setCell (p := ⟨q, 6, none⟩) (H.out.xg q gq.1) _)
  have hS2 := (hS.only o5 (fun g hg => ⟨hBq g hg, by simp at hg; subst hg; exact hqF⟩)).only o6 (fun g hg => ⟨hBq g hg, by simp at hg; subst hg; exact hqF⟩)
  have RV : Hid (RunV ((w1.setCell ⟨q, 5, none⟩ (.pointer (some ⟨np, 0, none⟩))).setCell ⟨q, 6, none⟩ (.slice none 0 0)) B0 q f tb rb (X ++ nF) ⟨s.now, s.out, some (begA rb), []⟩ G none 0 (some (np, nF)) [] (fun k => if k < w.heap.size then lab k else 2)) := Lib.hid ⟨(h1.rn.setRec _).setL _, (h1.pg.only o5 hBq).only o6 hBq, Own.nil _ _ _ _, rfl, fun e => (by cases e), fun a ha => (by
    injection ha with ha
    subst ha
    exact ⟨rfl, _, rfl, hS2, fun b hb => by
      rcases List.mem_cons.1 hb with rfl | hb
      · exact H.out.pg.rc.2.2
      · cases hb⟩), fun i hi => absurd hi (by simp), fun k hk => (by rw [if_pos (H.out.xx k (H.out.xg k hk)).2]; exact H.out.lg k hk), fun k hk => (by cases hk), fun t ht k hk => (by
    injection ht with ht
    subst ht
    rw [if_neg (by have := hF k hk; omega)]), fun i hi => absurd hi (by simp), fun k hk => List.mem_append_left _ (H.out.xg k hk), fun k hk => (by cases hk), fun t ht k hk => (by
    injection ht with ht
    subst ht
    exact List.mem_append_right _ hk), fun i hi => absurd hi (by simp), fun k hk => (by
    rcases List.mem_append.1 hk with hk | hk
    · exact ⟨(H.out.xx k hk).1, Nat.lt_of_lt_of_le (H.out.xx k hk).2 OX.out.size⟩
    · exact hS2.ge k hk)⟩
  have HF := Lib.hid hF
  have y5 := h1.rn.y5
  have y6 := h1.rn.y6
  have yf := h1.rn.free
  clear h1 gq hqF o5 o6 hBq hS hS2 hF hb y2
  go_wp2_with fail
  go_end0
  exact ⟨rfl, ⟨_, ⟨_, _, _, _, _, _, RV.out⟩, fun k hk => by
    rcases List.mem_append.1 hk with hk | hk
    · exact .inl hk
    · exact .inr (HF.out k hk)⟩, OX.out⟩
end Go.Proofs.Ytapnnbbbgopobaa.Rn
namespace Go.Proofs.Ytapnnbbbgopobaa.Rn
open Go.RowKit Cm Mm Ow Me Ml Lg Stp Rr Lr
theorem words_sum {cs : List Lay.Cl} (h : ∀ i, i < cs.length → Fr.OkC cs i) : ∀ k, k ≤ cs.length → Lay.words (cs.take k) = Fr.sumS cs k
  | 0, _ => by simp [Lay.words, Fr.sumS]
  | k + 1, hk => by
    have hb := Fr.power_bd (h k (by omega)).2.1
    rw [Lay.words_snoc cs k (by omega), Fr.sumS_succ cs k (by omega), words_sum h k (by omega)]
    have e : Lay.one (cs.getD k Lay.zero) = (cs.getD k Lay.zero).2 := by unfold Lay.one; omega
    rw [e]
theorem words_64 {cs : List Lay.Cl} {ts : List (ByteArray × Bd)} {rb : Bd} (h : Fr.Good cs ts rb) : 0 ≤ Lay.words cs ∧ Lay.words cs ≤ 64 := by
  refine ⟨(Lay.words_bd cs).1, ?_⟩
  have e := words_sum h.cells cs.length (Nat.le_refl _)
  rw [List.take_length] at e
  rw [e]
  by_cases h0 : cs.length = 0
  · rw [h0]; simp [Fr.sumS]
  · have := (h.cells (cs.length - 1) (by omega)).2.2
    rw [show cs.length - 1 + 1 = cs.length by omega] at this
    omega
theorem cells_ok {cs : List Lay.Cl} {ts : List (ByteArray × Bd)} {rb : Bd} (h : Fr.Good cs ts rb) : CellsOk cs := fun i hi => by
  have := Fr.power_bd (h.cells i hi).2.1
  have e : (cs.getD i (⟨#[]⟩, 0)).2 = (cs.getD i Lay.zero).2 := by simp only [List.getD, List.getElem?_eq_getElem hi, Option.getD_some]
  rw [e]; exact this
def NewR (w : World) (f : Rf) (tb : List (ByteArray × Bd)) (rb : Bd) (N : Nat) (e : Ending) (w' : World) : Prop := ∃ q X, e = .returned (.tuple #[.pointer (some ⟨q, 0, none⟩), .int .i64 0]) ∧ Run w' w.heap.size q f tb rb X ⟨List.replicate N 0, [], some (begA rb), []⟩ ∧ (∀ k ∈ X, w.heap.size ≤ k) ∧ Below w.heap.size w w'
set_option maxRecDepth 20000 in
set_option maxHeartbeats 6400000 in
theorem rnew13_any {w : World} {cA : Option Addr} {cn cc : Nat} {tA : Option Addr} {tn tc : Nat} {rA : Option Addr} {rn rc : Nat} {cs : List Lay.Cl} {ts : List (ByteArray × Bd)} {rb : Bd} (h : IsPg w cA cn cc tA tn tc rA rn rc cs ts rb) (hg : Fr.Good cs ts rb) (hz : ∀ i, i < tn → bsz (ts.getD i zeroTh).2 ≤ 50000) (hrz : bsz rb ≤ 50000) :
    Calls Try.prog 10 #[.agg #[.slice cA cn cc, .slice tA tn tc, .slice rA rn rc]] w (NewR w ⟨cA, cn, cc, cs, tA, tn, tc, rA, rn, rc⟩ ts rb (Lay.words cs).toNat) := by
  have hb1 := below_new w (.cells #[.slice cA cn cc, .slice tA tn tc, .slice rA rn rc] 29)
  have P0 : Hid (Pv (w.alloc (.cells #[.slice cA cn cc, .slice tA tn tc, .slice rA rn rc] 29)) w.heap.size (.slice cA cn cc) (.slice tA tn tc) (.slice rA rn rc)) := Lib.hid ⟨heap_alloc_new _ _⟩
  have H := Lib.hid h
  have H0 := Lib.hid (h.keep hb1)
  have B0 := Lib.hid hb1
  have GD := Lib.hid hg
  have HZ := Lib.hid hz
  have HRZ := Lib.hid hrz
  have HW := Lib.hid (words_64 hg)
  have hcn : cn ≤ 65536 := by have := h.cn2; omega
  obtain ⟨N, hN⟩ : ∃ N, (Lay.words cs).toNat = N := ⟨_, rfl⟩
  have HN : Hid (Lay.words cs = (N : Int)) := Lib.hid (by have := (words_64 hg).1; omega)
  have hN64 : N ≤ 64 := by have := (words_64 hg).2; omega
  rw [hN]
  clear h hg hz hrz hb1 hN
  go_enter Try.func10, Try.ntmps10
  go_upto_region 1 with fail
  obtain ⟨W, hW⟩ : ∃ W, w.alloc (.cells #[.slice cA cn cc, .slice tA tn tc, .slice rA rn rc] 29) = W := ⟨_, rfl⟩
  rw [hW] at P0 H0 B0
  try rw [hW]
  clear hW
  have p0 := P0.out.c0
  have p1 := P0.out.c1
  have p2 := P0.out.c2
  go_wp2_with fail
  refine (Fr.check_any H0.out).mono ?_
  rintro en w2 ⟨at_, e, rfl, hb2, hgood⟩
  have he : e = 0 := hgood.2 GD.out
  subst he
  have B2 := Lib.hid (B0.out.trans (hb2.mono B0.out.size))
  have P2 := Lib.hid (P0.out.keep hb2)
  have H2 := Lib.hid (H0.out.keep hb2)
  clear hb2 hgood p0 p1 p2 P0 H0 B0
  have p0 := P2.out.c0
  have p1 := P2.out.c1
  have p2 := P2.out.c2
  go_upto_region 4 with fail
  obtain ⟨WD, hWD⟩ : ∃ w', w2.drew = w' := ⟨_, rfl⟩
  have HWD : Hid (Below w2.heap.size w2 WD) := Lib.hid (by rw [← hWD]; exact (Below.refl _ _).drew)
  have SA : WD.cell? ⟨w.heap.size, 0, none⟩ = some (.slice cA cn cc) ∧ WD.cell? ⟨w.heap.size, 1, none⟩ = some (.slice tA tn tc) ∧ WD.cell? ⟨w.heap.size, 2, none⟩ = some (.slice rA rn rc) := by
    rw [← hWD]
    exact ⟨p0, p1, p2⟩
  refine Hd.start 7 (fun w' => w'.cell? ⟨w.heap.size, 0, none⟩ = some (.slice cA cn cc) ∧ w'.cell? ⟨w.heap.size, 1, none⟩ = some (.slice tA tn tc) ∧ w'.cell? ⟨w.heap.size, 2, none⟩ = some (.slice rA rn rc)) (by kernel_rfl) ?_
  try rw [hWD]
  clear hWD p0 p1 p2
  have HD := Lib.hid (H2.out.keep HWD.out)
  have hgl : w.heap.size < WD.heap.size := Nat.lt_of_lt_of_le P2.out.lt HWD.out.size
  refine Hd.take (i := 0) (v := ?vn0) rfl (by decide +kernel) (by decide +kernel) (fun _ _ _ h => h) rfl ?hyn0 SA ?restn0
  case hyn0 =>
    intro wq hSw
    obtain ⟨s1, s2, s3⟩ := hSw
    go_simp
    try with_reducible rfl
  try simp only [Act.put, zA, zB, zC]
  refine Hd.take (i := 1) (v := ?vn1) rfl (by decide +kernel) (by decide +kernel) (fun _ _ _ h => h) rfl ?hyn1 SA ?restn1
  case hyn1 =>
    intro wq hSw
    obtain ⟨s1, s2, s3⟩ := hSw
    go_simp
    try with_reducible rfl
  try simp only [Act.put, zA, zB, zC]
  refine Hd.take (i := 2) (v := ?vn2) rfl (by decide +kernel) (by decide +kernel) (fun _ _ _ h => h) rfl ?hyn2 SA ?restn2
  case hyn2 =>
    intro wq hSw
    obtain ⟨s1, s2, s3⟩ := hSw
    go_simp
    try with_reducible rfl
  try simp only [Act.put, zA, zB, zC]
  refine Hd.one (i := 3) rfl (by kernel_rfl) rfl (fun K hK => ?_)
  go_simp
  refine (Lay.rwords_any _ _ _ _ _ HD.out.cl hcn).mono ?_
  rintro e w3 ⟨rfl, hb3⟩
  rw [HN.out]
  have SB : w3.cell? ⟨w.heap.size, 0, none⟩ = some (.slice cA cn cc) ∧ w3.cell? ⟨w.heap.size, 1, none⟩ = some (.slice tA tn tc) ∧ w3.cell? ⟨w.heap.size, 2, none⟩ = some (.slice rA rn rc) := ⟨(hb3.cell (p := ⟨w.heap.size, 0, none⟩) hgl).trans SA.1, (hb3.cell (p := ⟨w.heap.size, 1, none⟩) hgl).trans SA.2.1, (hb3.cell (p := ⟨w.heap.size, 2, none⟩) hgl).trans SA.2.2⟩
  refine hK _ _ (fun _ => SB) ?_
  have B3 := Lib.hid (B2.out.trans ((HWD.out.trans (hb3.mono HWD.out.size)).mono B2.out.size))
  have hs3 := hb3.size
  clear hK K SA hb3
  try simp only [Act.put, zA, zB, zC]
  have hm := run_make_u N (by omega)
  have SC : (w3.alloc (.cells (madeCells #[.int .u64 0] N) 53)).cell? ⟨w.heap.size, 0, none⟩ = some (.slice cA cn cc) ∧ (w3.alloc (.cells (madeCells #[.int .u64 0] N) 53)).cell? ⟨w.heap.size, 1, none⟩ = some (.slice tA tn tc) ∧ (w3.alloc (.cells (madeCells #[.int .u64 0] N) 53)).cell? ⟨w.heap.size, 2, none⟩ = some (.slice rA rn rc) := ⟨(World.cell?_alloc_lt _ _ _ (show w.heap.size < w3.heap.size by first | omega | (simp; omega))).trans SB.1, (World.cell?_alloc_lt _ _ _ (show w.heap.size < w3.heap.size by first | omega | (simp; omega))).trans SB.2.1, (World.cell?_alloc_lt _ _ _ (show w.heap.size < w3.heap.size by first | omega | (simp; omega))).trans SB.2.2⟩
  have SD : ((w3.alloc (.cells (madeCells #[.int .u64 0] N) 53)).alloc (.cells #[.slice cA cn cc, .slice tA tn tc, .slice rA rn rc, .slice (some ⟨w3.heap.size, 0, none⟩) N N, .slice none 0 0, .pointer none, .slice none 0 0, .bool false] 75)).cell? ⟨w.heap.size, 0, none⟩ = some (.slice cA cn cc) ∧ ((w3.alloc (.cells (madeCells #[.int .u64 0] N) 53)).alloc (.cells #[.slice cA cn cc, .slice tA tn tc, .slice rA rn rc, .slice (some ⟨w3.heap.size, 0, none⟩) N N, .slice none 0 0, .pointer none, .slice none 0 0, .bool false] 75)).cell? ⟨w.heap.size, 1, none⟩ = some (.slice tA tn tc) ∧ ((w3.alloc (.cells (madeCells #[.int .u64 0] N) 53)).alloc (.cells #[.slice cA cn cc, .slice tA tn tc, .slice rA rn rc, .slice (some ⟨w3.heap.size, 0, none⟩) N N, .slice none 0 0, .pointer none, .slice none 0 0, .bool false] 75)).cell? ⟨w.heap.size, 2, none⟩ = some (.slice rA rn rc) := ⟨(World.cell?_alloc_lt _ _ _ (show w.heap.size < (w3.alloc (.cells (madeCells #[.int .u64 0] N) 53)).heap.size by first | omega | (simp; omega))).trans SC.1, (World.cell?_alloc_lt _ _ _ (show w.heap.size < (w3.alloc (.cells (madeCells #[.int .u64 0] N) 53)).heap.size by first | omega | (simp; omega))).trans SC.2.1, (World.cell?_alloc_lt _ _ _ (show w.heap.size < (w3.alloc (.cells (madeCells #[.int .u64 0] N) 53)).heap.size by first | omega | (simp; omega))).trans SC.2.2⟩
  refine Hd.one (i := 4) rfl (by kernel_rfl) rfl (fun K hK => ?_)
  go_simp
  refine hK _ _ (fun _ => SC) ?_
  clear hK K
  try simp only [Act.put, zA, zB, zC]
  refine Hd.one (i := 5) rfl (by kernel_rfl) rfl (fun K hK => ?_)
  go_simp
  refine hK _ _ (fun _ => SC) ?_
  clear hK K
  try simp only [Act.put, zA, zB, zC]
  refine Hd.one (i := 6) rfl (by kernel_rfl) rfl (fun K hK => ?_)
  go_simp
  refine hK _ _ (fun _ => SD) ?_
  clear hK K
  try simp only [Act.put, zA, zB, zC]
  have hs1 : (w3.alloc (.cells (madeCells #[.int .u64 0] N) 53)).heap.size = w3.heap.size + 1 := by simp
  have hb5 : Below w3.heap.size w3 ((w3.alloc (.cells (madeCells #[.int .u64 0] N) 53)).alloc (.cells #[.slice cA cn cc, .slice tA tn tc, .slice rA rn rc, .slice (some ⟨w3.heap.size, 0, none⟩) N N, .slice none 0 0, .pointer none, .slice none 0 0, .bool false] 75)) := ((Below.refl _ _).alloc (Nat.le_refl _) _).alloc (by simp) _
  have h1 : ((w3.alloc (.cells (madeCells #[.int .u64 0] N) 53)).alloc (.cells #[.slice cA cn cc, .slice tA tn tc, .slice rA rn rc, .slice (some ⟨w3.heap.size, 0, none⟩) N N, .slice none 0 0, .pointer none, .slice none 0 0, .bool false] 75)).heap[w3.heap.size]? = some (.cells (madeCells #[.int .u64 0] N) 53 (0, 0)) := by
    rw [Below.heap_alloc _ _ _ (by simp)]
    exact heap_alloc_new _ _
  have h2 : ((w3.alloc (.cells (madeCells #[.int .u64 0] N) 53)).alloc (.cells #[.slice cA cn cc, .slice tA tn tc, .slice rA rn rc, .slice (some ⟨w3.heap.size, 0, none⟩) N N, .slice none 0 0, .pointer none, .slice none 0 0, .bool false] 75)).heap[w3.heap.size + 1]? = some (.cells #[.slice cA cn cc, .slice tA tn tc, .slice rA rn rc, .slice (some ⟨w3.heap.size, 0, none⟩) N N, .slice none 0 0, .pointer none, .slice none 0 0, .bool false] 75 (0, 0)) := by
    rw [← hs1]
    exact heap_alloc_new _ _
  have B5 := Lib.hid (B3.out.trans (hb5.mono B3.out.size))
  have hws : w.heap.size ≤ w3.heap.size := B3.out.size
  have HZ5 : Hid (((w3.alloc (.cells (madeCells #[.int .u64 0] N) 53)).alloc (.cells #[.slice cA cn cc, .slice tA tn tc, .slice rA rn rc, .slice (some ⟨w3.heap.size, 0, none⟩) N N, .slice none 0 0, .pointer none, .slice none 0 0, .bool false] 75)).heap.size = w3.heap.size + 2) := Lib.hid (by simp)
  obtain ⟨W5, hW5⟩ : ∃ W, (w3.alloc (.cells (madeCells #[.int .u64 0] N) 53)).alloc (.cells #[.slice cA cn cc, .slice tA tn tc, .slice rA rn rc, .slice (some ⟨w3.heap.size, 0, none⟩) N N, .slice none 0 0, .pointer none, .slice none 0 0, .bool false] 75) = W := ⟨_, rfl⟩
  rw [hW5] at h1 h2 B5 HZ5 SD
  try rw [hW5]
  clear hW5 hb5 hs1 SB SC
  have h5 := H.out.keep B5.out
  have RN : Hid (Run W5 w.heap.size (w3.heap.size + 1) ⟨cA, cn, cc, cs, tA, tn, tc, rA, rn, rc⟩ ts rb [w3.heap.size + 1, w3.heap.size] ⟨List.replicate N 0, [], none, []⟩) := Lib.hid ⟨[w3.heap.size + 1, w3.heap.size], none, 0, none, [], fun _ => 0, ⟨⟨some ⟨w3.heap.size, 0, none⟩, N, none, 0, 0, ⟨by rw [List.length_replicate]; exact h2, by rw [List.length_replicate]; exact own_zero (by unfold maxLen; omega) hws h1, Own.nil _ _ _ _, fun g _ hx => (by cases hx), by omega, h5.cl, fun h0 b o m hA => (by
      obtain ⟨b', o', e, hb, -⟩ := H.out.cl.cell (k := 0) h0
      have hA' : cA = some ⟨b, o, m⟩ := hA
      rw [hA'] at e
      injection e with e
      injection e with e
      subst e
      exact hb), by simp, fun g hg => (by simp at hg; simp [hg]), fun g hg => (by cases hg), fun g hg => (by
      simp at hg
      rcases hg with rfl | rfl
      · exact .inl rfl
      · exact .inr (.inl rfl)), by rw [List.length_replicate]; exact HN.out.symm, by rw [List.length_replicate]; exact hN64, hcn, cells_ok GD.out, Nat.zero_le _⟩⟩, ⟨H.out.th.len, by have := GD.out.t4; have := H.out.th.len; show tn ≤ 4; omega, fun i hi => (by
      obtain ⟨b, o, BA, bn, bc, e, hl, c0, c1, hB, -, -⟩ := H.out.th.cell i hi
      exact ⟨b, o, BA, bn, bc, e, hl, Nat.lt_of_lt_of_le hl B5.out.size, (B5.out.cell (p := ⟨b, o + i * 2 + 1, none⟩) hl).trans c1, isP_only (Only.of_below (F := []) B5.out) (fun g hg => by cases hg) (Fr.isP_lo hB), HZ.out i hi, celB_of _ [] (GD.out.walks i (by have := H.out.th.len; have hi' : i < tn := hi; show i < ts.length; omega))⟩), isP_only (Only.of_below (F := []) B5.out) (fun g hg => by cases hg) (Fr.isP_lo H.out.rec_), HRZ.out, celB_of _ [] GD.out.wrec⟩, Own.nil _ _ _ _, rfl, fun _ => rfl, fun a ha => (by cases ha), fun i hi => absurd hi (by simp), fun k _ => rfl, fun k hk => (by cases hk), fun t ht => (by cases ht), fun i hi => absurd hi (by simp), fun k hk => hk, fun k hk => (by cases hk), fun t ht => (by cases ht), fun i hi => absurd hi (by simp), fun k hk => (by
      have := HZ5.out
      simp at hk
      rcases hk with rfl | rfl <;> omega)⟩⟩
  clear h1 h2 h5 hm
  refine Hd.one (i := 7) rfl (by kernel_rfl) rfl (fun K hK => ?_)
  go_simp
  refine hK _ _ (fun h => absurd h (by omega)) ?_
  clear hK K SD
  try simp only [Act.put, zA, zB, zC]
  refine Hd.done (by kernel_rfl) ?_ _
  have CR := Lib.hid (rcrash13_any RN.out)
  go_wp2_with fail
  refine CR.out.mono ?_
  rintro e w6 ⟨rfl, ⟨X6, hR6, hX6⟩, hO6⟩
  have R6 := Lib.hid hR6
  have HX : Hid (∀ k ∈ X6, w.heap.size ≤ k) := Lib.hid (fun k hk => by
    have := HZ5.out
    rcases hX6 k hk with e | e
    · simp at e; rcases e with rfl | rfl <;> omega
    · omega)
  have B6 := Lib.hid (B5.out.trans (hO6.below (fun x hx => by simp at hx; rcases hx with rfl | rfl <;> omega) (by have := HZ5.out; omega)))
  clear hR6 hX6 hO6
  go_wp2_with fail
  go_ret2
  exact ⟨_, _, rfl, R6.out, HX.out, B6.out⟩
end Go.Proofs.Ytapnnbbbgopobaa.Rn
namespace Go.Proofs.Ytapnnbbbgopobaa.Rq
open Go.RowKit Cm Mm Ow Me Ml Lg Stp Rr Lr Rm Sp Sx Sd Sr Pn Pa Pq Pr Pm Ph Rn
theorem flush_app (a b : List St) : flush (a ++ b) = flush a ++ flush b := by unfold flush; rw [List.flatMap_append]
theorem flE (names : List ByteArray) : ∀ (x : Ex) (k : Nat), flush (codeE names x k) = codeE names x k
  | .num _, _ => rfl
  | .name _, _ => rfl
  | .op o a b, k => by rw [codeE, flush_app, flush_app, flE names a, flE names b]; rfl
theorem flP (cs : List Lay.Cl) (nl : List ByteArray) (h : Hd) (k : Nat) : flush (codeP cs nl h k) = codeP cs nl h k := by rw [codeP, flush_app, flE]; rfl
theorem flH (cs : List Lay.Cl) (nl : List ByteArray) (h : Hd) (k : Nat) : (flush (codeH cs nl h k)).length ≤ 2 * (lv h.i + lv h.x + lv h.y) + 6 := by
  have h1 := codeE_len nl h.x k
  have h2 := codeE_len nl h.i k
  have h3 := codeE_len nl h.x (kP h k)
  have h4 := codeE_len nl h.y (kE h.x (kP h k))
  have p1 := lv_pos h.i
  have p2 := lv_pos h.x
  have p3 := lv_pos h.y
  have hp : (codeP cs nl h k).length = (codeE nl h.i k).length + 6 := by unfold codeP; simp
  unfold codeH
  repeat' split
  · rw [flush_app, flE, List.length_append]
    have : (flush [(⟨1, locN nl h.name, varE nl h.x k, 0, 0, 0, 0, 0, 0⟩ : St)]).length = 1 := rfl
    omega
  · rw [flush_app, flP, List.length_append]
    have : (flush [(⟨3, locN nl h.name, varP h k, 0, 0, 0, cix cs h.cell, 0, 0⟩ : St)]).length = 3 := rfl
    omega
  · rw [flush_app, flush_app, flP, flE, List.length_append, List.length_append]
    have : (flush [(⟨4, 0, varP h k, varE nl h.x (kP h k), 0, 0, cix cs h.cell, 0, 0⟩ : St)]).length = 3 := rfl
    omega
  · rw [flush_app, flush_app, flush_app, flP, flE, flE, List.length_append, List.length_append, List.length_append]
    have : (flush [(⟨5, locN nl h.name, varP h k, varE nl h.x (kP h k), varE nl h.y (kE h.x (kP h k)), 0, cix cs h.cell, 0, 0⟩ : St)]).length = 3 := rfl
    omega
  · have : (flush [(⟨13, 0, 0, 0, 0, 0, 0, 0, 0⟩ : St)]).length = 1 := rfl
    omega
  · rw [flush_app, flE, List.length_append]
    have : (flush [(⟨8, 0, varE nl h.x k, 0, 0, 0, 0, 0, 0⟩ : St)]).length = 1 := rfl
    omega
  · show 0 ≤ _
    omega
theorem flB (cs : List Lay.Cl) (nl : List ByteArray) : ∀ (b : Bd) (k l : Nat), (flush (codeB cs nl b k l)).length ≤ 4 * bsz b
  | .nil, k, l => by simp [codeB, flush]
  | .cons h body els rest, k, l => by
    have p1 := lv_pos h.i
    have p2 := lv_pos h.x
    have p3 := lv_pos h.y
    have hx := codeE_len nl h.x k
    have g1 : ∀ t : Nat, (flush [sLab t]).length = 1 := fun _ => rfl
    have g2 : ∀ a t : Nat, (flush [sZero a t]).length = 1 := fun _ _ => rfl
    have g3 : ∀ a t : Nat, (flush [sJump a, sLab t]).length = 2 := fun _ _ => rfl
    rw [codeB]
    simp only [bsz]
    split
    · have i1 := flB cs nl body (kH h k) (l + 2)
      have i2 := flB cs nl els (kB body (kH h k)) (lB body (l + 2))
      have i3 := flB cs nl rest (kB els (kB body (kH h k))) (lB els (lB body (l + 2)))
      simp only [flush_app, List.length_append, flE, g1, g2, g3]
      omega
    · split
      · have i1 := flB cs nl body (kH h k) (l + 2)
        have i3 := flB cs nl rest (kB body (kH h k)) (lB body (l + 2))
        simp only [flush_app, List.length_append, flE, g1, g2, g3]
        omega
      · have i3 := flB cs nl rest (kH h k) l
        have i4 := flH cs nl h k
        simp only [flush_app, List.length_append]
        omega
theorem fl_code (cs : List Lay.Cl) (b : Bd) : (flush (codeOf cs b)).length ≤ 4 * bsz b + 1 := by
  unfold codeOf
  rw [flush_app, List.length_append]
  have := flB cs (nmsB b) b (nmsB b).length 0
  have e : (flush [sEnd]).length = 1 := rfl
  omega
theorem len_flush (l : List St) : l.length ≤ (flush l).length := by
  induction l with
  | nil => exact Nat.le_refl _
  | cons s t ih =>
    rw [flush_cons, List.length_append]
    have : 1 ≤ (flush1 s).length := by unfold flush1; split <;> simp
    simp only [List.length_cons]
    omega
/-! ### numbers -/
def NumE : Ex → Prop
  | .num n => isU n
  | .name _ => True
  | .op _ a b => NumE a ∧ NumE b
def NumB : Bd → Prop
  | .nil => True
  | .cons h body els rest => NumE h.i ∧ NumE h.x ∧ NumE h.y ∧ NumB body ∧ NumB els ∧ NumB rest
theorem numE_of {B : Nat} {w : World} : ∀ {x : Ex} {vs : List Value}, exV B w x vs → NumE x
  | .num n, vs, h => by unfold exV at h; unfold NumE isU; omega
  | .name s, vs, h => trivial
  | .op o a b, vs, h => by
    unfold exV at h
    obtain ⟨blk, va, vb, h0, h1, h2, h3, h4, h5, h6⟩ := h
    exact ⟨numE_of h5, numE_of h6⟩
theorem numB_at {B : Nat} {w : World} : ∀ (b : Bd) {blk off : Nat}, bdAt B w b blk off → NumB b
  | .nil, blk, off, h => trivial
  | .cons hd body els rest, blk, off, h => by
    unfold bdAt at h
    obtain ⟨⟨vi, vx, vy, BA, bn, bc, EA, en, ec, h1, h2, h3, h4, h5, h6, h7, h8⟩, hr⟩ := h
    refine ⟨numE_of h2, numE_of h3, numE_of h4, ?_, ?_, numB_at rest hr⟩
    · by_cases h0 : 0 < bn
      · obtain ⟨b', o', -, -, -, e⟩ := h7.2.2.2 h0
        exact numB_at body e
      · have : body = .nil := by
          cases body with
          | nil => rfl
          | cons _ _ _ _ => have := h7.1; simp [blen] at this; omega
        rw [this]; trivial
    · by_cases h0 : 0 < en
      · obtain ⟨b', o', -, -, -, e⟩ := h8.2.2.2 h0
        exact numB_at els e
      · have : els = .nil := by
          cases els with
          | nil => rfl
          | cons _ _ _ _ => have := h8.1; simp [blen] at this; omega
        rw [this]; trivial
theorem numB_of {B : Nat} {w : World} {b : Bd} {A : Option Addr} {n c : Nat} (h : IsBd B w b A n c) : NumB b := by
  by_cases h0 : 0 < n
  · obtain ⟨b', o', -, -, -, e⟩ := h.2.2.2 h0
    exact numB_at b e
  · have : b = .nil := by
      cases b with
      | nil => rfl
      | cons _ _ _ _ => have := h.1; simp [blen] at this; omega
    rw [this]; trivial
theorem u_app {a b : List St} (h : CodeU a) (k : CodeU b) : CodeU (a ++ b) := fun s hs => by
  rcases List.mem_append.1 hs with hs | hs
  · exact h s hs
  · exact k s hs
theorem u_zero {l : List St} (h : ∀ s ∈ l, s.n = 0) : CodeU l := fun s hs => by rw [h s hs]; unfold isU; omega
theorem u_codeE (nl : List ByteArray) : ∀ (x : Ex) (k : Nat), NumE x → CodeU (codeE nl x k)
  | .num n, k, h => fun s hs => by simp [codeE, sConst] at hs; subst hs; exact h
  | .name s, k, h => fun s hs => by cases hs
  | .op o a b, k, h => by
    rw [codeE]
    exact u_app (u_app (u_codeE nl a _ h.1) (u_codeE nl b _ h.2)) (u_zero (by simp [sOp]))
theorem u_codeP {cs : List Lay.Cl} (nl : List ByteArray) {h : Hd} (k : Nat) (hcs : CellsOk cs) (h16 : cs.length ≤ 16) (hc : cix cs h.cell < cs.length) (hi : NumE h.i) : CodeU (codeP cs nl h k) := by
  rw [codeP]
  refine u_app (u_codeE nl h.i k hi) ?_
  have e := csize_at cs h.cell hc
  have h1 := hcs _ hc
  have h2 := Lay.words_take_bd cs (cix cs h.cell) (by omega)
  have h3 : cbase cs (cix cs h.cell) = Lay.words (cs.take (cix cs h.cell)) := rfl
  rw [← e] at h1
  intro s hs
  simp [sConst, sOp] at hs
  rcases hs with rfl | rfl | rfl | rfl | rfl | rfl <;> (unfold isU; dsimp only; omega)
theorem u_codeH {cs : List Lay.Cl} (nl : List ByteArray) {h : Hd} (k : Nat) (hcs : CellsOk cs) (h16 : cs.length ≤ 16) (hc : Fr.isCelled h.kind = true → cix cs h.cell < cs.length) (hi : NumE h.i) (hx : NumE h.x) (hy : NumE h.y) : CodeU (codeH cs nl h k) := by
  unfold codeH
  split
  · exact u_app (u_codeE nl _ _ hx) (u_zero (by simp))
  · split
    · rename_i e
      exact u_app (u_codeP nl k hcs h16 (hc (by rw [e]; decide)) hi) (u_zero (by simp))
    · split
      · rename_i e
        exact u_app (u_app (u_codeP nl k hcs h16 (hc (by rw [e]; decide)) hi) (u_codeE nl _ _ hx)) (u_zero (by simp))
      · split
        · rename_i e
          exact u_app (u_app (u_app (u_codeP nl k hcs h16 (hc (by rw [e]; decide)) hi) (u_codeE nl _ _ hx)) (u_codeE nl _ _ hy)) (u_zero (by simp))
        · split
          · exact u_zero (by simp)
          · split
            · exact u_app (u_codeE nl _ _ hx) (u_zero (by simp))
            · exact fun s hs => by cases hs
theorem u_codeB {cs : List Lay.Cl} (nl : List ByteArray) (hcs : CellsOk cs) (h16 : cs.length ≤ 16) : ∀ (b : Bd) (k l : Nat), CelB cs b → NumB b → CodeU (codeB cs nl b k l)
  | .nil, k, l, _, _ => fun s hs => by cases hs
  | .cons h body els rest, k, l, hc, hn => by
    obtain ⟨n1, n2, n3, n4, n5, n6⟩ := hn
    rw [codeB]
    split
    · rename_i e
      exact u_app (u_app (u_app (u_app (u_app (u_app (u_codeE nl _ _ n2) (u_zero (by simp [sZero]))) (u_codeB nl hcs h16 body _ _ (hc.2.1 (.inl e)) n4)) (u_zero (by simp [sJump, sLab]))) (u_codeB nl hcs h16 els _ _ (hc.2.2.1 e) n5)) (u_zero (by simp [sLab]))) (u_codeB nl hcs h16 rest _ _ hc.2.2.2 n6)
    · split
      · rename_i e
        exact u_app (u_app (u_app (u_app (u_app (u_zero (by simp [sLab])) (u_codeE nl _ _ n2)) (u_zero (by simp [sZero]))) (u_codeB nl hcs h16 body _ _ (hc.2.1 (.inr e)) n4)) (u_zero (by simp [sJump, sLab]))) (u_codeB nl hcs h16 rest _ _ hc.2.2.2 n6)
      · exact u_app (u_codeH nl k hcs h16 hc.1 n1 n2 n3) (u_codeB nl hcs h16 rest _ _ hc.2.2.2 n6)
theorem u_codeOf {cs : List Lay.Cl} {b : Bd} (hcs : CellsOk cs) (h16 : cs.length ≤ 16) (hc : CelB cs b) (hn : NumB b) : CodeU (codeOf cs b) := by
  unfold codeOf
  exact u_app (u_codeB _ hcs h16 b _ _ hc hn) (u_zero (by simp [sEnd]))
theorem u_flush {l : List St} (h : CodeU l) : CodeU (flush l) := fun s hs => by
  unfold flush at hs
  rw [List.mem_flatMap] at hs
  obtain ⟨t, ht, hs⟩ := hs
  unfold flush1 at hs
  split at hs
  · simp at hs
    rcases hs with rfl | rfl | rfl
    · exact h _ ht
    · unfold isU fl; dsimp only; omega
    · unfold isU sy; dsimp only; omega
  · simp at hs
    subst hs
    exact h _ ht
theorem u_elide (sole : List Bool) : ∀ (n : Nat) (l : List St), l.length ≤ n → CodeU l → CodeU (elide sole l)
  | _, [], _, _ => fun s hs => by simp [elide] at hs
  | 0, s :: t, h, _ => by simp at h
  | n + 1, s :: t, h, hu => by
    rw [elide]
    have ht : CodeU t := fun x hx => hu x (List.mem_cons_of_mem _ hx)
    intro x hx
    rcases List.mem_cons.1 hx with rfl | hx
    · exact hu _ (List.mem_cons_self)
    · split at hx
      · exact u_elide sole n _ (by simp at h ⊢; omega) (fun y hy => ht y (List.mem_of_mem_drop hy)) x hx
      · exact u_elide sole n _ (by simpa using h) ht x hx
theorem ins_code2 (cs : List Lay.Cl) (b : Bd) (sole : List Bool) : Ins (codeOf cs b) (elide sole (flush (codeOf cs b))) := ins_trim (ins_flush _) (ins_elide sole _ _ (Nat.le_refl _)) (noF_of cs b)
end Go.Proofs.Ytapnnbbbgopobaa.Rq
namespace Go.Proofs.Ytapnnbbbgopobaa.ElS
open Go.RowKit Go.WideShapes Go.ChangeShapes Cm Mm Ow Stp StW StC StM StF ElW ElR StO ElM
def boL (b : Bool) : List Value := [.bool b]
theorem elBo : El Try.prog 39 4 1 1 := by
  obtain ⟨i, h1, h2, h3, h4⟩ := info_parts (P := Try.prog) (e := 4) (z := .bool false) (size := 1) (bytes := 1) (by kernel_rfl)
  exact ⟨Try.underlying39, ⟨i, _, h1, h2, h3, h4, rfl⟩, by decide⟩
theorem isBo_own {w : World} {B : Nat} {A : Option Addr} {n c : Nat} {l : List Bool} (h : Own w B 4 1 A n c (l.map boL)) : IsBo w A n c l := by
  have hl : l.length = n := by simpa using h.len
  refine ⟨hl, h.sl.ext fun i hi => ?_⟩
  simp [List.getD, show i < l.length by omega, boL]
def stepsOf (l : List Cd) : List (List St) := l.map (·.l)
theorem stepsOf_len (l : List Cd) : (stepsOf l).length = l.length := by simp [stepsOf]
theorem stepsOf_get (l : List Cd) (k : Nat) : (stepsOf l).getD k [] = (l.getD k zeroCd).l := by
  unfold stepsOf List.getD
  rw [List.getElem?_map]
  cases l[k]? <;> rfl
def GaveB (w : World) (L : List Bool) (e : Ending) (w' : World) : Prop :=
  ∃ A m c, e = .returned (.slice A m c) ∧ Own w' w.heap.size 4 1 A m c (L.map boL) ∧ Below w.heap.size w w'
theorem bo_each (b : Bool) : ∀ y ∈ [boL b], y.length = 1 := fun y hy => by simp at hy; subst hy; rfl
theorem bo_ones (b : Bool) : ∀ y ∈ [boL b], ∀ u ∈ y, u.oneCell' = true := fun y hy u hu => by
  simp at hy; subst hy; simp [boL] at hu; subst hu; rfl
section
attribute [local go_sem] if_min if_max
end
set_option maxHeartbeats 3200000 in
theorem rsole_any (A : Option Addr) (n cap : Nat) (cells : Int) (l : List Cd) (w : World) (h : IsCd w A n cap l) (hn : n ≤ 65536) (hN : ∀ i, i < n → (l.getD i zeroCd).n ≤ 65536) :
    Calls Try.prog 8 #[.slice A n cap, .int .i64 cells] w (GaveB w (soles (stepsOf l) cells)) := by
  have hl := Lib.hid h.1
  have hS := Lib.hid h
  have HN := Lib.hid hN
  clear hN h
  obtain ⟨M, hM⟩ : ∃ M, M = cutN cells := ⟨_, rfl⟩
  have hM16 : M ≤ 16 := by rw [hM]; unfold cutN; omega
  have hMM : max 0 (min cells 16) = (M : Int) := by rw [hM]; unfold cutN; omega
  have HM := Lib.hid hM; clear hM
  have CU := fun w => rcut_any cells 0 16 w (by omega)
  rw [hMM] at CU
  have CU := Lib.hid CU
  clear hMM
  go_enter Try.func8, Try.ntmps8
  go_wp2_with fail
  refine (CU.out _).mono ?_
  rintro e w2 ⟨rfl, rfl⟩
  go_wp2_with fail
  go_loopw [6, 7] (fun v i wr => ∃ (k c : Nat) (A' : Option Addr), k ≤ M ∧ i = .int .i64 k ∧ v = .slice A' k c ∧ Own wr w.heap.size 4 1 A' k c ((solesN (stepsOf l) k).map boL) ∧ Below w.heap.size w wr) (fun _ i _ => M - (intOf i).toNat)
  case atStart => exact ⟨0, 0, none, by omega, rfl, rfl, Own.nil _ _ _ _, Below.refl _ _⟩
  case round =>
    obtain ⟨k, c, A', hk, rfl, rfl, hown, hbel⟩ := hrel
    have hsz := hbel.size
    by_cases hkM : (k : Int) < M
    · have HO := Lib.hid hown; clear hown
      obtain ⟨wo, rfl⟩ : ∃ wo : World, wo = wr := ⟨_, rfl⟩
      go_wp2
      go_loopw [8, 9] (fun q j wr => ∃ (i : Nat), i ≤ n ∧ j = .int .i64 i ∧ q = .int .i64 (many ((stepsOf l).take i) k : Nat) ∧ Below wo.heap.size wo wr) (fun _ j _ => n - (intOf j).toNat)
      case atStart => exact ⟨0, by omega, rfl, rfl, Below.refl _ _⟩
      case round =>
        obtain ⟨i, hi, rfl, rfl, hbel2⟩ := hrel
        have hsz2 := hbel2.size
        have hmb : many ((stepsOf l).take i) k ≤ i := by
          unfold many
          have := List.countP_le_length (p := fun l => asks l k) (l := (stepsOf l).take i)
          have := List.length_take_le i (stepsOf l)
          omega
        by_cases hin : i < n
        · have hms := Lib.hid (many_snoc (stepsOf l) k i (by rw [stepsOf_len]; have := hl.out; omega))
          rw [stepsOf_get] at hms
          obtain ⟨b, o, rfl, hb, s0, s1, s2, _, _, hI⟩ := ((hS.out.keep hbel).keep hbel2).cell (k := i) (by omega)
          have hNi := HN.out i hin
          have hcap := hS.out.2.1.le
          generalize hc : l.getD i zeroCd = cd at *
          clear hc
          generalize many ((stepsOf l).take i) k = q at *
          obtain ⟨cx, cy, cA, cn, ccap, cl⟩ := cd
          have HI := Lib.hid hI; clear hI
          have hcl := Lib.hid HI.out.1
          have S2 := Lib.hid s2
          have i1 : (i : Int) < n := by omega
          obtain ⟨w6, rfl⟩ : ∃ w6 : World, w6 = wr := ⟨_, rfl⟩
          go_wp2
          go_loopw [10, 11] (fun q j wr => ∃ (p : Nat), p ≤ cn ∧ j = .int .i64 p ∧ q = .bool (asks (cl.take p) k) ∧ Below w6.heap.size w6 wr) (fun _ j _ => cn - (intOf j).toNat)
          case atStart => exact ⟨0, by omega, rfl, rfl, Below.refl _ _⟩
          case round =>
            obtain ⟨p, hp, rfl, rfl, hbel3⟩ := hrel
            have hsz3 := hbel3.size
            have s2' := (hbel3.cell (p := ⟨b, o + i * 3 + 2, none⟩) hb).trans S2.out
            by_cases hpn : p < cn
            · have has := Lib.hid (asks_snoc cl k p (by have := hcl.out; omega))
              obtain ⟨b2, o2, rfl, hb2, t0, t1, t2, t3, t4, t5, t6, t7, t8⟩ := (HI.out.keep hbel3).cell (k := p) (by omega)
              generalize hc : cl.getD p zeroSt = s at *
              clear hc
              have i2 : (p : Int) < cn := by omega
              cases ha : asks (cl.take p) k
              · cases hacc : access s
                · go_wp2_with fail
                  refine (raccess_any s.kind _).mono ?_
                  rintro e w3 ⟨rfl, rfl⟩
                  rw [acc_kind, hacc]
                  go_wp2_with fail
                  go_roundw
                  case rel => exact ⟨p + 1, by omega, by go_num, by rw [has.out, ha, hacc]; rfl, hbel3⟩
                  case measure => simp [intOf]; omega
                · cases hce : (s.cell == (k : Int))
                  all_goals
                    go_wp2_with fail
                    refine (raccess_any s.kind _).mono ?_
                    rintro e w3 ⟨rfl, rfl⟩
                    rw [acc_kind, hacc]
                    go_wp2_with fail
                    go_roundw
                    case rel => exact ⟨p + 1, by omega, by go_num, by rw [has.out, ha, hacc, hce]; rfl, hbel3⟩
                    case measure => simp [intOf]; omega
              · go_wp2_with fail
                go_roundw
                case rel => exact ⟨p + 1, by omega, by go_num, by rw [has.out, ha]; rfl, hbel3⟩
                case measure => simp [intOf]; omega
            · obtain rfl : p = cn := by omega
              have e : cl.take p = cl := by rw [← hcl.out]; exact List.take_length
              rw [e] at *
              clear e
              cases ha : asks cl k
              all_goals
                go_wp2_with fail
                go_roundw
                case rel => exact ⟨i + 1, by omega, by go_num, by rw [hms.out, ha]; go_num, hbel2.trans (hbel3.mono hsz2)⟩
                case measure => simp [intOf]; omega
        · obtain rfl : i = n := by omega
          have e : (stepsOf l).take i = stepsOf l := by rw [← hl.out, ← stepsOf_len]; exact List.take_length
          have e2 := Lib.hid (solesN_snoc (stepsOf l) k)
          rw [e] at *
          clear e
          generalize hq : many (stepsOf l) k = q at *
          clear hq
          by_cases hq1 : (q : Int) ≤ 1
          · have hd : decide (q ≤ 1) = true := decide_eq_true (by omega)
            have hd := Lib.hid hd
            go_wp2_with (at_builtin; refine Ow2.wpList_appN _ rfl _ _ rfl elBo w.heap.size A' k c 1 wr.heap.size _ [boL true] rfl rfl (HO.out.keep hbel2) rfl rfl (bo_each true) (bo_ones true) (by unfold maxLen; omega) (by omega) (by omega) _ rfl ?_; intro A4 c4 w4 hown4 hbel4 hkp4 hat4; have HO4 := Lib.hid hown4; clear hown4 hkp4 hat4)
            go_roundw
            case rel => exact ⟨k + 1, c4, A4, by omega, by go_num, rfl, by rw [e2.out, List.map_append, hd.out]; exact HO4.out, (hbel.trans (hbel2.mono hsz)).trans hbel4⟩
            case measure => simp [intOf]; omega
          · have hd : decide (q ≤ 1) = false := decide_eq_false (by omega)
            have hd := Lib.hid hd
            go_wp2_with (at_builtin; refine Ow2.wpList_appN _ rfl _ _ rfl elBo w.heap.size A' k c 1 wr.heap.size _ [boL false] rfl rfl (HO.out.keep hbel2) rfl rfl (bo_each false) (bo_ones false) (by unfold maxLen; omega) (by omega) (by omega) _ rfl ?_; intro A4 c4 w4 hown4 hbel4 hkp4 hat4; have HO4 := Lib.hid hown4; clear hown4 hkp4 hat4)
            go_roundw
            case rel => exact ⟨k + 1, c4, A4, by omega, by go_num, rfl, by rw [e2.out, List.map_append, hd.out]; exact HO4.out, (hbel.trans (hbel2.mono hsz)).trans hbel4⟩
            case measure => simp [intOf]; omega
    · obtain rfl : k = M := by omega
      have HO := Lib.hid hown; clear hown
      go_wp2_with fail
      go_ret
      exact ⟨A', k, c, rfl, by unfold soles; rw [← HM.out]; exact HO.out, hbel⟩
end Go.Proofs.Ytapnnbbbgopobaa.ElS
namespace Go.Proofs.Ytapnnbbbgopobaa.ElL
open Go.RowKit Go.WideShapes Go.ChangeShapes Cm Mm Ow Stp StW StC StM StF ElW ElR StO ElM ElS
theorem isSt_lit (w : World) (l : List St) (h : l.length ≤ 1000) : IsSt (w.alloc (.cells (l.map stL).flatten.toArray 55)) (some ⟨w.heap.size, 0, none⟩) l.length l.length l := by
  refine ⟨rfl, ?_⟩
  have := Ow2.sl_many w (l.map stL) 9 55 (st_each l) (by simp; unfold maxLen; omega)
  simp only [List.length_map] at this
  refine this.ext fun i hi => ?_
  simp [List.getD, hi]
end Go.Proofs.Ytapnnbbbgopobaa.ElL
