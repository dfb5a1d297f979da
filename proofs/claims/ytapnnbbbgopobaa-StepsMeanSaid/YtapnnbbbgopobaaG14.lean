/-
  WALKS: a lane of the run of steps: its variables, its place.
-/
import Derived.Test.YtapnnbbbgopobaaG05
import Derived.Test.YtapnnbbbgopobaaG13
import Derived.BigQuiet
import Derived.Deep.QuietTactic
set_option linter.unusedVariables false
set_option linter.unusedSimpArgs false
namespace Go.Proofs.Ytapnnbbbgopobaa.Sn
open Go.RowKit Cm Mm Ow Me Stp StW Rm Sp
section
variable {w w' : World} {p : Nat} {F : List Nat} {x y : Int} {A : Option Addr} {n cap : Nat} {V : Option Addr} {cv : Nat} {v : List Int} {a : Nat} {st en : Bool}
end
theorem getV_low {v : List Int} {i : Int} (h : i < 0) : getV v i = 0 := by unfold getV; rw [if_neg (by omega)]
theorem getV_high {v : List Int} {i : Int} (h : (v.length : Int) ≤ i) : getV v i = 0 := by unfold getV; rw [if_neg (by omega)]
theorem getV_in {v : List Int} {i : Nat} (h : i < v.length) : getV v i = v.getD i 0 := by unfold getV; rw [if_pos (by omega)]; rfl
theorem putV_low {v : List Int} {i x : Int} (h : i < 0) : putV v i x = v := by unfold putV; rw [if_neg (by omega)]
theorem putV_high {v : List Int} {i x : Int} (h : (v.length : Int) ≤ i) : putV v i x = v := by unfold putV; rw [if_neg (by omega)]
theorem putV_in {v : List Int} {i : Nat} {x : Int} (h : i < v.length) : putV v i x = v.set i x := by unfold putV; rw [if_pos (by omega)]; rfl
theorem findIdx_at {c : List St} {to9 : Int} {k : Nat} (hk : k < c.length) (h : isLab to9 (c.getD k zeroSt) = true) (hlow : ∀ j, j < k → isLab to9 (c.getD j zeroSt) = false) : jumpV c to9 = k := by
  unfold jumpV
  rw [List.findIdx_eq hk]
  refine ⟨by simpa [List.getD, hk] using h, fun j hj => ?_⟩
  have := hlow j hj
  simpa [List.getD, show j < c.length by omega] using this
theorem findIdx_none {c : List St} {to9 : Int} (hlow : ∀ j, j < c.length → isLab to9 (c.getD j zeroSt) = false) : jumpV c to9 = c.length := by
  unfold jumpV
  rw [List.findIdx_eq_length]
  intro s hs
  obtain ⟨j, hj, rfl⟩ := List.mem_iff_getElem.1 hs
  have := hlow j hj
  simpa [List.getD, hj] using this
end Go.Proofs.Ytapnnbbbgopobaa.Sn
namespace Go.Proofs.Ytapnnbbbgopobaa.Sa
open Go.RowKit Cm Mm Ow Me Stp StW Rm Sp Sn
theorem bit_any (b : Bool) (w : World) : Calls Try.prog 90 #[.bool b] w fun e w' => e = .returned (.int .u64 (bitV b)) ∧ w = w' := by
  cases b
  · go_enter Try.func90, Try.ntmps90
    go_wp2
    go_ret
    exact ⟨rfl, rfl⟩
  · go_enter Try.func90, Try.ntmps90
    go_wp2
    go_ret
    exact ⟨rfl, rfl⟩
set_option maxHeartbeats 1600000 in
theorem op_any (o a b : Int) (w : World) : Calls Try.prog 75 #[.int .u8 o, .int .u64 a, .int .u64 b] w fun e w' => e = .returned (.int .u64 (opV o a b)) ∧ w = w' := by
  obtain h | h | h | h | h | h | ⟨h1, h2, h3, h4, h5, h6⟩ : o = 43 ∨ o = 45 ∨ o = 42 ∨ o = 38 ∨ o = 61 ∨ o = 60 ∨ (¬ o = 43 ∧ ¬ o = 45 ∧ ¬ o = 42 ∧ ¬ o = 38 ∧ ¬ o = 61 ∧ ¬ o = 60) := by omega
  all_goals try subst h
  · have HR := Lib.hid (show opV 43 a b = (a + b) % 18446744073709551616 from rfl)
    go_enter Try.func75, Try.ntmps75
    go_wp2
    go_ret
    exact ⟨ret1 HR.out.symm, rfl⟩
  · have HR := Lib.hid (show opV 45 a b = (a - b) % 18446744073709551616 from rfl)
    go_enter Try.func75, Try.ntmps75
    go_wp2
    go_ret
    exact ⟨ret1 HR.out.symm, rfl⟩
  · have HR := Lib.hid (show opV 42 a b = (a * b) % 18446744073709551616 from rfl)
    go_enter Try.func75, Try.ntmps75
    go_wp2
    go_ret
    exact ⟨ret1 HR.out.symm, rfl⟩
  · have HR := Lib.hid (show opV 38 a b = bits .and .u64 a b from rfl)
    go_enter Try.func75, Try.ntmps75
    go_wp2
    go_ret
    exact ⟨ret1 HR.out.symm, rfl⟩
  · have HR := Lib.hid (show opV 61 a b = bitV (a == b) from rfl)
    go_enter Try.func75, Try.ntmps75
    go_wp2_with fail
    refine (bit_any _ _).mono ?_
    rintro e w2 ⟨rfl, rfl⟩
    go_wp2_with fail
    go_ret
    exact ⟨ret1 HR.out.symm, rfl⟩
  · have HR := Lib.hid (show opV 60 a b = bitV (decide (wrap64 a < wrap64 b)) from rfl)
    go_enter Try.func75, Try.ntmps75
    go_wp2_with fail
    refine (bit_any _ _).mono ?_
    rintro e w2 ⟨rfl, rfl⟩
    go_wp2_with fail
    go_ret
    exact ⟨ret1 HR.out.symm, rfl⟩
  · have HR := Lib.hid (show opV o a b = 0 by unfold opV; rw [if_neg h1, if_neg h2, if_neg h3, if_neg h4, if_neg h5, if_neg h6])
    go_enter Try.func75, Try.ntmps75
    go_wp2
    go_ret
    exact ⟨ret1 HR.out.symm, rfl⟩
structure Hm where
  s0 : Value
  s1 : Value
  s2 : Value
  cs : Value
  m : Nat
  rc : Value
  l : Value
  ill : Bool
section
variable {w w' : World} {q : Nat} {H : Hm} {Fm Fo : List Nat} {O : Option Addr} {oc : Nat} {now kept ver out : List Int}
theorem own_only {w w' : World} {G : List Nat} {base : Nat} {e : TypeId} {sz : Nat} {A : Option Addr} {n cap : Nat} {L : List (List Value)} (h : Own w base e sz A n cap L) (ho : Only G w w') (hn : ∀ g, A.map (·.block) = some g → g ∉ G) : Own w' base e sz A n cap L :=
  ⟨h.len, h.each, ho.row h.row hn⟩
end
end Go.Proofs.Ytapnnbbbgopobaa.Sa
namespace Go.Proofs.Ytapnnbbbgopobaa.Rn
open Go.RowKit Cm Mm Ow Me Ml Lg Stp Rr Lr
theorem isN_keep {w w' : World} {A : Option Addr} {n c : Nat} {l : List ByteArray} (h : IsN w A n c l) (hb : Below w.heap.size w w') : IsN w' A n c l := isN_only h (F := []) (Only.of_below hb) (fun _ _ _ _ _ hx => by cases hx)
theorem idx_at {nl : List ByteArray} {s : ByteArray} {k : Nat} (hk : k < nl.length) (hno : ∀ i, i < k → ((nl.getD i ⟨#[]⟩).toList == s.toList) = false) (hs : ((nl.getD k ⟨#[]⟩).toList == s.toList) = true) : idxN nl s = k := by
  unfold idxN
  rw [List.findIdx_eq hk]
  refine ⟨by simpa [List.getD, hk] using hs, fun j hj => ?_⟩
  have := hno j hj
  simpa [List.getD, show j < nl.length by omega] using this
theorem idx_no {nl : List ByteArray} {s : ByteArray} (hno : ∀ i, i < nl.length → ((nl.getD i ⟨#[]⟩).toList == s.toList) = false) : ¬ idxN nl s < nl.length := by
  intro h
  unfold idxN at h
  have h2 := List.findIdx_getElem (w := h)
  have h3 := hno _ h
  simp [List.getD, h] at h3
  simp at h2
  exact h3 h2
def EvA (w : World) (x : Int) (e : Ending) (w' : World) : Prop := e = .returned (.int .u64 x) ∧ Below w.heap.size w w'
set_option maxHeartbeats 3200000 in
theorem eval_num {w : World} (z : Int) (N V : Value) : Calls Try.prog 59 #[.agg #[.int .i64 0, .int .u64 z, .int .u8 0, .string ⟨#[]⟩, .slice none 0 0], N, V] w (EvA w z) := by
  have hb := Lib.hid (below_new w (.cells #[.int .i64 0, .int .u64 z, .int .u8 0, .string ⟨#[]⟩, .slice none 0 0] 120))
  have hbx := heap_alloc_new w (.cells #[.int .i64 0, .int .u64 z, .int .u8 0, .string ⟨#[]⟩, .slice none 0 0] 120)
  obtain ⟨W, hW⟩ : ∃ W, w.alloc (.cells #[.int .i64 0, .int .u64 z, .int .u8 0, .string ⟨#[]⟩, .slice none 0 0] 120) = W := ⟨_, rfl⟩
  rw [hW] at hb hbx
  have x0 := cells_of hbx (j := 0) rfl
  have x1 := cells_of hbx (j := 1) rfl
  clear hbx
  go_enter Try.func59, Try.ntmps59
  go_upto_region 1 with fail
  try rw [hW]
  clear hW
  go_wp2_with fail
  go_ret
  exact ⟨rfl, hb.out⟩
set_option maxHeartbeats 3200000 in
theorem eval_name {w : World} (s : ByteArray) {nA : Option Addr} {nn nc : Nat} {names : List ByteArray} {vA : Option Addr} {vc : Nat} {v : List Int} (hN : IsN w nA nn nc names) (hV : IsU w vA nn vc v) (hn : nn ≤ 65536) :
    Calls Try.prog 59 #[.agg #[.int .i64 1, .int .u64 0, .int .u8 0, .string s, .slice none 0 0], .slice nA nn nc, .slice vA nn vc] w (EvA w (evalE names v (.name s))) := by
  have hb := Lib.hid (below_new w (.cells #[.int .i64 1, .int .u64 0, .int .u8 0, .string s, .slice none 0 0] 120))
  have hbx := heap_alloc_new w (.cells #[.int .i64 1, .int .u64 0, .int .u8 0, .string s, .slice none 0 0] 120)
  obtain ⟨W, hW⟩ : ∃ W, w.alloc (.cells #[.int .i64 1, .int .u64 0, .int .u8 0, .string s, .slice none 0 0] 120) = W := ⟨_, rfl⟩
  have hwl : w.heap.size < W.heap.size := by rw [← hW]; simp
  rw [hW] at hb hbx
  have x0 := cells_of hbx (j := 0) rfl
  have x3 := cells_of hbx (j := 3) rfl
  have HN := Lib.hid (isN_keep hN hb.out)
  have HV := Lib.hid (hV.keep hb.out)
  have LN := Lib.hid hN.1
  clear hbx hN hV
  go_enter Try.func59, Try.ntmps59
  go_upto_region 1 with fail
  try rw [hW]
  clear hW
  go_wp2_with fail
  go_loopw [7] (fun i wr => ∃ (k : Nat), k ≤ nn ∧ i = .int .i64 k ∧ Hid (∀ i, i < k → ((names.getD i ⟨#[]⟩).toList == s.toList) = false) ∧ Below W.heap.size W wr) (fun i _ => nn - (intOf i).toNat)
  case atStart => exact ⟨0, by omega, rfl, fun i hi => absurd hi (by omega), Below.refl _ _⟩
  case round =>
    obtain ⟨k, hk, rfl, hno, hB⟩ := hrel
    have B := Lib.hid hB
    have x0r := (hB.cell (p := ⟨w.heap.size, 0, none⟩) hwl).trans x0
    have x3r := (hB.cell (p := ⟨w.heap.size, 3, none⟩) hwl).trans x3
    clear x0 x3 hB
    by_cases hkn : k < nn
    · have hki : (k : Int) < (nn : Int) := by omega
      have d1 : decide ((k : Int) < (nn : Int)) = true := decide_eq_true hki
      obtain ⟨b, o, rfl, hb', g0⟩ := (isN_keep HN.out B.out).cell hkn
      obtain ⟨vb, vo, rfl, hvb, u0⟩ := (HV.out.keep B.out).cell hkn
      generalize hc : names.getD k ⟨#[]⟩ = m at *
      have HC := Lib.hid hc; clear hc
      go_upto_region 7 with fail
      cases hs : (m.toList == s.toList)
      · go_quiet (fail)
        go_wp2_with fail
        go_roundw
        case rel => exact ⟨k + 1, by omega, by go_num, fun i hi => (by
          by_cases e : i = k
          · subst e; rw [HC.out]; exact hs
          · exact hno.out i (by omega)), B.out.trans ((below_drawn wr nq).mono B.out.size)⟩
        case measure => simp [intOf]; omega
      · have HE : Hid (evalE names v (.name s) = v.getD k 0) := Lib.hid (by
          have e := idx_at (k := k) (by have := LN.out; omega) hno.out (by rw [HC.out]; exact hs)
          have hl : k < names.length := by have := LN.out; omega
          unfold evalE
          rw [e, if_pos hl])
        go_quiet (fail)
        have u0' : (wr.drewN nq).cell? ⟨vb, vo + k, none⟩ = _ := u0
        go_wp2_with fail
        go_ret
        exact ⟨by rw [HE.out]; rfl, hb.out.trans ((B.out.trans ((below_drawn wr nq).mono B.out.size)).mono hb.out.size)⟩
    · obtain rfl : k = nn := by omega
      have d1 : decide ((k : Int) < (k : Int)) = false := decide_eq_false (by omega)
      have HE : Hid (evalE names v (.name s) = 0) := Lib.hid (by
        have e := idx_no (nl := names) (s := s) (by rw [LN.out]; exact hno.out)
        unfold evalE
        rw [if_neg e])
      go_wp2_with fail
      go_ret
      exact ⟨by rw [HE.out]; rfl, hb.out.trans (B.out.mono hb.out.size)⟩
end Go.Proofs.Ytapnnbbbgopobaa.Rn
namespace Go.Proofs.Ytapnnbbbgopobaa.Rn
open Go.RowKit Cm Mm Ow Me Ml Lg Stp Rr Lr
set_option maxRecDepth 20000 in
set_option maxHeartbeats 6400000 in
theorem eval_any : ∀ (x : Ex) {w : World} {B : Nat} {vs : List Value} {nA : Option Addr} {nn nc : Nat} {names : List ByteArray} {vA : Option Addr} {vc : Nat} {v : List Int}, exV B w x vs → IsN w nA nn nc names → IsU w vA nn vc v → nn ≤ 65536 →
    Calls Try.prog 59 #[.agg vs.toArray, .slice nA nn nc, .slice vA nn vc] w (EvA w (evalE names v x))
  | .num z, w, B, vs, nA, nn, nc, names, vA, vc, v, h, hN, hV, hn => by
    unfold exV at h
    obtain ⟨rfl, _⟩ := h
    exact eval_num z _ _
  | .name s, w, B, vs, nA, nn, nc, names, vA, vc, v, h, hN, hV, hn => by
    unfold exV at h
    obtain ⟨rfl, _⟩ := h
    exact eval_name s hN hV hn
  | .op o a b, w, B, vs, nA, nn, nc, names, vA, vc, v, h, hN, hV, hn => by
    unfold exV at h
    obtain ⟨blk, va, vb, rfl, h1, h2, h3, h4, h5, h6⟩ := h
    have IA := Lib.hid (fun (w : World) (h : exV B w a va) (hN : IsN w nA nn nc names) (hV : IsU w vA nn vc v) => eval_any a h hN hV hn)
    have IB := Lib.hid (fun (w : World) (h : exV B w b vb) (hN : IsN w nA nn nc names) (hV : IsU w vA nn vc v) => eval_any b h hN hV hn)
    have hb := below_new w (.cells #[.int .i64 2, .int .u64 0, .int .u8 o, .string ⟨#[]⟩, .slice (some ⟨blk, 0, none⟩) 2 2] 120)
    have hbx := heap_alloc_new w (.cells #[.int .i64 2, .int .u64 0, .int .u8 o, .string ⟨#[]⟩, .slice (some ⟨blk, 0, none⟩) 2 2] 120)
    obtain ⟨W, hW⟩ : ∃ W, w.alloc (.cells #[.int .i64 2, .int .u64 0, .int .u8 o, .string ⟨#[]⟩, .slice (some ⟨blk, 0, none⟩) 2 2] 120) = W := ⟨_, rfl⟩
    have hwl0 : w.heap.size < W.heap.size := by rw [← hW]; simp
    rw [hW] at hb hbx
    have x0 := cells_of hbx (j := 0) rfl
    have x4 := cells_of hbx (j := 4) rfl
    have HX := Lib.hid hbx
    have XA := Lib.hid (exV_keep hb h5)
    have XB := Lib.hid (exV_keep hb h6)
    have NN := Lib.hid (isN_keep hN hb)
    have VV := Lib.hid (hV.keep hb)
    have HB := Lib.hid hb
    obtain ⟨a0, a1, a2, a3, a4, rfl⟩ := Fr.len5 (exV_len h5)
    obtain ⟨b0, b1, b2, b3, b4, rfl⟩ := Fr.len5 (exV_len h6)
    have CA : Hid (∀ j, j < 5 → W.cell? ⟨blk, j, none⟩ = ([a0, a1, a2, a3, a4] : List Value)[j]?) := Lib.hid (fun j hj => (hb.cell (p := ⟨blk, j, none⟩) h2).trans (h3 j hj))
    have CB : Hid (∀ j, j < 5 → W.cell? ⟨blk, 5 + j, none⟩ = ([b0, b1, b2, b3, b4] : List Value)[j]?) := Lib.hid (fun j hj => (hb.cell (p := ⟨blk, 5 + j, none⟩) h2).trans (h4 j hj))
    have hbl0 : blk < W.heap.size := by omega
    clear h1 h2 h3 h4 h5 h6 hb hbx hN hV
    go_enter Try.func59, Try.ntmps59
    go_upto_region 1 with fail
    try rw [hW]
    clear hW
    go_upto_region 10 with fail
    obtain ⟨WD, hWD⟩ : ∃ w', W.drew = w' := ⟨_, rfl⟩
    have HD : Hid (Below W.heap.size W WD) := Lib.hid (by rw [← hWD]; exact (Below.refl _ _).drew)
    have hwl : w.heap.size < WD.heap.size := Nat.lt_of_lt_of_le hwl0 HD.out.size
    have hbl : blk < WD.heap.size := Nat.lt_of_lt_of_le hbl0 HD.out.size
    have SA : WD.cell? ⟨w.heap.size, 2, none⟩ = some (.int .u8 o) ∧ WD.cell? ⟨w.heap.size, 4, none⟩ = some (.slice (some ⟨blk, 0, none⟩) 2 2) ∧ WD.cell? ⟨blk, 0, none⟩ = some (a0) ∧ WD.cell? ⟨blk, 1, none⟩ = some (a1) ∧ WD.cell? ⟨blk, 2, none⟩ = some (a2) ∧ WD.cell? ⟨blk, 3, none⟩ = some (a3) ∧ WD.cell? ⟨blk, 4, none⟩ = some (a4) ∧ WD.cell? ⟨blk, 5, none⟩ = some (b0) ∧ WD.cell? ⟨blk, 6, none⟩ = some (b1) ∧ WD.cell? ⟨blk, 7, none⟩ = some (b2) ∧ WD.cell? ⟨blk, 8, none⟩ = some (b3) ∧ WD.cell? ⟨blk, 9, none⟩ = some (b4) := by
      have SW : W.cell? ⟨w.heap.size, 2, none⟩ = some (.int .u8 o) ∧ W.cell? ⟨w.heap.size, 4, none⟩ = some (.slice (some ⟨blk, 0, none⟩) 2 2) ∧ W.cell? ⟨blk, 0, none⟩ = some (a0) ∧ W.cell? ⟨blk, 1, none⟩ = some (a1) ∧ W.cell? ⟨blk, 2, none⟩ = some (a2) ∧ W.cell? ⟨blk, 3, none⟩ = some (a3) ∧ W.cell? ⟨blk, 4, none⟩ = some (a4) ∧ W.cell? ⟨blk, 5, none⟩ = some (b0) ∧ W.cell? ⟨blk, 6, none⟩ = some (b1) ∧ W.cell? ⟨blk, 7, none⟩ = some (b2) ∧ W.cell? ⟨blk, 8, none⟩ = some (b3) ∧ W.cell? ⟨blk, 9, none⟩ = some (b4) := ⟨cells_of HX.out rfl, cells_of HX.out rfl, CA.out 0 (by omega), CA.out 1 (by omega), CA.out 2 (by omega), CA.out 3 (by omega), CA.out 4 (by omega), CB.out 0 (by omega), CB.out 1 (by omega), CB.out 2 (by omega), CB.out 3 (by omega), CB.out 4 (by omega)⟩
      rw [← hWD]
      exact SW
    refine Hd.start 16 (fun w' => w'.cell? ⟨w.heap.size, 2, none⟩ = some (.int .u8 o) ∧ w'.cell? ⟨w.heap.size, 4, none⟩ = some (.slice (some ⟨blk, 0, none⟩) 2 2) ∧ w'.cell? ⟨blk, 0, none⟩ = some (a0) ∧ w'.cell? ⟨blk, 1, none⟩ = some (a1) ∧ w'.cell? ⟨blk, 2, none⟩ = some (a2) ∧ w'.cell? ⟨blk, 3, none⟩ = some (a3) ∧ w'.cell? ⟨blk, 4, none⟩ = some (a4) ∧ w'.cell? ⟨blk, 5, none⟩ = some (b0) ∧ w'.cell? ⟨blk, 6, none⟩ = some (b1) ∧ w'.cell? ⟨blk, 7, none⟩ = some (b2) ∧ w'.cell? ⟨blk, 8, none⟩ = some (b3) ∧ w'.cell? ⟨blk, 9, none⟩ = some (b4)) (by kernel_rfl) ?_
    try rw [hWD]
    clear hWD x0 x4 CA CB
    refine Hd.take (i := 0) (v := ?v0) rfl (by decide +kernel) (by decide +kernel) (fun _ _ _ h => h) rfl ?hy0 SA ?rest0
    case hy0 =>
      intro wq hSw
      obtain ⟨s1, s2, s3, s4, s5, s6, s7, s8, s9, s10, s11, s12⟩ := hSw
      go_simp
      try with_reducible rfl
    try simp only [Act.put, zA, zB, zC]
    refine Hd.take (i := 1) (v := ?v1) rfl (by decide +kernel) (by decide +kernel) (fun _ _ _ h => h) rfl ?hy1 SA ?rest1
    case hy1 =>
      intro wq hSw
      obtain ⟨s1, s2, s3, s4, s5, s6, s7, s8, s9, s10, s11, s12⟩ := hSw
      go_simp
      try with_reducible rfl
    try simp only [Act.put, zA, zB, zC]
    refine Hd.take (i := 2) (v := ?v2) rfl (by decide +kernel) (by decide +kernel) (fun _ _ _ h => h) rfl ?hy2 SA ?rest2
    case hy2 =>
      intro wq hSw
      obtain ⟨s1, s2, s3, s4, s5, s6, s7, s8, s9, s10, s11, s12⟩ := hSw
      go_simp
      try with_reducible rfl
    try simp only [Act.put, zA, zB, zC]
    refine Hd.take (i := 3) (v := ?v3) rfl (by decide +kernel) (by decide +kernel) (fun _ _ _ h => h) rfl ?hy3 SA ?rest3
    case hy3 =>
      intro wq hSw
      obtain ⟨s1, s2, s3, s4, s5, s6, s7, s8, s9, s10, s11, s12⟩ := hSw
      go_simp
      try with_reducible rfl
    try simp only [Act.put, zA, zB, zC]
    refine Hd.take (i := 4) (v := ?v4) rfl (by decide +kernel) (by decide +kernel) (fun _ _ _ h => h) rfl ?hy4 SA ?rest4
    case hy4 =>
      intro wq hSw
      obtain ⟨s1, s2, s3, s4, s5, s6, s7, s8, s9, s10, s11, s12⟩ := hSw
      go_simp
      try with_reducible rfl
    try simp only [Act.put, zA, zB, zC]
    refine Hd.take (i := 5) (v := ?v5) rfl (by decide +kernel) (by decide +kernel) (fun _ _ _ h => h) rfl ?hy5 SA ?rest5
    case hy5 =>
      intro wq hSw
      obtain ⟨s1, s2, s3, s4, s5, s6, s7, s8, s9, s10, s11, s12⟩ := hSw
      go_simp
      try with_reducible rfl
    try simp only [Act.put, zA, zB, zC]
    refine Hd.take (i := 6) (v := ?v6) rfl (by decide +kernel) (by decide +kernel) (fun _ _ _ h => h) rfl ?hy6 SA ?rest6
    case hy6 =>
      intro wq hSw
      obtain ⟨s1, s2, s3, s4, s5, s6, s7, s8, s9, s10, s11, s12⟩ := hSw
      go_simp
      try with_reducible rfl
    try simp only [Act.put, zA, zB, zC]
    refine Hd.take (i := 7) (v := ?v7) rfl (by decide +kernel) (by decide +kernel) (fun _ _ _ h => h) rfl ?hy7 SA ?rest7
    case hy7 =>
      intro wq hSw
      obtain ⟨s1, s2, s3, s4, s5, s6, s7, s8, s9, s10, s11, s12⟩ := hSw
      go_simp
      try with_reducible rfl
    try simp only [Act.put, zA, zB, zC]
    refine Hd.take (i := 9) (v := ?v9) rfl (by decide +kernel) (by decide +kernel) (fun _ _ _ h => h) rfl ?hy9 SA ?rest9
    case hy9 =>
      intro wq hSw
      obtain ⟨s1, s2, s3, s4, s5, s6, s7, s8, s9, s10, s11, s12⟩ := hSw
      go_simp
      try with_reducible rfl
    try simp only [Act.put, zA, zB, zC]
    refine Hd.take (i := 10) (v := ?v10) rfl (by decide +kernel) (by decide +kernel) (fun _ _ _ h => h) rfl ?hy10 SA ?rest10
    case hy10 =>
      intro wq hSw
      obtain ⟨s1, s2, s3, s4, s5, s6, s7, s8, s9, s10, s11, s12⟩ := hSw
      go_simp
      try with_reducible rfl
    try simp only [Act.put, zA, zB, zC]
    refine Hd.take (i := 11) (v := ?v11) rfl (by decide +kernel) (by decide +kernel) (fun _ _ _ h => h) rfl ?hy11 SA ?rest11
    case hy11 =>
      intro wq hSw
      obtain ⟨s1, s2, s3, s4, s5, s6, s7, s8, s9, s10, s11, s12⟩ := hSw
      go_simp
      try with_reducible rfl
    try simp only [Act.put, zA, zB, zC]
    refine Hd.take (i := 12) (v := ?v12) rfl (by decide +kernel) (by decide +kernel) (fun _ _ _ h => h) rfl ?hy12 SA ?rest12
    case hy12 =>
      intro wq hSw
      obtain ⟨s1, s2, s3, s4, s5, s6, s7, s8, s9, s10, s11, s12⟩ := hSw
      go_simp
      try with_reducible rfl
    try simp only [Act.put, zA, zB, zC]
    refine Hd.take (i := 13) (v := ?v13) rfl (by decide +kernel) (by decide +kernel) (fun _ _ _ h => h) rfl ?hy13 SA ?rest13
    case hy13 =>
      intro wq hSw
      obtain ⟨s1, s2, s3, s4, s5, s6, s7, s8, s9, s10, s11, s12⟩ := hSw
      go_simp
      try with_reducible rfl
    try simp only [Act.put, zA, zB, zC]
    refine Hd.take (i := 14) (v := ?v14) rfl (by decide +kernel) (by decide +kernel) (fun _ _ _ h => h) rfl ?hy14 SA ?rest14
    case hy14 =>
      intro wq hSw
      obtain ⟨s1, s2, s3, s4, s5, s6, s7, s8, s9, s10, s11, s12⟩ := hSw
      go_simp
      try with_reducible rfl
    try simp only [Act.put, zA, zB, zC]
    refine Hd.one (i := 8) rfl (by kernel_rfl) rfl (fun K hK => ?_)
    go_simp
    refine (IA.out _ (exV_keep HD.out XA.out) (isN_keep NN.out HD.out) (VV.out.keep HD.out)).mono ?_
    rintro e w2 ⟨rfl, hb2⟩
    have SB : w2.cell? ⟨w.heap.size, 2, none⟩ = some (.int .u8 o) ∧ w2.cell? ⟨w.heap.size, 4, none⟩ = some (.slice (some ⟨blk, 0, none⟩) 2 2) ∧ w2.cell? ⟨blk, 0, none⟩ = some (a0) ∧ w2.cell? ⟨blk, 1, none⟩ = some (a1) ∧ w2.cell? ⟨blk, 2, none⟩ = some (a2) ∧ w2.cell? ⟨blk, 3, none⟩ = some (a3) ∧ w2.cell? ⟨blk, 4, none⟩ = some (a4) ∧ w2.cell? ⟨blk, 5, none⟩ = some (b0) ∧ w2.cell? ⟨blk, 6, none⟩ = some (b1) ∧ w2.cell? ⟨blk, 7, none⟩ = some (b2) ∧ w2.cell? ⟨blk, 8, none⟩ = some (b3) ∧ w2.cell? ⟨blk, 9, none⟩ = some (b4) := ⟨(hb2.cell (p := ⟨w.heap.size, 2, none⟩) hwl).trans SA.1, (hb2.cell (p := ⟨w.heap.size, 4, none⟩) hwl).trans SA.2.1, (hb2.cell (p := ⟨blk, 0, none⟩) hbl).trans SA.2.2.1, (hb2.cell (p := ⟨blk, 1, none⟩) hbl).trans SA.2.2.2.1, (hb2.cell (p := ⟨blk, 2, none⟩) hbl).trans SA.2.2.2.2.1, (hb2.cell (p := ⟨blk, 3, none⟩) hbl).trans SA.2.2.2.2.2.1, (hb2.cell (p := ⟨blk, 4, none⟩) hbl).trans SA.2.2.2.2.2.2.1, (hb2.cell (p := ⟨blk, 5, none⟩) hbl).trans SA.2.2.2.2.2.2.2.1, (hb2.cell (p := ⟨blk, 6, none⟩) hbl).trans SA.2.2.2.2.2.2.2.2.1, (hb2.cell (p := ⟨blk, 7, none⟩) hbl).trans SA.2.2.2.2.2.2.2.2.2.1, (hb2.cell (p := ⟨blk, 8, none⟩) hbl).trans SA.2.2.2.2.2.2.2.2.2.2.1, (hb2.cell (p := ⟨blk, 9, none⟩) hbl).trans SA.2.2.2.2.2.2.2.2.2.2.2⟩
    have B2 := Lib.hid (HD.out.trans (hb2.mono HD.out.size))
    refine hK _ _ (fun _ => SB) ?_
    have hwl2 := Nat.lt_of_lt_of_le hwl hb2.size
    have hbl2 := Nat.lt_of_lt_of_le hbl hb2.size
    clear hK K hb2 SA
    try simp only [Act.put, zA, zB, zC]
    refine Hd.one (i := 15) rfl (by kernel_rfl) rfl (fun K hK => ?_)
    go_simp
    refine (IB.out _ (exV_keep B2.out XB.out) (isN_keep NN.out B2.out) (VV.out.keep B2.out)).mono ?_
    rintro e w3 ⟨rfl, hb3⟩
    have SC : w3.cell? ⟨w.heap.size, 2, none⟩ = some (.int .u8 o) ∧ w3.cell? ⟨w.heap.size, 4, none⟩ = some (.slice (some ⟨blk, 0, none⟩) 2 2) ∧ w3.cell? ⟨blk, 0, none⟩ = some (a0) ∧ w3.cell? ⟨blk, 1, none⟩ = some (a1) ∧ w3.cell? ⟨blk, 2, none⟩ = some (a2) ∧ w3.cell? ⟨blk, 3, none⟩ = some (a3) ∧ w3.cell? ⟨blk, 4, none⟩ = some (a4) ∧ w3.cell? ⟨blk, 5, none⟩ = some (b0) ∧ w3.cell? ⟨blk, 6, none⟩ = some (b1) ∧ w3.cell? ⟨blk, 7, none⟩ = some (b2) ∧ w3.cell? ⟨blk, 8, none⟩ = some (b3) ∧ w3.cell? ⟨blk, 9, none⟩ = some (b4) := ⟨(hb3.cell (p := ⟨w.heap.size, 2, none⟩) hwl2).trans SB.1, (hb3.cell (p := ⟨w.heap.size, 4, none⟩) hwl2).trans SB.2.1, (hb3.cell (p := ⟨blk, 0, none⟩) hbl2).trans SB.2.2.1, (hb3.cell (p := ⟨blk, 1, none⟩) hbl2).trans SB.2.2.2.1, (hb3.cell (p := ⟨blk, 2, none⟩) hbl2).trans SB.2.2.2.2.1, (hb3.cell (p := ⟨blk, 3, none⟩) hbl2).trans SB.2.2.2.2.2.1, (hb3.cell (p := ⟨blk, 4, none⟩) hbl2).trans SB.2.2.2.2.2.2.1, (hb3.cell (p := ⟨blk, 5, none⟩) hbl2).trans SB.2.2.2.2.2.2.2.1, (hb3.cell (p := ⟨blk, 6, none⟩) hbl2).trans SB.2.2.2.2.2.2.2.2.1, (hb3.cell (p := ⟨blk, 7, none⟩) hbl2).trans SB.2.2.2.2.2.2.2.2.2.1, (hb3.cell (p := ⟨blk, 8, none⟩) hbl2).trans SB.2.2.2.2.2.2.2.2.2.2.1, (hb3.cell (p := ⟨blk, 9, none⟩) hbl2).trans SB.2.2.2.2.2.2.2.2.2.2.2⟩
    have B3 := Lib.hid (B2.out.trans (hb3.mono B2.out.size))
    refine hK _ _ (fun _ => SC) ?_
    clear hK K hb3 SB SC
    try simp only [Act.put, zA, zB, zC]
    refine Hd.one (i := 16) rfl (by kernel_rfl) rfl (fun K hK => ?_)
    go_simp
    refine (Sa.op_any o _ _ _).mono ?_
    rintro e w4 ⟨rfl, rfl⟩
    refine hK _ _ (fun h => absurd h (by omega)) ?_
    clear hK K
    try simp only [Act.put, zA, zB, zC]
    refine Hd.one (i := 17) rfl (by kernel_rfl) rfl (fun K hK => ?_)
    go_simp
    refine hK _ _ (fun h => absurd h (by omega)) ?_
    clear hK K
    try simp only [Act.put, zA, zB, zC]
    refine Hd.done (by kernel_rfl) ?_ _
    go_wp2_with fail
    go_ret
    exact ⟨rfl, HB.out.trans (B3.out.mono HB.out.size)⟩
end Go.Proofs.Ytapnnbbbgopobaa.Rn
