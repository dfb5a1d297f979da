/-
  WALKS: the reference's Check.
-/
import Derived.Test.YtapnnbbbgopobaaFrF
import Derived.Test.YtapnnbbbgopobaaRdK
import Derived.Test.YtapnnbbbgopobaaG13
import Derived.BigQuiet
import Derived.Deep.QuietTactic
set_option linter.unusedVariables false
set_option linter.unusedSimpArgs false
namespace Go.Proofs.Ytapnnbbbgopobaa.Fr
open Go.RowKit Cm Mm Ow Me Ml Lg Rr
def sumS (cs : List Lay.Cl) (k : Nat) : Int := ((cs.take k).map (·.2)).sum
theorem sumS_succ (cs : List Lay.Cl) (k : Nat) (h : k < cs.length) : sumS cs (k + 1) = sumS cs k + (cs.getD k Lay.zero).2 := by
  unfold sumS
  rw [show cs.take (k + 1) = cs.take k ++ [cs.getD k Lay.zero] by rw [List.take_add_one]; simp [List.getD, h]]
  rw [List.map_append, List.sum_append, List.map_cons, List.map_nil]
  simp
def OkC (cs : List Lay.Cl) (i : Nat) : Prop := ¬ Lay.find cs (cs.getD i Lay.zero).1.toList < (i : Int) ∧ powerB (cs.getD i Lay.zero).2 = true ∧ ¬ 64 < sumS cs (i + 1)
structure Good (cs : List Lay.Cl) (ts : List (ByteArray × Bd)) (rb : Bd) : Prop where
  c16 : cs.length ≤ 16
  t1 : ts.length ≠ 0
  t4 : ts.length ≤ 4
  cells : ∀ i, i < cs.length → OkC cs i
  names : ∀ i, i < ts.length → ∀ k, k < i → sameS (ts.getD k zeroTh).1 (ts.getD i zeroTh).1 = false
  walks : ∀ i, i < ts.length → walkOk cs [] (ts.getD i zeroTh).2
  wrec : walkOk cs [] rb
theorem power_bd {n : Int} (h : powerB n = true) : 1 ≤ n ∧ n ≤ 64 := by
  unfold powerB at h
  simp only [Bool.and_eq_true, decide_eq_true_eq] at h
  exact h.1
def CheckA (w : World) (cs : List Lay.Cl) (ts : List (ByteArray × Bd)) (rb : Bd) (en : Ending) (w' : World) : Prop := ∃ at_ e : Int, en = .returned (.tuple #[.int .i64 at_, .int .i64 e]) ∧ Below w.heap.size w w' ∧ (e = 0 ↔ Good cs ts rb)
section
variable {w w' : World} {cA : Option Addr} {cn cc : Nat} {tA : Option Addr} {tn tc : Nat} {rA : Option Addr} {rn rc : Nat} {cs : List Lay.Cl} {ts : List (ByteArray × Bd)} {rb : Bd}
structure Cy (w0 w : World) (g : Nat) (cA : Option Addr) (cn cc : Nat) (tA : Option Addr) (tn tc : Nat) (rA : Option Addr) (rn rc : Nat) (cs : List Lay.Cl) (ts : List (ByteArray × Bd)) (rb : Bd) : Prop where
  pv : Pv w g (.slice cA cn cc) (.slice tA tn tc) (.slice rA rn rc)
  pg : IsPg w cA cn cc tA tn tc rA rn rc cs ts rb
  bl : Below w0.heap.size w0 w
variable {w0 : World} {g : Nat}
theorem Cy.keep (h : Cy w0 w g cA cn cc tA tn tc rA rn rc cs ts rb) (hb : Below w.heap.size w w') : Cy w0 w' g cA cn cc tA tn tc rA rn rc cs ts rb := ⟨h.pv.keep hb, h.pg.keep hb, h.bl.trans (hb.mono h.bl.size)⟩
theorem Cy.ck (h : Cy w0 w g cA cn cc tA tn tc rA rn rc cs ts rb) : Ck (w.alloc (.cells #[.slice cA cn cc, .slice none 0 0, .int .i64 0, .int .i64 0] 106)) w.heap.size cA cn cc cs none 0 0 [] 0 0 :=
  ⟨heap_alloc_new _ _, h.pg.cl.keep (below_new _ _), fun h0 b o m hA => by
    obtain ⟨b', o', e, hb, -⟩ := h.pg.cl.2.1.at_ h0
    rw [e] at hA
    injection hA with hA
    injection hA with hA
    omega, Nm.nil _ _⟩
end
set_option maxRecDepth 20000 in
set_option maxHeartbeats 12800000 in
theorem check_any {w : World} {cA : Option Addr} {cn cc : Nat} {tA : Option Addr} {tn tc : Nat} {rA : Option Addr} {rn rc : Nat} {cs : List Lay.Cl} {ts : List (ByteArray × Bd)} {rb : Bd} (h : IsPg w cA cn cc tA tn tc rA rn rc cs ts rb) :
    Calls Try.prog 29 #[.agg #[.slice cA cn cc, .slice tA tn tc, .slice rA rn rc]] w (CheckA w cs ts rb) := by
  have hb0 := below_new w (.cells #[.slice cA cn cc, .slice tA tn tc, .slice rA rn rc] 29)
  have Y0 : Hid (Cy w (w.alloc (.cells #[.slice cA cn cc, .slice tA tn tc, .slice rA rn rc] 29)) w.heap.size cA cn cc tA tn tc rA rn rc cs ts rb) := Lib.hid ⟨⟨heap_alloc_new _ _⟩, h.keep hb0, hb0⟩
  have hcl := h.cl.1
  have htl := h.th.len
  have hc2 := h.cn2
  have ht2 := h.th.n2
  clear h hb0
  go_enter Try.func29, Try.ntmps29
  go_upto_region 1 with fail
  obtain ⟨W0, hW⟩ : ∃ W, w.alloc (.cells #[.slice cA cn cc, .slice tA tn tc, .slice rA rn rc] 29) = W := ⟨_, rfl⟩
  rw [hW] at Y0
  try rw [hW]
  clear hW
  have z0 := Y0.out.pv.c0
  have z1 := Y0.out.pv.c1
  have z2 := Y0.out.pv.c2
  by_cases h16 : 16 < cn
  · have d0 : decide (16 < (cn : Int)) = true := decide_eq_true (by omega)
    go_wp2_with fail
    go_ret2
    exact ⟨0, 3, rfl, Y0.out.bl, ⟨fun h => absurd h (by decide), fun h => by have := h.c16; omega⟩⟩
  have d0 : decide (16 < (cn : Int)) = false := decide_eq_false (by omega)
  by_cases ht0 : tn = 0
  · subst ht0
    go_wp2_with fail
    go_ret2
    exact ⟨0, 3, rfl, Y0.out.bl, ⟨fun h => absurd h (by decide), fun h => absurd htl h.t1⟩⟩
  have t0 : ((tn : Int) == 0) = false := by simpa using ht0
  by_cases ht4 : 4 < tn
  · have d1 : decide (4 < (tn : Int)) = true := decide_eq_true (by omega)
    go_wp2_with fail
    go_ret2
    exact ⟨0, 3, rfl, Y0.out.bl, ⟨fun h => absurd h (by decide), fun h => by have := h.t4; omega⟩⟩
  have d1 : decide (4 < (tn : Int)) = false := decide_eq_false (by omega)
  go_wp2_with fail
  go_loopw [4, 5] (fun wd i wr => ∃ (k : Nat), k ≤ cn ∧ wd = .int .i64 (sumS cs k) ∧ i = .int .i64 k ∧ Cy w wr w.heap.size cA cn cc tA tn tc rA rn rc cs ts rb ∧ (∀ j, j < k → OkC cs j) ∧ 0 ≤ sumS cs k ∧ sumS cs k ≤ 64) (fun _ i _ => cn - (intOf i).toNat)
  case atStart => exact ⟨0, Nat.zero_le _, rfl, rfl, Y0.out, fun j hj => absurd hj (by omega), by simp [sumS], by simp [sumS]⟩
  case round =>
    obtain ⟨k, hk, rfl, rfl, hY, hok, hs0, hs1⟩ := hrel
    have Y := Lib.hid hY
    have OK := Lib.hid hok
    have y0 := hY.pv.c0
    have y1 := hY.pv.c1
    clear hY hok Y0 z0 z1 z2
    by_cases hkn : k < cn
    · have d2 : decide ((k : Int) < (cn : Int)) = true := decide_eq_true (by omega)
      have hki : (k : Int) < (cn : Int) := by omega
      obtain ⟨b, o, rfl, hb, g0, g1, g2⟩ := Y.out.pg.cl.cell hkn
      have HS : Hid (sumS cs (k + 1) = sumS cs k + (cs.getD k Lay.zero).2) := Lib.hid (sumS_succ cs k (by omega))
      have HO : Hid (OkC cs k ↔ ¬ Lay.find cs (cs.getD k Lay.zero).1.toList < (k : Int) ∧ powerB (cs.getD k Lay.zero).2 = true ∧ ¬ 64 < sumS cs (k + 1)) := Lib.hid Iff.rfl
      have FF : Hid (∀ n : Nat, Calls Try.prog 50 #[.slice (some ⟨b, o, none⟩) cn cc, .string (cs.getD k Lay.zero).1] (wr.drewN n) fun e w' => e = .returned (.int .i64 (Lay.find cs (cs.getD k Lay.zero).1.toList)) ∧ wr.drewN n = w') := Lib.hid (fun n => Lay.rfind_any (some ⟨b, o, none⟩) cn cc _ cs _ (Y.out.pg.cl.keep (below_drawn wr n)) (by omega))
      clear g2
      generalize cs.getD k Lay.zero = cl at *
      obtain ⟨nm, sz⟩ := cl
      dsimp only at *
      have NG : Hid (¬ OkC cs k → ¬ Good cs ts rb) := Lib.hid (fun hn hh => hn (hh.cells k (by omega)))
      go_upto_region 7 with fail
      have PW := Lib.hid (power_any sz)
      by_cases hf : Lay.find cs nm.toList < (k : Int)
      · have d3 : decide (Lay.find cs nm.toList < (k : Int)) = true := decide_eq_true hf
        go_quiet ((go_at_call 50; exact quiet_left (FF.out _)))
        go_wp2_with fail
        go_ret2
        exact ⟨0, 5, rfl, (Y.out.keep (below_drawn wr nq)).bl, ⟨fun h => absurd h (by decide), fun h => absurd h (NG.out (fun hc => by have := (HO.out.1 hc).1; omega))⟩⟩
      have d3 : decide (Lay.find cs nm.toList < (k : Int)) = false := decide_eq_false hf
      go_quiet ((go_at_call 50; exact quiet_left (FF.out _)))
      have YD := Lib.hid (Y.out.keep (below_drawn wr nq))
      have y0' : (wr.drewN nq).cell? ⟨w.heap.size, 0, none⟩ = some (.slice (some ⟨b, o, none⟩) cn cc) := y0
      have g1' : (wr.drewN nq).cell? ⟨b, o + k * 2 + 1, none⟩ = some (.int .i64 sz) := g1
      clear FF y0 y1 g0 g1 Y
      generalize wr.drewN nq = w5 at *
      cases hp : powerB sz
      · rw [hp] at PW HO
        go_wp2_with fail
        refine (PW.out _).mono ?_
        rintro en w6 ⟨rfl, rfl⟩
        go_wp2_with fail
        go_ret2
        exact ⟨0, 7, rfl, YD.out.bl, ⟨fun h => absurd h (by decide), fun h => absurd h (NG.out (fun hc => by have := (HO.out.1 hc).2.1; cases this))⟩⟩
      · rw [hp] at PW HO
        have hbd := power_bd hp
        clear hp
        go_wp2_with fail
        refine (PW.out _).mono ?_
        rintro en w6 ⟨rfl, rfl⟩
        have i1 : IntKind.i64.wrap (sumS cs k + sz) = sumS cs k + sz := IntWalk.i64_in _ ⟨by omega, by omega⟩
        have hs2 := HS.out
        by_cases h64 : 64 < sumS cs k + sz
        · have d4 : decide (64 < sumS cs k + sz) = true := decide_eq_true h64
          clear hs2
          go_wp2_with fail
          go_ret2
          exact ⟨0, 3, rfl, YD.out.bl, ⟨fun h => absurd h (by decide), fun h => absurd h (NG.out (fun hc => by have h1 := (HO.out.1 hc).2.2; rw [HS.out] at h1; omega))⟩⟩
        · have d4 : decide (64 < sumS cs k + sz) = false := decide_eq_false h64
          clear hs2
          go_wp2_with fail
          go_roundw
          case rel => exact ⟨k + 1, by omega, by rw [HS.out], by go_num, YD.out, fun j hj => (by
            by_cases e : j = k
            · subst e; exact HO.out.2 ⟨by omega, by simp, by rw [HS.out]; omega⟩
            · exact OK.out j (by omega)), by rw [HS.out]; omega, by rw [HS.out]; omega⟩
          case measure => simp [intOf]; omega
    · obtain rfl : k = cn := by omega
      have d2 : decide ((k : Int) < (k : Int)) = false := decide_eq_false (by omega)
      go_wp2_with fail
      have Y1 := Y
      clear Y
      go_loopw [6] (fun i wr => ∃ (k2 : Nat), k2 ≤ tn ∧ i = .int .i64 k2 ∧ Cy w wr w.heap.size cA k cc tA tn tc rA rn rc cs ts rb ∧ (∀ i, i < k2 → ∀ j, j < i → sameS (ts.getD j zeroTh).1 (ts.getD i zeroTh).1 = false)) (fun i _ => tn - (intOf i).toNat)
      case atStart => exact ⟨0, Nat.zero_le _, rfl, Y1.out, fun i hi => absurd hi (by omega)⟩
      case round =>
        obtain ⟨k2, hk2, rfl, hY, hnm⟩ := hrel
        have Y := Lib.hid hY
        have NM := Lib.hid hnm
        have y1 := hY.pv.c1
        clear hY hnm Y1 y0
        by_cases hk2n : k2 < tn
        · have d3 : decide ((k2 : Int) < (tn : Int)) = true := decide_eq_true (by omega)
          have hki2 : (k2 : Int) < (tn : Int) := by omega
          go_wp2_with fail
          go_loopw [7] (fun i wr => ∃ (k3 : Nat), k3 ≤ k2 ∧ i = .int .i64 k3 ∧ Cy w wr w.heap.size cA k cc tA tn tc rA rn rc cs ts rb ∧ (∀ j, j < k3 → sameS (ts.getD j zeroTh).1 (ts.getD k2 zeroTh).1 = false)) (fun i _ => k2 - (intOf i).toNat)
          case atStart => exact ⟨0, Nat.zero_le _, rfl, Y.out, fun j hj => absurd hj (by omega)⟩
          case round =>
            obtain ⟨k3, hk3, rfl, hY, hnm3⟩ := hrel
            have Y := Lib.hid hY
            have NM3 := Lib.hid hnm3
            have y1 := hY.pv.c1
            clear hY hnm3
            by_cases hk3n : k3 < k2
            · have d4 : decide ((k3 : Int) < (k2 : Int)) = true := decide_eq_true (by omega)
              have hki3 : (k3 : Int) < (tn : Int) := by omega
              obtain ⟨b, o, BA, bn, bc, rfl, hb, g0, -, -, -, -⟩ := Y.out.pg.th.cell k2 hk2n
              obtain ⟨b', o', BA', bn', bc', hA, hb', g0', -, -, -, -⟩ := Y.out.pg.th.cell k3 (by omega)
              obtain ⟨rfl, rfl⟩ : b = b' ∧ o = o' := by simpa using hA
              clear hA hb'
              have HSS : Hid (sameS (ts.getD k3 zeroTh).1 (ts.getD k2 zeroTh).1 = ((ts.getD k3 zeroTh).1.toList == (ts.getD k2 zeroTh).1.toList)) := Lib.hid rfl
              have NG : Hid (sameS (ts.getD k3 zeroTh).1 (ts.getD k2 zeroTh).1 = true → ¬ Good cs ts rb) := Lib.hid (fun hn hh => by have := hh.names k2 (by omega) k3 hk3n; rw [this] at hn; cases hn)
              generalize hn1 : (ts.getD k3 zeroTh).1 = n1 at *
              generalize hn2 : (ts.getD k2 zeroTh).1 = n2 at *
              have HN := Lib.hid (And.intro hn1 hn2)
              clear hn1 hn2
              cases hs : (n1.toList == n2.toList)
              · go_upto_region 20 with fail
                go_quiet (fail)
                have YD := Lib.hid (Y.out.keep (below_drawn wr nq))
                generalize wr.drewN nq = w5 at *
                go_wp2_with fail
                go_roundw
                case rel => exact ⟨k3 + 1, by omega, by go_num, YD.out, fun j hj => (by
                  by_cases e : j = k3
                  · subst e; rw [HN.out.1, HSS.out]; exact hs
                  · exact NM3.out j (by omega))⟩
                case measure => simp [intOf]; omega
              · go_upto_region 20 with fail
                go_quiet (fail)
                have YD := Lib.hid (Y.out.keep (below_drawn wr nq))
                generalize wr.drewN nq = w5 at *
                go_wp2_with fail
                go_ret2
                exact ⟨0, 5, rfl, YD.out.bl, ⟨fun h => absurd h (by decide), fun h => absurd h (NG.out (by rw [HSS.out]; exact hs))⟩⟩
            · obtain rfl : k3 = k2 := by omega
              have d4 : decide ((k3 : Int) < (k3 : Int)) = false := decide_eq_false (by omega)
              go_wp2_with fail
              go_roundw
              case rel => exact ⟨k3 + 1, by omega, by go_num, Y.out, fun i hi j hj => (by
                by_cases e : i = k3
                · subst e; exact NM3.out j hj
                · exact NM.out i (by omega) j hj)⟩
              case measure => simp [intOf]; omega
        · obtain rfl : k2 = tn := by omega
          have d3 : decide ((k2 : Int) < (k2 : Int)) = false := decide_eq_false (by omega)
          go_wp2_with fail
          go_loopw [8] (fun i wr => ∃ (k4 : Nat), k4 ≤ k2 + 1 ∧ i = .int .i64 k4 ∧ Cy w wr w.heap.size cA k cc tA k2 tc rA rn rc cs ts rb ∧ (∀ i, i < k4 → i < k2 → walkOk cs [] (ts.getD i zeroTh).2) ∧ (k2 < k4 → walkOk cs [] rb)) (fun i _ => k2 + 1 - (intOf i).toNat)
          case atStart => exact ⟨0, Nat.zero_le _, rfl, Y.out, fun i hi => absurd hi (by omega), fun h => absurd h (by omega)⟩
          case round =>
            obtain ⟨k4, hk4, rfl, hY, hwk, hwr⟩ := hrel
            have Y2 := Y
            clear Y2 Y
            have Y := Lib.hid hY
            have WK := Lib.hid hwk
            have WR := Lib.hid hwr
            have y0 := hY.pv.c0
            have y1 := hY.pv.c1
            have y2 := hY.pv.c2
            have hgl := hY.pv.lt
            clear hY hwk hwr
            by_cases hk4n : k4 ≤ k2
            · have d4 : decide ((k4 : Int) ≤ (k2 : Int)) = true := decide_eq_true (by omega)
              have CK := Lib.hid Y.out.ck
              have hbn := Lib.hid (below_new wr (.cells #[.slice cA k cc, .slice none 0 0, .int .i64 0, .int .i64 0] 106))
              have x0 := hbn.out.cell (p := ⟨w.heap.size, 0, none⟩) hgl
              by_cases hlt : k4 < k2
              · have d5 : decide ((k4 : Int) < (k2 : Int)) = true := decide_eq_true (by omega)
                have hki4 : (k4 : Int) < (k2 : Int) := by omega
                obtain ⟨b, o, BA, bn, bc, rfl, hb, -, g1, hB, hz, -⟩ := Y.out.pg.th.cell k4 hlt
                have HB := Lib.hid hB
                have y1' := (hbn.out.cell (p := ⟨w.heap.size, 1, none⟩) hgl).trans y1
                have g1' := (hbn.out.cell (p := ⟨b, o + k4 * 2 + 1, none⟩) hb).trans g1
                clear hB x0
                go_upto_region 26 with fail
                obtain ⟨W6, hW⟩ : ∃ W, wr.alloc (.cells #[.slice cA k cc, .slice none 0 0, .int .i64 0, .int .i64 0] 106) = W := ⟨_, rfl⟩
                rw [hW] at CK hbn y1' g1'
                try rw [hW]
                clear hW y0 y1 y2 g1
                go_wp2_with fail
                refine ((walk_any (bsz (ts.getD k4 zeroTh).2)).go (Nat.le_refl _) (isP_only (Only.of_below (F := []) hbn.out) (fun g hg => by cases hg) (isP_lo HB.out)) CK.out (by omega) (by simp) hz).mono ?_
                rintro en w3 ⟨rfl, A3, n3, c3, l3, e3, at3, hc3, hw3, hi3, -⟩
                have Y3 := Lib.hid (Y.out.keep (hbn.out.trans (hw3.only.below (fun x hx => by simp at hx; omega) (by have := hbn.out.size; exact this))))
                have K3 := Lib.hid hc3
                have I3 := Lib.hid hi3
                have y2 := hc3.c2
                have y3 := hc3.c3
                clear hc3 hw3 hi3 CK Y
                by_cases he3 : e3 = 0
                · subst he3
                  have OK3 : Hid (walkOk cs [] (ts.getD k4 zeroTh).2) := Lib.hid (I3.out.1 rfl)
                  clear I3
                  go_wp2_with fail
                  go_roundw
                  case rel => exact ⟨k4 + 1, by omega, by go_num, Y3.out, fun i hi hi2 => (by
                                      by_cases e : i = k4
                                      · subst e; exact OK3.out
                                      · exact WK.out i (by omega) hi2), fun h => absurd h (by omega)⟩
                  case measure => simp [intOf]; omega
                · have t9 : (e3 != 0) = true := by simpa using he3
                  have NOK : Hid (¬ Good cs ts rb) := Lib.hid (fun hh => he3 (I3.out.2 (hh.walks k4 (by omega))))
                  go_upto_region 30 with fail
                  go_quiet (fail)
                  go_wp2_with fail
                  go_ret2
                  exact ⟨at3, e3, rfl, (Y3.out.keep (below_drawn w3 nq)).bl, ⟨fun h => absurd h he3, fun h => absurd h NOK.out⟩⟩
              · obtain rfl : k4 = k2 := by omega
                have d5 : decide ((k4 : Int) < (k4 : Int)) = false := decide_eq_false (by omega)
                have y1' := (hbn.out.cell (p := ⟨w.heap.size, 1, none⟩) hgl).trans y1
                have y2' := (hbn.out.cell (p := ⟨w.heap.size, 2, none⟩) hgl).trans y2
                have hB := Y.out.pg.rec_
                have HB := Lib.hid hB
                have hz := Y.out.pg.rz
                clear hB x0
                go_upto_region 26 with fail
                obtain ⟨W6, hW⟩ : ∃ W, wr.alloc (.cells #[.slice cA k cc, .slice none 0 0, .int .i64 0, .int .i64 0] 106) = W := ⟨_, rfl⟩
                rw [hW] at CK hbn y1' y2'
                try rw [hW]
                clear hW y0 y1 y2
                go_wp2_with fail
                refine ((walk_any (bsz rb)).go (Nat.le_refl _) (isP_only (Only.of_below (F := []) hbn.out) (fun g hg => by cases hg) (isP_lo HB.out)) CK.out (by omega) (by simp) hz).mono ?_
                rintro en w3 ⟨rfl, A3, n3, c3, l3, e3, at3, hc3, hw3, hi3, -⟩
                have Y3 := Lib.hid (Y.out.keep (hbn.out.trans (hw3.only.below (fun x hx => by simp at hx; omega) (by have := hbn.out.size; exact this))))
                have K3 := Lib.hid hc3
                have I3 := Lib.hid hi3
                have y2 := hc3.c2
                have y3 := hc3.c3
                clear hc3 hw3 hi3 CK Y
                by_cases he3 : e3 = 0
                · subst he3
                  have OK3 : Hid (walkOk cs [] rb) := Lib.hid (I3.out.1 rfl)
                  clear I3
                  go_wp2_with fail
                  go_roundw
                  case rel => exact ⟨k4 + 1, by omega, by go_num, Y3.out, fun i hi hi2 => WK.out i (by omega) hi2, fun _ => OK3.out⟩
                  case measure => (simp [intOf]) <;> omega
                · have t9 : (e3 != 0) = true := by simpa using he3
                  have NOK : Hid (¬ Good cs ts rb) := Lib.hid (fun hh => he3 (I3.out.2 (hh.wrec)))
                  go_upto_region 30 with fail
                  go_quiet (fail)
                  go_wp2_with fail
                  go_ret2
                  exact ⟨at3, e3, rfl, (Y3.out.keep (below_drawn w3 nq)).bl, ⟨fun h => absurd h he3, fun h => absurd h NOK.out⟩⟩
            · have d4 : decide ((k4 : Int) ≤ (k2 : Int)) = false := decide_eq_false (by omega)
              go_wp2_with fail
              go_ret2
              exact ⟨0, 0, rfl, Y.out.bl, ⟨fun _ => ⟨by omega, by omega, by omega, fun i hi => OK.out i (by omega), fun i hi j hj => NM.out i (by omega) j hj, fun i hi => WK.out i (by omega) (by omega), WR.out (by omega)⟩, fun _ => rfl⟩⟩
end Go.Proofs.Ytapnnbbbgopobaa.Fr
namespace Go.Proofs.Ytapnnbbbgopobaa.Lr
open Go.RowKit Cm Mm Ow Me Ml Lg Stp StW Rr
theorem find_cix {cs : List Lay.Cl} {s : ByteArray} (h : cix cs s < cs.length) : Lay.find cs s.toList = (cix cs s : Int) := by
  refine Lay.find_some cs s.toList (cix cs s) h (fun i hi => ?_) ?_
  · have h1 := List.not_of_lt_findIdx hi
    have hl : i < cs.length := by omega
    have e : cs.getD i Lay.zero = cs[i] := by simp [List.getD, hl]
    rw [e]
    exact h1
  · have h1 := List.findIdx_getElem (w := h)
    have e : cs.getD (cix cs s) Lay.zero = cs[cix cs s] := by simp [List.getD, h]
    rw [e]
    exact h1
theorem find_pos {cs : List Lay.Cl} {s : ByteArray} (h : ¬ Lay.find cs s.toList < 0) : cix cs s < cs.length := by
  rcases Nat.lt_or_ge (cix cs s) cs.length with h1 | h1
  · exact h1
  · exfalso
    refine h ?_
    rw [Lay.find_none cs s.toList (fun i hi => ?_)]
    · decide
    · have hl : i < cix cs s := by omega
      have h2 := List.not_of_lt_findIdx hl
      have e : cs.getD i Lay.zero = cs[i] := by simp [List.getD, hi]
      rw [e]
      exact h2
def PlaceA (w : World) (q : Nat) (f : Fl) (v : Nat) (SA : Option Addr) (sl : List St) (lb : Nat) (h : Hd) (en : Ending) (w' : World) : Prop := en = .returned (.tuple #[.int .i64 (varP h v : Nat), .int .i64 (cix f.cs h.cell : Nat)]) ∧ LwA w q f SA (kP h v) (sl ++ codeP f.cs f.nl h v) lb w'
set_option maxRecDepth 20000 in
set_option maxHeartbeats 6400000 in
theorem place_any {w : World} {q : Nat} {f : Fl} {v : Nat} {SA : Option Addr} {n c : Nat} {sl : List St} {lb : Nat} {h : Hd} {b1 b2 : Bd} {vs : List Value} (hs : StP (Fr.Lo q) w h b1 b2 vs) (hL : Lw w q f v SA n c sl lb) (hv : v + 2 * lv h.i + 10 ≤ 10000000) (hn : n + 2 * lv h.i + 10 ≤ 10000000)
    (hcx : cix f.cs h.cell < f.cs.length) (hcs : CellsOk f.cs) :
    Calls Try.prog 88 #[.pointer (some ⟨q, 0, none⟩), .agg vs.toArray] w (PlaceA w q f v SA sl lb h) := by
  have U := Lib.hid (Lu.start hL (.cells vs.toArray 122))
  have AP := Lib.hid (lw_apart hL)
  have LN := Lib.hid hL.len
  have HCX := Lib.hid hcx
  have hfl := hL.cl.1
  have hc2 := hL.c2
  have SZ : Hid ((f.cs.getD (cix f.cs h.cell) Lay.zero).2 = csize f.cs h.cell ∧ 1 ≤ csize f.cs h.cell ∧ csize f.cs h.cell ≤ 64) := Lib.hid (by
    have e : csize f.cs h.cell = (f.cs.getD (cix f.cs h.cell) Lay.zero).2 := by
      unfold csize
      simp only [List.getD, List.getElem?_eq_getElem hcx, Option.getD_some]
    have := hcs _ hcx
    have e2 : (f.cs.getD (cix f.cs h.cell) (⟨#[]⟩, 0)).2 = (f.cs.getD (cix f.cs h.cell) Lay.zero).2 := by
      simp only [List.getD, List.getElem?_eq_getElem hcx, Option.getD_some]
    rw [e2, ← e] at this
    exact ⟨e.symm, this⟩)
  have PL : Hid (Lay.place f.cs (cix f.cs h.cell : Nat) = 4096 + 8 * cbase f.cs (cix f.cs h.cell) ∧ 0 ≤ cbase f.cs (cix f.cs h.cell) ∧ cbase f.cs (cix f.cs h.cell) ≤ 64 * 65536) := Lib.hid (by
    have e : Lay.place f.cs (cix f.cs h.cell : Nat) = 4096 + 8 * cbase f.cs (cix f.cs h.cell) := by
      unfold Lay.place
      rw [if_pos ⟨Int.natCast_nonneg _, by omega⟩]
      rfl
    have := Lay.words_take_bd f.cs (cix f.cs h.cell) (by omega)
    exact ⟨e, this.1, by have := this.2; show Lay.words (f.cs.take (cix f.cs h.cell)) ≤ _; omega⟩)
  have FE : Hid (Lay.find f.cs h.cell.toList = (cix f.cs h.cell : Nat)) := Lib.hid (find_cix hcx)
  obtain ⟨cx, hcxe⟩ : ∃ cx, cix f.cs h.cell = cx := ⟨_, rfl⟩
  rw [hcxe] at SZ PL FE HCX
  have CXE := Lib.hid hcxe
  clear hcx hcxe
  have HS := Lib.hid hs
  obtain ⟨vi, vx, vy, BA, bn, bc, EA, en, ec, hvs, hi, hx, hy, hr⟩ := hs
  have XI := Lib.hid hi
  obtain ⟨i0, i1, i2, i3, i4, rfl⟩ := Fr.len5 (Fr.exP_len hi)
  have LX := Fr.exP_len hx
  have LY := Fr.exP_len hy
  have v3 : vs.toArray[3]? = some (.string h.cell) := by rw [hvs]; rfl
  have v4 : vs.toArray[4]? = some i0 := by rw [hvs]; rfl
  have v5 : vs.toArray[5]? = some i1 := by rw [hvs]; rfl
  have v6 : vs.toArray[6]? = some i2 := by rw [hvs]; rfl
  have v7 : vs.toArray[7]? = some i3 := by rw [hvs]; rfl
  have v8 : vs.toArray[8]? = some i4 := by rw [hvs]; rfl
  clear hvs hi hx hy hr HS LX LY
  obtain ⟨W, hW⟩ : ∃ W, w.alloc (.cells vs.toArray 122) = W := ⟨_, rfl⟩
  rw [hW] at U
  have z3 := cells_of U.out.sb v3
  have z4 := cells_of U.out.sb v4
  have z5 := cells_of U.out.sb v5
  have z6 := cells_of U.out.sb v6
  have z7 := cells_of U.out.sb v7
  have z8 := cells_of U.out.sb v8
  have y0 := U.out.lw.y0
  obtain ⟨cb, co, hcA, hcb, -, g1, -⟩ := U.out.lw.cl.cell (k := cx) (by have := HCX.out; omega)
  rw [SZ.out.1] at g1
  rw [hcA] at y0
  have FF : Hid (∀ n : Nat, Calls Try.prog 50 #[.slice (some ⟨cb, co, none⟩) f.cn f.cc, .string h.cell] (W.drewN n) fun e w' => e = .returned (.int .i64 (cx : Nat)) ∧ W.drewN n = w') := Lib.hid (fun n => by
    have := Lay.rfind_any f.cA f.cn f.cc h.cell f.cs _ (U.out.lw.cl.keep (below_drawn W n)) hc2
    rw [FE.out, hcA] at this
    exact this)
  have hcc : (cx : Int) < (f.cn : Int) := by have := HCX.out; omega
  have HCA := Lib.hid hcA
  have hS1 := SZ.out.2.1
  have hS2 := SZ.out.2.2
  generalize hsz : csize f.cs h.cell = sz at *
  have SZE := Lib.hid hsz
  clear hL hcA hsz hcs
  go_enter Try.func88, Try.ntmps88
  go_upto_region 1 with fail
  try rw [hW]
  clear hW
  go_quiet ((go_at_call 50; exact quiet_left (FF.out _)))
  have i1' : IntKind.i64.wrap (sz - 1) = sz - 1 := IntWalk.i64_in _ ⟨by omega, by omega⟩
  have i2' : IntKind.u64.wrap (sz - 1) = sz - 1 := by show (sz - 1) % 18446744073709551616 = sz - 1; omega
  have U1 : Hid (Lu w (W.drewN nq) q w.heap.size (.cells vs.toArray 122) f v SA SA n c sl lb) := Lib.hid ⟨U.out.lw.keep (below_drawn W nq), U.out.cw.trans (Fr.Cw.of_below (below_drawn W nq)), U.out.sb, U.out.gq, U.out.ne⟩
  clear U FF
  go_wp2_with fail
  refine (expr_any h.i (exP_only U1.out.cw.only AP.out XI.out) U1.out.lw (by omega) (by omega)).mono ?_
  rintro en w2 ⟨rfl, SA2, n2, c2, hl2, hk2⟩
  have U2 := Lib.hid (U1.out.step hl2 hk2)
  have hn2 : n2 ≤ n + 2 * lv h.i := by have := hl2.len; have := codeE_len f.nl h.i v; have := LN.out; simp at *; omega
  have hv2 := kE_bd h.i v
  clear hl2 hk2 U1 z3 z4 z5 z6 z7 z8 y0 g1
  obtain ⟨m0, hm0⟩ : ∃ m, kE h.i v = m := ⟨_, rfl⟩
  rw [hm0] at U2 hv2
  have HM0 := Lib.hid hm0
  clear hm0
  go_wp2_with fail
  refine (constant_any (sz - 1) U2.out.lw (by omega) (by omega)).mono ?_
  rintro en w3 ⟨rfl, SA3, n3, c3, hl3, hk3⟩
  have U3 := Lib.hid (U2.out.step hl3 hk3)
  have hn3 : n3 ≤ n + 2 * lv h.i + 1 := by have := hl3.len; have := U2.out.lw.len; simp at *; omega
  clear hl3 hk3 U2
  obtain ⟨m1, hm1⟩ : ∃ m, m0 + 1 = m := ⟨_, rfl⟩
  rw [hm1] at U3
  have Hm1 := Lib.hid hm1
  have hv3 : m1 ≤ v + 2 * lv h.i + 1 := by omega
  clear hm1
  go_wp2_with fail
  refine (binary_any 38 (varE f.nl h.i v) m0 U3.out.lw (by omega) (by omega)).mono ?_
  rintro en w4 ⟨rfl, SA4, n4, c4, hl4, hk4⟩
  have U4 := Lib.hid (U3.out.step hl4 hk4)
  have hn4 : n4 ≤ n + 2 * lv h.i + 2 := by have := hl4.len; have := U3.out.lw.len; simp at *; omega
  clear hl4 hk4 U3
  obtain ⟨m2, hm2⟩ : ∃ m, m1 + 1 = m := ⟨_, rfl⟩
  rw [hm2] at U4
  have Hm2 := Lib.hid hm2
  have hv4 : m2 ≤ v + 2 * lv h.i + 2 := by omega
  clear hm2
  go_wp2_with fail
  refine (constant_any 8 U4.out.lw (by omega) (by omega)).mono ?_
  rintro en w5 ⟨rfl, SA5, n5, c5, hl5, hk5⟩
  have U5 := Lib.hid (U4.out.step hl5 hk5)
  have hn5 : n5 ≤ n + 2 * lv h.i + 3 := by have := hl5.len; have := U4.out.lw.len; simp at *; omega
  clear hl5 hk5 U4
  obtain ⟨m3, hm3⟩ : ∃ m, m2 + 1 = m := ⟨_, rfl⟩
  rw [hm3] at U5
  have Hm3 := Lib.hid hm3
  have hv5 : m3 ≤ v + 2 * lv h.i + 3 := by omega
  clear hm3
  go_wp2_with fail
  refine (binary_any 42 m1 m2 U5.out.lw (by omega) (by omega)).mono ?_
  rintro en w6 ⟨rfl, SA6, n6, c6, hl6, hk6⟩
  have U6 := Lib.hid (U5.out.step hl6 hk6)
  have hn6 : n6 ≤ n + 2 * lv h.i + 4 := by have := hl6.len; have := U5.out.lw.len; simp at *; omega
  clear hl6 hk6 U5
  obtain ⟨m4, hm4⟩ : ∃ m, m3 + 1 = m := ⟨_, rfl⟩
  rw [hm4] at U6
  have Hm4 := Lib.hid hm4
  have hv6 : m4 ≤ v + 2 * lv h.i + 4 := by omega
  clear hm4
  have y0 := U6.out.lw.y0
  go_wp2_with fail
  refine (Lay.rat_any f.cA f.cn f.cc (cx : Nat) f.cs _ U6.out.lw.cl hc2).mono ?_
  rintro en w7 ⟨rfl, hb7⟩
  rw [PL.out.1]
  have hp0 := PL.out.2.1
  have hp1 := PL.out.2.2
  have U7 := Lib.hid (⟨U6.out.lw.keep hb7, U6.out.cw.trans (Fr.Cw.of_below hb7), (hb7.block _ (Array.getElem?_eq_some_iff.1 U6.out.sb).1).trans U6.out.sb, U6.out.gq, U6.out.ne⟩ : Lu w w7 q w.heap.size (.cells vs.toArray 122) f m4 SA SA6 n6 c6 _ lb)
  obtain ⟨PP, hPP⟩ : ∃ P, 4096 + 8 * cbase f.cs cx = P := ⟨_, rfl⟩
  rw [hPP]
  have HPP := Lib.hid hPP
  have i3 : IntKind.u64.wrap PP = PP := by rw [← hPP]; show (4096 + 8 * cbase f.cs cx) % 18446744073709551616 = _; omega
  clear hPP hb7 U6 y0 hp0 hp1
  go_wp2_with fail
  refine (constant_any PP U7.out.lw (by omega) (by omega)).mono ?_
  rintro en w8 ⟨rfl, SA8, n8, c8, hl8, hk8⟩
  have U8 := Lib.hid (U7.out.step hl8 hk8)
  have hn8 : n8 ≤ n + 2 * lv h.i + 6 := by have := hl8.len; have := U7.out.lw.len; simp at *; omega
  clear hl8 hk8 U7
  obtain ⟨m5, hm5⟩ : ∃ m, m4 + 1 = m := ⟨_, rfl⟩
  rw [hm5] at U8
  have Hm5 := Lib.hid hm5
  have hv8 : m5 ≤ v + 2 * lv h.i + 6 := by omega
  clear hm5
  go_wp2_with fail
  refine (binary_any 43 m3 m4 U8.out.lw (by omega) (by omega)).mono ?_
  rintro en w9 ⟨rfl, SA9, n9, c9, hl9, hk9⟩
  have U9 := Lib.hid (U8.out.step hl9 hk9)
  have hn9 : n9 ≤ n + 2 * lv h.i + 7 := by have := hl9.len; have := U8.out.lw.len; simp at *; omega
  clear hl9 hk9 U8
  obtain ⟨m6, hm6⟩ : ∃ m, m5 + 1 = m := ⟨_, rfl⟩
  rw [hm6] at U9
  have Hm6 := Lib.hid hm6
  have hv9 : m6 ≤ v + 2 * lv h.i + 7 := by omega
  clear hm6
  go_wp2_with fail
  go_ret2
  have e0 := HM0.out
  have e1 := Hm1.out
  have e2 := Hm2.out
  have e3 := Hm3.out
  have e4 := Hm4.out
  have e5 := Hm5.out
  have e6 := Hm6.out
  have e7 := HPP.out
  have e8 := CXE.out
  have e9 := SZE.out
  subst e1 e2 e3 e4 e5 e6 e7 e8 e9 e0
  refine ⟨rfl, SA9, n9, c9, ?_, U9.out.cw⟩
  have := U9.out.lw
  unfold kP codeP
  simpa only [List.append_assoc, List.cons_append, List.nil_append, Nat.add_assoc] using this
end Go.Proofs.Ytapnnbbbgopobaa.Lr
