/-
  Rows of acts: the argument of chapter 4's three laws with rows; and the walk of CellsVersions.
-/
import Derived.Test.YtgadjmojebhlgaaCellLaws
import Derived.ProofKit
namespace Go.Proofs.Ytgadjmojebhlgaa.ClA
set_option linter.unusedVariables false
set_option linter.unusedSimpArgs false
open Go.RowKit Cm Mm Ow Me Rm Cl ClL Go.ChangeShapes Go.WideShapes

structure Act4 where
  way : Int
  at_ : Int
  n : Int
  v : Int
def zero : Act4 := ⟨0, 0, 0, 0⟩
def acells (a : Act4) : List Value := [.int .i64 a.way, .int .i64 a.at_, .int .i64 a.n, .int .u64 a.v]
def okAct (a : Act4) : Prop := (-9223372036854775808 ≤ a.way ∧ a.way ≤ 9223372036854775807) ∧ (-9223372036854775808 ≤ a.at_ ∧ a.at_ ≤ 9223372036854775807) ∧ (-9223372036854775808 ≤ a.n ∧ a.n ≤ 9223372036854775807)
def IsA (w : World) (A : Option Addr) (n cap : Nat) (l : List Act4) : Prop := l.length = n ∧ Sl w A n cap 4 (fun i => acells (l.getD i zero)) ∧ ∀ i, i < n → okAct (l.getD i zero)
theorem IsA.keep {w w' : World} {A : Option Addr} {n cap : Nat} {l : List Act4} (h : IsA w A n cap l) (hb : Below w.heap.size w w') : IsA w' A n cap l := ⟨h.1, h.2.1.keep hb, h.2.2⟩
theorem IsA.cell {w : World} {A : Option Addr} {n cap : Nat} {l : List Act4} (h : IsA w A n cap l) {k : Nat} (hk : k < n) :
    ∃ b o a, A = some ⟨b, o, none⟩ ∧ l.getD k zero = a ∧ b < w.heap.size ∧ w.cell? ⟨b, o + k * 4, none⟩ = some (.int .i64 a.way) ∧ w.cell? ⟨b, o + k * 4 + 1, none⟩ = some (.int .i64 a.at_) ∧ w.cell? ⟨b, o + k * 4 + 2, none⟩ = some (.int .i64 a.n) ∧ w.cell? ⟨b, o + k * 4 + 3, none⟩ = some (.int .u64 a.v) ∧ okAct a := by
  obtain ⟨b, o, e, hb, hc⟩ := h.2.1.at_ (by omega)
  exact ⟨b, o, _, e, rfl, hb, by simpa [acells] using hc k hk 0 (by omega), by simpa [acells, Nat.add_assoc] using hc k hk 1 (by omega), by simpa [acells, Nat.add_assoc] using hc k hk 2 (by omega), by simpa [acells, Nat.add_assoc] using hc k hk 3 (by omega), h.2.2 k hk⟩

theorem zeros_get (n m : Nat) : (zeros n).getD m 0 = 0 := by
  unfold zeros
  rw [List.getD_eq_getElem?_getD, List.getElem?_replicate]
  split <;> rfl
theorem set_get (l : List Int) (m : Nat) (v : Int) (h : m < l.length) : (l.set m v).getD m 0 = v := by
  rw [List.getD_eq_getElem?_getD, List.getElem?_set]
  simp [h]
theorem set_other (l : List Int) (m k : Nat) (v : Int) (h : m ≠ k) : (l.set m v).getD k 0 = l.getD k 0 := by
  rw [List.getD_eq_getElem?_getD, List.getElem?_set, if_neg h, ← List.getD_eq_getElem?_getD]

/-- the argument, opened -/
theorem open_a {H : Type} {enc : TypeId × Value → H} {w : World} {v : Value} {d : DataW H} {p : List MemPlace} {r : Reach} {b0 : Nat}
    (h : DataW.Trod enc Try.prog w 0 (fun _ => true) true 48 v d p) (hok : Value.okWide Try.prog w r b0 48 v) :
    ∃ A n cap l, v = .slice A n cap ∧ IsA w A n cap l := by
  obtain ⟨a0, len, cap0, rfl⟩ := okWide_slice Try.underlying48 hok
  obtain ⟨fuel, hf⟩ := h
  obtain ⟨A, n, cap, l, hcs, hl, hsl, hk, _⟩ := open_sl (α := Act4) zero acells okAct 4 Try.underlying48 (by kernel_rfl) (by decide) (fun m cs y hy => by
    obtain ⟨hlen, hg⟩ := struct_cells Try.underlying50 (by kernel_rfl) (by kernel_rfl) hy
    match cs, hlen with
    | [u0, u1, u2, u3], _ =>
      obtain ⟨_, _, g0⟩ := hg 0 _ rfl
      obtain ⟨_, _, g1⟩ := hg 1 _ rfl
      obtain ⟨_, _, g2⟩ := hg 2 _ rfl
      obtain ⟨_, _, g3⟩ := hg 3 _ rfl
      obtain ⟨z0, e0, _, h0⟩ := DataW.trod_int Try.underlying3 g0
      obtain ⟨z1, e1, _, h1⟩ := DataW.trod_int Try.underlying3 g1
      obtain ⟨z2, e2, _, h2⟩ := DataW.trod_int Try.underlying3 g2
      obtain ⟨z3, e3, _, h3⟩ := DataW.trod_int Try.underlying43 g3
      simp at e0 e1 e2 e3
      subst e0 e1 e2 e3
      exact ⟨⟨z0, z1, z2, z3⟩, rfl, i64_bounds h0, i64_bounds h1, i64_bounds h2⟩) hf
  simp [Value.cells] at hcs
  obtain ⟨rfl, rfl, rfl⟩ := hcs
  exact ⟨_, _, _, l, rfl, hl, hsl, hk⟩

set_option maxHeartbeats 3200000 in
theorem walkVersions {H : Type} {enc : TypeId × Value → H} {d : DataW H} {P : List MemPlace} {r : Reach} {b0 : Nat} (a0 : Int) (v : Value) (w : World) (w0 : (Lit.int .i64 a0).wf = true)
    (k1 : DataW.Trod enc Try.prog w 0 (fun _ => true) true 48 v d P) (ok1 : Value.okWide Try.prog w r b0 48 v) :
    Calls Try.prog 12 #[.int .i64 a0, v] w fun e w' => e = .returned (.bool true) ∧ Below w.heap.size w w' := by
  obtain ⟨l1, u1⟩ := i64_bounds w0
  clear w0
  obtain ⟨A, n, cap, l, rfl, HA⟩ := open_a k1 ok1
  clear k1 ok1
  have hlen := HA.1
  have HA := Lib.hid HA
  have HL := Lib.hid hlen; clear hlen
  by_cases hb : 0 ≤ a0 ∧ a0 ≤ 63 ∧ n ≤ 60
  · obtain ⟨b1, b2, b3⟩ := hb
    obtain ⟨m, rfl⟩ := Int.eq_ofNat_of_zero_le b1
    have N := cnew_any 64
    rw [show words 64 = 64 by decide] at N
    have HN := Lib.hid N; clear N
    have hp : plc 64 (4096 + 8 * (m : Int)) = some m := by
      unfold plc; rw [if_pos (by omega)]; congr 1; omega
    have HP := Lib.hid hp; clear hp
    go_enter Try.func12, Try.ntmps12
    go_wp2_with fail
    refine (alive_any w).mono ?_
    rintro e w2 ⟨rfl, hb2⟩
    go_wp2_with fail
    refine (HN.out w2).mono ?_
    rintro e w3 ⟨p, F, rfl, M3, hF, hb3⟩
    have hF2 : ∀ k ∈ F, w.heap.size ≤ k := fun k hk => Nat.le_trans hb2.size (hF k hk)
    have hb4 := hb2.trans (hb3.mono hb2.size)
    have HM := Lib.hid M3; clear M3
    clear hb3 hb2 hF
    go_wp2_with fail
    go_loopw [8, 9] (fun c i wr => ∃ (k : Nat) (q : Nat) (now kept ver : List Int), k ≤ n ∧ q ≤ k ∧ i = .int .i64 k ∧ c = .int .i64 q ∧ Mem wr 66 p F 64 now kept ver ∧ ver.getD m 0 = q ∧ Below w.heap.size w wr) (fun _ i _ => n - (intOf i).toNat)
    case atStart => exact ⟨0, 0, _, _, _, by omega, by omega, rfl, rfl, HM.out, zeros_get 64 m, hb4⟩
    case round =>
      obtain ⟨k, q, now, kept, ver, hk, hq, rfl, rfl, hm, hv, hbel⟩ := hrel
      by_cases hkn : k < n
      · obtain ⟨b, o, a, rfl, ea, hlt, c0, c1, c2, c3, o0, o1, o2⟩ := (HA.out.keep hbel).cell hkn
        have W := cwrite_any p 64 (4096 + 8 * (m : Int)) a.v F now kept ver wr (by omega) (by omega) hm
        have B := cback_any p 64 ((m : Int) / 8) F now kept ver wr (by omega) (by omega) hm
        have C := ccrash_any p 64 F now kept ver wr hm
        have V := fun w ver now kept (h : Mem w 66 p F 64 now kept ver) => cversion_any p 64 (4096 + 8 * (m : Int)) F now kept ver w (by omega) (by omega) h
        rw [HP.out] at W V
        obtain ⟨_, _, hl3, _⟩ := hm.lens
        have ht : (tick ver (some m)).getD m 0 = (q : Int) + 1 := by
          show (ver.set m (wrap64 (ver.getD m 0 + 1))).getD m 0 = _
          rw [hv, show wrap64 ((q : Int) + 1) = q + 1 by unfold wrap64; omega]
          exact set_get _ _ _ (by omega)
        have HT := Lib.hid ht; clear ht
        have HW := Lib.hid W; clear W
        have HB := Lib.hid B; clear B
        have HC := Lib.hid C; clear C
        have HV := Lib.hid V; clear V
        have hv := Lib.hid hv
        have hm := Lib.hid hm
        by_cases y0 : a.way = 0
        · go_wp2_with fail
          refine HW.out.mono ?_
          rintro e w5 ⟨rfl, M5, O5⟩
          have V5 := Lib.hid (HV.out w5 _ _ _ M5)
          have M5 := Lib.hid M5
          go_wp2_with fail
          refine V5.out.mono ?_
          rintro e w6 ⟨rfl, rfl⟩
          rw [show rd (tick ver (some m)) (some m) = (q : Int) + 1 from HT.out]
          go_wp2_with fail
          exact ⟨⟨k + 1, q + 1, _, _, _, by omega, by omega, by go_num, by go_num, M5.out, by rw [HT.out]; omega, hbel.trans (O5.below hF2 hbel.size)⟩, by simp [intOf]; omega⟩
        · by_cases y1 : a.way = 1
          · go_wp2_with fail
            refine HB.out.mono ?_
            rintro e w5 ⟨rfl, M5, O5⟩
            have V5 := Lib.hid (HV.out w5 _ _ _ M5)
            have M5 := Lib.hid M5
            go_wp2_with fail
            refine V5.out.mono ?_
            rintro e w6 ⟨rfl, rfl⟩
            rw [show rd ver (some m) = (q : Int) from hv.out]
            go_wp2_with fail
            exact ⟨⟨k + 1, q, _, _, _, by omega, by omega, by go_num, rfl, M5.out, hv.out, hbel.trans (O5.below hF2 hbel.size)⟩, by simp [intOf]; omega⟩
          · go_wp2_with fail
            refine HC.out.mono ?_
            rintro e w5 ⟨rfl, M5, O5⟩
            have V5 := Lib.hid (HV.out w5 _ _ _ M5)
            have M5 := Lib.hid M5
            go_wp2_with fail
            refine V5.out.mono ?_
            rintro e w6 ⟨rfl, rfl⟩
            rw [show rd ver (some m) = (q : Int) from hv.out]
            go_wp2_with fail
            exact ⟨⟨k + 1, q, _, _, _, by omega, by omega, by go_num, rfl, M5.out, hv.out, hbel.trans (O5.below hF2 hbel.size)⟩, by simp [intOf]; omega⟩
      · go_wp2_with fail
        go_ret
        exact ⟨rfl, hbel⟩
  · obtain h | h | h : a0 < 0 ∨ 63 < a0 ∨ (60 : Int) < n := by omega
    all_goals
      go_enter Try.func12, Try.ntmps12
      go_wp2_with fail
      refine (alive_any w).mono ?_
      rintro e w2 ⟨rfl, hb2⟩
      go_wp2_with fail
      all_goals go_ret
      all_goals exact ⟨rfl, hb2⟩
end Go.Proofs.Ytgadjmojebhlgaa.ClA
