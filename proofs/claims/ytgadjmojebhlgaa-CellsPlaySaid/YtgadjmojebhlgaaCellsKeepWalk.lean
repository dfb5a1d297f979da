/-
  WALK: the law CellsKeep.
-/
import Derived.Test.YtgadjmojebhlgaaCellActs
namespace Go.Proofs.Ytgadjmojebhlgaa.ClK
set_option linter.unusedVariables false
set_option linter.unusedSimpArgs false
open Go.RowKit Cm Mm Ow Me Rm Cl ClL ClA

theorem mask_and (x : Int) (k : Nat) (hk : k ≤ 62) : bits .and .i64 x (2 ^ k - 1) = x % 2 ^ k := by
  have h : bits .and .i64 x (2 ^ k - 1) = IntKind.i64.wrap (((BitVec.ofInt 64 x) &&& (BitVec.ofInt 64 (2 ^ k - 1))).toNat : Int) := rfl
  have hp : (2 : Nat) ^ k ≤ 2 ^ 62 := Nat.pow_le_pow_right (by decide) hk
  have h1 : (1 : Nat) ≤ 2 ^ k := Nat.one_le_two_pow
  have e1 : (BitVec.ofInt 64 ((2 : Int) ^ k - 1)).toNat = 2 ^ k - 1 := by
    rw [BitVec.toNat_ofInt]
    have : ((2 : Int) ^ k - 1) = ((2 ^ k - 1 : Nat) : Int) := by rw [Int.ofNat_sub h1]; simp
    rw [this]
    omega
  have e2 : (((BitVec.ofInt 64 x) &&& (BitVec.ofInt 64 (2 ^ k - 1))).toNat : Int) = x % 2 ^ k := by
    rw [BitVec.toNat_and, e1, Nat.and_two_pow_sub_one_eq_mod, BitVec.toNat_ofInt]
    have h0 : 0 ≤ x % ((2 ^ 64 : Nat) : Int) := Int.emod_nonneg _ (by decide)
    rw [Int.natCast_emod, Int.toNat_of_nonneg h0]
    have : ((2 ^ 64 : Nat) : Int) = 2 ^ k * 2 ^ (64 - k) := by
      rw [← Int.pow_add, show k + (64 - k) = 64 by omega]; rfl
    rw [this]
    simp
  rw [h, e2]
  have hq : (0 : Int) < 2 ^ k := by have := Int.pow_pos (n := (2 : Int)) (m := k) (by decide); exact this
  have l1 := Int.emod_nonneg x (show (2 : Int) ^ k ≠ 0 by omega)
  have l2 := Int.emod_lt_of_pos x hq
  have l3 : (2 : Int) ^ k ≤ 2 ^ 62 := by have : ((2 ^ k : Nat) : Int) ≤ ((2 ^ 62 : Nat) : Int) := Int.ofNat_le.2 hp; simpa using this
  exact IntWalk.i64_in _ ⟨by omega, by omega⟩
theorem mask_63 (x : Int) : bits .and .i64 x 63 = x % 64 := mask_and x 6 (by decide)
theorem mask_7 (x : Int) : bits .and .i64 x 7 = x % 8 := mask_and x 3 (by decide)

/-- a row of words at a block of its own -/
def URow (w : World) (g n c : Nat) (l : List Int) : Prop := w.ownsRow 0 43 1 (.slice (some ⟨g, 0, none⟩) n c) n (l.map uw)
theorem URow.len {w : World} {g n c : Nat} {l : List Int} (h : URow w g n c l) : l.length = n := by simpa using h.1
theorem URow.far {w w' : World} {g n c : Nat} {l : List Int} {G : List Nat} (h : URow w g n c l) (ho : Only G w w') (hg : g ∉ G) : URow w' g n c l := ho.row h (fun x hx => by simp at hx; subst hx; exact hg)
theorem URow.keep {w w' : World} {g n c : Nat} {l : List Int} (h : URow w g n c l) (hb : Below w.heap.size w w') : URow w' g n c l := h.far (G := []) (Only.of_below hb) (by simp)
theorem URow.lt {w : World} {g n c : Nat} {l : List Int} (h : URow w g n c l) : g < w.heap.size := by
  obtain ⟨cur, hc⟩ := row_type h (g := g) rfl
  exact (Array.getElem?_eq_some_iff.1 hc).1
theorem URow.cell {w : World} {g n c : Nat} {l : List Int} (h : URow w g n c l) {i : Nat} (hi : i < n) : w.cell? ⟨g, i, none⟩ = some (.int .u64 (l.getD i 0)) ∧ w.frozen? ⟨g, i, none⟩ = false := by
  have hl := h.len
  have := World.ownsRow.cellAt h i (by omega)
  rw [this]
  exact ⟨by simp [List.getD, uw, show i < l.length by omega], World.ownsRow.frozenAt h i⟩
theorem URow.set {w : World} {g n c : Nat} {l : List Int} (h : URow w g n c l) (i : Nat) (v : Int) : URow (w.setCell ⟨g, i, none⟩ (.int .u64 v)) g n c (l.set i v) ∧ Only [g] w (w.setCell ⟨g, i, none⟩ (.int .u64 v)) := by
  obtain ⟨s1, s2⟩ := World.ownsRow.stored h i (.int .u64 v)
  refine ⟨?_, Only.of_grown s2 (fun x hx => by simpa using hx.symm)⟩
  unfold URow
  rw [List.map_set]
  exact s1
theorem URow.isU {w : World} {g n c : Nat} {l : List Int} (h : URow w g n c l) : IsU w (some ⟨g, 0, none⟩) n c l := isU_of_row h
theorem cpy_fin (n q k : Nat) (nw kp : List Int) (hl : kp.length = n) (h1 : 8 * q ≤ k) (h2 : k ≤ 8 * q + 8) (h : k = 8 * q + 8 ∨ n ≤ k) : cpy nw kp (8 * q) k = backed n nw kp q := by
  unfold backed
  split
  · have e : (8 * (q : Int)).toNat = 8 * q := by omega
    rw [e]
    rcases h with rfl | h
    · rfl
    · exact cpy_end _ _ _ _ (by omega) _ (by omega)
  · rw [← cpy_end nw kp (8 * q) (8 * q) (by omega) k h1, cpy_none]

theorem own_words {w : World} {base n c : Nat} {A : Option Addr} {l : List Int} (hn : 0 < n) (hl : l.length = n) (h : Own w base 43 1 A (0 + n) c ([] ++ (List.range n).map fun i => [uw (l.getD i 0)])) :
    ∃ g, A = some ⟨g, 0, none⟩ ∧ base ≤ g ∧ URow w g n c l := by
  rw [Nat.zero_add, List.nil_append, elems_eq hl] at h
  have hr := row_of_own h
  rcases hr.2 with ⟨h1, h2⟩ | ⟨g, c', cur, h1, hb, h3, _⟩
  · injection h1 with _ h1 _; omega
  · injection h1 with h1 _ _
    subst h1
    exact ⟨g, rfl, hb, row_of_own (h.low (Nat.zero_le _))⟩
theorem look {w : World} {A : Option Addr} {n cap : Nat} {l : List Act4} (h : IsA w A n cap l) {k : Nat} (hk : k < n) : ∃ b o a, A = some ⟨b, o, none⟩ ∧ l.getD k zero = a ∧ ∀ w', Below w.heap.size w w' →
    b < w'.heap.size ∧ w'.cell? ⟨b, o + k * 4, none⟩ = some (.int .i64 a.way) ∧ w'.cell? ⟨b, o + k * 4 + 1, none⟩ = some (.int .i64 a.at_) ∧ w'.cell? ⟨b, o + k * 4 + 2, none⟩ = some (.int .i64 a.n) ∧ w'.cell? ⟨b, o + k * 4 + 3, none⟩ = some (.int .u64 a.v) ∧ okAct a := by
  obtain ⟨b, o, a, e1, e2, hlt, _⟩ := h.cell hk
  refine ⟨b, o, a, e1, e2, fun w' hb => ?_⟩
  obtain ⟨b', o', a', e1', e2', hlt', c⟩ := (h.keep hb).cell hk
  rw [e1] at e1'
  injection e1' with e1'
  injection e1' with h1 h2 _
  subst h1 h2
  rw [← e2, e2']
  exact ⟨hlt', c⟩
/-- the state of the rounds -/
structure St (w : World) (B p : Nat) (F : List Nat) (g1 g2 n c : Nat) (nw kp ver : List Int) : Prop where
  mem : Mem w 66 p F n nw kp ver
  r1 : URow w g1 n c nw
  r2 : URow w g2 n n kp
  ne : g1 ≠ g2
  n1 : g1 ∉ F
  n2 : g2 ∉ F
  b1 : B ≤ g1

/-- what holds ahead of round i -/
def Rel (w : World) (N n p : Nat) (F : List Nat) (g2 : Nat) (s i : Value) (wr : World) : Prop := ∃ (k g1 c1 : Nat) (nw kp ver : List Int), k ≤ N ∧ i = .int .i64 k ∧ s = .slice (some ⟨g1, 0, none⟩) n c1 ∧ St wr w.heap.size p F g1 g2 n c1 nw kp ver ∧ Below w.heap.size w wr

set_option maxRecDepth 20000 in
set_option maxHeartbeats 3200000 in
theorem walk {H : Type} {enc : TypeId × Value → H} {d : DataW H} {P : List MemPlace} {r : Reach} {b0 : Nat} (a0 : Int) (v : Value) (w : World) (w0 : (Lit.int .i64 a0).wf = true)
    (k1 : DataW.Trod enc Try.prog w 0 (fun _ => true) true 48 v d P) (ok1 : Value.okWide Try.prog w r b0 48 v) :
    Calls Try.prog 13 #[.int .i64 a0, v] w fun e w' => e = .returned (.bool true) ∧ Below w.heap.size w w' := by
  obtain ⟨l1, u1⟩ := i64_bounds w0
  clear w0
  obtain ⟨A, N, cap, l, rfl, HA⟩ := open_a k1 ok1
  clear k1 ok1
  have hlen := HA.1
  have HA := Lib.hid HA
  have HL := Lib.hid hlen; clear hlen
  by_cases hb : 1 ≤ a0 ∧ a0 ≤ 64 ∧ N ≤ 100
  · obtain ⟨b1, b2, b3⟩ := hb
    obtain ⟨n, rfl⟩ := Int.eq_ofNat_of_zero_le (show 0 ≤ a0 by omega)
    have e1 : words (n : Int) = n := by unfold words; omega
    have N := cnew_any n
    rw [e1] at N
    have HN := Lib.hid N; clear N e1
    have m1 := run_make_u n (by omega)
    go_enter Try.func13, Try.ntmps13
    go_wp2_with fail
    refine (alive_any w).mono ?_
    rintro e w2 ⟨rfl, hb2⟩
    go_wp2_with fail
    refine (HN.out w2).mono ?_
    rintro e w3 ⟨p, F, rfl, M3, hF, hb3⟩
    have hF2 : ∀ k ∈ F, w.heap.size ≤ k := fun k hk => Nat.le_trans hb2.size (hF k hk)
    have hb4 := hb2.trans (hb3.mono hb2.size)
    have HM := Lib.hid M3; clear M3
    clear hb3 hb2 hF
    go_wp2_with fail
    have B0 : Below w3.heap.size w3 ((w3.alloc (.cells (madeCells #[.int .u64 0] n) 43)).alloc (.cells (madeCells #[.int .u64 0] n) 43)) :=
      ((Below.refl _ _).alloc (Nat.le_refl _) _).trans ((Below.refl _ _).alloc (by simp) _)
    have S0 : St ((w3.alloc (.cells (madeCells #[.int .u64 0] n) 43)).alloc (.cells (madeCells #[.int .u64 0] n) 43)) w.heap.size p F w3.heap.size (w3.heap.size + 1) n n (zeros n) (zeros n) (zeros n) := by
      refine ⟨HM.out.keep B0, ?_, ?_, by omega, fun h => ?_, fun h => ?_, hb4.size⟩
      · unfold URow zeros
        rw [List.map_replicate]
        exact row_made (by omega) (by simp only [heap_alloc, Array.getElem?_push, Array.size_push]; rw [if_neg (by omega)]; simp; rfl)
      · unfold URow zeros
        rw [List.map_replicate]
        exact row_made (by omega) (by simp only [heap_alloc, Array.getElem?_push, Array.size_push]; simp; rfl)
      · have := HM.out.lt _ h; omega
      · have := HM.out.lt _ h; omega
    have hb5 := hb4.trans (B0.mono hb4.size)
    have hg2 : w.heap.size ≤ w3.heap.size + 1 := by have := hb4.size; omega
    clear B0 HM hb4
    generalize w3.heap.size + 1 = g2 at *
    go_loopw [7, 9] (fun s i wr => Rel w N n p F g2 s i wr) (fun _ i _ => N - (intOf i).toNat)
    case atStart => exact ⟨0, _, _, _, _, _, by omega, rfl, rfl, S0, hb5⟩
    case round =>
      obtain ⟨k, g1, c1, nw, kp, ver, hk, rfl, rfl, S, hbel⟩ := hrel
      by_cases hkn : k < N
      · obtain ⟨b, o, a, rfl, ea, hcs⟩ := look HA.out hkn
        obtain ⟨hlt, y0, y1, y2, y3, o0, o1, o2⟩ := hcs wr hbel
        have hcs := Lib.hid hcs
        obtain ⟨q, hq, hq8⟩ : ∃ q : Nat, bits .and .i64 a.n 7 = (q : Int) ∧ q < 8 := ⟨(a.n % 8).toNat, by rw [mask_7]; omega, by omega⟩
        obtain ⟨j, hj, hj64⟩ : ∃ j : Nat, bits .and .i64 a.at_ 63 = (j : Int) ∧ j < 64 := ⟨(a.at_ % 64).toNat, by rw [mask_63]; omega, by omega⟩
        have C := Lib.hid (ccrash_any p n F nw kp ver wr S.mem)
        have W := cwrite_any p n (4096 + 8 * (j : Int)) a.v F nw kp ver wr (by omega) (by omega) S.mem
        have R := cback_any p n (q : Int) F nw kp ver wr (by omega) (by omega) S.mem
        rw [show isLine n (q : Int) = decide (8 * (q : Int) < n) by unfold isLine; simp] at R
        have HW := Lib.hid W; clear W
        have HR := Lib.hid R; clear R
        have HS := Lib.hid S; clear S
        by_cases z2 : a.way = 2
        · clear HW HR
          go_wp2_with fail
          refine C.out.mono ?_
          rintro e w5 ⟨rfl, M5, O5⟩
          have r2 := HS.out.r2.far O5 HS.out.n2
          have hs2 := Lib.hid r2.isU.2
          have hw5 := hbel.trans (O5.below hF2 hbel.size)
          have HM5 := Lib.hid M5
          have hO : Own w5 w5.heap.size 43 1 none 0 0 [] := Own.nil _ _ _ _
          have HO := Lib.hid hO; clear hO
          have M5l := Lib.hid M5.lt; clear M5
          have hkl : kp.length = n := HS.out.r2.len
          have HK := Lib.hid hkl; clear hkl
          go_wp2_with (at_builtin; refine wpList_app _ rfl _ _ rfl elU w5.heap.size none 0 0 [] rfl HO.out (some ⟨g2, 0, none⟩) n n _ rfl hs2.out (fun _ _ => rfl) (fun _ _ u hu => by simp at hu; subst hu; rfl) (by unfold maxLen; omega) (by omega) (Nat.le_refl _) ?_; intro A2 c2 w6 hown hg hblk; obtain ⟨g5, rfl, hge, hrow⟩ := own_words (by omega) HK.out hown; rw [Nat.zero_add]; have hg := Lib.hid hg; clear hblk hown)
          have B6 : Below w5.heap.size w5 w6 := (Below.refl _ _).grown hg.out (by simp) (fun k hk => by simp at hk)
          exact ⟨⟨k + 1, g5, c2, kp, kp, ver, by omega, by go_num, rfl, ⟨HM5.out.keep B6, hrow, r2.keep B6, by have := r2.lt; omega, fun h => by have := M5l.out _ h; omega, HS.out.n2, by have := hw5.size; omega⟩, hw5.trans (B6.mono hw5.size)⟩, by simp [intOf]; omega⟩
        · by_cases z1 : a.way = 1
          · clear C HW
            go_wp2_with fail
            refine HR.out.mono ?_
            rintro e w5 ⟨rfl, M5, O5⟩
            have r1 := HS.out.r1.far O5 HS.out.n1
            have r2 := HS.out.r2.far O5 HS.out.n2
            have hw5 := hbel.trans (O5.below hF2 hbel.size)
            have HM5 := Lib.hid M5
            clear O5 hbel M5
            have hkl : kp.length = n := HS.out.r2.len
            have HK := Lib.hid hkl; clear hkl
            have hn1 := HS.out.n1
            have hn2 := HS.out.n2
            have hne := HS.out.ne
            have hb1 := HS.out.b1
            clear HS HR
            go_wp2_with fail
            go_loopw [12] (fun i wr => ∃ m : Nat, 8 * q ≤ m ∧ m ≤ 8 * q + 8 ∧ i = .int .i64 m ∧ URow wr g2 n n (cpy nw kp (8 * q) m) ∧ Only [g2] w5 wr) (fun i _ => 8 * q + 8 - (intOf i).toNat)
            case atStart => exact ⟨8 * q, by omega, by omega, by go_num, by rw [cpy_none]; exact r2, Only.refl _ _⟩
            case round =>
              obtain ⟨m, hm0, hm8, rfl, rr, oo⟩ := hrel
              have t3 : IntKind.i64.wrap (8 * (q : Int)) = 8 * q := IntWalk.i64_in _ ⟨by omega, by omega⟩
              have t4 : IntKind.i64.wrap (8 * (q : Int) + 8) = 8 * q + 8 := IntWalk.i64_in _ ⟨by omega, by omega⟩
              have t6 : IntKind.i64.wrap ((m : Int) + 1) = m + 1 := IntWalk.i64_in _ ⟨by omega, by omega⟩
              by_cases hx : (m : Int) < 8 * q + 8 ∧ (m : Int) < n
              · obtain ⟨hx1, hx2⟩ := hx
                obtain ⟨c5, c6⟩ := (r1.far oo (by simp; exact hne)).cell (show m < n by omega)
                obtain ⟨c7, c8⟩ := rr.cell (show m < n by omega)
                have SS := Lib.hid (rr.set m (nw.getD m 0))
                have RR := Lib.hid rr; clear rr c6
                generalize hv : nw.getD m 0 = v at *
                have HV := Lib.hid hv; clear hv
                go_wp2_with fail
                exact ⟨⟨m + 1, by omega, by omega, by go_num, by rw [← cpy_set _ _ _ _ hm0, HV.out]; exact SS.out.1, oo.seq SS.out.2⟩, by simp [intOf]; omega⟩
              · have e := cpy_fin n q m nw kp HK.out hm0 hm8 (by omega)
                rw [e] at rr
                have SN : St wr w.heap.size p F g1 g2 n c1 nw (backed n nw kp q) ver := ⟨HM5.out.far oo (fun z hz => by simp; rintro rfl; exact hn2 hz), r1.far oo (by simp; exact hne), rr, hne, hn1, hn2, hb1⟩
                have hwr := hw5.trans (oo.below (fun z hz => by simp at hz; subst hz; exact hg2) hw5.size)
                have HSN := Lib.hid SN; clear SN rr r1 r2 e
                have hx' : ¬ (m : Int) < 8 * q + 8 ∨ ((m : Int) < 8 * q + 8 ∧ ¬ (m : Int) < n) := by omega
                clear hx
                rcases hx' with hx | ⟨hx, hx2⟩
                · go_wp2_with fail
                  exact ⟨⟨k + 1, g1, c1, nw, _, ver, by omega, by go_num, rfl, HSN.out, hwr⟩, by simp [intOf]; omega⟩
                · go_wp2_with fail
                  exact ⟨⟨k + 1, g1, c1, nw, _, ver, by omega, by go_num, rfl, HSN.out, hwr⟩, by simp [intOf]; omega⟩
          · clear C HR
            have yy : (IntKind.i64.wrap (8 * (j : Int))) = 8 * (j : Int) := IntWalk.i64_in _ ⟨by omega, by omega⟩
            by_cases hjn : (j : Int) < n
            · have hpl : plc n (4096 + 8 * (j : Int)) = some j := by
                unfold plc; rw [if_pos (by omega)]; congr 1; omega
              rw [hpl] at HW
              clear hpl
              go_wp2_with fail
              refine HW.out.mono ?_
              rintro e w5 ⟨rfl, M5, O5⟩
              have r1 := HS.out.r1.far O5 HS.out.n1
              have r2 := HS.out.r2.far O5 HS.out.n2
              have hw5 := hbel.trans (O5.below hF2 hbel.size)
              obtain ⟨c5, c6⟩ := r1.cell (show j < n by omega)
              have SS := Lib.hid (r1.set j a.v)
              have HM5 := Lib.hid M5
              have hh1 := HS.out
              clear M5 O5
              generalize nw.getD j 0 = v0 at c5
              obtain ⟨_, x0, x1, x2, x3, _⟩ := hcs.out w5 hw5
              go_wp2_with fail
              have NN : Only [g1] w5 (w5.setCell ⟨g1, j, none⟩ (.int .u64 a.v)) := SS.out.2
              exact ⟨⟨k + 1, g1, c1, _, kp, _, by omega, by go_num, rfl, ⟨HM5.out.far NN (fun z hz => by simp; rintro rfl; exact HS.out.n1 hz), SS.out.1, r2.far NN (by simp; exact fun h => HS.out.ne h.symm), HS.out.ne, HS.out.n1, HS.out.n2, HS.out.b1⟩, hw5.trans (NN.below (fun z hz => by simp at hz; subst hz; exact HS.out.b1) hw5.size)⟩, by simp [intOf]; omega⟩
            · go_wp2_with fail
              exact ⟨⟨k + 1, g1, c1, nw, kp, ver, by omega, by go_num, rfl, HS.out, hbel⟩, by simp [intOf]; omega⟩
      · have HR1 := Lib.hid S.r1
        have HR2 := Lib.hid S.r2
        have Sm := S.mem
        have CN := Lib.hid (cnow_any p n F nw kp ver wr Sm)
        have HSm := Lib.hid Sm
        clear Sm S
        go_wp2_with fail
        refine CN.out.mono ?_
        rintro e w5 ⟨A5, n5, c5, rfl, row5, hb5'⟩
        have SW := Lib.hid (samew_any _ _ n5 c5 n c1 nw nw w5 (isU_of_row row5) (HR1.out.keep hb5').isU)
        have HR2' := Lib.hid (HR2.out.keep hb5')
        have CK := Lib.hid (HSm.out.keep hb5')
        have hbw := hbel.trans (hb5'.mono hbel.size)
        clear hb5' row5
        go_wp2_with fail
        refine SW.out.mono ?_
        rintro e w6 ⟨rfl, m6, rfl⟩
        have CK6 := Lib.hid (ckept_any p n F nw kp ver _ (CK.out.far ((Only.refl [] w5).drewN m6) (fun _ _ h => by cases h)))
        go_wp2_with fail
        refine CK6.out.mono ?_
        rintro e w7 ⟨A7, n7, c7, rfl, row7, hb7⟩
        have SW7 := Lib.hid (samew_any _ _ n7 c7 n n kp kp w7 (isU_of_row row7) ((HR2'.out.far ((Only.refl [] w5).drewN m6) (by simp)).keep hb7).isU)
        have hbx := (below_drewN hbw m6).trans (hb7.mono hbw.size)
        clear hb7 row7
        go_wp2_with fail
        refine SW7.out.mono ?_
        rintro e w8 ⟨rfl, m8, rfl⟩
        go_wp2_with fail
        go_ret
        exact ⟨rfl, below_drewN hbx m8⟩
  · obtain h | h | h : a0 < 1 ∨ 64 < a0 ∨ (100 : Int) < N := by omega
    all_goals
      go_enter Try.func13, Try.ntmps13
      go_wp2_with fail
      refine (alive_any w).mono ?_
      rintro e w2 ⟨rfl, hb2⟩
      go_wp2_with fail
      all_goals go_ret
      all_goals exact ⟨rfl, hb2⟩
end Go.Proofs.Ytgadjmojebhlgaa.ClK
