/-
  WALKS: the reference's lexer: token.
-/
import Derived.Test.YtapnnbbbgopobaaG05
import Derived.Deep.CutBlock
import Derived.Deep.DeepCutAuto
set_option linter.unusedVariables false
set_option linter.unusedSimpArgs false
namespace Go.Proofs.Ytapnnbbbgopobaa.Lx
open Go.RowKit Cm Mm Ow Me Ml Lg
structure Tv (w : World) (g : Nat) (kd : Int) (tx : ByteArray) (nn a2 : Int) : Prop where
  at_ : w.heap[g]? = some (.cells #[.int .i64 kd, .string tx, .int .u64 nn, .int .i64 a2] 63 (0, 0))
section
variable {w w' : World} {g : Nat} {kd nn a2 : Int} {tx : ByteArray}
theorem Tv.new (w : World) (kd : Int) (tx : ByteArray) (nn a2 : Int) : Tv (w.alloc (.cells #[.int .i64 kd, .string tx, .int .u64 nn, .int .i64 a2] 63)) w.heap.size kd tx nn a2 := ⟨heap_alloc_new _ _⟩
theorem Tv.c0 (h : Tv w g kd tx nn a2) : w.cell? ⟨g, 0, none⟩ = some (.int .i64 kd) := by simp only [World.cell?, h.at_]; simp
theorem Tv.c1 (h : Tv w g kd tx nn a2) : w.cell? ⟨g, 1, none⟩ = some (.string tx) := by simp only [World.cell?, h.at_]; simp
theorem Tv.c2 (h : Tv w g kd tx nn a2) : w.cell? ⟨g, 2, none⟩ = some (.int .u64 nn) := by simp only [World.cell?, h.at_]; simp
theorem Tv.c3 (h : Tv w g kd tx nn a2) : w.cell? ⟨g, 3, none⟩ = some (.int .i64 a2) := by simp only [World.cell?, h.at_]; simp
theorem Tv.free (h : Tv w g kd tx nn a2) (k : Nat) : w.frozen? ⟨g, k, none⟩ = false := by simp only [World.frozen?, h.at_]; simp
theorem Tv.lt (h : Tv w g kd tx nn a2) : g < w.heap.size := (Array.getElem?_eq_some_iff.1 h.at_).1
theorem Tv.keep (h : Tv w g kd tx nn a2) (hb : Below w.heap.size w w') : Tv w' g kd tx nn a2 := ⟨(hb.block _ h.lt).trans h.at_⟩
end
def TxOk (tx : ByteArray) (nn : Int) : Prop := tx.size ≤ maxLen ∧ 0 ≤ nn ∧ nn < 18446744073709551616
theorem u64_lo (x : Int) : 0 ≤ IntKind.u64.wrap x := by show 0 ≤ x % 18446744073709551616; omega
theorem u64_hi (x : Int) : IntKind.u64.wrap x < 18446744073709551616 := by show x % 18446744073709551616 < 18446744073709551616; omega
def TokA (w : World) (n at_ : Nat) (e : Ending) (w' : World) : Prop :=
  ∃ kd tx nn a2 to2 er, e = .returned (.tuple #[.agg #[.int .i64 kd, .string tx, .int .u64 nn, .int .i64 a2], .int .i64 to2, .int .i64 er]) ∧ Below w.heap.size w w' ∧ (er = 0 → kd ≠ 5 ∧ (∃ k : Nat, to2 = k ∧ at_ < k ∧ k ≤ n) ∧ TxOk tx nn)
theorem blk_set {w : World} {g i : Nat} {cs : Array Value} {t : TypeId} (h : w.heap[g]? = some (.cells cs t (0, 0))) (v : Value) : (w.setCell ⟨g, i, none⟩ v).heap[g]? = some (.cells (cs.setIfInBounds i v) t (0, 0)) := by
  simp only [World.setCell, Array.getElem?_modify, if_true, h]
  rfl
theorem Tv.store {w : World} {g : Nat} {k0 n0 a0 : Int} {t0 : ByteArray} (h : Tv w g k0 t0 n0 a0) (kd : Int) (tx : ByteArray) (nn a2 : Int) : Tv ((((w.setCell ⟨g, 0, none⟩ (.int .i64 kd)).setCell ⟨g, 1, none⟩ (.string tx)).setCell ⟨g, 2, none⟩ (.int .u64 nn)).setCell ⟨g, 3, none⟩ (.int .i64 a2)) g kd tx nn a2 :=
  ⟨blk_set (blk_set (blk_set (blk_set h.at_ _) _) _) _⟩
theorem Tv.other {w : World} {g h : Nat} {kd nn a2 : Int} {tx : ByteArray} (hT : Tv w g kd tx nn a2) (hg : g ≠ h) (k : Nat) (v : Value) : Tv (w.setCell ⟨h, k, none⟩ v) g kd tx nn a2 := ⟨(Below.heap_setCell w ⟨h, k, none⟩ v g hg).trans hT.at_⟩
theorem Tv.set0 {w : World} {g : Nat} {kd nn a2 : Int} {tx : ByteArray} (hT : Tv w g kd tx nn a2) (v : Int) : Tv (w.setCell ⟨g, 0, none⟩ (.int .i64 v)) g v tx nn a2 := ⟨blk_set hT.at_ _⟩
theorem Tv.set1 {w : World} {g : Nat} {kd nn a2 : Int} {tx : ByteArray} (hT : Tv w g kd tx nn a2) (v : ByteArray) : Tv (w.setCell ⟨g, 1, none⟩ (.string v)) g kd v nn a2 := ⟨blk_set hT.at_ _⟩
theorem tok_ret {w w' : World} {n at_ : Nat} {tmps : Array Value} {g : Nat} {kd nn a2 to2 er : Int} {tx : ByteArray} (h4 : tmps[4]?.getD undef = .pointer (some ⟨g, 0, none⟩)) (h5 : tmps[5]?.getD undef = .int .i64 to2) (h6 : tmps[6]?.getD undef = .int .i64 er) (hT : Tv w' g kd tx nn a2) (hb : Below w.heap.size w w')
    (hc : er = 0 → kd ≠ 5 ∧ (∃ k : Nat, to2 = k ∧ at_ < k ∧ k ≤ n) ∧ TxOk tx nn) : bodyPost Try.prog Try.f44 (TokA w n at_) Exit.ret { tmps := tmps, defers := [] } w' := by
  have y0 := hT.c0
  have y1 := hT.c1
  have y2 := hT.c2
  have y3 := hT.c3
  refine bodyPost_ret (v := .tuple #[.agg #[.int .i64 kd, .string tx, .int .u64 nn, .int .i64 a2], .int .i64 to2, .int .i64 er]) ?_ rfl ⟨kd, tx, nn, a2, to2, er, rfl, hb, hc⟩
  simp [results, Try.results44, go_sem, h4, h5, h6, y0, y1, y2, y3]
set_option maxRecDepth 20000 in
set_option maxHeartbeats 3200000 in
theorem token_any (A : Option Addr) (n cap : Nat) (x : Nat → Int) (at_ : Nat) (w : World) (h : IsBy w A n cap x) (hn : n ≤ 65536) (ha : at_ < n) :
    Calls Try.prog 44 #[.slice A n cap, .int .i64 at_] w (TokA w n at_) := by
  have H := Lib.hid h
  go_enter Try.func44, Try.ntmps44
  go_upto_block 0 with fail
  obtain ⟨W, hW⟩ : ∃ W, W = w.alloc (.cells #[.int .i64 0, .string ⟨#[]⟩, .int .u64 0, .int .i64 0] 63) := ⟨_, rfl⟩
  rw [← hW]
  have HW := Lib.hid hW
  have h1 : IsBy W A n cap x := by rw [hW]; exact h.keep (below_new _ _)
  clear hW h
  go_cut [7] (fun s7 wx => ∃ k : Nat, at_ ≤ k ∧ k ≤ n ∧ s7 = .int .i64 k ∧ (sg (x at_) = true → at_ < k) ∧ W = wx)
  case first =>
    go_wp2_with fail
    go_loopw [7] (fun i wr => ∃ k : Nat, at_ ≤ k ∧ k ≤ n ∧ i = .int .i64 k ∧ W = wr) (fun i _ => n - (intOf i).toNat)
    case atStart => exact ⟨at_, Nat.le_refl _, by omega, rfl, rfl⟩
    case round =>
      obtain ⟨k, hk0, hk, rfl, rfl⟩ := hrel
      by_cases hkn : k < n
      · have d0 : decide ((k : Int) < (n : Int)) = true := decide_eq_true (by omega)
        have hki : (k : Int) < (n : Int) := by omega
        obtain ⟨b, o, rfl, hb, g0⟩ := h1.cell hkn
        have SG := Lib.hid (sign_any (x k))
        cases hs : sg (x k)
        · rw [hs] at SG
          go_wp2_with (go_at_call 65; refine (SG.out _).mono ?_; rintro e w' ⟨rfl, rfl⟩)
          go_meet
          case rel =>
            refine ⟨k, hk0, hk, rfl, fun hx => ?_, rfl⟩
            rcases Nat.lt_or_ge at_ k with h | h
            · exact h
            · obtain rfl : k = at_ := by omega
              rw [hs] at hx; cases hx
        · rw [hs] at SG
          go_wp2_with (go_at_call 65; refine (SG.out _).mono ?_; rintro e w' ⟨rfl, rfl⟩)
          go_roundw
          case rel => exact ⟨k + 1, by omega, by omega, by go_num, trivial⟩
          case measure => simp [intOf]; omega
      · obtain rfl : k = n := by omega
        go_wp2_with fail
        go_meet
        case rel => exact ⟨k, hk0, hk, rfl, (fun _ => by omega), rfl⟩
  case rest =>
    obtain ⟨k, hk0, hk, rfl, hsg, rfl⟩ := hcut
    have hai : (at_ : Int) < (n : Int) := by omega
    obtain ⟨b, o, rfl, hb, g0⟩ := h1.cell ha
    obtain ⟨c, hc⟩ : ∃ c, x at_ = c := ⟨_, rfl⟩
    rw [hc] at g0 hsg
    have HC := Lib.hid hc
    have DG := Lib.hid (digit_any c)
    have LT := Lib.hid (letter_any c)
    cases hd : dg c
    · rw [hd] at DG
      have SGN : Hid (lt c = true → at_ < k) := Lib.hid (fun h => hsg (by unfold sg; rw [h]; rfl))
      clear hsg hd hc
      cases hl : lt c
      · rw [hl] at LT
        clear SGN hl
        go_upto_region 28 with (first | (go_at_call 66; refine (DG.out _).mono ?_; rintro e w' ⟨rfl, rfl⟩) | (go_at_call 67; refine (LT.out _).mono ?_; rintro e w' ⟨rfl, rfl⟩) | fail)
        obtain ⟨W2, hW2⟩ : ∃ W2, W2 = W.alloc (.cells #[.int .i64 0, .string ⟨#[]⟩, .int .u64 0, .int .i64 (at_ : Int)] 63) := ⟨_, rfl⟩
        have HW2 := Lib.hid hW2
        have h2 : IsBy W2 (some ⟨b, o, none⟩) n cap x := by rw [hW2]; exact h1.keep (below_new _ _)
        have T9 : Hid (Tv W2 W.heap.size 0 ⟨#[]⟩ 0 at_) := Lib.hid (by rw [hW2]; exact Tv.new _ _ _ _ _)
        have T4 : Hid (Tv W2 w.heap.size 0 ⟨#[]⟩ 0 0) := Lib.hid (by rw [hW2]; refine Tv.keep ?_ (below_new _ _); rw [HW.out]; exact Tv.new _ _ _ _ _)
        have BB : Hid (Below w.heap.size w W2) := Lib.hid (by rw [hW2]; refine Below.trans ?_ ((below_new W _).mono (by rw [HW.out]; simp)); rw [HW.out]; exact below_new _ _)
        have hgg : w.heap.size ≠ W.heap.size := by rw [HW.out]; simp
        have hgl : w.heap.size ≤ W.heap.size := by rw [HW.out]; simp
        rw [← hW2]
        clear hW2
        clear h2 g0
        go_wp2_with fail
        go_loopw [14] (fun i wr => ∃ j : Nat, j ≤ 13 ∧ i = .int .i64 j ∧ W2 = wr) (fun i _ => 13 - (intOf i).toNat)
        case atStart => exact ⟨0, by omega, rfl, rfl⟩
        case round =>
          obtain ⟨j, hj, rfl, rfl⟩ := hrel
          have y0 := T9.out.c0
          have y1 := T9.out.c1
          have y2 := T9.out.c2
          have y3 := T9.out.c3
          have z0 := T4.out.c0
          have z1 := T4.out.c1
          have z2 := T4.out.c2
          have z3 := T4.out.c3
          have zf := T4.out.free
          have yf := T9.out.free
          by_cases hj13 : j < 13
          · have d0 : decide ((j : Int) < 13) = true := decide_eq_true (by omega)
            have hji : (j : Int) < 13 := by omega
            have i1 : IntKind.i64.wrap ((at_ : Int) + 1) = (at_ : Int) + 1 := IntWalk.i64_in _ ⟨by omega, by omega⟩
            rcases (show j = 0 ∨ j = 1 ∨ j = 2 ∨ j = 3 ∨ j = 4 ∨ j = 5 ∨ j = 6 ∨ j = 7 ∨ j = 8 ∨ j = 9 ∨ j = 10 ∨ j = 11 ∨ j = 12 by omega) with rfl | rfl | rfl | rfl | rfl | rfl | rfl | rfl | rfl | rfl | rfl | rfl | rfl
            · go_wp2_with fail
              any_goals (exact tok_ret rfl rfl rfl (((T4.out.other hgg 0 _).other hgg 1 _).store _ _ _ _) ((((((BB.out.setCell (p := ⟨W.heap.size, 0, none⟩) (hgl) _).setCell (p := ⟨W.heap.size, 1, none⟩) (hgl) _).setCell (p := ⟨w.heap.size, 0, none⟩) (Nat.le_refl _) _).setCell (p := ⟨w.heap.size, 1, none⟩) (Nat.le_refl _) _).setCell (p := ⟨w.heap.size, 2, none⟩) (Nat.le_refl _) _).setCell (p := ⟨w.heap.size, 3, none⟩) (Nat.le_refl _) _) (fun _ => ⟨by decide, ⟨at_ + 1, by simp, by omega, by omega⟩, ⟨by decide, by decide, by decide⟩⟩))
              go_roundw
              case rel => exact ⟨1, by omega, by go_num, trivial⟩
              case measure => simp [intOf]
            · go_wp2_with fail
              any_goals (exact tok_ret rfl rfl rfl (((T4.out.other hgg 0 _).other hgg 1 _).store _ _ _ _) ((((((BB.out.setCell (p := ⟨W.heap.size, 0, none⟩) (hgl) _).setCell (p := ⟨W.heap.size, 1, none⟩) (hgl) _).setCell (p := ⟨w.heap.size, 0, none⟩) (Nat.le_refl _) _).setCell (p := ⟨w.heap.size, 1, none⟩) (Nat.le_refl _) _).setCell (p := ⟨w.heap.size, 2, none⟩) (Nat.le_refl _) _).setCell (p := ⟨w.heap.size, 3, none⟩) (Nat.le_refl _) _) (fun _ => ⟨by decide, ⟨at_ + 1, by simp, by omega, by omega⟩, ⟨by decide, by decide, by decide⟩⟩))
              go_roundw
              case rel => exact ⟨2, by omega, by go_num, trivial⟩
              case measure => simp [intOf]
            · go_wp2_with fail
              any_goals (exact tok_ret rfl rfl rfl (((T4.out.other hgg 0 _).other hgg 1 _).store _ _ _ _) ((((((BB.out.setCell (p := ⟨W.heap.size, 0, none⟩) (hgl) _).setCell (p := ⟨W.heap.size, 1, none⟩) (hgl) _).setCell (p := ⟨w.heap.size, 0, none⟩) (Nat.le_refl _) _).setCell (p := ⟨w.heap.size, 1, none⟩) (Nat.le_refl _) _).setCell (p := ⟨w.heap.size, 2, none⟩) (Nat.le_refl _) _).setCell (p := ⟨w.heap.size, 3, none⟩) (Nat.le_refl _) _) (fun _ => ⟨by decide, ⟨at_ + 1, by simp, by omega, by omega⟩, ⟨by decide, by decide, by decide⟩⟩))
              go_roundw
              case rel => exact ⟨3, by omega, by go_num, trivial⟩
              case measure => simp [intOf]
            · go_wp2_with fail
              any_goals (exact tok_ret rfl rfl rfl (((T4.out.other hgg 0 _).other hgg 1 _).store _ _ _ _) ((((((BB.out.setCell (p := ⟨W.heap.size, 0, none⟩) (hgl) _).setCell (p := ⟨W.heap.size, 1, none⟩) (hgl) _).setCell (p := ⟨w.heap.size, 0, none⟩) (Nat.le_refl _) _).setCell (p := ⟨w.heap.size, 1, none⟩) (Nat.le_refl _) _).setCell (p := ⟨w.heap.size, 2, none⟩) (Nat.le_refl _) _).setCell (p := ⟨w.heap.size, 3, none⟩) (Nat.le_refl _) _) (fun _ => ⟨by decide, ⟨at_ + 1, by simp, by omega, by omega⟩, ⟨by decide, by decide, by decide⟩⟩))
              go_roundw
              case rel => exact ⟨4, by omega, by go_num, trivial⟩
              case measure => simp [intOf]
            · go_wp2_with fail
              any_goals (exact tok_ret rfl rfl rfl (((T4.out.other hgg 0 _).other hgg 1 _).store _ _ _ _) ((((((BB.out.setCell (p := ⟨W.heap.size, 0, none⟩) (hgl) _).setCell (p := ⟨W.heap.size, 1, none⟩) (hgl) _).setCell (p := ⟨w.heap.size, 0, none⟩) (Nat.le_refl _) _).setCell (p := ⟨w.heap.size, 1, none⟩) (Nat.le_refl _) _).setCell (p := ⟨w.heap.size, 2, none⟩) (Nat.le_refl _) _).setCell (p := ⟨w.heap.size, 3, none⟩) (Nat.le_refl _) _) (fun _ => ⟨by decide, ⟨at_ + 1, by simp, by omega, by omega⟩, ⟨by decide, by decide, by decide⟩⟩))
              go_roundw
              case rel => exact ⟨5, by omega, by go_num, trivial⟩
              case measure => simp [intOf]
            · go_wp2_with fail
              any_goals (exact tok_ret rfl rfl rfl (((T4.out.other hgg 0 _).other hgg 1 _).store _ _ _ _) ((((((BB.out.setCell (p := ⟨W.heap.size, 0, none⟩) (hgl) _).setCell (p := ⟨W.heap.size, 1, none⟩) (hgl) _).setCell (p := ⟨w.heap.size, 0, none⟩) (Nat.le_refl _) _).setCell (p := ⟨w.heap.size, 1, none⟩) (Nat.le_refl _) _).setCell (p := ⟨w.heap.size, 2, none⟩) (Nat.le_refl _) _).setCell (p := ⟨w.heap.size, 3, none⟩) (Nat.le_refl _) _) (fun _ => ⟨by decide, ⟨at_ + 1, by simp, by omega, by omega⟩, ⟨by decide, by decide, by decide⟩⟩))
              go_roundw
              case rel => exact ⟨6, by omega, by go_num, trivial⟩
              case measure => simp [intOf]
            · go_wp2_with fail
              any_goals (exact tok_ret rfl rfl rfl (((T4.out.other hgg 0 _).other hgg 1 _).store _ _ _ _) ((((((BB.out.setCell (p := ⟨W.heap.size, 0, none⟩) (hgl) _).setCell (p := ⟨W.heap.size, 1, none⟩) (hgl) _).setCell (p := ⟨w.heap.size, 0, none⟩) (Nat.le_refl _) _).setCell (p := ⟨w.heap.size, 1, none⟩) (Nat.le_refl _) _).setCell (p := ⟨w.heap.size, 2, none⟩) (Nat.le_refl _) _).setCell (p := ⟨w.heap.size, 3, none⟩) (Nat.le_refl _) _) (fun _ => ⟨by decide, ⟨at_ + 1, by simp, by omega, by omega⟩, ⟨by decide, by decide, by decide⟩⟩))
              go_roundw
              case rel => exact ⟨7, by omega, by go_num, trivial⟩
              case measure => simp [intOf]
            · go_wp2_with fail
              any_goals (exact tok_ret rfl rfl rfl (((T4.out.other hgg 0 _).other hgg 1 _).store _ _ _ _) ((((((BB.out.setCell (p := ⟨W.heap.size, 0, none⟩) (hgl) _).setCell (p := ⟨W.heap.size, 1, none⟩) (hgl) _).setCell (p := ⟨w.heap.size, 0, none⟩) (Nat.le_refl _) _).setCell (p := ⟨w.heap.size, 1, none⟩) (Nat.le_refl _) _).setCell (p := ⟨w.heap.size, 2, none⟩) (Nat.le_refl _) _).setCell (p := ⟨w.heap.size, 3, none⟩) (Nat.le_refl _) _) (fun _ => ⟨by decide, ⟨at_ + 1, by simp, by omega, by omega⟩, ⟨by decide, by decide, by decide⟩⟩))
              go_roundw
              case rel => exact ⟨8, by omega, by go_num, trivial⟩
              case measure => simp [intOf]
            · go_wp2_with fail
              any_goals (exact tok_ret rfl rfl rfl (((T4.out.other hgg 0 _).other hgg 1 _).store _ _ _ _) ((((((BB.out.setCell (p := ⟨W.heap.size, 0, none⟩) (hgl) _).setCell (p := ⟨W.heap.size, 1, none⟩) (hgl) _).setCell (p := ⟨w.heap.size, 0, none⟩) (Nat.le_refl _) _).setCell (p := ⟨w.heap.size, 1, none⟩) (Nat.le_refl _) _).setCell (p := ⟨w.heap.size, 2, none⟩) (Nat.le_refl _) _).setCell (p := ⟨w.heap.size, 3, none⟩) (Nat.le_refl _) _) (fun _ => ⟨by decide, ⟨at_ + 1, by simp, by omega, by omega⟩, ⟨by decide, by decide, by decide⟩⟩))
              go_roundw
              case rel => exact ⟨9, by omega, by go_num, trivial⟩
              case measure => simp [intOf]
            · go_wp2_with fail
              any_goals (exact tok_ret rfl rfl rfl (((T4.out.other hgg 0 _).other hgg 1 _).store _ _ _ _) ((((((BB.out.setCell (p := ⟨W.heap.size, 0, none⟩) (hgl) _).setCell (p := ⟨W.heap.size, 1, none⟩) (hgl) _).setCell (p := ⟨w.heap.size, 0, none⟩) (Nat.le_refl _) _).setCell (p := ⟨w.heap.size, 1, none⟩) (Nat.le_refl _) _).setCell (p := ⟨w.heap.size, 2, none⟩) (Nat.le_refl _) _).setCell (p := ⟨w.heap.size, 3, none⟩) (Nat.le_refl _) _) (fun _ => ⟨by decide, ⟨at_ + 1, by simp, by omega, by omega⟩, ⟨by decide, by decide, by decide⟩⟩))
              go_roundw
              case rel => exact ⟨10, by omega, by go_num, trivial⟩
              case measure => simp [intOf]
            · go_wp2_with fail
              any_goals (exact tok_ret rfl rfl rfl (((T4.out.other hgg 0 _).other hgg 1 _).store _ _ _ _) ((((((BB.out.setCell (p := ⟨W.heap.size, 0, none⟩) (hgl) _).setCell (p := ⟨W.heap.size, 1, none⟩) (hgl) _).setCell (p := ⟨w.heap.size, 0, none⟩) (Nat.le_refl _) _).setCell (p := ⟨w.heap.size, 1, none⟩) (Nat.le_refl _) _).setCell (p := ⟨w.heap.size, 2, none⟩) (Nat.le_refl _) _).setCell (p := ⟨w.heap.size, 3, none⟩) (Nat.le_refl _) _) (fun _ => ⟨by decide, ⟨at_ + 1, by simp, by omega, by omega⟩, ⟨by decide, by decide, by decide⟩⟩))
              go_roundw
              case rel => exact ⟨11, by omega, by go_num, trivial⟩
              case measure => simp [intOf]
            · go_wp2_with fail
              any_goals (exact tok_ret rfl rfl rfl (((T4.out.other hgg 0 _).other hgg 1 _).store _ _ _ _) ((((((BB.out.setCell (p := ⟨W.heap.size, 0, none⟩) (hgl) _).setCell (p := ⟨W.heap.size, 1, none⟩) (hgl) _).setCell (p := ⟨w.heap.size, 0, none⟩) (Nat.le_refl _) _).setCell (p := ⟨w.heap.size, 1, none⟩) (Nat.le_refl _) _).setCell (p := ⟨w.heap.size, 2, none⟩) (Nat.le_refl _) _).setCell (p := ⟨w.heap.size, 3, none⟩) (Nat.le_refl _) _) (fun _ => ⟨by decide, ⟨at_ + 1, by simp, by omega, by omega⟩, ⟨by decide, by decide, by decide⟩⟩))
              go_roundw
              case rel => exact ⟨12, by omega, by go_num, trivial⟩
              case measure => simp [intOf]
            · go_wp2_with fail
              any_goals (exact tok_ret rfl rfl rfl (((T4.out.other hgg 0 _).other hgg 1 _).store _ _ _ _) ((((((BB.out.setCell (p := ⟨W.heap.size, 0, none⟩) (hgl) _).setCell (p := ⟨W.heap.size, 1, none⟩) (hgl) _).setCell (p := ⟨w.heap.size, 0, none⟩) (Nat.le_refl _) _).setCell (p := ⟨w.heap.size, 1, none⟩) (Nat.le_refl _) _).setCell (p := ⟨w.heap.size, 2, none⟩) (Nat.le_refl _) _).setCell (p := ⟨w.heap.size, 3, none⟩) (Nat.le_refl _) _) (fun _ => ⟨by decide, ⟨at_ + 1, by simp, by omega, by omega⟩, ⟨by decide, by decide, by decide⟩⟩))
              go_roundw
              case rel => exact ⟨13, by omega, by go_num, trivial⟩
              case measure => simp [intOf]
          · obtain rfl : j = 13 := by omega
            go_wp2_with fail
            exact tok_ret rfl rfl rfl (T4.out.store _ _ _ _) ((((BB.out.setCell (p := ⟨w.heap.size, 0, none⟩) (Nat.le_refl _) _).setCell (p := ⟨w.heap.size, 1, none⟩) (Nat.le_refl _) _).setCell (p := ⟨w.heap.size, 2, none⟩) (Nat.le_refl _) _).setCell (p := ⟨w.heap.size, 3, none⟩) (Nat.le_refl _) _) (fun h => absurd h (by decide))
      · rw [hl] at LT
        have hak : at_ < k := SGN.out hl
        clear SGN hl
        go_upto_region 21 with (first | (go_at_call 66; refine (DG.out _).mono ?_; rintro e w' ⟨rfl, rfl⟩) | (go_at_call 67; refine (LT.out _).mono ?_; rintro e w' ⟨rfl, rfl⟩) | fail)
        obtain ⟨W2, hW2⟩ : ∃ W2, W2 = W.alloc (.cells #[.int .i64 0, .string ⟨#[]⟩, .int .u64 0, .int .i64 (at_ : Int)] 63) := ⟨_, rfl⟩
        have HW2 := Lib.hid hW2
        have h2 : IsBy W2 (some ⟨b, o, none⟩) n cap x := by rw [hW2]; exact h1.keep (below_new _ _)
        have T9 : Hid (Tv W2 W.heap.size 0 ⟨#[]⟩ 0 at_) := Lib.hid (by rw [hW2]; exact Tv.new _ _ _ _ _)
        have T4 : Hid (Tv W2 w.heap.size 0 ⟨#[]⟩ 0 0) := Lib.hid (by rw [hW2]; refine Tv.keep ?_ (below_new _ _); rw [HW.out]; exact Tv.new _ _ _ _ _)
        have BB : Hid (Below w.heap.size w W2) := Lib.hid (by rw [hW2]; refine Below.trans ?_ ((below_new W _).mono (by rw [HW.out]; simp)); rw [HW.out]; exact below_new _ _)
        have hgg : w.heap.size ≠ W.heap.size := by rw [HW.out]; simp
        have hgl : w.heap.size ≤ W.heap.size := by rw [HW.out]; simp
        rw [← hW2]
        clear hW2
        have y0 := T9.out.c0
        have y1 := T9.out.c1
        have y2 := T9.out.c2
        have y3 := T9.out.c3
        have z0 := T4.out.c0
        have z1 := T4.out.c1
        have z2 := T4.out.c2
        have z3 := T4.out.c3
        have zf := T4.out.free
        have yf := T9.out.free
        have hki : (k : Int) ≤ (n : Int) := by omega
        have hak2 : (at_ : Int) ≤ (k : Int) := by omega
        have hnc := h2.le
        have hnc2 : (n : Int) ≤ (cap : Int) := by omega
        obtain ⟨S, hSs, CV⟩ : ∃ S : ByteArray, S.size = k - at_ ∧ (convert 22 9 (.slice (some ⟨b, o + at_, none⟩) (k - at_) (cap - at_))).run Try.prog W2 = .ok (.string S) W2 := by
          refine ⟨strOfNums ((List.range (k - at_)).map fun i => x (at_ + i)), by rw [strOfNums_size]; simp, run_convert_bytes_arg W2 _ _ Try.underlying22 Try.underlying5 b (o + at_) (k - at_) (cap - at_) _ (by simp) (fun i hi => ?_) _ Try.underlying9⟩
          obtain ⟨b', o', hA, hb', g1⟩ := h2.cell (k := at_ + i) (by omega)
          obtain ⟨rfl, rfl⟩ : b = b' ∧ o = o' := by simpa using hA
          rw [Nat.add_assoc, g1]
          simp [List.getD, hi]
        clear h2 g0
        go_upto_region 23 with fail
        have T9b := Lib.hid ((T9.out.set1 S).set0 1)
        have T4b := Lib.hid ((T4.out.other hgg 1 (.string S)).other hgg 0 (.int .i64 1))
        have BBb := Lib.hid ((BB.out.setCell (p := ⟨W.heap.size, 1, none⟩) hgl (.string S)).setCell (p := ⟨W.heap.size, 0, none⟩) hgl (.int .i64 1))
        obtain ⟨W3, hW3⟩ : ∃ W3, (W2.setCell ⟨W.heap.size, 1, none⟩ (.string S)).setCell ⟨W.heap.size, 0, none⟩ (.int .i64 1) = W3 := ⟨_, rfl⟩
        rw [hW3] at T9b T4b BBb
        try rw [hW3]
        clear hW3 CV T9 T4 BB y0 y1 y2 y3 z0 z1 z2 z3 zf yf
        have y1 := T9b.out.c1
        go_wp2_with fail
        refine (word_any S _).mono ?_
        rintro e W4 ⟨bb, rfl, hb4⟩
        have T9 := Lib.hid (T9b.out.keep hb4)
        have T4 := Lib.hid (T4b.out.keep hb4)
        have BB := Lib.hid (BBb.out.trans (hb4.mono BBb.out.size))
        clear T9b T4b BBb hb4 y1
        have y0 := T9.out.c0
        have y1 := T9.out.c1
        have y2 := T9.out.c2
        have y3 := T9.out.c3
        have z0 := T4.out.c0
        have z1 := T4.out.c1
        have z2 := T4.out.c2
        have z3 := T4.out.c3
        have zf := T4.out.free
        have yf := T9.out.free
        cases bb
        · by_cases h16 : 16 < S.size
          · have d0 : decide (16 < (S.size : Int)) = true := decide_eq_true (by omega)
            go_wp2_with fail
            exact tok_ret rfl rfl rfl (T4.out.store _ _ _ _) ((((BB.out.setCell (p := ⟨w.heap.size, 0, none⟩) (Nat.le_refl _) _).setCell (p := ⟨w.heap.size, 1, none⟩) (Nat.le_refl _) _).setCell (p := ⟨w.heap.size, 2, none⟩) (Nat.le_refl _) _).setCell (p := ⟨w.heap.size, 3, none⟩) (Nat.le_refl _) _) (fun h => absurd h (by decide))
          · have d0 : decide (16 < (S.size : Int)) = false := decide_eq_false (by omega)
            go_wp2_with fail
            exact tok_ret rfl rfl rfl (T4.out.store _ _ _ _) ((((BB.out.setCell (p := ⟨w.heap.size, 0, none⟩) (Nat.le_refl _) _).setCell (p := ⟨w.heap.size, 1, none⟩) (Nat.le_refl _) _).setCell (p := ⟨w.heap.size, 2, none⟩) (Nat.le_refl _) _).setCell (p := ⟨w.heap.size, 3, none⟩) (Nat.le_refl _) _) (fun _ => ⟨by decide, ⟨k, rfl, hak, hk⟩, ⟨by rw [hSs]; unfold maxLen; omega, by decide, by decide⟩⟩)
        · go_wp2_with fail
          exact tok_ret rfl rfl rfl ((T4.out.other hgg 0 _).store _ _ _ _) (((((BB.out.setCell (p := ⟨W.heap.size, 0, none⟩) (hgl) _).setCell (p := ⟨w.heap.size, 0, none⟩) (Nat.le_refl _) _).setCell (p := ⟨w.heap.size, 1, none⟩) (Nat.le_refl _) _).setCell (p := ⟨w.heap.size, 2, none⟩) (Nat.le_refl _) _).setCell (p := ⟨w.heap.size, 3, none⟩) (Nat.le_refl _) _) (fun _ => ⟨by decide, ⟨k, rfl, hak, hk⟩, ⟨by rw [hSs]; unfold maxLen; omega, by decide, by decide⟩⟩)
    · rw [hd] at DG
      have hak : at_ < k := hsg (by unfold sg; rw [hd]; simp)
      clear hsg hd hc
      go_wp2_with (go_at_call 66; refine (DG.out _).mono ?_; rintro e w' ⟨rfl, rfl⟩)
      obtain ⟨W2, hW2⟩ : ∃ W2, W2 = W.alloc (.cells #[.int .i64 0, .string ⟨#[]⟩, .int .u64 0, .int .i64 (at_ : Int)] 63) := ⟨_, rfl⟩
      have HW2 := Lib.hid hW2
      have h2 : IsBy W2 (some ⟨b, o, none⟩) n cap x := by rw [hW2]; exact h1.keep (below_new _ _)
      have T9 : Hid (Tv W2 W.heap.size 0 ⟨#[]⟩ 0 at_) := Lib.hid (by rw [hW2]; exact Tv.new _ _ _ _ _)
      have T4 : Hid (Tv W2 w.heap.size 0 ⟨#[]⟩ 0 0) := Lib.hid (by rw [hW2]; refine Tv.keep ?_ (below_new _ _); rw [HW.out]; exact Tv.new _ _ _ _ _)
      have BB : Hid (Below w.heap.size w W2) := Lib.hid (by rw [hW2]; refine Below.trans ?_ ((below_new W _).mono (by rw [HW.out]; simp)); rw [HW.out]; exact below_new _ _)
      have hgg : w.heap.size ≠ W.heap.size := by rw [HW.out]; simp
      have hgl : w.heap.size ≤ W.heap.size := by rw [HW.out]; simp
      rw [← hW2]
      clear hW2
      clear DG LT g0
      go_loopw [10, 11] (fun z i wr => ∃ (j : Nat) (y : Int), at_ ≤ j ∧ j ≤ k ∧ i = .int .i64 j ∧ z = .int .u64 y ∧ 0 ≤ y ∧ y < 18446744073709551616 ∧ W2 = wr) (fun _ i _ => k - (intOf i).toNat)
      case atStart => exact ⟨at_, 0, Nat.le_refl _, hk0, rfl, rfl, by decide, by decide, rfl⟩
      case round =>
        obtain ⟨j, y, hj0, hj, rfl, rfl, hy0, hy1, rfl⟩ := hrel
        have HY := Lib.hid (And.intro hy0 hy1)
        clear hy0 hy1
        have y0 := T9.out.c0
        have y1 := T9.out.c1
        have y2 := T9.out.c2
        have y3 := T9.out.c3
        have z0 := T4.out.c0
        have z1 := T4.out.c1
        have z2 := T4.out.c2
        have z3 := T4.out.c3
        have zf := T4.out.free
        have yf := T9.out.free
        by_cases hjk : j < k
        · have d0 : decide ((j : Int) < (k : Int)) = true := decide_eq_true (by omega)
          have hji : (j : Int) < (n : Int) := by omega
          obtain ⟨b', o', hA, hb', g1⟩ := h2.cell (k := j) (by omega)
          obtain ⟨rfl, rfl⟩ : b = b' ∧ o = o' := by simpa using hA
          clear hA
          have DJ := Lib.hid (digit_any (x j))
          cases hd : dg (x j)
          · rw [hd] at DJ
            clear hd
            generalize x j = v at *
            go_wp2_with (go_at_call 66; refine (DJ.out _).mono ?_; rintro e w' ⟨rfl, rfl⟩)
            exact tok_ret rfl rfl rfl (T4.out.store _ _ _ _) ((((BB.out.setCell (p := ⟨w.heap.size, 0, none⟩) (Nat.le_refl _) _).setCell (p := ⟨w.heap.size, 1, none⟩) (Nat.le_refl _) _).setCell (p := ⟨w.heap.size, 2, none⟩) (Nat.le_refl _) _).setCell (p := ⟨w.heap.size, 3, none⟩) (Nat.le_refl _) _) (fun h => absurd h (by decide))
          · rw [hd] at DJ
            clear hd
            generalize x j = v at *
            go_wp2_with (go_at_call 66; refine (DJ.out _).mono ?_; rintro e w' ⟨rfl, rfl⟩)
            any_goals (exact tok_ret rfl rfl rfl (T4.out.store _ _ _ _) ((((BB.out.setCell (p := ⟨w.heap.size, 0, none⟩) (Nat.le_refl _) _).setCell (p := ⟨w.heap.size, 1, none⟩) (Nat.le_refl _) _).setCell (p := ⟨w.heap.size, 2, none⟩) (Nat.le_refl _) _).setCell (p := ⟨w.heap.size, 3, none⟩) (Nat.le_refl _) _) (fun h => absurd h (by decide)))
            go_roundw
            case rel => exact ⟨j + 1, _, by omega, by omega, by go_num, rfl, u64_lo _, u64_hi _, trivial⟩
            case measure => simp [intOf]; omega
        · obtain rfl : j = k := by omega
          clear hjk
          by_cases h48 : c = 48
          · subst h48
            by_cases hj1 : at_ + 1 < j
            · have i1 : IntKind.i64.wrap ((at_ : Int) + 1) = (at_ : Int) + 1 := IntWalk.i64_in _ ⟨by omega, by omega⟩
              have d1 : decide ((at_ : Int) + 1 < (j : Int)) = true := decide_eq_true (by omega)
              go_wp2_with fail
              exact tok_ret rfl rfl rfl (T4.out.store _ _ _ _) ((((BB.out.setCell (p := ⟨w.heap.size, 0, none⟩) (Nat.le_refl _) _).setCell (p := ⟨w.heap.size, 1, none⟩) (Nat.le_refl _) _).setCell (p := ⟨w.heap.size, 2, none⟩) (Nat.le_refl _) _).setCell (p := ⟨w.heap.size, 3, none⟩) (Nat.le_refl _) _) (fun h => absurd h (by decide))
            · have i1 : IntKind.i64.wrap ((at_ : Int) + 1) = (at_ : Int) + 1 := IntWalk.i64_in _ ⟨by omega, by omega⟩
              have d1 : decide ((at_ : Int) + 1 < (j : Int)) = false := decide_eq_false (by omega)
              go_wp2_with fail
              exact tok_ret rfl rfl rfl (((T4.out.other hgg 0 _).other hgg 2 _).store _ _ _ _) ((((((BB.out.setCell (p := ⟨W.heap.size, 0, none⟩) (hgl) _).setCell (p := ⟨W.heap.size, 2, none⟩) (hgl) _).setCell (p := ⟨w.heap.size, 0, none⟩) (Nat.le_refl _) _).setCell (p := ⟨w.heap.size, 1, none⟩) (Nat.le_refl _) _).setCell (p := ⟨w.heap.size, 2, none⟩) (Nat.le_refl _) _).setCell (p := ⟨w.heap.size, 3, none⟩) (Nat.le_refl _) _) (fun _ => ⟨by decide, ⟨j, rfl, by omega, by omega⟩, ⟨by decide, HY.out.1, HY.out.2⟩⟩)
          · have t48 : (c == 48) = false := by simpa using h48
            go_wp2_with fail
            exact tok_ret rfl rfl rfl (((T4.out.other hgg 0 _).other hgg 2 _).store _ _ _ _) ((((((BB.out.setCell (p := ⟨W.heap.size, 0, none⟩) (hgl) _).setCell (p := ⟨W.heap.size, 2, none⟩) (hgl) _).setCell (p := ⟨w.heap.size, 0, none⟩) (Nat.le_refl _) _).setCell (p := ⟨w.heap.size, 1, none⟩) (Nat.le_refl _) _).setCell (p := ⟨w.heap.size, 2, none⟩) (Nat.le_refl _) _).setCell (p := ⟨w.heap.size, 3, none⟩) (Nat.le_refl _) _) (fun _ => ⟨by decide, ⟨j, rfl, by omega, by omega⟩, ⟨by decide, HY.out.1, HY.out.2⟩⟩)
end Go.Proofs.Ytapnnbbbgopobaa.Lx
