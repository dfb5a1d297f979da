/-
  WALKS: the reference's reader: an expression.
-/
import Derived.Test.YtapnnbbbgopobaaRdC
import Derived.Deep.CutBlock
import Derived.Deep.DeepCutAuto
set_option linter.unusedVariables false
set_option linter.unusedSimpArgs false
namespace Go.Proofs.Ytapnnbbbgopobaa.Rr
open Go.RowKit Cm Mm Ow Me Ml Lg Lx
def exP (P : Nat → Prop) (w : World) : Ex → List Value → Prop
  | .num n, vs => vs = [.int .i64 0, .int .u64 n, .int .u8 0, .string ⟨#[]⟩, .slice none 0 0] ∧ 0 ≤ n ∧ n < 18446744073709551616
  | .name s, vs => vs = [.int .i64 1, .int .u64 0, .int .u8 0, .string s, .slice none 0 0] ∧ s.size ≤ maxLen
  | .op o a b, vs => ∃ blk va vb, vs = [.int .i64 2, .int .u64 0, .int .u8 o, .string ⟨#[]⟩, .slice (some ⟨blk, 0, none⟩) 2 2] ∧ P blk ∧ blk < w.heap.size ∧ (∀ j, j < 5 → w.cell? ⟨blk, j, none⟩ = va[j]?) ∧ (∀ j, j < 5 → w.cell? ⟨blk, 5 + j, none⟩ = vb[j]?) ∧ exP P w a va ∧ exP P w b vb
theorem exP_of {B : Nat} {P : Nat → Prop} {w : World} (hP : ∀ b, B ≤ b → b < w.heap.size → P b) : ∀ {x : Ex} {vs : List Value}, exV B w x vs → exP P w x vs
  | .num n, vs, h => h
  | .name s, vs, h => h
  | .op o a b, vs, h => by
    unfold exV at h
    unfold exP
    obtain ⟨blk, va, vb, h0, h1, h2, h3, h4, h5, h6⟩ := h
    exact ⟨blk, va, vb, h0, hP blk h1 h2, h2, h3, h4, exP_of hP h5, exP_of hP h6⟩
theorem exV_of {B : Nat} {P : Nat → Prop} {w : World} (hP : ∀ b, P b → B ≤ b) : ∀ {x : Ex} {vs : List Value}, exP P w x vs → exV B w x vs
  | .num n, vs, h => h
  | .name s, vs, h => h
  | .op o a b, vs, h => by
    unfold exP at h
    unfold exV
    obtain ⟨blk, va, vb, h0, h1, h2, h3, h4, h5, h6⟩ := h
    exact ⟨blk, va, vb, h0, hP blk h1, h2, h3, h4, exV_of hP h5, exV_of hP h6⟩
theorem exP_only {G : List Nat} {P : Nat → Prop} {w w' : World} (ho : Only G w w') (hG : ∀ g ∈ G, ¬ P g) : ∀ {x : Ex} {vs : List Value}, exP P w x vs → exP P w' x vs
  | .num n, vs, h => h
  | .name s, vs, h => h
  | .op o a b, vs, h => by
    unfold exP at h ⊢
    obtain ⟨blk, va, vb, h0, h1, h2, h3, h4, h5, h6⟩ := h
    have hn : blk ∉ G := fun hx => hG blk hx h1
    exact ⟨blk, va, vb, h0, h1, Nat.lt_of_lt_of_le h2 ho.size, fun j hj => (only_cell ho h2 hn j).trans (h3 j hj), fun j hj => (only_cell ho h2 hn (5 + j)).trans (h4 j hj), exP_only ho hG h5, exP_only ho hG h6⟩
theorem exP_keep {P : Nat → Prop} {w w' : World} (hb : Below w.heap.size w w') {x : Ex} {vs : List Value} (h : exP P w x vs) : exP P w' x vs := exP_only (G := []) (Only.of_below hb) (fun g hg => by cases hg) h
theorem exP_set5 {P : Nat → Prop} {w : World} {x : Ex} {vs : List Value} (h : exP P w x vs) {g : Nat} (hg : ¬ P g) (a b c d e : Value) : exP P (((((w.setCell ⟨g, 0, none⟩ a).setCell ⟨g, 1, none⟩ b).setCell ⟨g, 2, none⟩ c).setCell ⟨g, 3, none⟩ d).setCell ⟨g, 4, none⟩ e) x vs := by
  have one : ∀ {w1 : World}, exP P w1 x vs → ∀ (k : Nat) (v : Value), exP P (w1.setCell ⟨g, k, none⟩ v) x vs := fun {w1} h1 k v => exP_only (only_q w1 g k v) (fun y hy => by simp at hy; subst hy; exact hg) h1
  exact one (one (one (one (one h 0 a) 1 b) 2 c) 3 d) 4 e
theorem past5 {W : World} {g : Nat} (h : g < W.heap.size) (a b c d e : Value) (o : Obj) : (((((W.setCell ⟨g, 0, none⟩ a).setCell ⟨g, 1, none⟩ b).setCell ⟨g, 2, none⟩ c).setCell ⟨g, 3, none⟩ d).setCell ⟨g, 4, none⟩ e).alloc o = ((((((W.alloc o).setCell ⟨g, 0, none⟩ a).setCell ⟨g, 1, none⟩ b).setCell ⟨g, 2, none⟩ c).setCell ⟨g, 3, none⟩ d).setCell ⟨g, 4, none⟩ e) := by
  symm
  rw [World.setCell_alloc_past o g 0 a h]
  rw [World.setCell_alloc_past]
  rw [World.setCell_alloc_past]
  rw [World.setCell_alloc_past]
  rw [World.setCell_alloc_past]
  all_goals (simpa using h)
def rdM (n : Nat) (w : World) (q : Nat) : Nat := match w.cell? ⟨q, 2, none⟩, w.cell? ⟨q, 1, none⟩ with
  | some (.int _ e), some (.int _ a) => if e = 0 then n - a.toNat + 1 else 0
  | _, _ => 0
theorem Rd.meas {w : World} {q : Nat} {f : Fx} {at_ : Nat} {e bad : Int} (h : Rd w q f at_ e bad) : rdM f.n w q = if e = 0 then f.n - at_ + 1 else 0 := by
  unfold rdM
  rw [h.c1, h.c2]
  simp
def isOp (c : Int) : Bool := c == 43 || c == 45 || c == 42 || c == 38 || c == 61 || c == 60
def ExL (w : World) (q g4 g5 : Nat) (f : Fx) (at_ : Nat) (e : Int) (wr : World) : Prop :=
  ∃ (at2 : Nat) (e2 bad2 : Int) (v0 v1 v2 : Int) (v3 : ByteArray) (vA : Option Addr) (vm vc : Nat), Rd wr q f at2 e2 bad2 ∧ Xv wr g5 [.int .i64 v0, .int .u64 v1, .int .u8 v2, .string v3, .slice vA vm vc] ∧ Xv wr g4 [.int .i64 0, .int .u64 0, .int .u8 0, .string ⟨#[]⟩, .slice none 0 0] ∧ Only [q] w wr ∧ at_ ≤ at2 ∧ (e2 = 0 → e = 0 ∧ at_ < at2 ∧ ∃ x, exP (fun b => g4 < b ∧ b ≠ g5) wr x [.int .i64 v0, .int .u64 v1, .int .u8 v2, .string v3, .slice vA vm vc] ∧ at_ + lv x ≤ at2)
set_option maxRecDepth 20000 in
set_option maxHeartbeats 6400000 in
theorem expr_of (d : Int) (hP : Po d) : Eo d := by
  refine ⟨fun {w q f at_ e bad} h hn => ?_⟩
  have hq := h.qlt
  have H0 := Lib.hid (h.keep (below_new w (.cells #[.int .i64 0, .int .u64 0, .int .u8 0, .string ⟨#[]⟩, .slice none 0 0] 120)))
  have X0 := Lib.hid (Xv.new w [.int .i64 0, .int .u64 0, .int .u8 0, .string ⟨#[]⟩, .slice none 0 0])
  have HP := Lib.hid hP
  have B0 := Lib.hid (below_new w (.cells #[.int .i64 0, .int .u64 0, .int .u8 0, .string ⟨#[]⟩, .slice none 0 0] 120))
  have hz0 : (w.alloc (.cells #[.int .i64 0, .int .u64 0, .int .u8 0, .string ⟨#[]⟩, .slice none 0 0] 120)).heap.size = w.heap.size + 1 := by simp
  clear h hP
  go_enter Try.func82, Try.ntmps82
  go_wp2_with fail
  refine (HP.out.go H0.out hn).mono ?_
  rintro en w1 ⟨vs, at1, e1, bad1, rfl, ⟨v0, v1, v2, v3, vA, vm, vc, rfl⟩, h1, ho1, hat1, hok1⟩
  have bn := below_new w1 (.cells #[.int .i64 v0, .int .u64 v1, .int .u8 v2, .string v3, .slice vA vm vc] 120)
  have hs1 := ho1.size
  have hg5q : w1.heap.size ≠ q := by omega
  have hg45 : w.heap.size < w1.heap.size := by omega
  have R1 := Lib.hid (h1.keep bn)
  have X4 := Lib.hid ((X0.out.only ho1 (by simp; omega)).keep bn)
  have X5 := Lib.hid (Xv.new w1 [.int .i64 v0, .int .u64 v1, .int .u8 v2, .string v3, .slice vA vm vc])
  have O1 := Lib.hid (((Only.of_below (F := [q]) B0.out).seq ho1).seq (Only.of_below bn))
  have K1 : Hid (e1 = 0 → e = 0 ∧ at_ < at1 ∧ ∃ x, exP (fun b => w.heap.size < b ∧ b ≠ w1.heap.size) (w1.alloc (.cells #[.int .i64 v0, .int .u64 v1, .int .u8 v2, .string v3, .slice vA vm vc] 120)) x [.int .i64 v0, .int .u64 v1, .int .u8 v2, .string v3, .slice vA vm vc] ∧ at_ + lv x ≤ at1) := Lib.hid (fun h0 => by
    obtain ⟨he, hlt, x, hx, hl⟩ := hok1 h0
    rw [hz0] at hx
    exact ⟨he, hlt, x, exP_keep bn (exP_of (fun b hb hb2 => ⟨by omega, by omega⟩) hx), hl⟩)
  clear h1 ho1 hok1 X0 B0 H0 bn hz0 hs1
  go_upto_block 0 with fail
  obtain ⟨W, hW⟩ : ∃ W, w1.alloc (.cells #[.int .i64 v0, .int .u64 v1, .int .u8 v2, .string v3, .slice vA vm vc] 120) = W := ⟨_, rfl⟩
  rw [hW] at R1 X4 O1 K1
  rw [show w1.alloc (.cells ([.int .i64 v0, .int .u64 v1, .int .u8 v2, .string v3, .slice vA vm vc] : List Value).toArray 120) = W from hW] at X5
  try rw [hW]
  clear hW
  generalize hg5e : w1.heap.size = g5 at *
  clear hg5e
  have L0 : Hid (ExL w q w.heap.size g5 f at_ e W) := Lib.hid ⟨at1, e1, bad1, v0, v1, v2, v3, vA, vm, vc, R1.out, X5.out, X4.out, O1.out, hat1, K1.out⟩
  generalize hg4 : w.heap.size = g4 at *
  have HG := Lib.hid hg4
  clear hg4
  have hq4 : q < g4 := hq
  clear R1 X5 X4 O1 K1 hat1
  go_cut [] (fun wx => ExL w q g4 g5 f at_ e wx)
  case first =>
    go_wp2_with fail
    go_loopw [] (fun wr => ExL w q g4 g5 f at_ e wr) (fun wr => rdM f.n wr q)
    case atStart => exact L0.out
    case round =>
      obtain ⟨at2, e2, bad2, v0, v1, v2, v3, vA, vm, vc, hR, hX5, hX4, hO, hat2, hok2⟩ := hrel
      have R := Lib.hid hR
      have X5 := Lib.hid hX5
      have X4 := Lib.hid hX4
      have O := Lib.hid hO
      have K2 := Lib.hid hok2
      have HRW := Lib.hid hR.meas
      clear hR hX5 hX4 hO hok2 L0
      have c1 := R.out.c1
      have c2 := R.out.c2
      by_cases he : e2 = 0
      · have K3 := Lib.hid (K2.out he)
        clear K2
        subst he
        go_wp2_with fail
        refine (now_any R.out).mono ?_
        rintro en w6 ⟨kd, tx, nn, a2, rfl, hb6, hts, hend⟩
        have bn := below_new w6 (.cells #[.int .i64 kd, .string tx, .int .u64 nn, .int .i64 a2] 63)
        have hb := hb6.trans (bn.mono hb6.size)
        have hs6 := hb6.size
        have hg56 : g5 < w6.heap.size := Nat.lt_of_lt_of_le X5.out.lt hs6
        have R6 := Lib.hid (R.out.keep hb)
        have X56 := Lib.hid (X5.out.keep hb)
        have X46 := Lib.hid (X4.out.keep hb)
        have O6 := Lib.hid (O.out.seq (Only.of_below hb))
        have T6 := Lib.hid (Tv.new w6 kd tx nn a2)
        have K6 : Hid (e = 0 ∧ at_ < at2 ∧ ∃ x, exP (fun b => g4 < b ∧ b ≠ g5) (w6.alloc (.cells #[.int .i64 kd, .string tx, .int .u64 nn, .int .i64 a2] 63)) x [.int .i64 v0, .int .u64 v1, .int .u8 v2, .string v3, .slice vA vm vc] ∧ at_ + lv x ≤ at2) := Lib.hid (by
          obtain ⟨he, hlt, x, hx, hl⟩ := K3.out
          exact ⟨he, hlt, x, exP_keep hb hx, hl⟩)
        have HE := Lib.hid hend
        have hqw : q ≠ w6.heap.size := by have := R.out.qlt; omega
        clear hb hb6 bn hend hts c1 c2 K3 R X5 X4 O
        go_upto_region 4 with fail
        obtain ⟨W6, hW⟩ : ∃ W6, w6.alloc (.cells #[.int .i64 kd, .string tx, .int .u64 nn, .int .i64 a2] 63) = W6 := ⟨_, rfl⟩
        rw [hW] at R6 X56 X46 O6 K6 T6
        try rw [hW]
        clear hW hs6
        generalize w6.heap.size = g6 at *
        have c1 := R6.out.c1
        have c2 := R6.out.c2
        have cf := R6.out.free
        have t0 := T6.out.c0
        have t1 := T6.out.c1
        have hlt := R6.out.lt
        by_cases hk3 : kd = 3
        · subst hk3
          by_cases hs1 : tx.size = 1
          · obtain ⟨c, hidx⟩ : ∃ c : Int, ∀ W : World, (Instr.index 9 (.string tx) (.int .i64 0)).run Try.prog W = .ok (.int .u8 c) W := ⟨_, fun W => by rw [run_index_string W _ _ _ _ Try.underlying9, dif_pos ⟨by omega, by omega⟩]⟩
            have d1 : ((tx.size : Int) == 1) = true := by rw [hs1]; rfl
            have hn1 : at2 + 1 < f.n := by
              rcases Nat.lt_or_ge (at2 + 1) f.n with h | h
              · exact h
              · exact absurd (HE.out (by omega)) (by decide)
            clear hs1
            go_upto_region 7 with fail
            go_cut [52] (fun s52 wx => s52 = .bool (!isOp c) ∧ W6 = wx)
            case first =>
              by_cases c43 : c = 43
              · subst c43
                go_wp2_with fail
                go_meet
                case rel => exact ⟨rfl, rfl⟩
              have n43 : (c != 43) = true := by simpa using c43
              have m43 : (c == 43) = false := by simpa using c43
              clear c43
              by_cases c45 : c = 45
              · subst c45
                go_wp2_with fail
                go_meet
                case rel => exact ⟨rfl, rfl⟩
              have n45 : (c != 45) = true := by simpa using c45
              have m45 : (c == 45) = false := by simpa using c45
              clear c45
              by_cases c42 : c = 42
              · subst c42
                go_wp2_with fail
                go_meet
                case rel => exact ⟨rfl, rfl⟩
              have n42 : (c != 42) = true := by simpa using c42
              have m42 : (c == 42) = false := by simpa using c42
              clear c42
              by_cases c38 : c = 38
              · subst c38
                go_wp2_with fail
                go_meet
                case rel => exact ⟨rfl, rfl⟩
              have n38 : (c != 38) = true := by simpa using c38
              have m38 : (c == 38) = false := by simpa using c38
              clear c38
              by_cases c61 : c = 61
              · subst c61
                go_wp2_with fail
                go_meet
                case rel => exact ⟨rfl, rfl⟩
              have n61 : (c != 61) = true := by simpa using c61
              have m61 : (c == 61) = false := by simpa using c61
              clear c61
              by_cases c60 : c = 60
              · subst c60
                go_wp2_with fail
                go_meet
                case rel => exact ⟨rfl, rfl⟩
              have n60 : (c != 60) = true := by simpa using c60
              have m60 : (c == 60) = false := by simpa using c60
              clear c60
              go_wp2_with fail
              go_meet
              case rel => exact ⟨by simp [isOp, m43, m45, m42, m38, m61, m60], rfl⟩
            case rest =>
              obtain ⟨rfl, rfl⟩ := hcut
              cases hop : isOp c
              · go_wp2_with fail
                go_meet
                case rel => exact ⟨at2, 0, bad2, v0, v1, v2, v3, vA, vm, vc, R6.out, X56.out, X46.out, O6.out, hat2, fun _ => K6.out⟩
              · have i1 : IntKind.i64.wrap ((at2 : Int) + 1) = (at2 : Int) + 1 := IntWalk.i64_in _ ⟨by omega, by omega⟩
                have R7 := Lib.hid (R6.out.step hn1)
                have X57 := Lib.hid (X56.out.other (k := q) (by omega) 1 (.int .i64 ((at2 : Int) + 1)))
                have X47 := Lib.hid (X46.out.other (k := q) (by omega) 1 (.int .i64 ((at2 : Int) + 1)))
                have O7 := Lib.hid (O6.out.seq (only_q W6 q 1 (.int .i64 ((at2 : Int) + 1))))
                have K7 := Lib.hid (by
                  obtain ⟨he, hlt, x, hx, hl⟩ := K6.out
                  exact (⟨he, hlt, x, exP_only (only_q W6 q 1 (.int .i64 ((at2 : Int) + 1))) (fun g hg => by simp at hg; omega) hx, hl⟩ : e = 0 ∧ at_ < at2 ∧ ∃ x, exP (fun b => g4 < b ∧ b ≠ g5) (W6.setCell ⟨q, 1, none⟩ (.int .i64 ((at2 : Int) + 1))) x [.int .i64 v0, .int .u64 v1, .int .u8 v2, .string v3, .slice vA vm vc] ∧ at_ + lv x ≤ at2))
                clear hop
                go_upto_region 9 with fail
                obtain ⟨W7, hW⟩ : ∃ W7, W6.setCell ⟨q, 1, none⟩ (.int .i64 ((at2 : Int) + 1)) = W7 := ⟨_, rfl⟩
                rw [hW] at R7 X57 X47 O7 K7
                try rw [hW]
                clear hW R6 X56 X46 O6 K6 c1 c2 cf t0 t1 T6 hidx
                have h57 := X57.out.lt
                go_wp2_with fail
                refine (HP.out.go R7.out hn).mono ?_
                rintro en w8 ⟨vs, at8, e8, bad8, rfl, ⟨y0, y1, y2, y3, yA, ym, yc, rfl⟩, h8, ho8, hat8, hok8⟩
                have bn := below_new w8 (.cells #[.int .i64 y0, .int .u64 y1, .int .u8 y2, .string y3, .slice yA ym yc] 120)
                have hs8 := ho8.size
                have hq8 := h8.qlt
                have R8 := Lib.hid (h8.keep bn)
                have X58 := Lib.hid ((X57.out.only ho8 (by simp; omega)).keep bn)
                have X48 := Lib.hid ((X47.out.only ho8 (by simp; omega)).keep bn)
                have O8 := Lib.hid ((O7.out.seq ho8).seq (Only.of_below bn))
                have X8 := Lib.hid (Xv.new w8 [.int .i64 y0, .int .u64 y1, .int .u8 y2, .string y3, .slice yA ym yc])
                have K8 : Hid (e8 = 0 → e = 0 ∧ at_ < at8 ∧ at2 < at8 ∧ (∃ x, exP (fun b => g4 < b ∧ b ≠ g5) (w8.alloc (.cells #[.int .i64 y0, .int .u64 y1, .int .u8 y2, .string y3, .slice yA ym yc] 120)) x [.int .i64 v0, .int .u64 v1, .int .u8 v2, .string v3, .slice vA vm vc] ∧ at_ + lv x ≤ at2) ∧ ∃ y, exP (fun b => g4 < b ∧ b ≠ g5) (w8.alloc (.cells #[.int .i64 y0, .int .u64 y1, .int .u8 y2, .string y3, .slice yA ym yc] 120)) y [.int .i64 y0, .int .u64 y1, .int .u8 y2, .string y3, .slice yA ym yc] ∧ at2 + 1 + lv y ≤ at8) := Lib.hid (fun h0 => by
                  obtain ⟨-, hlt8, y, hy, hly⟩ := hok8 h0
                  obtain ⟨he, hlt, x, hx, hl⟩ := K7.out
                  exact ⟨he, by omega, by omega, ⟨x, exP_keep bn (exP_only ho8 (fun g hg => by simp at hg; omega) hx), hl⟩, y, exP_keep bn (exP_of (fun b hb hb2 => ⟨by have := X47.out.lt; omega, by omega⟩) hy), hly⟩)
                have hgq8 : q ≠ w8.heap.size := by omega
                have hg58 : g5 ≠ w8.heap.size := by omega
                clear h8 ho8 hok8 K7 X57 X47 O7 R7
                go_upto_region 10 with fail
                obtain ⟨W8, hW⟩ : ∃ W8, w8.alloc (.cells #[.int .i64 y0, .int .u64 y1, .int .u8 y2, .string y3, .slice yA ym yc] 120) = W8 := ⟨_, rfl⟩
                rw [hW] at R8 X58 X48 O8 K8
                rw [show w8.alloc (.cells ([.int .i64 y0, .int .u64 y1, .int .u8 y2, .string y3, .slice yA ym yc] : List Value).toArray 120) = W8 from hW] at X8
                try rw [hW]
                clear hW bn
                generalize w8.heap.size = g8 at *
                have c1 := R8.out.c1
                have c2 := R8.out.c2
                have cf := R8.out.free
                have p0 : W8.cell? ⟨g5, 0, none⟩ = some (.int .i64 v0) := X58.out.cell 0
                have p1 : W8.cell? ⟨g5, 1, none⟩ = some (.int .u64 v1) := X58.out.cell 1
                have p2 : W8.cell? ⟨g5, 2, none⟩ = some (.int .u8 v2) := X58.out.cell 2
                have p3 : W8.cell? ⟨g5, 3, none⟩ = some (.string v3) := X58.out.cell 3
                have p4 : W8.cell? ⟨g5, 4, none⟩ = some (.slice vA vm vc) := X58.out.cell 4
                have r0 : W8.cell? ⟨g8, 0, none⟩ = some (.int .i64 y0) := X8.out.cell 0
                have r1 : W8.cell? ⟨g8, 1, none⟩ = some (.int .u64 y1) := X8.out.cell 1
                have r2 : W8.cell? ⟨g8, 2, none⟩ = some (.int .u8 y2) := X8.out.cell 2
                have r3 : W8.cell? ⟨g8, 3, none⟩ = some (.string y3) := X8.out.cell 3
                have r4 : W8.cell? ⟨g8, 4, none⟩ = some (.slice yA ym yc) := X8.out.cell 4
                have pf : ∀ k, W8.frozen? ⟨g5, k, none⟩ = false := X58.out.free
                by_cases he8 : e8 = 0
                · have K9 := Lib.hid (K8.out he8)
                  clear K8
                  subst he8
                  have bn := below_new W8 (.cells #[.int .i64 v0, .int .u64 v1, .int .u8 v2, .string v3, .slice vA vm vc, .int .i64 y0, .int .u64 y1, .int .u8 y2, .string y3, .slice yA ym yc] 120)
                  have hbx := heap_alloc_new W8 (.cells #[.int .i64 v0, .int .u64 v1, .int .u8 v2, .string v3, .slice vA vm vc, .int .i64 y0, .int .u64 y1, .int .u8 y2, .string y3, .slice yA ym yc] 120)
                  have hsz : (W8.alloc (.cells #[.int .i64 v0, .int .u64 v1, .int .u8 v2, .string v3, .slice vA vm vc, .int .i64 y0, .int .u64 y1, .int .u8 y2, .string y3, .slice yA ym yc] 120)).heap.size = W8.heap.size + 1 := by simp
                  have h5l := X58.out.lt
                  have X59 := Lib.hid (X58.out.keep bn)
                  have X49 := Lib.hid (X48.out.keep bn)
                  have R9 := Lib.hid (R8.out.keep bn)
                  have O9 := Lib.hid (O8.out.seq (Only.of_below bn))
                  have K10 : Hid (e = 0 ∧ at_ < at8 ∧ at2 < at8 ∧ exP (fun b => g4 < b ∧ b ≠ g5) (W8.alloc (.cells #[.int .i64 v0, .int .u64 v1, .int .u8 v2, .string v3, .slice vA vm vc, .int .i64 y0, .int .u64 y1, .int .u8 y2, .string y3, .slice yA ym yc] 120)) (.op c (Classical.choose K9.out.2.2.2.1) (Classical.choose K9.out.2.2.2.2)) [.int .i64 2, .int .u64 0, .int .u8 c, .string ⟨#[]⟩, .slice (some ⟨W8.heap.size, 0, none⟩) 2 2] ∧ at_ + lv (.op c (Classical.choose K9.out.2.2.2.1) (Classical.choose K9.out.2.2.2.2)) ≤ at8) := Lib.hid (by
                    obtain ⟨k1, k2, k3, k4, k5⟩ := K9.out
                    have w1 := (Classical.choose_spec k4).2
                    have w2 := (Classical.choose_spec k5).2
                    refine ⟨k1, k2, k3, ?_, by unfold lv; omega⟩
                    unfold exP
                    refine ⟨W8.heap.size, _, _, rfl, ⟨by omega, by omega⟩, by omega, ?_, ?_, exP_keep bn (Classical.choose_spec k4).1, exP_keep bn (Classical.choose_spec k5).1⟩
                    · intro j hj
                      obtain rfl | rfl | rfl | rfl | rfl : j = 0 ∨ j = 1 ∨ j = 2 ∨ j = 3 ∨ j = 4 := by omega
                      all_goals simp only [World.cell?, hbx]; simp
                    · intro j hj
                      obtain rfl | rfl | rfl | rfl | rfl : j = 0 ∨ j = 1 ∨ j = 2 ∨ j = 3 ∨ j = 4 := by omega
                      all_goals simp only [World.cell?, hbx]; simp)
                  generalize Classical.choose K9.out.2.2.2.1 = xx at K10
                  generalize Classical.choose K9.out.2.2.2.2 = yy at K10
                  clear K9
                  have s0 : (W8.alloc (.cells #[.int .i64 v0, .int .u64 v1, .int .u8 v2, .string v3, .slice vA vm vc, .int .i64 y0, .int .u64 y1, .int .u8 y2, .string y3, .slice yA ym yc] 120)).cell? ⟨g5, 0, none⟩ = some (.int .i64 v0) := X59.out.cell 0
                  have s1 : (W8.alloc (.cells #[.int .i64 v0, .int .u64 v1, .int .u8 v2, .string v3, .slice vA vm vc, .int .i64 y0, .int .u64 y1, .int .u8 y2, .string y3, .slice yA ym yc] 120)).cell? ⟨g5, 1, none⟩ = some (.int .u64 v1) := X59.out.cell 1
                  have s2 : (W8.alloc (.cells #[.int .i64 v0, .int .u64 v1, .int .u8 v2, .string v3, .slice vA vm vc, .int .i64 y0, .int .u64 y1, .int .u8 y2, .string y3, .slice yA ym yc] 120)).cell? ⟨g5, 2, none⟩ = some (.int .u8 v2) := X59.out.cell 2
                  have s3 : (W8.alloc (.cells #[.int .i64 v0, .int .u64 v1, .int .u8 v2, .string v3, .slice vA vm vc, .int .i64 y0, .int .u64 y1, .int .u8 y2, .string y3, .slice yA ym yc] 120)).cell? ⟨g5, 3, none⟩ = some (.string v3) := X59.out.cell 3
                  have s4 : (W8.alloc (.cells #[.int .i64 v0, .int .u64 v1, .int .u8 v2, .string v3, .slice vA vm vc, .int .i64 y0, .int .u64 y1, .int .u8 y2, .string y3, .slice yA ym yc] 120)).cell? ⟨g5, 4, none⟩ = some (.slice vA vm vc) := X59.out.cell 4
                  have sf : ∀ k, (W8.alloc (.cells #[.int .i64 v0, .int .u64 v1, .int .u8 v2, .string v3, .slice vA vm vc, .int .i64 y0, .int .u64 y1, .int .u8 y2, .string y3, .slice yA ym yc] 120)).frozen? ⟨g5, k, none⟩ = false := X59.out.free
                  clear bn hbx
                  go_upto_region 12 with fail
                  obtain ⟨W9, hW⟩ : ∃ W9, W8.alloc (.cells #[.int .i64 v0, .int .u64 v1, .int .u8 v2, .string v3, .slice vA vm vc, .int .i64 y0, .int .u64 y1, .int .u8 y2, .string y3, .slice yA ym yc] 120) = W9 := ⟨_, rfl⟩
                  rw [hW] at R9 X59 X49 O9 K10 hsz
                  clear s0 s1 s2 s3 s4 sf p0 p1 p2 p3 p4 pf
                  rw [past5 (by omega) _ _ _ _ _ _]
                  try rw [hW]
                  clear hW r0 r1 r2 r3 r4 c1 c2 cf R8 X58 X48 O8 X8
                  generalize W8.heap.size = g9 at *
                  have hgq : q < g5 := by omega
                  have w5l : g5 < W9.heap.size := by omega
                  have hR10 := rd5 R9.out hgq (.int .i64 2) (.int .u64 0) (.int .u8 c) (.string ⟨#[]⟩) (.slice (some ⟨g9, 0, none⟩) 2 2)
                  have hX510 := X59.out.store (.int .i64 2) (.int .u64 0) (.int .u8 c) (.string ⟨#[]⟩) (.slice (some ⟨g9, 0, none⟩) 2 2)
                  have hX410 := ((((X49.out.other (k := g5) (by omega) 0 (.int .i64 2)).other (k := g5) (by omega) 1 (.int .u64 0)).other (k := g5) (by omega) 2 (.int .u8 c)).other (k := g5) (by omega) 3 (.string ⟨#[]⟩)).other (k := g5) (by omega) 4 (.slice (some ⟨g9, 0, none⟩) 2 2)
                  have hO10 := only5 O9.out (g := g5) (by have := HG.out; omega) (.int .i64 2) (.int .u64 0) (.int .u8 c) (.string ⟨#[]⟩) (.slice (some ⟨g9, 0, none⟩) 2 2)
                  have hK10 := exP_set5 K10.out.2.2.2.1 (g := g5) (fun hh => hh.2 rfl) (.int .i64 2) (.int .u64 0) (.int .u8 c) (.string ⟨#[]⟩) (.slice (some ⟨g9, 0, none⟩) 2 2)
                  obtain ⟨k1, k2, k3, -, kw⟩ := K10.out
                  clear R9 X59 X49 O9 K10
                  obtain ⟨W10, hW⟩ : ∃ W10, (((((W9.setCell ⟨g5, 0, none⟩ (.int .i64 2)).setCell ⟨g5, 1, none⟩ (.int .u64 0)).setCell ⟨g5, 2, none⟩ (.int .u8 c)).setCell ⟨g5, 3, none⟩ (.string ⟨#[]⟩)).setCell ⟨g5, 4, none⟩ (.slice (some ⟨g9, 0, none⟩) 2 2)) = W10 := ⟨_, rfl⟩
                  rw [hW] at hR10 hX510 hX410 hO10 hK10
                  try rw [hW]
                  clear hW hsz
                  have R10 := Lib.hid hR10
                  have X510 := Lib.hid hX510
                  have X410 := Lib.hid hX410
                  have O10 := Lib.hid hO10
                  have K10 := Lib.hid hK10
                  clear hR10 hX510 hX410 hO10 hK10
                  have s0 : W10.cell? ⟨g5, 0, none⟩ = some (.int .i64 2) := X510.out.cell 0
                  have s1 : W10.cell? ⟨g5, 1, none⟩ = some (.int .u64 0) := X510.out.cell 1
                  have s2 : W10.cell? ⟨g5, 2, none⟩ = some (.int .u8 c) := X510.out.cell 2
                  have s3 : W10.cell? ⟨g5, 3, none⟩ = some (.string ⟨#[]⟩) := X510.out.cell 3
                  have s4 : W10.cell? ⟨g5, 4, none⟩ = some (.slice (some ⟨g9, 0, none⟩) 2 2) := X510.out.cell 4
                  go_wp2_with fail
                  refine (depth_any _ (exV_of (B := g4) (fun b hb => Nat.le_of_lt hb.1) K10.out)).mono ?_
                  rintro en w11 ⟨z, rfl, hb11⟩
                  have R11 := Lib.hid (R10.out.keep hb11)
                  have X511 := Lib.hid (X510.out.keep hb11)
                  have X411 := Lib.hid (X410.out.keep hb11)
                  have O11 := Lib.hid (O10.out.seq (Only.of_below hb11))
                  have K11 := Lib.hid (exP_keep hb11 K10.out)
                  have RM := Lib.hid (R10.out.keep hb11).meas
                  clear R10 X510 X410 O10 K10 hb11
                  by_cases hz : 30 < z
                  · have z1 : decide (30 < z) = true := by simpa using hz
                    go_wp2_with fail
                    refine (fail_any R11.out 11 (by decide)).mono ?_
                    rintro en w12 ⟨rfl, e12, bad12, h12, hne, ho12⟩
                    have R12 := Lib.hid h12
                    have RM := Lib.hid h12.meas
                    have X512 := Lib.hid (X511.out.only ho12 (by simp; omega))
                    have X412 := Lib.hid (X411.out.only ho12 (by simp; omega))
                    have O12 := Lib.hid (O11.out.seq ho12)
                    clear h12 ho12
                    go_wp2_with fail
                    go_roundw
                    case rel => exact ⟨at8, e12, bad12, _, _, _, _, _, _, _, R12.out, X512.out, X412.out, O12.out, by omega, fun h => absurd h hne⟩
                    case measure => rw [RM.out, HRW.out]; simp [hne]
                  · have z1 : decide (30 < z) = false := by simpa using hz
                    go_wp2_with fail
                    go_roundw
                    case rel => exact ⟨at8, 0, bad8, _, _, _, _, _, _, _, R11.out, X511.out, X411.out, O11.out, by omega, fun _ => ⟨k1, k2, _, K11.out, kw⟩⟩
                    case measure => rw [RM.out, HRW.out]; simp; omega
                · have t8 : (e8 != 0) = true := by simpa using he8
                  go_wp2_with fail
                  go_meet
                  case rel => exact ⟨at8, e8, bad8, v0, v1, v2, v3, vA, vm, vc, R8.out, X58.out, X48.out, O8.out, by omega, fun h => absurd h he8⟩
          · have d1 : ((tx.size : Int) == 1) = false := by simpa using fun h => hs1 (by omega)
            go_wp2_with fail
            go_meet
            case rel => exact ⟨at2, 0, bad2, v0, v1, v2, v3, vA, vm, vc, R6.out, X56.out, X46.out, O6.out, hat2, fun _ => K6.out⟩
        · have k3 : (kd == 3) = false := by simpa using hk3
          go_wp2_with fail
          go_meet
          case rel => exact ⟨at2, 0, bad2, v0, v1, v2, v3, vA, vm, vc, R6.out, X56.out, X46.out, O6.out, hat2, fun _ => K6.out⟩
      · have t2 : (e2 == 0) = false := by simpa using he
        go_wp2_with fail
        go_meet
        case rel => exact ⟨at2, e2, bad2, v0, v1, v2, v3, vA, vm, vc, R.out, X5.out, X4.out, O.out, hat2, K2.out⟩
  case rest =>
    obtain ⟨at2, e2, bad2, v0, v1, v2, v3, vA, vm, vc, hR, hX5, hX4, hO, hat2, hok2⟩ := hcut
    have R := Lib.hid hR
    have X5 := Lib.hid hX5
    have X4 := Lib.hid hX4
    have O := Lib.hid hO
    have K2 := Lib.hid hok2
    clear hR hX5 hX4 hO hok2 L0
    have p0 : wc.cell? ⟨g5, 0, none⟩ = some (.int .i64 v0) := X5.out.cell 0
    have p1 : wc.cell? ⟨g5, 1, none⟩ = some (.int .u64 v1) := X5.out.cell 1
    have p2 : wc.cell? ⟨g5, 2, none⟩ = some (.int .u8 v2) := X5.out.cell 2
    have p3 : wc.cell? ⟨g5, 3, none⟩ = some (.string v3) := X5.out.cell 3
    have p4 : wc.cell? ⟨g5, 4, none⟩ = some (.slice vA vm vc) := X5.out.cell 4
    have z0 : wc.cell? ⟨g4, 0, none⟩ = some (.int .i64 0) := X4.out.cell 0
    have z1 : wc.cell? ⟨g4, 1, none⟩ = some (.int .u64 0) := X4.out.cell 1
    have z2 : wc.cell? ⟨g4, 2, none⟩ = some (.int .u8 0) := X4.out.cell 2
    have z3 : wc.cell? ⟨g4, 3, none⟩ = some (.string ⟨#[]⟩) := X4.out.cell 3
    have z4 : wc.cell? ⟨g4, 4, none⟩ = some (.slice none 0 0) := X4.out.cell 4
    have zf : ∀ k, wc.frozen? ⟨g4, k, none⟩ = false := X4.out.free
    go_wp2_with fail
    refine expr_ret (g := g4) rfl (X4.out.store _ _ _ _ _) ⟨_, at2, e2, bad2, rfl, ExSh.mk _ _ _ _ _ _ _, rd5 R.out hq4 _ _ _ _ _, only5 O.out (Nat.le_of_eq HG.out) _ _ _ _ _, hat2, fun h0 => ?_⟩ rfl
    obtain ⟨he, hlt, x, hx, hl⟩ := K2.out h0
    rw [HG.out]
    exact ⟨he, hlt, x, exV_of (fun b hb => Nat.le_of_lt hb.1) (exP_set5 hx (fun hh => absurd hh.1 (by omega)) _ _ _ _ _), hl⟩
end Go.Proofs.Ytapnnbbbgopobaa.Rr
