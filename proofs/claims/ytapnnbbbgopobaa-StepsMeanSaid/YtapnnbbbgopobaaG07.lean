/-
  WALKS: the reference's lexer: Tokens.
-/
import Derived.Test.YtapnnbbbgopobaaLexB
import Derived.Test.YtapnnbbbgopobaaG01
import Derived.BigQuiet
import Derived.Deep.QuietTactic
set_option linter.unusedVariables false
set_option linter.unusedSimpArgs false
namespace Go.Proofs.Ytapnnbbbgopobaa.Lx
open Go.RowKit Cm Mm Ow Me Ml Lg
def tkL (kd : Int) (tx : ByteArray) (nn a2 : Int) : List Value := [.int .i64 kd, .string tx, .int .u64 nn, .int .i64 a2]
def TokRow (r : List Value) : Prop := ∃ kd tx nn a2, r = tkL kd tx nn a2 ∧ TxOk tx nn
def IsTok (w : World) (A : Option Addr) (n cap : Nat) : Prop := ∃ L : List (List Value), L.length = n ∧ Sl w A n cap 4 (fun i => L.getD i []) ∧ (∀ r ∈ L, TokRow r) ∧ 1 ≤ n ∧ n ≤ 20000 ∧ ∃ tx nn a2, L.getD (n - 1) [] = tkL 5 tx nn a2
theorem IsTok.keep {w w' : World} {A : Option Addr} {n cap : Nat} (h : IsTok w A n cap) (hb : Below w.heap.size w w') : IsTok w' A n cap := by
  obtain ⟨L, h1, h2, h3⟩ := h
  exact ⟨L, h1, h2.keep hb, h3⟩
theorem IsTok.cell {w : World} {A : Option Addr} {n cap : Nat} (h : IsTok w A n cap) {k : Nat} (hk : k < n) : ∃ b o kd tx nn a2, A = some ⟨b, o, none⟩ ∧ b < w.heap.size ∧ w.cell? ⟨b, o + k * 4, none⟩ = some (.int .i64 kd) ∧ w.cell? ⟨b, o + k * 4 + 1, none⟩ = some (.string tx) ∧ w.cell? ⟨b, o + k * 4 + 2, none⟩ = some (.int .u64 nn) ∧ w.cell? ⟨b, o + k * 4 + 3, none⟩ = some (.int .i64 a2) ∧ TxOk tx nn ∧ (k + 1 = n → kd = 5) := by
  obtain ⟨L, h1, h2, h3, h4, h5, tx', nn', a2', h6⟩ := h
  obtain ⟨b, o, e, hb, hc⟩ := h2.at_ (by omega)
  have hm : L.getD k [] ∈ L := by
    rw [List.getD, List.getElem?_eq_getElem (by omega)]
    exact List.getElem_mem _
  obtain ⟨kd, tx, nn, a2, hr, hs⟩ := h3 _ hm
  have hcc : ∀ j, j < 4 → w.cell? ⟨b, o + k * 4 + j, none⟩ = (tkL kd tx nn a2)[j]? := fun j hj => by rw [← hr, Nat.add_assoc]; exact hc k hk j hj
  refine ⟨b, o, kd, tx, nn, a2, e, hb, hcc 0 (by omega), hcc 1 (by omega), hcc 2 (by omega), hcc 3 (by omega), hs, fun hl => ?_⟩
  have : k = n - 1 := by omega
  subst this
  rw [hr] at h6
  simp [tkL] at h6
  exact h6.1
theorem elTk : El Try.prog 56 63 4 40 := by
  obtain ⟨i, h1, h2, h3, h4⟩ := info_parts (P := Try.prog) (e := 63) (z := .agg #[.int .i64 0, .string ⟨#[]⟩, .int .u64 0, .int .i64 0]) (size := 4) (bytes := 40) (by kernel_rfl)
  exact ⟨Try.underlying56, ⟨i, _, h1, h2, h3, h4, rfl⟩, by decide⟩
theorem tk_each (kd : Int) (tx : ByteArray) (nn a2 : Int) : ∀ y ∈ [tkL kd tx nn a2], y.length = 4 := fun y hy => by simp at hy; subst hy; rfl
theorem tk_ones (kd : Int) (tx : ByteArray) (nn a2 : Int) : ∀ y ∈ [tkL kd tx nn a2], ∀ u ∈ y, u.oneCell' = true := fun y hy u hu => by
  simp at hy; subst hy
  simp [tkL] at hu
  rcases hu with rfl | rfl | rfl | rfl <;> rfl
def TksA (w : World) (N : Nat) (e : Ending) (w' : World) : Prop := ∃ A n cap at_ er, e = .returned (.tuple #[.slice A n cap, .int .i64 at_, .int .i64 er]) ∧ Below w.heap.size w w' ∧ (er = 0 → IsTok w' A n cap ∧ n ≤ N + 1)
set_option maxHeartbeats 3200000 in
theorem tokens_any (A : Option Addr) (n cap : Nat) (x : Nat → Int) (w : World) (h : IsBy w A n cap x) :
    Calls Try.prog 26 #[.slice A n cap] w (TksA w n) := by
  by_cases hbig : 16384 < n
  · have d0 : decide (16384 < (n : Int)) = true := decide_eq_true (by omega)
    go_enter Try.func26, Try.ntmps26
    go_wp2_with fail
    go_ret3
    exact ⟨none, 0, 0, 0, 3, rfl, Below.refl _ _, fun h => absurd h (by decide)⟩
  have d0 : decide (16384 < (n : Int)) = false := decide_eq_false (by omega)
  have H := Lib.hid h
  go_enter Try.func26, Try.ntmps26
  go_wp2_with fail
  refine (skip_any A n cap x 0 w h (by omega) (by omega)).mono ?_
  rintro e w1 ⟨k0, h00, hk0, rfl, rfl⟩
  clear h
  go_wp2_with fail
  go_loopw [5, 6] (fun l i wr => ∃ (j k c : Nat) (E : Option Addr) (L : List (List Value)), j ≤ n ∧ k ≤ j ∧ i = .int .i64 j ∧ l = .slice E k c ∧ Own wr w.heap.size 63 4 E k c L ∧ (∀ r ∈ L, TokRow r) ∧ Below w.heap.size w wr) (fun _ i _ => n - (intOf i).toNat)
  case atStart => exact ⟨k0, 0, 0, none, [], hk0, by omega, rfl, rfl, Own.nil _ _ _ _, fun r hr => (by cases hr), Below.refl _ _⟩
  case round =>
    obtain ⟨j, k, c, E, L, hj, hkj, rfl, rfl, hown, hrows, hbel⟩ := hrel
    have HO := Lib.hid hown
    have HR := Lib.hid hrows
    have HB := Lib.hid hbel
    have hsz := hbel.size
    clear hown hrows hbel
    have hby := H.out.keep HB.out
    by_cases hjn : j < n
    · have d1 : decide ((j : Int) < (n : Int)) = true := decide_eq_true (by omega)
      go_wp2_with fail
      refine (token_any A n cap x j _ hby (by omega) hjn).mono ?_
      rintro e w2 ⟨kd, tx, nn, a2, to2, er, rfl, hb2, hok⟩
      have B2 := Lib.hid hb2
      have HOK := Lib.hid hok
      have hsz2 := hb2.size
      clear hb2 hok hby
      by_cases her : er = 0
      · subst her
        obtain ⟨hkd, ⟨t2, rfl, ht1, ht2⟩, hts⟩ := HOK.out rfl
        clear HOK
        go_wp2_with (at_builtin; refine Ow2.wpList_appN _ rfl _ _ rfl elTk w.heap.size E k c 1 (w2.heap.size + 1) _ [tkL kd tx nn a2] (by simp) rfl ((HO.out.keep B2.out).keep (below_new _ _)) rfl rfl (tk_each kd tx nn a2) (tk_ones kd tx nn a2) (by unfold maxLen; omega) (by omega) (by simp; omega) _ rfl ?_; intro A4 c4 w4 hown4 hbel4 hkp4 hat4; have HO4 := Lib.hid hown4; have HB4 := Lib.hid hbel4; clear hown4 hbel4 hkp4 hat4)
        have BX := Lib.hid (HB.out.trans ((B2.out.mono hsz).trans (((below_new w2 (.cells #[.int .i64 kd, .string tx, .int .u64 nn, .int .i64 a2] 63)).mono (by omega)).trans HB4.out)))
        refine (skip_any A n cap x t2 w4 (H.out.keep BX.out) (by omega) (by omega)).mono ?_
        rintro e w5 ⟨k5, h50, h51, rfl, rfl⟩
        go_wp2_with fail
        go_roundw
        case rel =>
          refine ⟨k5, k + 1, c4, A4, L ++ [tkL kd tx nn a2], h51, by omega, rfl, rfl, HO4.out, fun r hr => ?_, BX.out⟩
          rcases List.mem_append.1 hr with hr | hr
          · exact HR.out r hr
          · simp at hr; subst hr; exact ⟨kd, tx, nn, a2, rfl, hts⟩
        case measure => simp [intOf]; omega
      · have t0 : (er != 0) = true := by simpa using her
        go_wp2_with fail
        go_ret3
        exact ⟨none, 0, 0, j, er, rfl, (HB.out.trans (B2.out.mono hsz)).trans ((below_new w2 _).mono (by omega)), fun h => absurd h her⟩
    · obtain rfl : j = n := by omega
      have d1 : decide ((j : Int) < (j : Int)) = false := decide_eq_false (by omega)
      clear hby
      go_wp2_with (at_builtin; refine Ow2.wpList_appN _ rfl _ _ rfl elTk w.heap.size E k c 1 _ _ [tkL 5 ⟨#[]⟩ 0 j] rfl rfl HO.out rfl rfl (tk_each 5 ⟨#[]⟩ 0 j) (tk_ones 5 ⟨#[]⟩ 0 j) (by unfold maxLen; omega) (by omega) hsz _ rfl ?_; intro A4 c4 w4 hown4 hbel4 hkp4 hat4; have HO4 := Lib.hid hown4; have HB4 := Lib.hid hbel4; clear hown4 hbel4 hkp4 hat4)
      go_ret3
      refine ⟨A4, k + 1, c4, j, 0, rfl, HB.out.trans HB4.out, fun _ => ⟨⟨L ++ [tkL 5 ⟨#[]⟩ 0 j], ?_, HO4.out.sl, fun r hr => ?_, by omega, by omega, ⟨#[]⟩, 0, j, ?_⟩, by omega⟩⟩
      · have := HO.out.len; simp; omega
      · rcases List.mem_append.1 hr with hr | hr
        · exact HR.out r hr
        · simp at hr; subst hr; exact ⟨5, ⟨#[]⟩, 0, j, rfl, by decide, by decide, by decide⟩
      · have := HO.out.len
        rw [List.getD, List.getElem?_append_right (by omega)]
        simp [this]
end Go.Proofs.Ytapnnbbbgopobaa.Lx
namespace Go.Proofs.Ytapnnbbbgopobaa.Rr
open Go.RowKit Cm Mm Ow Me Ml Lg Lx
structure Fx where
  A : Option Addr
  n : Nat
  cap : Nat
  rec_ : Bool
  s5 : Value
  s6 : Value
  s7 : Value
def rdO (f : Fx) (at_ e bad : Int) : Obj := .cells #[.slice f.A f.n f.cap, .int .i64 at_, .int .i64 e, .int .i64 bad, .bool f.rec_, f.s5, f.s6, f.s7] 61 (0, 0)
structure Rd (w : World) (q : Nat) (f : Fx) (at_ : Nat) (e bad : Int) : Prop where
  blk : w.heap[q]? = some (rdO f at_ e bad)
  tok : IsTok w f.A f.n f.cap
  tq : ∀ b o m, f.A = some ⟨b, o, m⟩ → b < q
  lt : at_ < f.n
  bd : e ≠ 0 → 0 ≤ bad ∧ bad < f.n
section
variable {w w' : World} {q : Nat} {f : Fx} {at_ : Nat} {e bad : Int}
theorem tok_only {A : Option Addr} {n cap : Nat} (h : IsTok w A n cap) {G : List Nat} (ho : Only G w w') (hA : ∀ b o m, A = some ⟨b, o, m⟩ → b ∉ G) : IsTok w' A n cap := by
  obtain ⟨L, h1, h2, h3⟩ := h
  refine ⟨L, h1, ⟨h2.le, h2.cap_le, fun h0 => ?_⟩, h3⟩
  obtain ⟨b, o, e, hb, hc⟩ := h2.at_ h0
  exact ⟨b, o, e, Nat.lt_of_lt_of_le hb ho.size, fun i hi j hj => (only_cell ho hb (hA b o none e) _).trans (hc i hi j hj)⟩
theorem Rd.c0 (h : Rd w q f at_ e bad) : w.cell? ⟨q, 0, none⟩ = some (.slice f.A f.n f.cap) := by simp only [World.cell?, h.blk, rdO]; simp
theorem Rd.c1 (h : Rd w q f at_ e bad) : w.cell? ⟨q, 1, none⟩ = some (.int .i64 at_) := by simp only [World.cell?, h.blk, rdO]; simp
theorem Rd.c2 (h : Rd w q f at_ e bad) : w.cell? ⟨q, 2, none⟩ = some (.int .i64 e) := by simp only [World.cell?, h.blk, rdO]; simp
theorem Rd.c3 (h : Rd w q f at_ e bad) : w.cell? ⟨q, 3, none⟩ = some (.int .i64 bad) := by simp only [World.cell?, h.blk, rdO]; simp
theorem Rd.c4 (h : Rd w q f at_ e bad) : w.cell? ⟨q, 4, none⟩ = some (.bool f.rec_) := by simp only [World.cell?, h.blk, rdO]; simp
theorem Rd.c5 (h : Rd w q f at_ e bad) : w.cell? ⟨q, 5, none⟩ = some f.s5 := by simp only [World.cell?, h.blk, rdO]; simp
theorem Rd.c6 (h : Rd w q f at_ e bad) : w.cell? ⟨q, 6, none⟩ = some f.s6 := by simp only [World.cell?, h.blk, rdO]; simp
theorem Rd.c7 (h : Rd w q f at_ e bad) : w.cell? ⟨q, 7, none⟩ = some f.s7 := by simp only [World.cell?, h.blk, rdO]; simp
theorem Rd.free (h : Rd w q f at_ e bad) (k : Nat) : w.frozen? ⟨q, k, none⟩ = false := by simp only [World.frozen?, h.blk, rdO]; simp
theorem Rd.qlt (h : Rd w q f at_ e bad) : q < w.heap.size := (Array.getElem?_eq_some_iff.1 h.blk).1
theorem Rd.keep (h : Rd w q f at_ e bad) (hb : Below w.heap.size w w') : Rd w' q f at_ e bad := ⟨(hb.block _ h.qlt).trans h.blk, h.tok.keep hb, h.tq, h.lt, h.bd⟩
theorem Rd.only (h : Rd w q f at_ e bad) {G : List Nat} (ho : Only G w w') (hq : ∀ g ∈ G, q < g) : Rd w' q f at_ e bad :=
  ⟨(ho.block q h.qlt (fun hx => by have := hq q hx; omega)).trans h.blk, tok_only h.tok ho (fun b o m hA hx => by have := hq b hx; have := h.tq b o m hA; omega), h.tq, h.lt, h.bd⟩
theorem only_q (w : World) (q k : Nat) (v : Value) : Only [q] w (w.setCell ⟨q, k, none⟩ v) := (Only.refl _ _).setCell (by simp) v
theorem Rd.step (h : Rd w q f at_ e bad) (h1 : at_ + 1 < f.n) : Rd (w.setCell ⟨q, 1, none⟩ (.int .i64 ((at_ : Int) + 1))) q f (at_ + 1) e bad :=
  ⟨blk_set h.blk _, tok_only h.tok (only_q w q 1 _) (fun b o m hA hx => by have := h.tq b o m hA; simp at hx; omega), h.tq, h1, h.bd⟩
theorem Rd.fail (h : Rd w q f at_ e bad) (x : Int) : Rd ((w.setCell ⟨q, 2, none⟩ (.int .i64 x)).setCell ⟨q, 3, none⟩ (.int .i64 at_)) q f at_ x at_ :=
  ⟨blk_set (blk_set h.blk _) _, tok_only h.tok ((only_q w q 2 _).setCell (by simp) _) (fun b o m hA hx => by have := h.tq b o m hA; simp at hx; omega), h.tq, h.lt, fun _ => ⟨by omega, by have := h.lt; omega⟩⟩
end
set_option maxHeartbeats 3200000 in
theorem now_any {w : World} {q : Nat} {f : Fx} {at_ : Nat} {e bad : Int} (h : Rd w q f at_ e bad) :
    Calls Try.prog 27 #[.pointer (some ⟨q, 0, none⟩)] w fun en w' => ∃ kd tx nn a2, en = .returned (.agg #[.int .i64 kd, .string tx, .int .u64 nn, .int .i64 a2]) ∧ Below w.heap.size w w' ∧ TxOk tx nn ∧ (at_ + 1 = f.n → kd = 5) := by
  have hlt := h.lt
  have hqlt := h.qlt
  have H := Lib.hid h
  have W0 := Lib.hid (below_new w (.cells #[.int .i64 0, .string ⟨#[]⟩, .int .u64 0, .int .i64 0] 63))
  have T0 := Lib.hid (Tv.new w 0 ⟨#[]⟩ 0 0)
  obtain ⟨W, hW⟩ : ∃ W, w.alloc (.cells #[.int .i64 0, .string ⟨#[]⟩, .int .u64 0, .int .i64 0] 63) = W := ⟨_, rfl⟩
  rw [hW] at W0 T0
  have H1 := Lib.hid (H.out.keep W0.out)
  obtain ⟨b, o, kd, tx, nn, a2, hA, hbl, x0, x1, x2, x3, hts, hend⟩ := H1.out.tok.cell hlt
  have c0 := H1.out.c0
  have c1 := H1.out.c1
  rw [hA] at c0
  clear h
  have d0 : decide (f.n ≤ at_) = false := decide_eq_false (by omega)
  have hki : (at_ : Int) < (f.n : Int) := by omega
  have HF := Lib.hid (And.intro hts hend)
  clear hts hend
  go_enter Try.func27, Try.ntmps27
  go_upto_region 1 with fail
  try rw [hW]
  clear hW
  go_quiet (fail)
  have B2 := Lib.hid (W0.out.trans ((below_drawn W nq).mono W0.out.size))
  have T2 := Lib.hid (T0.out.keep (below_drawn W nq))
  have SW : (W.drewN nq).cell? ⟨q, 0, none⟩ = some (.slice (some ⟨b, o, none⟩) f.n f.cap) ∧ (W.drewN nq).cell? ⟨q, 1, none⟩ = some (.int .i64 at_) ∧ (W.drewN nq).cell? ⟨b, o + at_ * 4, none⟩ = some (.int .i64 kd) ∧ (W.drewN nq).cell? ⟨b, o + at_ * 4 + 1, none⟩ = some (.string tx) ∧ (W.drewN nq).cell? ⟨b, o + at_ * 4 + 2, none⟩ = some (.int .u64 nn) ∧ (W.drewN nq).cell? ⟨b, o + at_ * 4 + 3, none⟩ = some (.int .i64 a2) := ⟨c0, c1, x0, x1, x2, x3⟩
  clear c0 c1 x0 x1 x2 x3 T0 W0 H1
  generalize W.drewN nq = W2 at *
  go_upto_region 3 with fail
  refine Hd.start 10 (fun w' => w'.cell? ⟨q, 0, none⟩ = some (.slice (some ⟨b, o, none⟩) f.n f.cap) ∧ w'.cell? ⟨q, 1, none⟩ = some (.int .i64 at_) ∧ w'.cell? ⟨b, o + at_ * 4, none⟩ = some (.int .i64 kd) ∧ w'.cell? ⟨b, o + at_ * 4 + 1, none⟩ = some (.string tx) ∧ w'.cell? ⟨b, o + at_ * 4 + 2, none⟩ = some (.int .u64 nn) ∧ w'.cell? ⟨b, o + at_ * 4 + 3, none⟩ = some (.int .i64 a2)) (by kernel_rfl) ?_
  have SA : W2.drew.cell? ⟨q, 0, none⟩ = some (.slice (some ⟨b, o, none⟩) f.n f.cap) ∧ W2.drew.cell? ⟨q, 1, none⟩ = some (.int .i64 at_) ∧ W2.drew.cell? ⟨b, o + at_ * 4, none⟩ = some (.int .i64 kd) ∧ W2.drew.cell? ⟨b, o + at_ * 4 + 1, none⟩ = some (.string tx) ∧ W2.drew.cell? ⟨b, o + at_ * 4 + 2, none⟩ = some (.int .u64 nn) ∧ W2.drew.cell? ⟨b, o + at_ * 4 + 3, none⟩ = some (.int .i64 a2) := SW
  have B3 := Lib.hid (B2.out.drew)
  have T3 := Lib.hid (T2.out.keep (Below.refl _ _).drew)
  clear SW B2 T2
  refine Hd.take (i := 0) (v := ?v0) rfl (by decide +kernel) (by decide +kernel) (fun _ _ _ h => h) rfl ?hy0 SA ?rest0
  case hy0 =>
    intro wq hSw
    obtain ⟨s1, s2, s3, s4, s5, s6⟩ := hSw
    go_simp
    try with_reducible rfl
  try simp only [Act.put, zA, zB, zC]
  refine Hd.take (i := 1) (v := ?v1) rfl (by decide +kernel) (by decide +kernel) (fun _ _ _ h => h) rfl ?hy1 SA ?rest1
  case hy1 =>
    intro wq hSw
    obtain ⟨s1, s2, s3, s4, s5, s6⟩ := hSw
    go_simp
    try with_reducible rfl
  try simp only [Act.put, zA, zB, zC]
  refine Hd.take (i := 2) (v := ?v2) rfl (by decide +kernel) (by decide +kernel) (fun _ _ _ h => h) rfl ?hy2 SA ?rest2
  case hy2 =>
    intro wq hSw
    obtain ⟨s1, s2, s3, s4, s5, s6⟩ := hSw
    go_simp
    try with_reducible rfl
  try simp only [Act.put, zA, zB, zC]
  refine Hd.take (i := 3) (v := ?v3) rfl (by decide +kernel) (by decide +kernel) (fun _ _ _ h => h) rfl ?hy3 SA ?rest3
  case hy3 =>
    intro wq hSw
    obtain ⟨s1, s2, s3, s4, s5, s6⟩ := hSw
    go_simp
    try with_reducible rfl
  try simp only [Act.put, zA, zB, zC]
  refine Hd.take (i := 4) (v := ?v4) rfl (by decide +kernel) (by decide +kernel) (fun _ _ _ h => h) rfl ?hy4 SA ?rest4
  case hy4 =>
    intro wq hSw
    obtain ⟨s1, s2, s3, s4, s5, s6⟩ := hSw
    go_simp
    try with_reducible rfl
  try simp only [Act.put, zA, zB, zC]
  refine Hd.take (i := 5) (v := ?v5) rfl (by decide +kernel) (by decide +kernel) (fun _ _ _ h => h) rfl ?hy5 SA ?rest5
  case hy5 =>
    intro wq hSw
    obtain ⟨s1, s2, s3, s4, s5, s6⟩ := hSw
    go_simp
    try with_reducible rfl
  try simp only [Act.put, zA, zB, zC]
  refine Hd.take (i := 6) (v := ?v6) rfl (by decide +kernel) (by decide +kernel) (fun _ _ _ h => h) rfl ?hy6 SA ?rest6
  case hy6 =>
    intro wq hSw
    obtain ⟨s1, s2, s3, s4, s5, s6⟩ := hSw
    go_simp
    try with_reducible rfl
  try simp only [Act.put, zA, zB, zC]
  refine Hd.take (i := 7) (v := ?v7) rfl (by decide +kernel) (by decide +kernel) (fun _ _ _ h => h) rfl ?hy7 SA ?rest7
  case hy7 =>
    intro wq hSw
    obtain ⟨s1, s2, s3, s4, s5, s6⟩ := hSw
    go_simp
    try with_reducible rfl
  try simp only [Act.put, zA, zB, zC]
  refine Hd.take (i := 8) (v := ?v8) rfl (by decide +kernel) (by decide +kernel) (fun _ _ _ h => h) rfl ?hy8 SA ?rest8
  case hy8 =>
    intro wq hSw
    obtain ⟨s1, s2, s3, s4, s5, s6⟩ := hSw
    go_simp
    try with_reducible rfl
  try simp only [Act.put, zA, zB, zC]
  refine Hd.take (i := 9) (v := ?v9) rfl (by decide +kernel) (by decide +kernel) (fun _ _ _ h => h) rfl ?hy9 SA ?rest9
  case hy9 =>
    intro wq hSw
    obtain ⟨s1, s2, s3, s4, s5, s6⟩ := hSw
    go_simp
    try with_reducible rfl
  try simp only [Act.put, zA, zB, zC]
  refine Hd.one (i := 10) rfl (by kernel_rfl) rfl (fun K hK => ?_)
  have z0 : W2.cell? ⟨w.heap.size, 0, none⟩ = some (.int .i64 0) := T3.out.c0
  have z1 : W2.cell? ⟨w.heap.size, 1, none⟩ = some (.string ⟨#[]⟩) := T3.out.c1
  have z2 : W2.cell? ⟨w.heap.size, 2, none⟩ = some (.int .u64 0) := T3.out.c2
  have z3 : W2.cell? ⟨w.heap.size, 3, none⟩ = some (.int .i64 0) := T3.out.c3
  have zf : ∀ k, W2.frozen? ⟨w.heap.size, k, none⟩ = false := T3.out.free
  go_simp
  have T4 := Lib.hid (T3.out.store kd tx nn a2)
  have B4 := Lib.hid ((((B3.out.setCell (p := ⟨w.heap.size, 0, none⟩) (Nat.le_refl _) (.int .i64 kd)).setCell (p := ⟨w.heap.size, 1, none⟩) (Nat.le_refl _) (.string tx)).setCell (p := ⟨w.heap.size, 2, none⟩) (Nat.le_refl _) (.int .u64 nn)).setCell (p := ⟨w.heap.size, 3, none⟩) (Nat.le_refl _) (.int .i64 a2))
  refine hK _ _ (fun h => absurd h (by omega)) ?_
  clear hK K SA z0 z1 z2 z3 zf T3 B3
  try simp only [Act.put, zA, zB, zC]
  refine Hd.done (by kernel_rfl) ?_ _
  go_wp2_with fail
  have T5 : Tv ((((W2.setCell ⟨w.heap.size, 0, none⟩ (.int .i64 kd)).setCell ⟨w.heap.size, 1, none⟩ (.string tx)).setCell ⟨w.heap.size, 2, none⟩ (.int .u64 nn)).setCell ⟨w.heap.size, 3, none⟩ (.int .i64 a2)).drew w.heap.size kd tx nn a2 := ⟨T4.out.at_⟩
  have B5 : Below w.heap.size w ((((W2.setCell ⟨w.heap.size, 0, none⟩ (.int .i64 kd)).setCell ⟨w.heap.size, 1, none⟩ (.string tx)).setCell ⟨w.heap.size, 2, none⟩ (.int .u64 nn)).setCell ⟨w.heap.size, 3, none⟩ (.int .i64 a2)).drew := B4.out
  have y0 := T5.c0
  have y1 := T5.c1
  have y2 := T5.c2
  have y3 := T5.c3
  generalize ((((W2.setCell ⟨w.heap.size, 0, none⟩ (.int .i64 kd)).setCell ⟨w.heap.size, 1, none⟩ (.string tx)).setCell ⟨w.heap.size, 2, none⟩ (.int .u64 nn)).setCell ⟨w.heap.size, 3, none⟩ (.int .i64 a2)).drew = W9 at *
  refine bodyPost_ret (v := .agg #[.int .i64 kd, .string tx, .int .u64 nn, .int .i64 a2]) ?_ rfl ⟨kd, tx, nn, a2, rfl, B5, HF.out.1, HF.out.2⟩
  simp [results, Try.results27, go_sem, y0, y1, y2, y3]
set_option maxHeartbeats 1600000 in
theorem fail_any {w : World} {q : Nat} {f : Fx} {at_ : Nat} {e bad : Int} (h : Rd w q f at_ e bad) (x : Int) (hx : x ≠ 0) :
    Calls Try.prog 47 #[.pointer (some ⟨q, 0, none⟩), .int .i64 x] w fun en w' => en = .returned (.tuple #[]) ∧ ∃ e2 bad2, Rd w' q f at_ e2 bad2 ∧ e2 ≠ 0 ∧ Only [q] w w' := by
  have c1 := h.c1
  have c2 := h.c2
  have c3 := h.c3
  have cf := h.free
  by_cases he : e = 0
  · subst he
    have H := Lib.hid (h.fail x)
    have HO := Lib.hid ((only_q w q 2 (.int .i64 x)).setCell (F := [q]) (p := ⟨q, 3, none⟩) (by simp) (.int .i64 at_))
    clear h
    go_enter Try.func47, Try.ntmps47
    go_wp2_with fail
    go_end0
    exact ⟨rfl, x, at_, H.out, hx, HO.out⟩
  · have t0 : (e == 0) = false := by simpa using he
    have H := Lib.hid h
    clear h
    go_enter Try.func47, Try.ntmps47
    go_wp2_with fail
    go_end0
    exact ⟨rfl, e, bad, H.out, he, Only.refl _ _⟩
def TakeA (w : World) (q : Nat) (f : Fx) (at_ : Nat) (e bad : Int) (en : Ending) (w' : World) : Prop :=
  ∃ (bb : Bool) (at2 : Nat), en = .returned (.bool bb) ∧ Rd w' q f at2 e bad ∧ Only [q] w w' ∧ (bb = true → e = 0 ∧ at2 = at_ + 1) ∧ (bb = false → at2 = at_)
set_option maxHeartbeats 3200000 in
theorem take_any {w : World} {q : Nat} {f : Fx} {at_ : Nat} {e bad : Int} (h : Rd w q f at_ e bad) (hn : f.n ≤ 20000) (s : ByteArray) (c : Int) (hs : ∀ W : World, (Instr.index 9 (.string s) (.int .i64 0)).run Try.prog W = .ok (.int .u8 c) W) :
    Calls Try.prog 45 #[.pointer (some ⟨q, 0, none⟩), .string s] w (TakeA w q f at_ e bad) := by
  have H := Lib.hid h
  have LT := Lib.hid (letter_any c)
  have hlt := h.lt
  have hq := h.qlt
  clear h
  go_enter Try.func45, Try.ntmps45
  go_wp2_with fail
  refine (now_any H.out).mono ?_
  rintro en w1 ⟨kd, tx, nn, a2, rfl, hb1, hts, hend⟩
  have H1 := Lib.hid ((H.out.keep hb1).keep (below_new w1 (.cells #[.int .i64 kd, .string tx, .int .u64 nn, .int .i64 a2] 63)))
  have HB := Lib.hid (hb1.trans ((below_new w1 (.cells #[.int .i64 kd, .string tx, .int .u64 nn, .int .i64 a2] 63)).mono hb1.size))
  have T1 := Lib.hid (Tv.new w1 kd tx nn a2)
  have HE := Lib.hid hend
  clear hend hts
  have hgq : q ≠ w1.heap.size := by have := hb1.size; omega
  clear hb1
  go_upto_region 2 with fail
  obtain ⟨W, hW⟩ : ∃ W, w1.alloc (.cells #[.int .i64 kd, .string tx, .int .u64 nn, .int .i64 a2] 63) = W := ⟨_, rfl⟩
  rw [hW] at H1 HB T1
  try rw [hW]
  clear hW H
  have c1 := H1.out.c1
  have c2 := H1.out.c2
  have cf := H1.out.free
  have y0 := T1.out.c0
  have y1 := T1.out.c1
  cases hl : lt c
  · rw [hl] at LT
    clear hl
    by_cases he : e = 0
    · subst he
      by_cases hk : kd = 3
      · subst hk
        have h1 : at_ + 1 < f.n := by
          rcases Nat.lt_or_ge (at_ + 1) f.n with h | h
          · exact h
          · exact absurd (HE.out (by omega)) (by decide)
        cases hstr : (tx.toList == s.toList)
        · go_wp2_with (first
        | (go_at_call 67; refine (LT.out _).mono ?_; rintro e w' ⟨rfl, rfl⟩)
        | fail)
          go_ret
          exact ⟨false, at_, rfl, H1.out, Only.of_below HB.out, fun h => (by cases h), fun _ => rfl⟩
        · have i1 : IntKind.i64.wrap ((at_ : Int) + 1) = (at_ : Int) + 1 := IntWalk.i64_in _ ⟨by omega, by omega⟩
          have H2 := Lib.hid (H1.out.step h1)
          go_wp2_with (first
        | (go_at_call 67; refine (LT.out _).mono ?_; rintro e w' ⟨rfl, rfl⟩)
        | fail)
          go_ret
          exact ⟨true, at_ + 1, rfl, H2.out, (Only.of_below HB.out).seq (only_q _ q 1 _), fun _ => ⟨rfl, rfl⟩, fun h => (by cases h)⟩
      · have tk : (kd == 3) = false := by simpa using hk
        go_wp2_with (first
        | (go_at_call 67; refine (LT.out _).mono ?_; rintro e w' ⟨rfl, rfl⟩)
        | fail)
        go_ret
        exact ⟨false, at_, rfl, H1.out, Only.of_below HB.out, fun h => (by cases h), fun _ => rfl⟩
    · have t0 : (e == 0) = false := by simpa using he
      go_wp2_with (first
        | (go_at_call 67; refine (LT.out _).mono ?_; rintro e w' ⟨rfl, rfl⟩)
        | fail)
      go_ret
      exact ⟨false, at_, rfl, H1.out, Only.of_below HB.out, fun h => (by cases h), fun _ => rfl⟩
  · rw [hl] at LT
    clear hl
    by_cases he : e = 0
    · subst he
      by_cases hk : kd = 4
      · subst hk
        have h1 : at_ + 1 < f.n := by
          rcases Nat.lt_or_ge (at_ + 1) f.n with h | h
          · exact h
          · exact absurd (HE.out (by omega)) (by decide)
        cases hstr : (tx.toList == s.toList)
        · go_wp2_with (first
        | (go_at_call 67; refine (LT.out _).mono ?_; rintro e w' ⟨rfl, rfl⟩)
        | fail)
          go_ret
          exact ⟨false, at_, rfl, H1.out, Only.of_below HB.out, fun h => (by cases h), fun _ => rfl⟩
        · have i1 : IntKind.i64.wrap ((at_ : Int) + 1) = (at_ : Int) + 1 := IntWalk.i64_in _ ⟨by omega, by omega⟩
          have H2 := Lib.hid (H1.out.step h1)
          go_wp2_with (first
        | (go_at_call 67; refine (LT.out _).mono ?_; rintro e w' ⟨rfl, rfl⟩)
        | fail)
          go_ret
          exact ⟨true, at_ + 1, rfl, H2.out, (Only.of_below HB.out).seq (only_q _ q 1 _), fun _ => ⟨rfl, rfl⟩, fun h => (by cases h)⟩
      · have tk : (kd == 4) = false := by simpa using hk
        go_wp2_with (first
        | (go_at_call 67; refine (LT.out _).mono ?_; rintro e w' ⟨rfl, rfl⟩)
        | fail)
        go_ret
        exact ⟨false, at_, rfl, H1.out, Only.of_below HB.out, fun h => (by cases h), fun _ => rfl⟩
    · have t0 : (e == 0) = false := by simpa using he
      go_wp2_with (first
        | (go_at_call 67; refine (LT.out _).mono ?_; rintro e w' ⟨rfl, rfl⟩)
        | fail)
      go_ret
      exact ⟨false, at_, rfl, H1.out, Only.of_below HB.out, fun h => (by cases h), fun _ => rfl⟩
def WantA (w : World) (q : Nat) (f : Fx) (at_ : Nat) (e bad : Int) (en : Ending) (w' : World) : Prop :=
  en = .returned (.tuple #[]) ∧ ∃ (at2 : Nat) (e2 bad2 : Int), Rd w' q f at2 e2 bad2 ∧ Only [q] w w' ∧ at_ ≤ at2 ∧ (e2 = 0 → e = 0 ∧ at2 = at_ + 1)
set_option maxHeartbeats 1600000 in
theorem want_any {w : World} {q : Nat} {f : Fx} {at_ : Nat} {e bad : Int} (h : Rd w q f at_ e bad) (hn : f.n ≤ 20000) (s : ByteArray) (c : Int) (hs : ∀ W : World, (Instr.index 9 (.string s) (.int .i64 0)).run Try.prog W = .ok (.int .u8 c) W) :
    Calls Try.prog 48 #[.pointer (some ⟨q, 0, none⟩), .string s] w (WantA w q f at_ e bad) := by
  have T := Lib.hid (take_any h hn s c hs)
  clear h hs
  go_enter Try.func48, Try.ntmps48
  go_wp2_with fail
  refine T.out.mono ?_
  rintro en w1 ⟨bb, at2, rfl, hr, ho, ht, hf⟩
  have H1 := Lib.hid hr
  have HO := Lib.hid ho
  have HT := Lib.hid ht
  have HF := Lib.hid hf
  clear hr ho ht hf T
  cases bb
  · obtain rfl := HF.out rfl
    go_wp2_with fail
    refine (fail_any H1.out 2 (by decide)).mono ?_
    rintro en w2 ⟨rfl, e2, bad2, h2, hne, ho2⟩
    go_wp2_with fail
    go_end0
    exact ⟨rfl, at2, e2, bad2, h2, HO.out.seq ho2, Nat.le_refl _, fun h => absurd h hne⟩
  · obtain ⟨rfl, rfl⟩ := HT.out rfl
    go_wp2_with fail
    go_end0
    exact ⟨rfl, at_ + 1, 0, bad, H1.out, HO.out, by omega, fun _ => ⟨rfl, rfl⟩⟩
def NameA (w : World) (q : Nat) (f : Fx) (at_ : Nat) (e bad : Int) (en : Ending) (w' : World) : Prop :=
  ∃ (s : ByteArray) (at2 : Nat) (e2 bad2 : Int), en = .returned (.string s) ∧ Rd w' q f at2 e2 bad2 ∧ Only [q] w w' ∧ at_ ≤ at2 ∧ (e2 = 0 → e = 0 ∧ at2 = at_ + 1) ∧ s.size ≤ maxLen
set_option maxHeartbeats 3200000 in
theorem name_any {w : World} {q : Nat} {f : Fx} {at_ : Nat} {e bad : Int} (h : Rd w q f at_ e bad) (hn : f.n ≤ 20000) :
    Calls Try.prog 46 #[.pointer (some ⟨q, 0, none⟩)] w (NameA w q f at_ e bad) := by
  have H := Lib.hid h
  have hlt := h.lt
  have hq := h.qlt
  clear h
  go_enter Try.func46, Try.ntmps46
  go_wp2_with fail
  refine (now_any H.out).mono ?_
  rintro en w1 ⟨kd, tx, nn, a2, rfl, hb1, hts, hend⟩
  have H1 := Lib.hid ((H.out.keep hb1).keep (below_new w1 (.cells #[.int .i64 kd, .string tx, .int .u64 nn, .int .i64 a2] 63)))
  have HB := Lib.hid (hb1.trans ((below_new w1 (.cells #[.int .i64 kd, .string tx, .int .u64 nn, .int .i64 a2] 63)).mono hb1.size))
  have T1 := Lib.hid (Tv.new w1 kd tx nn a2)
  have HE := Lib.hid (And.intro hts hend)
  clear hend hts
  have hgq : q ≠ w1.heap.size := by have := hb1.size; omega
  clear hb1
  go_upto_region 2 with fail
  obtain ⟨W, hW⟩ : ∃ W, w1.alloc (.cells #[.int .i64 kd, .string tx, .int .u64 nn, .int .i64 a2] 63) = W := ⟨_, rfl⟩
  rw [hW] at H1 HB T1
  try rw [hW]
  clear hW H
  generalize w1.heap.size = g at *
  have c1 := H1.out.c1
  have c2 := H1.out.c2
  have cf := H1.out.free
  have y0 := T1.out.c0
  have y1 := T1.out.c1
  have bad_end : ∀ w2, (∃ e2 bad2, Rd w2 q f at_ e2 bad2 ∧ e2 ≠ 0 ∧ Only [q] W w2) → NameA w q f at_ e bad (.returned (.string ⟨#[]⟩)) w2 := fun w2 ⟨e2, bad2, h2, hne, ho⟩ => ⟨⟨#[]⟩, at_, e2, bad2, rfl, h2, (Only.of_below HB.out).seq ho, Nat.le_refl _, fun h => absurd h hne, by decide⟩
  have HBE := Lib.hid bad_end
  clear bad_end
  by_cases he : e = 0
  · subst he
    by_cases hk : kd = 1
    · subst hk
      have h1 : at_ + 1 < f.n := by
        rcases Nat.lt_or_ge (at_ + 1) f.n with h | h
        · exact h
        · exact absurd (HE.out.2 (by omega)) (by decide)
      have i1 : IntKind.i64.wrap ((at_ : Int) + 1) = (at_ : Int) + 1 := IntWalk.i64_in _ ⟨by omega, by omega⟩
      have H2 := Lib.hid (H1.out.step h1)
      go_wp2_with fail
      go_ret
      exact ⟨tx, at_ + 1, 0, bad, rfl, H2.out, (Only.of_below HB.out).seq (only_q _ q 1 _), by omega, fun _ => ⟨rfl, rfl⟩, HE.out.1.1⟩
    · have tk : (kd != 1) = true := by simpa using hk
      go_wp2_with fail
      refine (fail_any H1.out 2 (by decide)).mono ?_
      rintro en w2 ⟨rfl, h2⟩
      have H2 := Lib.hid h2
      clear h2
      go_wp2_with fail
      go_ret
      exact HBE.out _ H2.out
  · have t0 : (e != 0) = true := by simpa using he
    go_wp2_with fail
    refine (fail_any H1.out 2 (by decide)).mono ?_
    rintro en w2 ⟨rfl, h2⟩
    have H2 := Lib.hid h2
    clear h2
    go_wp2_with fail
    go_ret
    exact HBE.out _ H2.out
end Go.Proofs.Ytapnnbbbgopobaa.Rr
namespace Go.Proofs.Ytapnnbbbgopobaa.Rr
open Go.RowKit Cm Mm Ow Me Ml Lg Lx
theorem len5 {vs : List Value} (h : vs.length = 5) : ∃ a b c d e, vs = [a, b, c, d, e] := by
  match vs, h with
  | [a, b, c, d, e], _ => exact ⟨a, b, c, d, e, rfl⟩
def NumA (w : World) (e : Ending) (w' : World) : Prop := ∃ z : Int, e = .returned (.int .i64 z) ∧ Below w.heap.size w w'
set_option maxHeartbeats 1600000 in
theorem depth_leaf (a b c d : Value) (w : World) : Calls Try.prog 96 #[.agg #[a, b, c, d, .slice none 0 0]] w (NumA w) := by
  have hb := below_new w (.cells #[a, b, c, d, .slice none 0 0] 120)
  have hbx := heap_alloc_new w (.cells #[a, b, c, d, .slice none 0 0] 120)
  obtain ⟨W, hW⟩ : ∃ W, w.alloc (.cells #[a, b, c, d, .slice none 0 0] 120) = W := ⟨_, rfl⟩
  rw [hW] at hb hbx
  have x4 : W.cell? ⟨w.heap.size, 4, none⟩ = some (.slice none 0 0) := by simp only [World.cell?, hbx]; simp
  go_enter Try.func96, Try.ntmps96
  go_wp2_with fail
  try rw [hW]
  clear hW
  go_loopw [3, 4] (fun z i wr => ∃ y : Int, z = .int .i64 y ∧ i = .int .i64 0 ∧ W = wr) (fun _ i _ => 0)
  case atStart => exact ⟨0, rfl, rfl, rfl⟩
  case round =>
    obtain ⟨y, rfl, rfl, rfl⟩ := hrel
    go_wp2_with fail
    go_ret
    exact ⟨_, rfl, hb⟩
set_option maxHeartbeats 3200000 in
theorem depth_any : ∀ (x : Ex) {B : Nat} {w : World} {vs : List Value}, exV B w x vs → Calls Try.prog 96 #[.agg vs.toArray] w (NumA w)
  | .num n, B, w, vs, h => by
    unfold exV at h
    obtain ⟨rfl, _⟩ := h
    exact depth_leaf _ _ _ _ w
  | .name s, B, w, vs, h => by
    unfold exV at h
    obtain ⟨rfl, _⟩ := h
    exact depth_leaf _ _ _ _ w
  | .op o a b, B, w, vs, h => by
    unfold exV at h
    obtain ⟨blk, va, vb, rfl, h1, h2, h3, h4, h5, h6⟩ := h
    have IA := Lib.hid (fun (w : World) (h : exV B w a va) => depth_any a h)
    have IB := Lib.hid (fun (w : World) (h : exV B w b vb) => depth_any b h)
    have hb := below_new w (.cells #[.int .i64 2, .int .u64 0, .int .u8 o, .string ⟨#[]⟩, .slice (some ⟨blk, 0, none⟩) 2 2] 120)
    have hbx := heap_alloc_new w (.cells #[.int .i64 2, .int .u64 0, .int .u8 o, .string ⟨#[]⟩, .slice (some ⟨blk, 0, none⟩) 2 2] 120)
    obtain ⟨W, hW⟩ : ∃ W, w.alloc (.cells #[.int .i64 2, .int .u64 0, .int .u8 o, .string ⟨#[]⟩, .slice (some ⟨blk, 0, none⟩) 2 2] 120) = W := ⟨_, rfl⟩
    rw [hW] at hb hbx
    have x4 : W.cell? ⟨w.heap.size, 4, none⟩ = some (.slice (some ⟨blk, 0, none⟩) 2 2) := by simp only [World.cell?, hbx]; simp
    have hwl : w.heap.size < W.heap.size := by rw [← hW]; simp
    have XA := Lib.hid (exV_keep hb h5)
    have XB := Lib.hid (exV_keep hb h6)
    have HB := Lib.hid hb
    obtain ⟨a0, a1, a2, a3, a4, rfl⟩ := len5 (exV_len h5)
    obtain ⟨b0, b1, b2, b3, b4, rfl⟩ := len5 (exV_len h6)
    have CA : Hid (∀ j, j < 5 → W.cell? ⟨blk, j, none⟩ = ([a0, a1, a2, a3, a4] : List Value)[j]?) := Lib.hid (fun j hj => (hb.cell (p := ⟨blk, j, none⟩) h2).trans (h3 j hj))
    have CB : Hid (∀ j, j < 5 → W.cell? ⟨blk, 5 + j, none⟩ = ([b0, b1, b2, b3, b4] : List Value)[j]?) := Lib.hid (fun j hj => (hb.cell (p := ⟨blk, 5 + j, none⟩) h2).trans (h4 j hj))
    have hbl : blk < W.heap.size := by omega
    clear h3 h4 h5 h6 hb hbx h1 h2
    go_enter Try.func96, Try.ntmps96
    go_wp2_with fail
    try rw [hW]
    clear hW
    go_loopw [3, 4] (fun z i wr => ∃ (y : Int) (k : Nat), k ≤ 2 ∧ z = .int .i64 y ∧ i = .int .i64 k ∧ Below W.heap.size W wr) (fun _ i _ => 2 - (intOf i).toNat)
    case atStart => exact ⟨0, 0, by omega, rfl, rfl, Below.refl _ _⟩
    case round =>
      obtain ⟨y, k, hk, rfl, rfl, hbel⟩ := hrel
      have BR := Lib.hid hbel
      have x4r : wr.cell? ⟨w.heap.size, 4, none⟩ = some (.slice (some ⟨blk, 0, none⟩) 2 2) := (hbel.cell (p := ⟨w.heap.size, 4, none⟩) hwl).trans x4
      have CAr : Hid (∀ j, j < 5 → wr.cell? ⟨blk, j, none⟩ = ([a0, a1, a2, a3, a4] : List Value)[j]?) := Lib.hid (fun j hj => (hbel.cell (p := ⟨blk, j, none⟩) hbl).trans (CA.out j hj))
      have CBr : Hid (∀ j, j < 5 → wr.cell? ⟨blk, 5 + j, none⟩ = ([b0, b1, b2, b3, b4] : List Value)[j]?) := Lib.hid (fun j hj => (hbel.cell (p := ⟨blk, 5 + j, none⟩) hbl).trans (CB.out j hj))
      clear hbel
      by_cases h0 : k = 0
      · subst h0
        have y0 : wr.cell? ⟨blk, 0, none⟩ = some a0 := CAr.out 0 (by omega)
        have y1 : wr.cell? ⟨blk, 1, none⟩ = some a1 := CAr.out 1 (by omega)
        have y2 : wr.cell? ⟨blk, 2, none⟩ = some a2 := CAr.out 2 (by omega)
        have y3 : wr.cell? ⟨blk, 3, none⟩ = some a3 := CAr.out 3 (by omega)
        have y4 : wr.cell? ⟨blk, 4, none⟩ = some a4 := CAr.out 4 (by omega)
        go_wp2_with fail
        refine (IA.out _ (exV_keep BR.out XA.out)).mono ?_
        rintro e w2 ⟨z, rfl, hb2⟩
        have B2 := Lib.hid (BR.out.trans (hb2.mono BR.out.size))
        clear hb2
        go_wp2_with fail
        all_goals go_roundw
        all_goals first
          | exact ⟨_, 1, by omega, rfl, by go_num, B2.out⟩
          | (simp [intOf])
      by_cases h1 : k = 1
      · subst h1
        have y0 : wr.cell? ⟨blk, 5, none⟩ = some b0 := CBr.out 0 (by omega)
        have y1 : wr.cell? ⟨blk, 6, none⟩ = some b1 := CBr.out 1 (by omega)
        have y2 : wr.cell? ⟨blk, 7, none⟩ = some b2 := CBr.out 2 (by omega)
        have y3 : wr.cell? ⟨blk, 8, none⟩ = some b3 := CBr.out 3 (by omega)
        have y4 : wr.cell? ⟨blk, 9, none⟩ = some b4 := CBr.out 4 (by omega)
        go_wp2_with fail
        refine (IB.out _ (exV_keep BR.out XB.out)).mono ?_
        rintro e w2 ⟨z, rfl, hb2⟩
        have B2 := Lib.hid (BR.out.trans (hb2.mono BR.out.size))
        clear hb2
        go_wp2_with fail
        all_goals go_roundw
        all_goals first
          | exact ⟨_, 2, by omega, rfl, by go_num, B2.out⟩
          | (simp [intOf])
      · obtain rfl : k = 2 := by omega
        go_wp2_with fail
        go_ret
        exact ⟨_, rfl, HB.out.trans (BR.out.mono HB.out.size)⟩
end Go.Proofs.Ytapnnbbbgopobaa.Rr
