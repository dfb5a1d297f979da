/-
  WALKS: the reference's reader: part of an expression.
-/
import Derived.Test.YtapnnbbbgopobaaG07
set_option linter.unusedVariables false
set_option linter.unusedSimpArgs false
namespace Go.Proofs.Ytapnnbbbgopobaa.Rr
open Go.RowKit Cm Mm Ow Me Ml Lg Lx
structure Xv (w : World) (g : Nat) (vs : List Value) : Prop where
  at_ : w.heap[g]? = some (.cells vs.toArray 120 (0, 0))
section
variable {w w' : World} {g : Nat} {vs : List Value}
theorem Xv.new (w : World) (vs : List Value) : Xv (w.alloc (.cells vs.toArray 120)) w.heap.size vs := ⟨heap_alloc_new _ _⟩
theorem Xv.cell (h : Xv w g vs) (k : Nat) : w.cell? ⟨g, k, none⟩ = vs[k]? := by simp only [World.cell?, h.at_]; simp
theorem Xv.free (h : Xv w g vs) (k : Nat) : w.frozen? ⟨g, k, none⟩ = false := by simp only [World.frozen?, h.at_]; simp
theorem Xv.lt (h : Xv w g vs) : g < w.heap.size := (Array.getElem?_eq_some_iff.1 h.at_).1
theorem Xv.keep (h : Xv w g vs) (hb : Below w.heap.size w w') : Xv w' g vs := ⟨(hb.block _ h.lt).trans h.at_⟩
theorem Xv.only (h : Xv w g vs) {G : List Nat} (ho : Only G w w') (hg : g ∉ G) : Xv w' g vs := ⟨(ho.block _ h.lt hg).trans h.at_⟩
theorem Xv.other (h : Xv w g vs) {k : Nat} (hk : g ≠ k) (j : Nat) (v : Value) : Xv (w.setCell ⟨k, j, none⟩ v) g vs := ⟨(Below.heap_setCell w ⟨k, j, none⟩ v g hk).trans h.at_⟩
theorem Xv.store {u0 u1 u2 u3 u4 : Value} (h : Xv w g [u0, u1, u2, u3, u4]) (a b c d e : Value) : Xv (((((w.setCell ⟨g, 0, none⟩ a).setCell ⟨g, 1, none⟩ b).setCell ⟨g, 2, none⟩ c).setCell ⟨g, 3, none⟩ d).setCell ⟨g, 4, none⟩ e) g [a, b, c, d, e] :=
  ⟨blk_set (blk_set (blk_set (blk_set (blk_set h.at_ _) _) _) _) _⟩
end
theorem only5 {G : List Nat} {w0 w : World} (h : Only G w0 w) {g : Nat} (hg : w0.heap.size ≤ g) (a b c d e : Value) : Only G w0 (((((w.setCell ⟨g, 0, none⟩ a).setCell ⟨g, 1, none⟩ b).setCell ⟨g, 2, none⟩ c).setCell ⟨g, 3, none⟩ d).setCell ⟨g, 4, none⟩ e) := by
  have one : ∀ {w1 : World}, Only G w0 w1 → ∀ (k : Nat) (v : Value), Only G w0 (w1.setCell ⟨g, k, none⟩ v) := fun {w1} h1 k v => h1.trans (F' := [g]) (only_q w1 g k v) (fun x hx => by simp at hx; subst hx; exact .inr hg)
  exact one (one (one (one (one h 0 a) 1 b) 2 c) 3 d) 4 e
theorem rd5 {w : World} {q : Nat} {f : Fx} {at_ : Nat} {er bad : Int} (h : Rd w q f at_ er bad) {g : Nat} (hg : q < g) (a b c d e : Value) : Rd (((((w.setCell ⟨g, 0, none⟩ a).setCell ⟨g, 1, none⟩ b).setCell ⟨g, 2, none⟩ c).setCell ⟨g, 3, none⟩ d).setCell ⟨g, 4, none⟩ e) q f at_ er bad := by
  have one : ∀ {w1 : World}, Rd w1 q f at_ er bad → ∀ (k : Nat) (v : Value), Rd (w1.setCell ⟨g, k, none⟩ v) q f at_ er bad := fun {w1} h1 k v => h1.only (only_q w1 g k v) (fun x hx => by simp at hx; subst hx; exact hg)
  exact one (one (one (one (one h 0 a) 1 b) 2 c) 3 d) 4 e
theorem exV_set5 {B : Nat} {w : World} {x : Ex} {vs : List Value} (h : exV B w x vs) {g : Nat} (hg : g < B) (a b c d e : Value) : exV B (((((w.setCell ⟨g, 0, none⟩ a).setCell ⟨g, 1, none⟩ b).setCell ⟨g, 2, none⟩ c).setCell ⟨g, 3, none⟩ d).setCell ⟨g, 4, none⟩ e) x vs := by
  have one : ∀ {w1 : World}, exV B w1 x vs → ∀ (k : Nat) (v : Value), exV B (w1.setCell ⟨g, k, none⟩ v) x vs := fun {w1} h1 k v => exV_only (only_q w1 g k v) (fun y hy => by simp at hy; subst hy; exact hg) h1
  exact one (one (one (one (one h 0 a) 1 b) 2 c) 3 d) 4 e
def ExSh (vs : List Value) : Prop := ∃ (k n o : Int) (s : ByteArray) (A : Option Addr) (m c : Nat), vs = [.int .i64 k, .int .u64 n, .int .u8 o, .string s, .slice A m c]
theorem ExSh.len {vs : List Value} (h : ExSh vs) : vs.length = 5 := by obtain ⟨k, n, o, s, A, m, c, rfl⟩ := h; rfl
theorem ExSh.mk (k n o : Int) (s : ByteArray) (A : Option Addr) (m c : Nat) : ExSh [.int .i64 k, .int .u64 n, .int .u8 o, .string s, .slice A m c] := ⟨k, n, o, s, A, m, c, rfl⟩
def XA (w : World) (q : Nat) (f : Fx) (at_ : Nat) (e bad : Int) (en : Ending) (w' : World) : Prop :=
  ∃ (vs : List Value) (at2 : Nat) (e2 bad2 : Int), en = .returned (.agg vs.toArray) ∧ ExSh vs ∧ Rd w' q f at2 e2 bad2 ∧ Only [q] w w' ∧ at_ ≤ at2 ∧ (e2 = 0 → e = 0 ∧ at_ < at2 ∧ ∃ x, exV w.heap.size w' x vs ∧ at_ + lv x ≤ at2)
structure Po (d : Int) : Prop where
  go : ∀ {w : World} {q : Nat} {f : Fx} {at_ : Nat} {e bad : Int} (h : Rd w q f at_ e bad) (hn : f.n ≤ 20000), Calls Try.prog 95 #[.pointer (some ⟨q, 0, none⟩), .int .i64 d] w (XA w q f at_ e bad)
structure Eo (d : Int) : Prop where
  go : ∀ {w : World} {q : Nat} {f : Fx} {at_ : Nat} {e bad : Int} (h : Rd w q f at_ e bad) (hn : f.n ≤ 20000), Calls Try.prog 82 #[.pointer (some ⟨q, 0, none⟩), .int .i64 d] w (XA w q f at_ e bad)
theorem part_ret {w w' : World} {q : Nat} {f : Fx} {at_ : Nat} {e bad : Int} {tmps : Array Value} {g : Nat} {vs : List Value} (h4 : tmps[4]?.getD undef = .pointer (some ⟨g, 0, none⟩)) (hX : Xv w' g vs) (hA : XA w q f at_ e bad (.returned (.agg vs.toArray)) w') (h5 : vs.length = 5) : bodyPost Try.prog Try.f95 (XA w q f at_ e bad) Exit.ret { tmps := tmps, defers := [] } w' := by
  obtain ⟨a, b, c, d, e', rfl⟩ := len5 h5
  have y0 : w'.cell? ⟨g, 0, none⟩ = some a := hX.cell 0
  have y1 : w'.cell? ⟨g, 1, none⟩ = some b := hX.cell 1
  have y2 : w'.cell? ⟨g, 2, none⟩ = some c := hX.cell 2
  have y3 : w'.cell? ⟨g, 3, none⟩ = some d := hX.cell 3
  have y4 : w'.cell? ⟨g, 4, none⟩ = some e' := hX.cell 4
  refine bodyPost_ret (v := .agg #[a, b, c, d, e']) ?_ rfl hA
  simp [results, Try.results95, go_sem, h4, y0, y1, y2, y3, y4]
theorem expr_ret {w w' : World} {q : Nat} {f : Fx} {at_ : Nat} {e bad : Int} {tmps : Array Value} {g : Nat} {vs : List Value} (h4 : tmps[4]?.getD undef = .pointer (some ⟨g, 0, none⟩)) (hX : Xv w' g vs) (hA : XA w q f at_ e bad (.returned (.agg vs.toArray)) w') (h5 : vs.length = 5) : bodyPost Try.prog Try.f82 (XA w q f at_ e bad) Exit.ret { tmps := tmps, defers := [] } w' := by
  obtain ⟨a, b, c, d, e', rfl⟩ := len5 h5
  have y0 : w'.cell? ⟨g, 0, none⟩ = some a := hX.cell 0
  have y1 : w'.cell? ⟨g, 1, none⟩ = some b := hX.cell 1
  have y2 : w'.cell? ⟨g, 2, none⟩ = some c := hX.cell 2
  have y3 : w'.cell? ⟨g, 3, none⟩ = some d := hX.cell 3
  have y4 : w'.cell? ⟨g, 4, none⟩ = some e' := hX.cell 4
  refine bodyPost_ret (v := .agg #[a, b, c, d, e']) ?_ rfl hA
  simp [results, Try.results82, go_sem, h4, y0, y1, y2, y3, y4]
set_option maxRecDepth 20000 in
set_option maxHeartbeats 6400000 in
theorem part_of (d : Int) (hd0 : 0 ≤ d ∧ d ≤ 100) (IH : d ≤ 29 → Eo (d + 1)) : Po d := by
  refine ⟨fun {w q f at_ e bad} h hn => ?_⟩
  have hq := h.qlt
  have H0 := Lib.hid (h.keep (below_new w (.cells #[.int .i64 0, .int .u64 0, .int .u8 0, .string ⟨#[]⟩, .slice none 0 0] 120)))
  have X0 := Lib.hid (Xv.new w [.int .i64 0, .int .u64 0, .int .u8 0, .string ⟨#[]⟩, .slice none 0 0])
  have HI := Lib.hid IH
  clear h IH
  go_enter Try.func95, Try.ntmps95
  go_wp2_with fail
  refine (now_any H0.out).mono ?_
  rintro en w1 ⟨kd, tx, nn, a2, rfl, hb1, hts, hend⟩
  have H1 := Lib.hid ((H0.out.keep hb1).keep (below_new w1 (.cells #[.int .i64 kd, .string tx, .int .u64 nn, .int .i64 a2] 63)))
  have X1 := Lib.hid ((X0.out.keep hb1).keep (below_new w1 (.cells #[.int .i64 kd, .string tx, .int .u64 nn, .int .i64 a2] 63)))
  have hb1s := hb1.size
  have hws : w.heap.size < w1.heap.size := by have := X0.out.lt; omega
  have HB := Lib.hid ((below_new w _).trans ((hb1.trans ((below_new w1 (.cells #[.int .i64 kd, .string tx, .int .u64 nn, .int .i64 a2] 63)).mono hb1.size)).mono (by simp)))
  have T1 := Lib.hid (Tv.new w1 kd tx nn a2)
  have HE := Lib.hid (And.intro hts hend)
  clear hend hts
  have hgq : q ≠ w1.heap.size := by omega
  have hg45 : w.heap.size ≠ w1.heap.size := by omega
  clear hb1 H0 X0
  go_upto_region 2 with fail
  obtain ⟨W, hW⟩ : ∃ W, w1.alloc (.cells #[.int .i64 kd, .string tx, .int .u64 nn, .int .i64 a2] 63) = W := ⟨_, rfl⟩
  rw [hW] at H1 HB T1 X1
  try rw [hW]
  clear hW hb1s
  have OB := Lib.hid (Only.of_below (F := [q]) HB.out)
  clear HB
  generalize w1.heap.size = g5 at *
  generalize hg4 : w.heap.size = g4 at *
  have HG := Lib.hid hg4
  have hqg : q < g4 := hq
  clear hg4
  have X4 := X1
  clear X1
  have c1 := H1.out.c1
  have c2 := H1.out.c2
  have cf := H1.out.free
  have t0 := T1.out.c0
  have t1 := T1.out.c1
  have t2 := T1.out.c2
  have hqn : q ≠ g4 := by omega
  by_cases he : e = 0
  · subst he
    by_cases hd : 29 < d
    · have d0 : decide (29 < d) = true := decide_eq_true hd
      go_wp2_with fail
      refine (fail_any H1.out 11 (by decide)).mono ?_
      rintro en w2 ⟨rfl, e2, bad2, h2, hne, ho2⟩
      have R2 := Lib.hid h2
      have O2 := Lib.hid (OB.out.seq ho2)
      have X4 := Lib.hid (X4.out.only ho2 (by simp; omega))
      clear h2 ho2
      have z0 : w2.cell? ⟨g4, 0, none⟩ = some (.int .i64 0) := X4.out.cell 0
      have z1 : w2.cell? ⟨g4, 1, none⟩ = some (.int .u64 0) := X4.out.cell 1
      have z2 : w2.cell? ⟨g4, 2, none⟩ = some (.int .u8 0) := X4.out.cell 2
      have z3 : w2.cell? ⟨g4, 3, none⟩ = some (.string ⟨#[]⟩) := X4.out.cell 3
      have z4 : w2.cell? ⟨g4, 4, none⟩ = some (.slice none 0 0) := X4.out.cell 4
      have zf : ∀ k, w2.frozen? ⟨g4, k, none⟩ = false := X4.out.free
      go_wp2_with fail
      exact part_ret (g := g4) rfl (X4.out.store _ _ _ _ _) ⟨_, at_, e2, bad2, rfl, ExSh.mk _ _ _ _ _ _ _, rd5 R2.out hqg _ _ _ _ _, only5 O2.out (Nat.le_of_eq HG.out) _ _ _ _ _, Nat.le_refl _, fun h => absurd h hne⟩ rfl
    have d0 : decide (29 < d) = false := decide_eq_false hd
    have IE := Lib.hid (HI.out (by omega))
    clear HI hd
    have h1of : kd ≠ 5 → at_ + 1 < f.n := fun hk => by
      rcases Nat.lt_or_ge (at_ + 1) f.n with h | h
      · exact h
      · exact absurd (HE.out.2 (by have := H1.out.lt; omega)) hk
    have hlt := H1.out.lt
    have i1 : IntKind.i64.wrap ((at_ : Int) + 1) = (at_ : Int) + 1 := IntWalk.i64_in _ ⟨by omega, by omega⟩
    have i2 : IntKind.i64.wrap (d + 1) = d + 1 := IntWalk.i64_in _ ⟨by omega, by omega⟩
    have z0 : W.cell? ⟨g4, 0, none⟩ = some (.int .i64 0) := X4.out.cell 0
    have z1 : W.cell? ⟨g4, 1, none⟩ = some (.int .u64 0) := X4.out.cell 1
    have z2 : W.cell? ⟨g4, 2, none⟩ = some (.int .u8 0) := X4.out.cell 2
    have z3 : W.cell? ⟨g4, 3, none⟩ = some (.string ⟨#[]⟩) := X4.out.cell 3
    have z4 : W.cell? ⟨g4, 4, none⟩ = some (.slice none 0 0) := X4.out.cell 4
    have zf : ∀ k, W.frozen? ⟨g4, k, none⟩ = false := X4.out.free
    by_cases hk2 : kd = 2
    · subst hk2
      have R2 := Lib.hid (H1.out.step (h1of (by decide)))
      have O2 := Lib.hid (OB.out.seq (only_q W q 1 (.int .i64 ((at_ : Int) + 1))))
      have X4b := Lib.hid (X4.out.other (k := q) (by omega) 1 (.int .i64 ((at_ : Int) + 1)))
      clear h1of IE
      go_wp2_with fail
      exact part_ret (g := g4) rfl (X4b.out.store _ _ _ _ _) ⟨_, at_ + 1, 0, bad, rfl, ExSh.mk _ _ _ _ _ _ _, rd5 R2.out hqg _ _ _ _ _, only5 O2.out (Nat.le_of_eq HG.out) _ _ _ _ _, by omega, fun _ => ⟨rfl, by omega, .num nn, ⟨rfl, HE.out.1.2⟩, Nat.le_refl _⟩⟩ rfl
    have k2 : (kd == 2) = false := by simpa using hk2
    by_cases hk1 : kd = 1
    · subst hk1
      have R2 := Lib.hid (H1.out.step (h1of (by decide)))
      have O2 := Lib.hid (OB.out.seq (only_q W q 1 (.int .i64 ((at_ : Int) + 1))))
      have X4b := Lib.hid (X4.out.other (k := q) (by omega) 1 (.int .i64 ((at_ : Int) + 1)))
      have hsz := HE.out.1.1
      clear h1of IE
      go_wp2_with fail
      exact part_ret (g := g4) rfl (X4b.out.store _ _ _ _ _) ⟨_, at_ + 1, 0, bad, rfl, ExSh.mk _ _ _ _ _ _ _, rd5 R2.out hqg _ _ _ _ _, only5 O2.out (Nat.le_of_eq HG.out) _ _ _ _ _, by omega, fun _ => ⟨rfl, by omega, .name tx, ⟨rfl, hsz⟩, Nat.le_refl _⟩⟩ rfl
    have k1 : (kd == 1) = false := by simpa using hk1
    clear hk1 hk2 z0 z1 z2 z3 z4 zf h1of i1
    go_wp2_with fail
    refine (take_any H1.out hn ⟨#[40]⟩ 40 (fun W => by kernel_rfl)).mono ?_
    rintro en w2 ⟨bb, at2, rfl, h2, ho2, ht, hf⟩
    have R2 := Lib.hid h2
    have O2 := Lib.hid (OB.out.seq ho2)
    have X4b := Lib.hid (X4.out.only ho2 (by simp; omega))
    have HT := Lib.hid ht
    have HF := Lib.hid hf
    clear h2 ho2 ht hf X4 OB H1 c1 c2 cf t0 t1 t2
    cases bb
    · obtain rfl := HF.out rfl
      go_wp2_with fail
      refine (fail_any R2.out 2 (by decide)).mono ?_
      rintro en w3 ⟨rfl, e2, bad2, h3, hne, ho3⟩
      have R3 := Lib.hid h3
      have O3 := Lib.hid (O2.out.seq ho3)
      have X4 := Lib.hid (X4b.out.only ho3 (by simp; omega))
      clear h3 ho3 X4b O2 R2
      have z0 : w3.cell? ⟨g4, 0, none⟩ = some (.int .i64 0) := X4.out.cell 0
      have z1 : w3.cell? ⟨g4, 1, none⟩ = some (.int .u64 0) := X4.out.cell 1
      have z2 : w3.cell? ⟨g4, 2, none⟩ = some (.int .u8 0) := X4.out.cell 2
      have z3 : w3.cell? ⟨g4, 3, none⟩ = some (.string ⟨#[]⟩) := X4.out.cell 3
      have z4 : w3.cell? ⟨g4, 4, none⟩ = some (.slice none 0 0) := X4.out.cell 4
      have zf : ∀ k, w3.frozen? ⟨g4, k, none⟩ = false := X4.out.free
      go_wp2_with fail
      exact part_ret (g := g4) rfl (X4.out.store _ _ _ _ _) ⟨_, at2, e2, bad2, rfl, ExSh.mk _ _ _ _ _ _ _, rd5 R3.out hqg _ _ _ _ _, only5 O3.out (Nat.le_of_eq HG.out) _ _ _ _ _, Nat.le_refl _, fun h => absurd h hne⟩ rfl
    · obtain ⟨-, rfl⟩ := HT.out rfl
      clear HT HF
      go_wp2_with fail
      refine (IE.out.go R2.out hn).mono ?_
      rintro en w3 ⟨vs, at3, e3, bad3, rfl, ⟨v0, v1, v2, v3, vA, vm, vc, rfl⟩, h3, ho3, hat3, hok3⟩
      have hs3 := ho3.size
      have hw2 := X4b.out.lt
      have bn := below_new w3 (.cells #[.int .i64 v0, .int .u64 v1, .int .u8 v2, .string v3, .slice vA vm vc] 120)
      have R3 := Lib.hid (h3.keep bn)
      have O3 := Lib.hid ((O2.out.seq ho3).seq (Only.of_below bn))
      have X4c := Lib.hid ((X4b.out.only ho3 (by simp; omega)).keep bn)
      have X6 := Lib.hid (Xv.new w3 [.int .i64 v0, .int .u64 v1, .int .u8 v2, .string v3, .slice vA vm vc])
      have HK := Lib.hid hok3
      have hg6 : w3.heap.size ≠ q := by omega
      clear h3 ho3 hok3 X4b O2 R2
      go_upto_region 15 with fail
      obtain ⟨w4, hw4⟩ : ∃ w4, w3.alloc (.cells #[.int .i64 v0, .int .u64 v1, .int .u8 v2, .string v3, .slice vA vm vc] 120) = w4 := ⟨_, rfl⟩
      rw [hw4] at R3 O3 X4c bn
      rw [show w3.alloc (.cells ([.int .i64 v0, .int .u64 v1, .int .u8 v2, .string v3, .slice vA vm vc] : List Value).toArray 120) = w4 from hw4] at X6
      have BN := Lib.hid (Only.of_below (F := []) bn)
      try rw [hw4]
      clear hw4 bn
      generalize hg6e : w3.heap.size = g6 at *
      clear hg6e
      go_wp2_with fail
      refine (want_any R3.out hn ⟨#[41]⟩ 41 (fun W => by kernel_rfl)).mono ?_
      rintro en w5 ⟨rfl, at5, e5, bad5, h5, ho5, hat5, hok5⟩
      have R5 := Lib.hid h5
      have O5 := Lib.hid (O3.out.seq ho5)
      have X4 := Lib.hid (X4c.out.only ho5 (by simp; omega))
      have X6b := Lib.hid (X6.out.only ho5 (by simp; omega))
      have HO5 := Lib.hid ho5
      have HK5 := Lib.hid hok5
      clear h5 ho5 hok5 X4c O3 R3 X6
      have z0 : w5.cell? ⟨g4, 0, none⟩ = some (.int .i64 0) := X4.out.cell 0
      have z1 : w5.cell? ⟨g4, 1, none⟩ = some (.int .u64 0) := X4.out.cell 1
      have z2 : w5.cell? ⟨g4, 2, none⟩ = some (.int .u8 0) := X4.out.cell 2
      have z3 : w5.cell? ⟨g4, 3, none⟩ = some (.string ⟨#[]⟩) := X4.out.cell 3
      have z4 : w5.cell? ⟨g4, 4, none⟩ = some (.slice none 0 0) := X4.out.cell 4
      have zf : ∀ k, w5.frozen? ⟨g4, k, none⟩ = false := X4.out.free
      have y0 : w5.cell? ⟨g6, 0, none⟩ = some (.int .i64 v0) := X6b.out.cell 0
      have y1 : w5.cell? ⟨g6, 1, none⟩ = some (.int .u64 v1) := X6b.out.cell 1
      have y2 : w5.cell? ⟨g6, 2, none⟩ = some (.int .u8 v2) := X6b.out.cell 2
      have y3 : w5.cell? ⟨g6, 3, none⟩ = some (.string v3) := X6b.out.cell 3
      have y4 : w5.cell? ⟨g6, 4, none⟩ = some (.slice vA vm vc) := X6b.out.cell 4
      go_wp2_with fail
      refine part_ret (g := g4) rfl (X4.out.store _ _ _ _ _) ⟨_, at5, e5, bad5, rfl, ExSh.mk _ _ _ _ _ _ _, rd5 R5.out hqg _ _ _ _ _, only5 O5.out (Nat.le_of_eq HG.out) _ _ _ _ _, by omega, fun h0 => ?_⟩ rfl
      obtain ⟨h30, h3a⟩ := HK5.out h0
      obtain ⟨-, h3b, x, hx, hlx⟩ := HK.out h30
      refine ⟨rfl, by omega, x, ?_, by omega⟩
      rw [HG.out]
      exact exV_low (Nat.le_of_lt hw2) (exV_set5 (exV_only HO5.out (fun g hg => by simp at hg; omega) (exV_only BN.out (fun g hg => by cases hg) hx)) hw2 _ _ _ _ _)
  · have t0' : (e != 0) = true := by simpa using he
    have z0 : W.cell? ⟨g4, 0, none⟩ = some (.int .i64 0) := X4.out.cell 0
    have z1 : W.cell? ⟨g4, 1, none⟩ = some (.int .u64 0) := X4.out.cell 1
    have z2 : W.cell? ⟨g4, 2, none⟩ = some (.int .u8 0) := X4.out.cell 2
    have z3 : W.cell? ⟨g4, 3, none⟩ = some (.string ⟨#[]⟩) := X4.out.cell 3
    have z4 : W.cell? ⟨g4, 4, none⟩ = some (.slice none 0 0) := X4.out.cell 4
    have zf : ∀ k, W.frozen? ⟨g4, k, none⟩ = false := X4.out.free
    go_wp2_with fail
    exact part_ret (g := g4) rfl (X4.out.store _ _ _ _ _) ⟨_, at_, e, bad, rfl, ExSh.mk _ _ _ _ _ _ _, rd5 H1.out hqg _ _ _ _ _, only5 OB.out (Nat.le_of_eq HG.out) _ _ _ _ _, Nat.le_refl _, fun h => absurd h he⟩ rfl
end Go.Proofs.Ytapnnbbbgopobaa.Rr
