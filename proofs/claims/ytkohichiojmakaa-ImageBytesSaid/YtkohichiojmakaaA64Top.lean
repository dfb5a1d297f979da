/-
  WALKS: package a64: Right and Encode.
-/
import Derived.Test.YtkohichiojmakaaA64Codec
import Derived.Test.YtkohichiojmakaaA64Forms
import Derived.Deep.DrawnRows
namespace Go.Proofs.Ytkohichiojmakaa.A64R
set_option linter.unusedVariables false
set_option linter.unusedSimpArgs false
open Go.RowKit Cm Mm Ow A64 Fld FldW A64W A64P A64C A64T
attribute [local go_sem ↓] Go.wp_at_zero Go.wp_at_succ

/-- the cells of a form in the table and of an instruction; nothing elder has turned -/
abbrev SR (w0 : World) (g o q : Nat) (f : Fm) (i : In) (w' : World) : Prop := ((w'.cell? ⟨g, o, none⟩ = some (.int .u32 (f.word.toNat : Int)) ∧ w'.cell? ⟨g, o + 1, none⟩ = some (.int .i64 (f.d.1 : Nat)) ∧ w'.cell? ⟨g, o + 2, none⟩ = some (.int .i64 (f.d.2 : Nat)) ∧ w'.cell? ⟨g, o + 3, none⟩ = some (.int .i64 (f.a.1 : Nat)) ∧ w'.cell? ⟨g, o + 4, none⟩ = some (.int .i64 (f.a.2 : Nat)) ∧ w'.cell? ⟨g, o + 5, none⟩ = some (.int .i64 (f.b.1 : Nat)) ∧ w'.cell? ⟨g, o + 6, none⟩ = some (.int .i64 (f.b.2 : Nat)) ∧ w'.cell? ⟨g, o + 7, none⟩ = some (.int .i64 (f.s.1 : Nat)) ∧ w'.cell? ⟨g, o + 8, none⟩ = some (.int .i64 (f.s.2 : Nat)) ∧ w'.cell? ⟨g, o + 9, none⟩ = some (.int .i64 (f.n.1 : Nat)) ∧ w'.cell? ⟨g, o + 10, none⟩ = some (.int .i64 (f.n.2 : Nat)) ∧ w'.cell? ⟨g, o + 11, none⟩ = some (.int .i64 (f.c.1 : Nat)) ∧ w'.cell? ⟨g, o + 12, none⟩ = some (.int .i64 (f.c.2 : Nat)) ∧ w'.cell? ⟨g, o + 13, none⟩ = some (.bool f.signed) ∧ w'.cell? ⟨g, o + 14, none⟩ = some (.bool f.turned)) ∧ (w'.cell? ⟨q, 0, none⟩ = some (.int .i64 i.kind) ∧ w'.cell? ⟨q, 1, none⟩ = some (.int .i64 i.d) ∧ w'.cell? ⟨q, 2, none⟩ = some (.int .i64 i.a) ∧ w'.cell? ⟨q, 3, none⟩ = some (.int .i64 i.b) ∧ w'.cell? ⟨q, 4, none⟩ = some (.int .i64 i.s) ∧ w'.cell? ⟨q, 5, none⟩ = some (.int .i64 i.c) ∧ w'.cell? ⟨q, 6, none⟩ = some (.int .i64 i.n))) ∧ Below w0.heap.size w0 w'
theorem SR.keep {w0 w w' : World} {g o q : Nat} {f : Fm} {i : In} (h : SR w0 g o q f i w) (hb : Below w.heap.size w w') : SR w0 g o q f i w' := by
  obtain ⟨⟨⟨h0, h1, h2, h3, h4, h5, h6, h7, h8, h9, h10, h11, h12, h13, h14⟩, ⟨h15, h16, h17, h18, h19, h20, h21⟩⟩, hz⟩ := h
  have k : ∀ (x : Addr) (u : Value), w.cell? x = some u → w'.cell? x = some u := fun x u hx => by
    rw [World.cell?_of_block (hb.block _ (World.block_lt_of_cell? w x hx))]; exact hx
  exact ⟨⟨⟨k _ _ h0, k _ _ h1, k _ _ h2, k _ _ h3, k _ _ h4, k _ _ h5, k _ _ h6, k _ _ h7, k _ _ h8, k _ _ h9, k _ _ h10, k _ _ h11, k _ _ h12, k _ _ h13, k _ _ h14⟩, ⟨k _ _ h15, k _ _ h16, k _ _ h17, k _ _ h18, k _ _ h19, k _ _ h20, k _ _ h21⟩⟩, hz.trans (hb.mono hz.size)⟩
theorem table_len : table.length = 24 := by decide
theorem table_get (k j : Nat) (hk : k < 24) (hj : j < 15) : tableCells[k * 15 + j]? = (fmL (form k))[j]? := by
  have h := flat_get (L := table.map fmL) (sz := 15) (fun x hx => by obtain ⟨f, _, rfl⟩ := List.mem_map.1 hx; rfl) k j (by simp [table_len, hk]) hj
  have e : (table.map fmL).getD k [] = fmL (form k) := by
    unfold form
    simp [List.getD, List.getElem?_map, table_len, hk]
  rw [e] at h
  unfold tableCells
  rw [List.getElem?_toArray]
  exact h
/-- the form of a kind lies in the table -/
theorem form_cells {w : World} {g k : Nat} (h : w.heap[g]? = some (.cells tableCells 150 (0, 0))) (hk : k < 24) : w.cell? ⟨g, k * 15, none⟩ = some (.int .u32 ((form k).word.toNat : Int)) ∧ w.cell? ⟨g, k * 15 + 1, none⟩ = some (.int .i64 ((form k).d.1 : Nat)) ∧ w.cell? ⟨g, k * 15 + 2, none⟩ = some (.int .i64 ((form k).d.2 : Nat)) ∧ w.cell? ⟨g, k * 15 + 3, none⟩ = some (.int .i64 ((form k).a.1 : Nat)) ∧ w.cell? ⟨g, k * 15 + 4, none⟩ = some (.int .i64 ((form k).a.2 : Nat)) ∧ w.cell? ⟨g, k * 15 + 5, none⟩ = some (.int .i64 ((form k).b.1 : Nat)) ∧ w.cell? ⟨g, k * 15 + 6, none⟩ = some (.int .i64 ((form k).b.2 : Nat)) ∧ w.cell? ⟨g, k * 15 + 7, none⟩ = some (.int .i64 ((form k).s.1 : Nat)) ∧ w.cell? ⟨g, k * 15 + 8, none⟩ = some (.int .i64 ((form k).s.2 : Nat)) ∧ w.cell? ⟨g, k * 15 + 9, none⟩ = some (.int .i64 ((form k).n.1 : Nat)) ∧ w.cell? ⟨g, k * 15 + 10, none⟩ = some (.int .i64 ((form k).n.2 : Nat)) ∧ w.cell? ⟨g, k * 15 + 11, none⟩ = some (.int .i64 ((form k).c.1 : Nat)) ∧ w.cell? ⟨g, k * 15 + 12, none⟩ = some (.int .i64 ((form k).c.2 : Nat)) ∧ w.cell? ⟨g, k * 15 + 13, none⟩ = some (.bool (form k).signed) ∧ w.cell? ⟨g, k * 15 + 14, none⟩ = some (.bool (form k).turned) := by
  have c : ∀ j, j < 15 → w.cell? ⟨g, k * 15 + j, none⟩ = (fmL (form k))[j]? := fun j hj => by
    rw [← table_get k j hk hj]
    simp [World.cell?, h]
  refine ⟨by simpa [fmL] using c 0 (by omega), by simpa [fmL] using c 1 (by omega), by simpa [fmL] using c 2 (by omega), by simpa [fmL] using c 3 (by omega), by simpa [fmL] using c 4 (by omega), by simpa [fmL] using c 5 (by omega), by simpa [fmL] using c 6 (by omega), by simpa [fmL] using c 7 (by omega), by simpa [fmL] using c 8 (by omega), by simpa [fmL] using c 9 (by omega), by simpa [fmL] using c 10 (by omega), by simpa [fmL] using c 11 (by omega), by simpa [fmL] using c 12 (by omega), by simpa [fmL] using c 13 (by omega), by simpa [fmL] using c 14 (by omega)⟩
theorem rightF_S (w0 : World) (g o q : Nat) (f : Fm) (i : In) (w : World) (hi : okIn i) (hg : good f = true) (h : SR w0 g o q f i w) :
    Calls Try.prog 70 #[.agg #[.int .u32 (f.word.toNat : Int), .int .i64 (f.d.1 : Nat), .int .i64 (f.d.2 : Nat), .int .i64 (f.a.1 : Nat), .int .i64 (f.a.2 : Nat), .int .i64 (f.b.1 : Nat), .int .i64 (f.b.2 : Nat), .int .i64 (f.s.1 : Nat), .int .i64 (f.s.2 : Nat), .int .i64 (f.n.1 : Nat), .int .i64 (f.n.2 : Nat), .int .i64 (f.c.1 : Nat), .int .i64 (f.c.2 : Nat), .bool f.signed, .bool f.turned], .agg #[.int .i64 i.kind, .int .i64 i.d, .int .i64 i.a, .int .i64 i.b, .int .i64 i.s, .int .i64 i.c, .int .i64 i.n]] w fun e w' => e = .returned (.bool (rightF f i)) ∧ SR w0 g o q f i w' :=
  (rightF_any f i w hi hg).mono fun e w' ⟨h1, h2⟩ => ⟨h1, h.keep h2⟩
theorem encF_S (w0 : World) (g o q : Nat) (f : Fm) (i : In) (w : World) (hg : good f = true) (h : SR w0 g o q f i w) :
    Calls Try.prog 73 #[.agg #[.int .u32 (f.word.toNat : Int), .int .i64 (f.d.1 : Nat), .int .i64 (f.d.2 : Nat), .int .i64 (f.a.1 : Nat), .int .i64 (f.a.2 : Nat), .int .i64 (f.b.1 : Nat), .int .i64 (f.b.2 : Nat), .int .i64 (f.s.1 : Nat), .int .i64 (f.s.2 : Nat), .int .i64 (f.n.1 : Nat), .int .i64 (f.n.2 : Nat), .int .i64 (f.c.1 : Nat), .int .i64 (f.c.2 : Nat), .bool f.signed, .bool f.turned], .agg #[.int .i64 i.kind, .int .i64 i.d, .int .i64 i.a, .int .i64 i.b, .int .i64 i.s, .int .i64 i.c, .int .i64 i.n]] w fun e w' => e = .returned (.int .u32 ((encF f i).toNat : Int)) ∧ SR w0 g o q f i w' :=
  (encF_any f i w hg).mono fun e w' ⟨h1, h2⟩ => ⟨h1, h.keep h2⟩

set_option maxRecDepth 20000 in
set_option maxHeartbeats 3200000 in
theorem right_any (i : In) (w : World) (hi : okIn i) :
    Calls Try.prog 51 #[.agg (insL i).toArray] w fun e w' => e = .returned (.bool (right i)) ∧ Below w.heap.size w w' := by
  by_cases hk : 0 ≤ i.kind ∧ i.kind < 24
  · obtain ⟨hk0, hk1⟩ := hk
    obtain ⟨k, hk⟩ := Int.eq_ofNat_of_zero_le hk0
    have hk24 : k < 24 := by omega
    have hr := Lib.hid (right_of k i hk24 hk)
    have hg := Lib.hid (good_all k hk24)
    obtain ⟨W, hW⟩ : ∃ W, W = w.alloc (.cells #[.int .i64 i.kind, .int .i64 i.d, .int .i64 i.a, .int .i64 i.b, .int .i64 i.s, .int .i64 i.c, .int .i64 i.n] 45) := ⟨_, rfl⟩
    have hB : Below w.heap.size w W := by rw [hW]; exact (Below.refl _ _).alloc (Nat.le_refl _) _
    have hc : ∀ j, W.cell? ⟨w.heap.size, j, none⟩ = #[Value.int .i64 i.kind, Value.int .i64 i.d, Value.int .i64 i.a, Value.int .i64 i.b, Value.int .i64 i.s, Value.int .i64 i.c, Value.int .i64 i.n][j]? := fun j => by rw [hW]; simp [World.cell?_alloc_new]
    have HC := Lib.hid hc
    have HW := Lib.hid hW
    have HI := Lib.hid hi
    have HK := Lib.hid hk
    clear hc hW hi hk
    have hlw : w.heap.size < W.heap.size := by rw [HW.out]; simp
    unfold insL
    go_enter Try.func51, Try.ntmps51
    go_wp2_with fail
    rw [← HW.out]
    refine (forms_any W).mono ?_
    rintro e w2 ⟨g, rfl, hge, hgt, hb2⟩
    have hf := form_cells hgt hk24
    generalize form k = f at *
    have S0 : SR w g (k * 15) w.heap.size f i w2 := by
      have hc : ∀ j, w2.cell? ⟨w.heap.size, j, none⟩ = #[Value.int .i64 i.kind, Value.int .i64 i.d, Value.int .i64 i.a, Value.int .i64 i.b, Value.int .i64 i.s, Value.int .i64 i.c, Value.int .i64 i.n][j]? := fun j => (hb2.cell (p := ⟨w.heap.size, j, none⟩) hlw).trans (HC.out j)
      exact ⟨⟨hf, ⟨hc 0, hc 1, hc 2, hc 3, hc 4, hc 5, hc 6⟩⟩, hB.trans (hb2.mono hB.size)⟩
    clear hf hgt
    have S0 := Lib.hid (S0.keep ((Below.refl _ _).drew))
    have t0 : (0 : Int) ≤ i.kind := hk0
    have t1 : decide ((0 : Int) ≤ i.kind) = true := by simp [hk0]
    have t2 : i.kind < 24 := hk1
    have t3 : i.kind.toNat = k := by rw [HK.out]; simp
    clear hk0 hk1
    go_wp2_with fail
    have SB := S0.out
    clear S0
    go_region_held3 (fun w' => ((w'.cell? ⟨g, k * 15, none⟩ = some (.int .u32 (f.word.toNat : Int)) ∧ w'.cell? ⟨g, k * 15 + 1, none⟩ = some (.int .i64 (f.d.1 : Nat)) ∧ w'.cell? ⟨g, k * 15 + 2, none⟩ = some (.int .i64 (f.d.2 : Nat)) ∧ w'.cell? ⟨g, k * 15 + 3, none⟩ = some (.int .i64 (f.a.1 : Nat)) ∧ w'.cell? ⟨g, k * 15 + 4, none⟩ = some (.int .i64 (f.a.2 : Nat)) ∧ w'.cell? ⟨g, k * 15 + 5, none⟩ = some (.int .i64 (f.b.1 : Nat)) ∧ w'.cell? ⟨g, k * 15 + 6, none⟩ = some (.int .i64 (f.b.2 : Nat)) ∧ w'.cell? ⟨g, k * 15 + 7, none⟩ = some (.int .i64 (f.s.1 : Nat)) ∧ w'.cell? ⟨g, k * 15 + 8, none⟩ = some (.int .i64 (f.s.2 : Nat)) ∧ w'.cell? ⟨g, k * 15 + 9, none⟩ = some (.int .i64 (f.n.1 : Nat)) ∧ w'.cell? ⟨g, k * 15 + 10, none⟩ = some (.int .i64 (f.n.2 : Nat)) ∧ w'.cell? ⟨g, k * 15 + 11, none⟩ = some (.int .i64 (f.c.1 : Nat)) ∧ w'.cell? ⟨g, k * 15 + 12, none⟩ = some (.int .i64 (f.c.2 : Nat)) ∧ w'.cell? ⟨g, k * 15 + 13, none⟩ = some (.bool f.signed) ∧ w'.cell? ⟨g, k * 15 + 14, none⟩ = some (.bool f.turned)) ∧ (w'.cell? ⟨w.heap.size, 0, none⟩ = some (.int .i64 i.kind) ∧ w'.cell? ⟨w.heap.size, 1, none⟩ = some (.int .i64 i.d) ∧ w'.cell? ⟨w.heap.size, 2, none⟩ = some (.int .i64 i.a) ∧ w'.cell? ⟨w.heap.size, 3, none⟩ = some (.int .i64 i.b) ∧ w'.cell? ⟨w.heap.size, 4, none⟩ = some (.int .i64 i.s) ∧ w'.cell? ⟨w.heap.size, 5, none⟩ = some (.int .i64 i.c) ∧ w'.cell? ⟨w.heap.size, 6, none⟩ = some (.int .i64 i.n))) ∧ Below w.heap.size w w') (with_reducible assumption)
      (first
        | (go_at_call 70; with_reducible refine (rightF_S w g (k * 15) w.heap.size f i _ HI.out hg.out (by with_reducible assumption)).mono ?_; rintro e wx ⟨rfl, SC⟩))
    go_wp2_with fail
    go_ret
    exact ⟨retb hr.out.symm, SC.2⟩
  · have hr : right i = false := by unfold right; rw [decide_eq_false hk]; rfl
    have hr := Lib.hid hr
    obtain ⟨W, hW⟩ : ∃ W, W = w.alloc (.cells #[.int .i64 i.kind, .int .i64 i.d, .int .i64 i.a, .int .i64 i.b, .int .i64 i.s, .int .i64 i.c, .int .i64 i.n] 45) := ⟨_, rfl⟩
    have hB : Below w.heap.size w W := by rw [hW]; exact (Below.refl _ _).alloc (Nat.le_refl _) _
    have hc : W.cell? ⟨w.heap.size, 0, none⟩ = some (.int .i64 i.kind) := by rw [hW]; simp [World.cell?_alloc_new]
    have hlw : w.heap.size < W.heap.size := by rw [hW]; simp
    have HW := Lib.hid hW
    have HC := Lib.hid hc
    clear hW hc
    unfold insL
    obtain h | ⟨h, h'⟩ : i.kind < 0 ∨ (0 ≤ i.kind ∧ 24 ≤ i.kind) := by omega
    · have t1 : decide ((0 : Int) ≤ i.kind) = false := by simp; omega
      clear hk
      go_enter Try.func51, Try.ntmps51
      go_wp2_with fail
      rw [← HW.out]
      refine (forms_any W).mono ?_
      rintro e w2 ⟨g, rfl, hge, hgt, hb2⟩
      have hc2 := (hb2.cell (p := ⟨w.heap.size, 0, none⟩) hlw).trans HC.out
      clear hgt
      go_wp2_with fail
      go_quiet (fail)
      go_wp2_with fail
      go_ret
      exact ⟨by rw [hr.out]; rfl, below_drewN (hB.trans (hb2.mono hB.size)) _⟩
    · have t1 : decide ((0 : Int) ≤ i.kind) = true := by simp; omega
      have t2 : decide (i.kind < 24) = false := by simp; omega
      clear hk
      go_enter Try.func51, Try.ntmps51
      go_wp2_with fail
      rw [← HW.out]
      refine (forms_any W).mono ?_
      rintro e w2 ⟨g, rfl, hge, hgt, hb2⟩
      have hc2 := (hb2.cell (p := ⟨w.heap.size, 0, none⟩) hlw).trans HC.out
      clear hgt
      go_wp2_with fail
      go_quiet (fail)
      go_wp2_with fail
      go_ret
      exact ⟨by rw [hr.out]; rfl, below_drewN (hB.trans (hb2.mono hB.size)) _⟩
end Go.Proofs.Ytkohichiojmakaa.A64R
