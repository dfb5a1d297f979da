/-
  WALKS: chapter 12's laws, but for the one that makes cells of its own.
-/
import Derived.Test.YtgadjmojebhlgaaLayWalks
import Derived.ProofKit
namespace Go.Proofs.Ytgadjmojebhlgaa.LayL
set_option linter.unusedVariables false
set_option linter.unusedSimpArgs false
open Go.RowKit Cm Mm Lay Go.ChangeShapes Go.WideShapes

/-- the argument, opened -/
theorem open_cl {H : Type} {enc : TypeId × Value → H} {w : World} {v : Value} {d : DataW H} {p : List MemPlace} {r : Reach} {b0 : Nat}
    (h : DataW.Trod enc Try.prog w 0 (fun _ => true) true 27 v d p) (hok : Value.okWide Try.prog w r b0 27 v) :
    ∃ A n cap l, v = .slice A n cap ∧ IsCl w A n cap l := by
  obtain ⟨a0, len, cap0, rfl⟩ := okWide_slice Try.underlying27 hok
  obtain ⟨fuel, hf⟩ := h
  obtain ⟨A, n, cap, l, hcs, hl, hsl, hk, _⟩ := open_sl (α := Cl) zero cells okCl 2 Try.underlying27 (by kernel_rfl) (by decide) (fun m cs y hy => by
    obtain ⟨hlen, hg⟩ := struct_cells Try.underlying34 (by kernel_rfl) (by kernel_rfl) hy
    match cs, hlen with
    | [u0, u1], _ =>
      obtain ⟨_, _, g0⟩ := hg 0 _ rfl
      obtain ⟨_, _, g1⟩ := hg 1 _ rfl
      obtain ⟨s, e0, _, hs⟩ := DataW.trod_string Try.underlying9 g0
      obtain ⟨z, e1, _, hz⟩ := DataW.trod_int Try.underlying3 g1
      simp at e0 e1
      subst e0 e1
      exact ⟨(s, z), rfl, hs, i64_bounds hz⟩) hf
  simp [Value.cells] at hcs
  obtain ⟨rfl, rfl, rfl⟩ := hcs
  exact ⟨_, _, _, l, rfl, hl, hsl, hk⟩

theorem nil_cl (w : World) : IsCl w none 0 0 [] := ⟨rfl, Sl.nil _ _ _, fun i hi => absurd hi (by omega)⟩

theorem alive_any (w : World) : Calls Try.prog 18 #[] w fun e w' => e = .returned (.bool true) ∧ Below w.heap.size w w' := by
  have B : Below w.heap.size w (w.alloc (.cells #[.string ⟨#[97]⟩, .int .i64 2] 34)) := (Below.refl _ _).alloc (Nat.le_refl _) _
  have C : IsCl (w.alloc (.cells #[.string ⟨#[97]⟩, .int .i64 2] 34)) (some ⟨w.heap.size, 0, none⟩) 1 1 [(⟨#[97]⟩, 2)] := by
    refine ⟨rfl, ⟨Nat.le_refl _, by unfold maxLen; omega, fun _ => ⟨_, _, rfl, by simp, fun i hi j hj => ?_⟩⟩, fun i hi => ?_⟩
    · obtain rfl : i = 0 := by omega
      match j, hj with
      | 0, _ => simp [cells]
      | 1, _ => simp [cells]
    · obtain rfl : i = 0 := by omega
      exact ⟨by decide, by decide, by decide⟩
  have HC := Lib.hid C; clear C
  go_enter Try.func18, Try.ntmps18
  go_wp2_with fail
  refine (at_any _ _ _ 0 _ _ HC.out (by decide)).mono ?_
  rintro e w1 ⟨rfl, hb1⟩
  have HC1 := Lib.hid (HC.out.keep hb1)
  rw [show place [(⟨#[97]⟩, 2)] 0 = 4096 from rfl]
  go_wp2_with fail
  refine (lfind_any _ _ _ _ _ _ HC1.out (by decide)).mono ?_
  rintro e w2 ⟨rfl, hb2⟩
  have HC2 := Lib.hid (HC1.out.keep hb2)
  rw [show find [(⟨#[97]⟩, 2)] (⟨#[97]⟩ : ByteArray).toList = 0 by decide +kernel]
  go_wp2_with fail
  refine (words_any _ _ _ _ _ HC2.out (by decide)).mono ?_
  rintro e w3 ⟨rfl, hb3⟩
  rw [show words [(⟨#[97]⟩, 2)] = 2 by decide +kernel]
  go_wp2_with fail
  refine (lfind_any _ _ _ _ _ _ (nil_cl _) (by decide)).mono ?_
  rintro e w4 ⟨rfl, hb4⟩
  rw [show find [] (⟨#[97]⟩ : ByteArray).toList = -1 by decide +kernel]
  go_wp2_with fail
  go_ret
  exact ⟨rfl, below_seq (below_seq (below_seq (below_seq B hb1) hb2) hb3) hb4⟩

set_option maxHeartbeats 800000 in
theorem tells (A : Option Addr) (n cap : Nat) (l : List Cl) (s : ByteArray) (i : Int) (w : World) (h : IsCl w A n cap l) (h1 : -9223372036854775808 ≤ i) (h2 : i ≤ 9223372036854775807) :
    Calls Try.prog 5 #[.slice A n cap, .string s, .int .i64 i] w fun e w' => e = .returned (.bool true) ∧ Below w.heap.size w w' := by
  by_cases hn : n ≤ 60
  · by_cases hs : s.size ≤ 60
    · have pb := place_bd l i
      have hl := h.1
      rw [hl] at pb
      clear hl
      go_enter Try.func5, Try.ntmps5
      go_wp2_with fail
      refine (alive_any _).mono ?_
      rintro e w1 ⟨rfl, hb1⟩
      have C1 := Lib.hid (h.keep hb1)
      go_wp2_with fail
      refine (rat_any _ _ _ _ _ _ C1.out (by omega)).mono ?_
      rintro e w2 ⟨rfl, hb2⟩
      have C2 := Lib.hid (C1.out.keep hb2)
      go_wp2_with fail
      refine (lfind_any _ _ _ _ _ _ C2.out (by omega)).mono ?_
      rintro e w3 ⟨rfl, hb3⟩
      have C3 := Lib.hid (C2.out.keep hb3)
      go_wp2_with fail
      refine (rfind_any _ _ _ _ _ _ C3.out (by omega)).mono ?_
      rintro e w3' ⟨rfl, rfl⟩
      go_wp2_with fail
      refine (at_any _ _ _ _ _ _ C3.out (by omega)).mono ?_
      rintro e w4 ⟨rfl, hb4⟩
      have C4 := Lib.hid (C3.out.keep hb4)
      go_wp2_with fail
      refine (rat_any _ _ _ _ _ _ C4.out (by omega)).mono ?_
      rintro e w5 ⟨rfl, hb5⟩
      have C5 := Lib.hid (C4.out.keep hb5)
      go_wp2_with fail
      refine (words_any _ _ _ _ _ C5.out (by omega)).mono ?_
      rintro e w6 ⟨rfl, hb6⟩
      have C6 := Lib.hid (C5.out.keep hb6)
      go_wp2_with fail
      refine (rwords_any _ _ _ _ _ C6.out (by omega)).mono ?_
      rintro e w7 ⟨rfl, hb7⟩
      have C7 := Lib.hid (C6.out.keep hb7)
      go_wp2_with fail
      refine (line_any _ _ _ _ _ _ C7.out (by omega)).mono ?_
      rintro e w8 ⟨rfl, hb8⟩
      go_wp2_with fail
      go_ret
      exact ⟨rfl, below_seq (below_seq (below_seq (below_seq (below_seq (below_seq (below_seq hb1 hb2) hb3) hb4) hb5) hb6) hb7) hb8⟩
    · go_enter Try.func5, Try.ntmps5
      go_wp2_with (go_at_call 18; refine (alive_any _).mono ?_; rintro e w1 ⟨rfl, hb1⟩)
      go_ret
      exact ⟨rfl, hb1⟩
  · go_enter Try.func5, Try.ntmps5
    go_wp2_with (go_at_call 18; refine (alive_any _).mono ?_; rintro e w1 ⟨rfl, hb1⟩)
    go_ret
    exact ⟨rfl, hb1⟩

theorem IsCl.single {w : World} {b o n cap k : Nat} {l : List Cl} (h : IsCl w (some ⟨b, o, none⟩) n cap l) (hk : k < n) : IsCl w (some ⟨b, o + k * 2, none⟩) 1 (cap - k) [l.getD k zero] := by
  have hd := (h.2.1.drop (k := k) (by omega)).take (k := 1) (by omega)
  refine ⟨rfl, hd.ext fun i hi => ?_, fun i hi => ?_⟩
  · obtain rfl : i = 0 := by omega
    rfl
  · obtain rfl : i = 0 := by omega
    exact h.2.2 k hk

set_option maxHeartbeats 800000 in
theorem apart (A : Option Addr) (n cap : Nat) (l : List Cl) (w : World) (h : IsCl w A n cap l) :
    Calls Try.prog 4 #[.slice A n cap] w fun e w' => e = .returned (.bool true) ∧ Below w.heap.size w w' := by
  by_cases hn : n ≤ 60
  · have hl := Lib.hid h.1
    have hcap := h.2.1.le
    go_enter Try.func4, Try.ntmps4
    go_wp2_with (go_at_call 18; refine (alive_any _).mono ?_; rintro e w1 ⟨rfl, hb1⟩)
    go_loopw [4, 5] (fun t i wr => ∃ (k : Nat), k ≤ n ∧ i = .int .i64 k ∧ t = .int .i64 (4096 + 8 * words (l.take k)) ∧ Below w.heap.size w wr) (fun _ i _ => n - (intOf i).toNat)
    case atStart => exact ⟨0, by omega, rfl, rfl, hb1⟩
    case round =>
      obtain ⟨k, hk, rfl, rfl, hbel⟩ := hrel
      have wb := words_take_bd l k (by have := hl.out; omega)
      have C1 := Lib.hid (h.keep hbel)
      by_cases hkn : k < n
      · have ws := Lib.hid (words_snoc l k (by have := hl.out; omega))
        have HP := Lib.hid (show place l (k : Int) = 4096 + 8 * words (l.take k) by unfold place; have := hl.out; rw [if_pos ⟨by omega, by omega⟩]; simp)
        obtain ⟨b, o, rfl, _, _, _, _⟩ := C1.out.cell hkn
        have ob := one_bd (l.getD k zero)
        generalize words (l.take k) = q at *
        go_wp2_with fail
        refine (at_any _ _ _ _ _ _ C1.out (by omega)).mono ?_
        rintro e w2 ⟨rfl, hb2⟩
        have C2 := Lib.hid (IsCl.single (C1.out.keep hb2) hkn)
        rw [HP.out]
        go_wp2_with fail
        refine (words_any _ _ _ _ _ C2.out (by omega)).mono ?_
        rintro e w3 ⟨rfl, hb3⟩
        rw [show words [l.getD k zero] = one (l.getD k zero) by simp [words]]
        generalize one (l.getD k zero) = c at *
        go_wp2_with fail
        go_roundw
        case rel => exact ⟨k + 1, by omega, by go_num, by rw [ws.out]; go_num, below_seq (below_seq hbel (hb2.mono (Nat.le_refl _))) (hb3.mono (Nat.le_refl _))⟩
        case measure => simp [intOf]; omega
      · obtain rfl : k = n := by omega
        have e : l.take k = l := by rw [← hl.out]; exact List.take_length
        rw [e] at wb ⊢
        clear e
        go_wp2_with fail
        refine (words_any _ _ _ _ _ C1.out (by omega)).mono ?_
        rintro e w2 ⟨rfl, hb2⟩
        generalize words l = q at *
        go_wp2_with fail
        go_ret
        exact ⟨rfl, below_seq hbel hb2⟩
  · go_enter Try.func4, Try.ntmps4
    go_wp2_with (go_at_call 18; refine (alive_any _).mono ?_; rintro e w1 ⟨rfl, hb1⟩)
    go_ret
    exact ⟨rfl, hb1⟩

theorem walkTells {H : Type} {enc : TypeId × Value → H} {d : DataW H} {p : List MemPlace} {r : Reach} {b0 : Nat} (v : Value) (s : ByteArray) (i : Int) (w : World)
    (h : DataW.Trod enc Try.prog w 0 (fun _ => true) true 27 v d p) (hok : Value.okWide Try.prog w r b0 27 v) (hs : s.size ≤ maxLen) (w2 : (Lit.int .i64 i).wf = true) :
    Calls Try.prog 5 #[v, .string s, .int .i64 i] w fun e w' => e = .returned (.bool true) ∧ Below w.heap.size w w' := by
  obtain ⟨A, n, cap, l, rfl, hl⟩ := open_cl h hok
  obtain ⟨l1, u1⟩ := i64_bounds w2
  exact tells A n cap l s i w hl l1 u1

theorem walkApart {H : Type} {enc : TypeId × Value → H} {d : DataW H} {p : List MemPlace} {r : Reach} {b0 : Nat} (v : Value) (w : World)
    (h : DataW.Trod enc Try.prog w 0 (fun _ => true) true 27 v d p) (hok : Value.okWide Try.prog w r b0 27 v) :
    Calls Try.prog 4 #[v] w fun e w' => e = .returned (.bool true) ∧ Below w.heap.size w w' := by
  obtain ⟨A, n, cap, l, rfl, hl⟩ := open_cl h hok
  exact apart A n cap l w hl
end Go.Proofs.Ytgadjmojebhlgaa.LayL
