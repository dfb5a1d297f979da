/-
  WALKS: truths that are one; which cells are sole; the example of chapter 16.
-/
import Derived.Test.YtdhihmeknoofoaaElideRef
import Derived.Test.YtdhihmeknoofoaaStOpen
namespace Go.Proofs.Ytdhihmeknoofoaa.ElM
set_option linter.unusedVariables false
set_option linter.unusedSimpArgs false
open Go.RowKit Go.WideShapes Go.ChangeShapes Cm Mm Ow Stp StW StC StM StF ElW ElR StO

theorem bool_neq (b : Bool) : (b != b) = false := by cases b <;> rfl
theorem samebo_any (A1 A2 : Option Addr) (n c1 c2 : Nat) (l : List Bool) (w : World) (h1 : IsBo w A1 n c1 l) (h2 : IsBo w A2 n c2 l) (hn : n ≤ 200000) :
    Calls Try.prog 38 #[.slice A1 n c1, .slice A2 n c2] w fun e w' => e = .returned (.bool true) ∧ Below w.heap.size w w' := by
  have H1 := Lib.hid h1
  have H2 := Lib.hid h2
  clear h1 h2
  go_enter Try.func38, Try.ntmps38
  go_wp2
  go_loopw [5] (fun i wr => ∃ (k : Nat), k ≤ n ∧ i = .int .i64 k ∧ Below w.heap.size w wr) (fun i _ => n - (intOf i).toNat)
  case atStart => exact ⟨0, by omega, rfl, Below.refl _ _⟩
  case round =>
    obtain ⟨k, hk, rfl, hbel⟩ := hrel
    by_cases hkn : k < n
    · obtain ⟨b, o, rfl, hb, s0⟩ := (H1.out.keep hbel).cell (k := k) (by omega)
      obtain ⟨b', o', rfl, hb', f0⟩ := (H2.out.keep hbel).cell (k := k) (by omega)
      generalize hc : l.getD k false = s at *
      clear hc
      have i1 : (k : Int) < n := by omega
      cases s
      all_goals
        go_wp2
        go_quiet (fail)
        go_wp2
        go_roundw
        case rel => exact ⟨k + 1, by omega, by go_num, below_drewN hbel _⟩
        case measure => simp [intOf]; omega
    · obtain rfl : k = n := by omega
      go_wp2
      go_ret
      exact ⟨rfl, hbel⟩

/-- codes: their numbers, and their steps where they lie -/
structure Cd where
  x : Int
  y : Int
  A : Option Addr
  n : Nat
  cap : Nat
  l : List St
def zeroCd : Cd := ⟨0, 0, none, 0, 0, []⟩
def cdL (c : Cd) : List Value := [.int .i64 c.x, .int .i64 c.y, .slice c.A c.n c.cap]
def okCd (w : World) (c : Cd) : Prop := i64b c.x ∧ i64b c.y ∧ IsSt w c.A c.n c.cap c.l
/-- the slice that holds codes -/
def IsCd (w : World) (A : Option Addr) (n cap : Nat) (l : List Cd) : Prop := l.length = n ∧ Sl w A n cap 3 (fun i => cdL (l.getD i zeroCd)) ∧ ∀ i, i < n → okCd w (l.getD i zeroCd)
theorem IsCd.keep {w w' : World} {A : Option Addr} {n cap : Nat} {l : List Cd} (h : IsCd w A n cap l) (hb : Below w.heap.size w w') : IsCd w' A n cap l :=
  ⟨h.1, h.2.1.keep hb, fun i hi => by obtain ⟨h1, h2, h3⟩ := h.2.2 i hi; exact ⟨h1, h2, h3.keep hb⟩⟩
theorem IsCd.cell {w : World} {A : Option Addr} {n cap : Nat} {l : List Cd} (h : IsCd w A n cap l) {k : Nat} (hk : k < n) :
    ∃ b o, A = some ⟨b, o, none⟩ ∧ b < w.heap.size ∧ w.cell? ⟨b, o + k * 3, none⟩ = some (.int .i64 (l.getD k zeroCd).x) ∧ w.cell? ⟨b, o + k * 3 + 1, none⟩ = some (.int .i64 (l.getD k zeroCd).y) ∧ w.cell? ⟨b, o + k * 3 + 2, none⟩ = some (.slice (l.getD k zeroCd).A (l.getD k zeroCd).n (l.getD k zeroCd).cap) ∧ okCd w (l.getD k zeroCd) := by
  obtain ⟨b, o, e, hb, hc⟩ := h.2.1.at_ (by omega)
  exact ⟨b, o, e, hb, by simpa [cdL] using hc k hk 0 (by omega), by simpa [cdL, Nat.add_assoc] using hc k hk 1 (by omega), by simpa [cdL, Nat.add_assoc] using hc k hk 2 (by omega), h.2.2 k hk⟩
set_option maxRecDepth 100000 in
theorem open_codes {H : Type} {enc : TypeId × Value → H} {w : World} {v : Value} {d : DataW H} {p : List MemPlace} {r : Reach} {b0 : Nat}
    (h : DataW.Trod enc Try.prog w 0 (fun _ => true) true 32 v d p) (hok : Value.okWide Try.prog w r b0 32 v) :
    ∃ A n cap l, v = .slice A n cap ∧ IsCd w A n cap l := by
  obtain ⟨a0, len, cap0, rfl⟩ := okWide_slice Try.underlying32 hok
  obtain ⟨fuel, hf⟩ := h
  obtain ⟨A, n, cap, l, hcs, hl, hsl, hk, _⟩ := open_sl (α := Cd) zeroCd cdL (okCd w) 3 Try.underlying32 (by kernel_rfl) (by decide) (fun m cs y hy => by
    obtain ⟨x, y, A, n, cap, l, e, hx, hy, hl⟩ := open_cells hy
    exact ⟨⟨x, y, A, n, cap, l⟩, e, hx, hy, hl⟩) hf
  simp [Value.cells] at hcs
  obtain ⟨rfl, rfl, rfl⟩ := hcs
  exact ⟨_, _, _, l, rfl, hl, hsl, hk⟩
set_option maxRecDepth 100000 in
theorem open_bools {H : Type} {enc : TypeId × Value → H} {w : World} {v : Value} {d : DataW H} {p : List MemPlace} {r : Reach} {b0 : Nat}
    (h : DataW.Trod enc Try.prog w 0 (fun _ => true) true 57 v d p) (hok : Value.okWide Try.prog w r b0 57 v) :
    ∃ A n cap l, v = .slice A n cap ∧ IsBo w A n cap l := by
  obtain ⟨a0, len, cap0, rfl⟩ := okWide_slice Try.underlying57 hok
  obtain ⟨fuel, hf⟩ := h
  obtain ⟨A, n, cap, l, hcs, hl, hsl, hk, _⟩ := open_sl (α := Bool) false (fun b => [.bool b]) (fun _ => True) 1 Try.underlying57 (by kernel_rfl) (by decide) (fun m cs y hy => by
    obtain ⟨z0, e0, _⟩ := DataW.trod_bool Try.underlying4 hy
    exact ⟨z0, e0, trivial⟩) hf
  simp [Value.cells] at hcs
  obtain ⟨rfl, rfl, rfl⟩ := hcs
  exact ⟨_, _, _, l, rfl, hl, hsl⟩

/-- Cut: a number within bounds -/
theorem rcut_any (n lo hi : Int) (w : World) (h : lo ≤ hi) : Calls Try.prog 65 #[.int .i64 n, .int .i64 lo, .int .i64 hi] w fun e w' => e = .returned (.int .i64 (max lo (min n hi))) ∧ w = w' := by
  obtain h1 | ⟨h1, h2⟩ | ⟨h1, h2⟩ : n < lo ∨ (¬ n < lo ∧ hi < n) ∨ (¬ n < lo ∧ ¬ hi < n) := by omega
  all_goals
    go_enter Try.func65, Try.ntmps65
    go_wp2
    go_ret
    exact ⟨ret1 (by omega), rfl⟩

theorem asks_next {l : List St} {c : Int} {k : Nat} (h : k < l.length) (H : asks (l.take k) c = false) (hb : (access (l.getD k zeroSt) && (l.getD k zeroSt).cell == c) = false) : asks (l.take (k + 1)) c = false := by
  rw [asks_snoc l c k h, H, hb]; rfl
theorem asks_hit {l : List St} {c : Int} {k : Nat} (h : k < l.length) (hb : (access (l.getD k zeroSt) && (l.getD k zeroSt).cell == c) = true) : asks l c = true := by
  unfold asks
  rw [List.any_eq_true]
  exact ⟨l.getD k zeroSt, by simp only [List.getD, List.getElem?_eq_getElem h, Option.getD_some]; exact List.getElem_mem h, hb⟩

set_option maxHeartbeats 1600000 in
theorem asks_any (x y ce : Int) (A : Option Addr) (n cap : Nat) (l : List St) (w : World) (h : IsSt w A n cap l) (hn : n ≤ 65536) :
    Calls Try.prog 64 #[.agg #[.int .i64 x, .int .i64 y, .slice A n cap], .int .i64 ce] w fun e w' => e = .returned (.bool (asks l ce)) ∧ Below w.heap.size w w' := by
  have hl := Lib.hid h.1
  obtain ⟨W, hW⟩ : ∃ W, W = w.alloc (.cells #[.int .i64 x, .int .i64 y, .slice A n cap] 24) := ⟨_, rfl⟩
  have hB : Below w.heap.size w W := by rw [hW]; exact below_al _ _
  have HW := Lib.hid hW
  have hS := Lib.hid (h.keep hB)
  clear hW h
  go_enter Try.func64, Try.ntmps64
  go_wp2
  go_loopw [10] (fun i wr => ∃ (k : Nat), k ≤ n ∧ i = .int .i64 k ∧ Hid (asks (l.take k) ce = false) ∧ Below W.heap.size W wr) (fun i _ => n - (intOf i).toNat)
  case atStart => exact ⟨0, by omega, rfl, rfl, by rw [HW.out]; exact Below.refl _ _⟩
  case round =>
    obtain ⟨k, hk, rfl, HD, hbel⟩ := hrel
    have hsz := hbel.size
    have hS1 := Lib.hid (hS.out.keep hbel)
    by_cases hkn : k < n
    · obtain ⟨b, o, rfl, hb, s0, s1, s2, s3, s4, s5, s6, s7, s8⟩ := hS1.out.cell (k := k) (by omega)
      have hnx := Lib.hid (asks_next (l := l) (k := k) (by have := hl.out; omega) HD.out)
      have hht := Lib.hid (asks_hit (l := l) (c := ce) (k := k) (by have := hl.out; omega))
      generalize hc : l.getD k zeroSt = s at *
      clear hc
      have i1 : (k : Int) < n := by omega
      have hws := Lib.hid (below_al wr (.cells #[.int .i64 s.kind, .int .i64 s.d, .int .i64 s.a, .int .i64 s.b, .int .i64 s.c, .int .i64 s.to, .int .i64 s.cell, .int .u64 s.n, .int .u8 s.op] 31)) 
      cases hacc : access s
      · go_wp2_with fail
        refine (access_bel s _).mono ?_
        rintro e w3 ⟨rfl, hb3⟩
        have hb4 : Below wr.heap.size wr w3 := (below_al _ _).trans (hb3.mono (by simp))
        rw [hacc]
        go_wp2_with fail
        go_roundw
        case rel => exact ⟨k + 1, by omega, by go_num, hnx.out (by rw [hacc]; rfl), hbel.trans (hb4.mono hsz)⟩
        case measure => simp [intOf]; omega
      · cases hce : (s.cell == ce)
        all_goals
          go_wp2_with fail
          refine (access_bel s _).mono ?_
          rintro e w3 ⟨rfl, hb3⟩
          have hb4 : Below wr.heap.size wr w3 := (below_al _ _).trans (hb3.mono (by simp))
          have hq3 : ∀ o, w3.cell? ⟨wr.heap.size, o, none⟩ = (wr.alloc (.cells #[.int .i64 s.kind, .int .i64 s.d, .int .i64 s.a, .int .i64 s.b, .int .i64 s.c, .int .i64 s.to, .int .i64 s.cell, .int .u64 s.n, .int .u8 s.op] 31)).cell? ⟨wr.heap.size, o, none⟩ := fun o => hb3.cell (p := ⟨wr.heap.size, o, none⟩) (by simp)
          rw [hacc]
          go_wp2_with fail
        · go_roundw
          case rel => exact ⟨k + 1, by omega, by go_num, hnx.out (by rw [hacc, hce]; rfl), hbel.trans (hb4.mono hsz)⟩
          case measure => simp [intOf]; omega
        · go_ret
          exact ⟨retb (hht.out (by rw [hacc, hce]; rfl)).symm, hB.trans ((hbel.trans (hb4.mono hsz)).mono (by have := hB.size; omega))⟩
    · obtain rfl : k = n := by omega
      have e : l.take k = l := by rw [← hl.out]; exact List.take_length
      rw [e] at HD
      go_wp2
      go_ret
      exact ⟨retb HD.out.symm, hB.trans (hbel.mono (by have := hB.size; omega))⟩
end Go.Proofs.Ytdhihmeknoofoaa.ElM
