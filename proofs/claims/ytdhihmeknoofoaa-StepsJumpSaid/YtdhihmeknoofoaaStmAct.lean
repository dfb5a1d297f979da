/-
  WALKS: the run of steps: what is reckoned; an action.
-/
import Derived.Test.YtdhihmeknoofoaaStmLane
import Derived.Test.YtdhihmeknoofoaaHeld2
namespace Go.Proofs.Ytdhihmeknoofoaa.Sa
set_option linter.unusedVariables false
set_option linter.unusedSimpArgs false
open Go.RowKit Cm Mm Ow Me Stp StW Rm Sp Sn

theorem bit_any (b : Bool) (w : World) : Calls Try.prog 89 #[.bool b] w fun e w' => e = .returned (.int .u64 (bitV b)) ∧ w = w' := by
  cases b
  · go_enter Try.func89, Try.ntmps89
    go_wp2
    go_ret
    exact ⟨rfl, rfl⟩
  · go_enter Try.func89, Try.ntmps89
    go_wp2
    go_ret
    exact ⟨rfl, rfl⟩
theorem address_any (x : Int) (w : World) : Calls Try.prog 90 #[.int .u64 x] w fun e w' => e = .returned (.int .i64 (addrV x)) ∧ w = w' := by
  by_cases h : 1099511627776 < x
  · have HR := Lib.hid (show addrV x = -1 by unfold addrV; rw [if_pos h])
    go_enter Try.func90, Try.ntmps90
    go_wp2
    go_ret
    exact ⟨ret1 HR.out.symm, rfl⟩
  · have HR := Lib.hid (show addrV x = wrap64 x by unfold addrV; rw [if_neg h])
    go_enter Try.func90, Try.ntmps90
    go_wp2
    go_ret
    exact ⟨ret1 HR.out.symm, rfl⟩
theorem addr_b (x : Int) : -9223372036854775808 ≤ addrV x ∧ addrV x ≤ 9223372036854775807 := by
  unfold addrV
  split
  · omega
  · unfold wrap64; omega

set_option maxHeartbeats 1600000 in
theorem op_any (o a b : Int) (w : World) : Calls Try.prog 78 #[.int .u8 o, .int .u64 a, .int .u64 b] w fun e w' => e = .returned (.int .u64 (opV o a b)) ∧ w = w' := by
  obtain h | h | h | h | h | h | ⟨h1, h2, h3, h4, h5, h6⟩ : o = 43 ∨ o = 45 ∨ o = 42 ∨ o = 38 ∨ o = 61 ∨ o = 60 ∨ (¬ o = 43 ∧ ¬ o = 45 ∧ ¬ o = 42 ∧ ¬ o = 38 ∧ ¬ o = 61 ∧ ¬ o = 60) := by omega
  all_goals try subst h
  · have HR := Lib.hid (show opV 43 a b = (a + b) % 18446744073709551616 from rfl)
    go_enter Try.func78, Try.ntmps78
    go_wp2
    go_ret
    exact ⟨ret1 HR.out.symm, rfl⟩
  · have HR := Lib.hid (show opV 45 a b = (a - b) % 18446744073709551616 from rfl)
    go_enter Try.func78, Try.ntmps78
    go_wp2
    go_ret
    exact ⟨ret1 HR.out.symm, rfl⟩
  · have HR := Lib.hid (show opV 42 a b = (a * b) % 18446744073709551616 from rfl)
    go_enter Try.func78, Try.ntmps78
    go_wp2
    go_ret
    exact ⟨ret1 HR.out.symm, rfl⟩
  · have HR := Lib.hid (show opV 38 a b = bits .and .u64 a b from rfl)
    go_enter Try.func78, Try.ntmps78
    go_wp2
    go_ret
    exact ⟨ret1 HR.out.symm, rfl⟩
  · have HR := Lib.hid (show opV 61 a b = bitV (a == b) from rfl)
    go_enter Try.func78, Try.ntmps78
    go_wp2_with fail
    refine (bit_any _ _).mono ?_
    rintro e w2 ⟨rfl, rfl⟩
    go_wp2_with fail
    go_ret
    exact ⟨ret1 HR.out.symm, rfl⟩
  · have HR := Lib.hid (show opV 60 a b = bitV (decide (wrap64 a < wrap64 b)) from rfl)
    go_enter Try.func78, Try.ntmps78
    go_wp2_with fail
    refine (bit_any _ _).mono ?_
    rintro e w2 ⟨rfl, rfl⟩
    go_wp2_with fail
    go_ret
    exact ⟨ret1 HR.out.symm, rfl⟩
  · have HR := Lib.hid (show opV o a b = 0 by unfold opV; rw [if_neg h1, if_neg h2, if_neg h3, if_neg h4, if_neg h5, if_neg h6])
    go_enter Try.func78, Try.ntmps78
    go_wp2
    go_ret
    exact ⟨ret1 HR.out.symm, rfl⟩

/-- the fields of a run beside what it puts out -/
structure Hm where
  s0 : Value
  s1 : Value
  s2 : Value
  cs : Value
  m : Nat
  rc : Value
  l : Value
  ill : Bool
def mcO (H : Hm) (o : Value) : Obj := .cells #[H.s0, H.s1, H.s2, H.cs, .pointer (some ⟨H.m, 0, none⟩), o, H.rc, H.l, .bool H.ill] 85 (0, 0)
/-- a run's own struct, its memory, what it has put out -/
structure Foc (w : World) (q : Nat) (H : Hm) (Fm Fo : List Nat) (O : Option Addr) (oc : Nat) (now kept ver out : List Int) : Prop where
  head : w.heap[q]? = some (mcO H (.slice O out.length oc))
  mem : Mem w 113 H.m Fm now.length now kept ver
  row : Own w 0 29 1 O out.length oc (out.map fun z => [uw z])
  oF : ∀ g, O.map (·.block) = some g → g ∈ Fo
  qlt : q < w.heap.size
  oLt : ∀ k ∈ Fo, k < w.heap.size
  qm : q ∉ Fm
  qo : q ∉ Fo
  mo : ∀ k ∈ Fm, k ∉ Fo
section
variable {w w' : World} {q : Nat} {H : Hm} {Fm Fo : List Nat} {O : Option Addr} {oc : Nat} {now kept ver out : List Int}
theorem own_only {w w' : World} {G : List Nat} {base : Nat} {e : TypeId} {sz : Nat} {A : Option Addr} {n cap : Nat} {L : List (List Value)} (h : Own w base e sz A n cap L) (ho : Only G w w') (hn : ∀ g, A.map (·.block) = some g → g ∉ G) : Own w' base e sz A n cap L :=
  ⟨h.len, h.each, ho.row h.row hn⟩
theorem Foc.far {G : List Nat} (h : Foc w q H Fm Fo O oc now kept ver out) (ho : Only G w w') (h1 : q ∉ G) (h2 : ∀ k ∈ Fm, k ∉ G) (h3 : ∀ k ∈ Fo, k ∉ G) : Foc w' q H Fm Fo O oc now kept ver out :=
  ⟨(ho.block q h.qlt h1).trans h.head, h.mem.far ho h2, own_only h.row ho (fun g hg => h3 g (h.oF g hg)), h.oF, Nat.lt_of_lt_of_le h.qlt ho.size, fun k hk => Nat.lt_of_lt_of_le (h.oLt k hk) ho.size, h.qm, h.qo, h.mo⟩
theorem Foc.keep (h : Foc w q H Fm Fo O oc now kept ver out) (hb : Below w.heap.size w w') : Foc w' q H Fm Fo O oc now kept ver out := h.far (G := []) (Only.of_below hb) (by simp) (fun _ _ hx => by cases hx) (fun _ _ hx => by cases hx)
theorem Foc.c4 (h : Foc w q H Fm Fo O oc now kept ver out) : w.cell? ⟨q, 4, none⟩ = some (.pointer (some ⟨H.m, 0, none⟩)) := by simp [World.cell?, h.head, mcO]
theorem Foc.c5 (h : Foc w q H Fm Fo O oc now kept ver out) : w.cell? ⟨q, 5, none⟩ = some (.slice O out.length oc) := by simp [World.cell?, h.head, mcO]
theorem Foc.c6 (h : Foc w q H Fm Fo O oc now kept ver out) : w.cell? ⟨q, 6, none⟩ = some H.rc := by simp [World.cell?, h.head, mcO]
theorem Foc.c7 (h : Foc w q H Fm Fo O oc now kept ver out) : w.cell? ⟨q, 7, none⟩ = some H.l := by simp [World.cell?, h.head, mcO]
theorem Foc.c8 (h : Foc w q H Fm Fo O oc now kept ver out) : w.cell? ⟨q, 8, none⟩ = some (.bool H.ill) := by simp [World.cell?, h.head, mcO]
theorem Foc.free (h : Foc w q H Fm Fo O oc now kept ver out) (i : Nat) : w.frozen? ⟨q, i, none⟩ = false := by simp [World.frozen?, h.head, mcO]
theorem Foc.free' (h : Foc w q H Fm Fo O oc now kept ver out) : ∀ i, w.frozen? ⟨q, i, none⟩ = false := h.free
/-- the words are written -/
theorem Foc.wrote (h : Foc w q H Fm Fo O oc now kept ver out) {now' ver' : List Int} (hm : Mem w' 113 H.m Fm now.length now' kept ver') (hl : now'.length = now.length) (ho : Only Fm w w') : Foc w' q H Fm Fo O oc now' kept ver' out :=
  ⟨(ho.block q h.qlt h.qm).trans h.head, by rw [hl]; exact hm, own_only h.row ho (fun g hg hm => h.mo g hm (h.oF g hg)), h.oF, Nat.lt_of_lt_of_le h.qlt ho.size, fun k hk => Nat.lt_of_lt_of_le (h.oLt k hk) ho.size, h.qm, h.qo, h.mo⟩
/-- something is put out -/
theorem Foc.told (h : Foc w q H Fm Fo O oc now kept ver out) {w1 : World} {O2 : Option Addr} {oc2 : Nat} {z : Int} (hb : Below w.heap.size w w1) (hown : Own w' 0 29 1 O2 (out.length + 1) oc2 (out.map (fun z => [uw z]) ++ [[uw z]])) (hg : ∀ k, k < w1.heap.size → O.map (·.block) ≠ some k → w'.heap[k]? = w1.heap[k]?) (hbw : Below 0 w1 w')
    (hat : O2.map (·.block) = O.map (·.block) ∨ ∀ k, O2.map (·.block) = some k → w1.heap.size ≤ k) :
    Foc (w'.setCell ⟨q, 5, none⟩ (.slice O2 (out.length + 1) oc2)) q H Fm (Fo ++ (O2.map (·.block)).toList) O2 oc2 now kept ver (out ++ [z]) ∧ Only (q :: Fo) w (w'.setCell ⟨q, 5, none⟩ (.slice O2 (out.length + 1) oc2)) := by
  have ho1 : Only Fo w w' := ⟨hbw.os.trans hb.os, hbw.tape.trans hb.tape, hbw.output.trans hb.output, Nat.le_trans hb.size hbw.size, fun k hk hn => (hg k (Nat.lt_of_lt_of_le hk hb.size) (fun e => hn (h.oF k e))).trans (hb.block k hk)⟩
  have ho2 : Only [q] w' (w'.setCell ⟨q, 5, none⟩ (.slice O2 (out.length + 1) oc2)) := (Only.refl _ _).setCell (by simp) _
  have ho : Only (q :: Fo) w (w'.setCell ⟨q, 5, none⟩ (.slice O2 (out.length + 1) oc2)) := (ho1.more (fun x hx => by simp [hx])).seq (ho2.more (fun x hx => by simp at hx; simp [hx]))
  have hq : w'.heap[q]? = some (mcO H (.slice O out.length oc)) := (ho1.block q h.qlt h.qo).trans h.head
  have hO2 : ∀ g, O2.map (·.block) = some g → g ∈ Fo ∨ w.heap.size ≤ g := fun g hg2 => by
    rcases hat with e | e
    · rw [e] at hg2; exact .inl (h.oF g hg2)
    · exact .inr (Nat.le_trans hb.size (e g hg2))
  have hO2q : ∀ g, O2.map (·.block) = some g → g ≠ q := fun g hg2 e => by
    subst e
    rcases hO2 g hg2 with h1 | h1
    · exact h.qo h1
    · have := h.qlt; omega
  refine ⟨⟨?_, h.mem.far ho (fun k hk hm => ?_), ?_, fun g hg2 => by simp [hg2], Nat.lt_of_lt_of_le h.qlt ho.size, fun k hk => ?_, h.qm, fun hm => ?_, fun k hk hm => ?_⟩, ho⟩
  · unfold mcO at hq ⊢
    simp [World.setCell, Array.getElem?_modify, hq]
  · rcases List.mem_cons.1 hm with e | e
    · subst e; exact h.qm hk
    · exact h.mo k hk e
  · have := own_only hown ho2 (fun g hg2 hm => hO2q g hg2 (by simpa using hm))
    rw [List.length_append, List.map_append]
    exact this
  · rcases List.mem_append.1 hk with e | e
    · exact Nat.lt_of_lt_of_le (h.oLt k e) ho.size
    · have := (hown.lt k (by simpa using e)).2
      exact Nat.lt_of_lt_of_le this ho2.size
  · rcases List.mem_append.1 hm with e | e
    · exact h.qo e
    · exact hO2q q (by simpa using e) rfl
  · rcases List.mem_append.1 hm with e | e
    · exact h.mo k hk e
    · rcases hO2 k (by simpa using e) with e | e
      · exact h.mo k hk e
      · have := h.mem.lt k hk; omega
end
end Go.Proofs.Ytdhihmeknoofoaa.Sa
