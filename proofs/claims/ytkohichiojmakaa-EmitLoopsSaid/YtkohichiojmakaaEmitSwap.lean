/-
  WALKS: package emit: swap.
-/
import Derived.Test.YtkohichiojmakaaEmitRead
namespace Go.Proofs.Ytkohichiojmakaa.EmS
set_option linter.unusedVariables false
set_option linter.unusedSimpArgs false
open Go.RowKit Cm Mm Ow A64 A64W Stp Em InW EmW EmP EmR

section
variable {w0 w : World} {q X : Nat} {PA : Option Addr} {pn pc : Nat} {p : List Pl} {L : List In} {lb : List Int}
theorem rdI_len (p : List Pl) (v k : Int) : (rdI p v k).length ≤ 1 := by unfold rdI; split <;> simp
/-- a box that stays: no block of the maker's -/
structure Box (w : World) (q X b : Nat) (cs : Array Value) (T : TypeId) : Prop where
  at_ : w.heap[b]? = some (.cells cs T (0, 0))
  lt : b < w.heap.size
  nq : b ≠ q
  nX : b ≠ X
theorem Box.far {w w' : World} {q X X' b : Nat} {cs : Array Value} {T : TypeId} (h : Box w q X b cs T) (hf : Far w w' q X X') : Box w' q X' b cs T :=
  ⟨(hf.blk b h.lt h.nq h.nX).trans h.at_, Nat.lt_of_lt_of_le h.lt hf.size, h.nq, hf.ne b h.lt h.nq h.nX⟩
theorem Box.keep {w w' : World} {q X b : Nat} {cs : Array Value} {T : TypeId} (h : Box w q X b cs T) (hb : Below w.heap.size w w') : Box w' q X b cs T :=
  ⟨(hb.block b h.lt).trans h.at_, Nat.lt_of_lt_of_le h.lt hb.size, h.nq, h.nX⟩
theorem Box.cell {w : World} {q X b : Nat} {cs : Array Value} {T : TypeId} (h : Box w q X b cs T) (k : Nat) : w.cell? ⟨b, k, none⟩ = cs[k]? := by
  simp only [World.cell?, h.at_]; simp
/-- the box that is made now -/
theorem Box.new (w : World) (q X : Nat) (cs : Array Value) (T : TypeId) (hq : q < w.heap.size) (hX : X < w.heap.size) : Box (w.alloc (.cells cs T)) q X w.heap.size cs T :=
  ⟨heap_alloc_new _ _, by simp, by omega, by omega⟩
theorem row_cell (l : List In) {k j : Nat} (hk : k < l.length) (hj : j < 7) : ((l.map insL).flatten.toArray)[k * 7 + j]? = (insL (l.getD k zeroIn))[j]? := by
  have := flat_get (L := l.map insL) (sz := 7) (in_each l) k j (by simpa using hk) hj
  rw [List.getElem?_toArray, this]
  simp [List.getD, hk]
/-- bounds of the places -/
def Few (p : List Pl) : Prop := ∀ v : Int, 0 ≤ (placeOf p v).n ∧ (placeOf p v).n ≤ 1000
theorem take_more (l : List In) {k : Nat} (hk : k < l.length) : l.take (k + 1) = l.take k ++ [l.getD k zeroIn] := by
  rw [List.take_add_one]
  simp [List.getD, hk]
set_option maxHeartbeats 3200000 in
theorem swap_any (h : Ms w0 w q X PA pn pc p L lb) (kd d a b c to ce n o : Int) (hp : Few p) (hL : L.length ≤ 3000) :
    Calls Try.prog 79 #[.pointer (some ⟨q, 0, none⟩), .agg #[.int .i64 kd, .int .i64 d, .int .i64 a, .int .i64 b, .int .i64 c, .int .i64 to, .int .i64 ce, .int .u64 n, .int .u8 o]] w fun e w' => e = .returned (.tuple #[]) ∧
      PutL w0 w q X PA pn pc p (L ++ (rdI p a 0 ++ (rdI p b 1 ++ (rdI p c 2 ++ (casI (tgR p d) (rdR p a 0) (rdR p b 1) (rdR p c 2) ++ kpI p d))))) lb w' := by
  have H := Lib.hid h
  have la := rdI_len p a 0
  have lb1 := rdI_len p b 1
  have lc := rdI_len p c 2
  have B0 := Lib.hid (Box.new w q X #[.int .i64 kd, .int .i64 d, .int .i64 a, .int .i64 b, .int .i64 c, .int .i64 to, .int .i64 ce, .int .u64 n, .int .u8 o] 62 h.lt h.xlt)
  have HP := Lib.hid hp
  have y2 := (B0.out.cell 2).trans rfl
  clear h hp
  go_enter Try.func79, Try.ntmps79
  go_wp2_with fail
  refine (read_any (H.out.keep (below_al w _)) a 0 (by omega) (HP.out a) (by omega)).mono ?_
  rintro e w1 ⟨rfl, X1, hM1, hF1⟩
  have M1 := Lib.hid hM1
  have F1 := Lib.hid (Far.after (below_al w (.cells #[.int .i64 kd, .int .i64 d, .int .i64 a, .int .i64 b, .int .i64 c, .int .i64 to, .int .i64 ce, .int .u64 n, .int .u8 o] 62)) hF1)
  have B1 := Lib.hid (B0.out.far hF1)
  clear hM1 hF1
  have y3 := (B1.out.cell 3).trans rfl
  have ll1 : (L ++ rdI p a 0).length ≤ 3100 := by rw [List.length_append]; omega
  go_wp2_with fail
  refine (read_any M1.out b 1 (by omega) (HP.out b) (by omega)).mono ?_
  rintro e w2 ⟨rfl, X2, hM2, hF2⟩
  have M2 := Lib.hid hM2
  have F2 := Lib.hid (F1.out.trans hF2)
  have B2 := Lib.hid (B1.out.far hF2)
  clear hM2 hF2
  have y4 := (B2.out.cell 4).trans rfl
  have ll2 : (L ++ rdI p a 0 ++ rdI p b 1).length ≤ 3200 := by rw [List.length_append]; omega
  go_wp2_with fail
  refine (read_any M2.out c 2 (by omega) (HP.out c) (by omega)).mono ?_
  rintro e w3 ⟨rfl, X3, hM3, hF3⟩
  have M3 := Lib.hid hM3
  have F3 := Lib.hid (F2.out.trans hF3)
  have B3 := Lib.hid (B2.out.far hF3)
  clear hM3 hF3
  have y1 := (B3.out.cell 1).trans rfl
  have ll3 : (L ++ rdI p a 0 ++ rdI p b 1 ++ rdI p c 2).length ≤ 3300 := by rw [List.length_append]; omega
  go_wp2_with fail
  refine (target_any M3.out d (HP.out d)).mono ?_
  rintro e w4 ⟨rfl, hb4⟩
  have M4 := Lib.hid (M3.out.keep hb4)
  have F4 := Lib.hid (F3.out.trans (Far.below hb4))
  have B4 := Lib.hid (B3.out.keep hb4)
  clear hb4
  obtain ⟨L3, hL3⟩ : ∃ L3, L ++ rdI p a 0 ++ rdI p b 1 ++ rdI p c 2 = L3 := ⟨_, rfl⟩
  rw [hL3] at M4 ll3
  have HL3 := Lib.hid hL3
  clear hL3 M3 M2 M1 F1 F2 F3 B0 B1 B2 B3 y1 y2 y3 y4 ll1 ll2
  obtain ⟨rd, hrd⟩ : ∃ rd, tgR p d = rd := ⟨_, rfl⟩
  obtain ⟨ra, hra⟩ : ∃ ra, rdR p a 0 = ra := ⟨_, rfl⟩
  obtain ⟨rb, hrb⟩ : ∃ rb, rdR p b 1 = rb := ⟨_, rfl⟩
  obtain ⟨rc, hrc⟩ : ∃ rc, rdR p c 2 = rc := ⟨_, rfl⟩
  rw [hrd, hra, hrb, hrc]
  have HRD := Lib.hid hrd
  have HRA := Lib.hid hra
  have HRB := Lib.hid hrb
  have HRC := Lib.hid hrc
  clear hrd hra hrb hrc
  have G4 := Lib.hid (Box.new w4 q X3 ((casI rd ra rb rc).map insL).flatten.toArray 45 M4.out.lt M4.out.xlt)
  go_wp2_with fail
  go_loopw [42] (fun i wr => ∃ (k X' : Nat), k ≤ 8 ∧ i = .int .i64 k ∧ Ms w0 wr q X' PA pn pc p (L3 ++ (casI rd ra rb rc).take k) lb ∧ Far w wr q X X' ∧ Box wr q X' w4.heap.size ((casI rd ra rb rc).map insL).flatten.toArray 45 ∧ Box wr q X' w.heap.size #[.int .i64 kd, .int .i64 d, .int .i64 a, .int .i64 b, .int .i64 c, .int .i64 to, .int .i64 ce, .int .u64 n, .int .u8 o] 62) (fun i _ => 8 - (intOf i).toNat)
  case atStart =>
    refine ⟨0, X3, by omega, rfl, ?_, F4.out.trans (Far.below (below_al w4 _)), G4.out, B4.out.keep (below_al w4 _)⟩
    rw [List.take_zero, List.append_nil]
    exact M4.out.keep (below_al w4 _)
  case round =>
    obtain ⟨k, X', hk8, rfl, hM, hF, hG, hB⟩ := hrel
    have MM := Lib.hid hM
    have FF := Lib.hid hF
    have GG := Lib.hid hG
    have BB := Lib.hid hB
    clear hM hF hG hB M4 F4 B4 G4
    by_cases hk : k < 8
    · have d0 : decide ((k : Int) < 8) = true := decide_eq_true (by omega)
      have hki : (k : Int) < 8 := by omega
      have hkl : k < (casI rd ra rb rc).length := hk
      have hlen : Hid ((L3 ++ (casI rd ra rb rc).take k).length ≤ 4000) := Lib.hid (by rw [List.length_append, List.length_take]; omega)
      have HT := Lib.hid (take_more (casI rd ra rb rc) hkl)
      have z0 := (GG.out.cell (k * 7)).trans (row_cell (casI rd ra rb rc) hkl (show 0 < 7 by omega))
      have z1 := (GG.out.cell (k * 7 + 1)).trans (row_cell (casI rd ra rb rc) hkl (show 1 < 7 by omega))
      have z2 := (GG.out.cell (k * 7 + 2)).trans (row_cell (casI rd ra rb rc) hkl (show 2 < 7 by omega))
      have z3 := (GG.out.cell (k * 7 + 3)).trans (row_cell (casI rd ra rb rc) hkl (show 3 < 7 by omega))
      have z4 := (GG.out.cell (k * 7 + 4)).trans (row_cell (casI rd ra rb rc) hkl (show 4 < 7 by omega))
      have z5 := (GG.out.cell (k * 7 + 5)).trans (row_cell (casI rd ra rb rc) hkl (show 5 < 7 by omega))
      have z6 := (GG.out.cell (k * 7 + 6)).trans (row_cell (casI rd ra rb rc) hkl (show 6 < 7 by omega))
      generalize (casI rd ra rb rc).getD k zeroIn = s at *
      obtain ⟨s0, s1, s2, s3, s4, s5, s6⟩ := s
      simp only [insL, List.getElem?_cons_zero, List.getElem?_cons_succ] at z0 z1 z2 z3 z4 z5 z6
      have b2 := Lib.hid (below_al wr (.cells #[.int .i64 s0, .int .i64 s1, .int .i64 s2, .int .i64 s3, .int .i64 s4, .int .i64 s5, .int .i64 s6] 45))
      have hg4 := GG.out.lt
      clear hkl
      go_wp2_with fail
      refine (put_any (MM.out.keep b2.out) s0 s1 s2 s3 s4 s5 s6 hlen.out).mono ?_
      rintro e w5 ⟨rfl, X5, hM5, hF5⟩
      have M5 := Lib.hid hM5
      have F5 := Lib.hid (Far.after b2.out hF5)
      clear hM5 hF5
      go_wp2_with fail
      go_roundw
      case rel => exact ⟨k + 1, X5, by omega, by go_num, by rw [HT.out, ← List.append_assoc]; exact M5.out, FF.out.trans F5.out, GG.out.far F5.out, BB.out.far F5.out⟩
      case measure => simp [intOf]; omega
    · obtain rfl : k = 8 := by omega
      have y1 := (BB.out.cell 1).trans rfl
      have M8 : Hid (Ms w0 wr q X' PA pn pc p (L3 ++ casI rd ra rb rc) lb) := Lib.hid MM.out
      have hlen : Hid ((L3 ++ casI rd ra rb rc).length ≤ 3900) := Lib.hid (by rw [List.length_append, show (casI rd ra rb rc).length = 8 from rfl]; omega)
      clear hk MM
      go_wp2_with fail
      refine (keep_any M8.out d hlen.out).mono ?_
      rintro e w6 ⟨rfl, X6, hM6, hF6⟩
      have M6 := Lib.hid hM6
      have F6 := Lib.hid (FF.out.trans hF6)
      clear hM6 hF6
      go_wp2_with fail
      go_end0
      refine ⟨rfl, X6, ?_, F6.out⟩
      have := M6.out
      rw [← HL3.out, ← HRD.out, ← HRA.out, ← HRB.out, ← HRC.out] at this
      simpa only [List.append_assoc] using this
end
end Go.Proofs.Ytkohichiojmakaa.EmS
