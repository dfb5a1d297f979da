/-
  WALKS: chapter 5: its example, and the law QueueTexts.
-/
import Derived.Test.YtdhihmeknoofoaaQueueCut
import Derived.OpenShut
namespace Go.Proofs.Ytdhihmeknoofoaa.QuT
set_option linter.unusedVariables false
set_option linter.unusedSimpArgs false
open Go.RowKit Go.WideShapes Go.ChangeShapes Cm Mm Ow Ow2 Del Qu

theorem may_nil (w : World) : Calls Try.prog 33 #[.slice none 0 0, .int .i64 0] w fun e w' => e = .returned (.bool false) ∧ Below w.heap.size w w' := by
  go_enter Try.func33, Try.ntmps33
  go_wp2
  go_ret
  exact ⟨rfl, by go_grown⟩
theorem icut_head (q : Nat) (v : Value) (L : List Value) (w : World) (h : iQ w q (v :: L)) (hn : L.length ≤ 65535) (h1 : ∀ u ∈ v :: L, u.oneCell' = true) :
    Calls Try.prog 42 #[.pointer (some ⟨q, 0, none⟩), .int .i64 0] w fun e w' => e = .returned (.tuple #[v, .bool true]) ∧ iQ w' q L ∧ Below q w w' :=
  icut_any q 0 (v :: L) w h (by simp; omega) h1 (by simp)
theorem scut_head (q : Nat) (v : Value) (L : List Value) (w : World) (h : sQ w q (v :: L)) (hn : L.length ≤ 65535) (h1 : ∀ u ∈ v :: L, u.oneCell' = true) :
    Calls Try.prog 31 #[.pointer (some ⟨q, 0, none⟩), .int .i64 0] w fun e w' => e = .returned (.tuple #[v, .bool true]) ∧ sQ w' q L ∧ Below q w w' :=
  scut_any q 0 (v :: L) w h (by simp; omega) h1 (by simp)
theorem iQ_new (w : World) (t : TypeId) : iQ (w.alloc (.cells #[.slice none 0 0] t)) w.heap.size [] := ⟨none, 0, 0, by simp [World.cell?_alloc_new], by simp, Own.nil _ _ _ _⟩
theorem sQ_new (w : World) (t : TypeId) : sQ (w.alloc (.cells #[.slice none 0 0] t)) w.heap.size [] := ⟨none, 0, 0, by simp [World.cell?_alloc_new], by simp, Own.nil _ _ _ _⟩

set_option maxHeartbeats 1600000 in
theorem alive_any (w : World) : Calls Try.prog 29 #[] w fun e w' => e = .returned (.bool true) ∧ Below w.heap.size w w' := by
  have hq := Lib.hid (iQ_new w 66)
  have hB : Hid (Below w.heap.size w (w.alloc (.cells #[.slice none 0 0] 66))) := Lib.hid ((Below.refl _ _).alloc (Nat.le_refl _) _)
  go_enter Try.func29, Try.ntmps29
  go_wp2_with fail
  refine (iadd_any w.heap.size [] 4 _ hq.out (by simp)).mono ?_
  rintro e w2 ⟨rfl, q2, hb2⟩
  have q2 := Lib.hid q2
  have B2 := Lib.hid (hB.out.trans hb2)
  clear hb2
  go_wp2_with fail
  refine (ilen_any w.heap.size [.int .i64 4] _ q2.out).mono ?_
  rintro e w' ⟨rfl, rfl⟩
  go_wp2_with fail
  refine (icut_head w.heap.size (.int .i64 4) [] _ q2.out (by simp) (by intro u hu; simp at hu; subst hu; rfl)).mono ?_
  rintro e w3 ⟨rfl, q3, hb3⟩
  have B3 := Lib.hid (B2.out.trans hb3)
  clear hb3 q3
  go_wp2_with fail
  refine (may_nil _).mono ?_
  rintro e w4 ⟨rfl, hb4⟩
  go_wp2_with fail
  go_ret
  exact ⟨rfl, B3.out.trans (hb4.mono B3.out.size)⟩

set_option maxRecDepth 100000 in
theorem open_texts {H : Type} {enc : TypeId × Value → H} {w : World} {v : Value} {d : DataW H} {p : List MemPlace} {r : Reach} {b0 : Nat}
    (h : DataW.Trod enc Try.prog w 0 (fun _ => true) true 41 v d p) (hok : Value.okWide Try.prog w r b0 41 v) :
    ∃ A n cap, ∃ l : List ByteArray, v = .slice A n cap ∧ l.length = n ∧ Sl w A n cap 1 (fun i => [.string (l.getD i ⟨#[]⟩)]) := by
  obtain ⟨fuel, hf⟩ := h
  have hone : v.cells.toList = [v] := by
    have h2 := okWide_slice Try.underlying41 hok
    obtain ⟨a, n, c, rfl⟩ := h2
    rfl
  rw [hone] at hf
  obtain ⟨A, n, cap, l, hcs, hl, hsl, hk, _⟩ := open_sl (α := ByteArray) ⟨#[]⟩ (fun s => [.string s]) (fun _ => True) 1 Try.underlying41 (by kernel_rfl) (by decide) (fun m cs y hy => by
    obtain ⟨s, rfl, _, _⟩ := DataW.trod_string Try.underlying9 hy
    exact ⟨s, rfl, trivial⟩) hf
  simp at hcs
  exact ⟨A, n, cap, l, hcs, hl, hsl⟩

theorem text_cell {w : World} {A : Option Addr} {n cap : Nat} {l : List ByteArray} (h : Sl w A n cap 1 (fun i => [.string (l.getD i ⟨#[]⟩)])) {k : Nat} (hk : k < n) : ∃ b o, A = some ⟨b, o, none⟩ ∧ w.cell? ⟨b, o + k, none⟩ = some (.string (l.getD k ⟨#[]⟩)) := by
  obtain ⟨b, o, e, _, hc⟩ := h.at_ (by omega)
  exact ⟨b, o, e, by simpa using hc k hk 0 (by omega)⟩
theorem take_one (l : List ByteArray) (k : Nat) (h : k < l.length) : (l.take (k + 1)).map Value.string = (l.take k).map Value.string ++ [.string (l.getD k ⟨#[]⟩)] := by
  rw [List.take_succ_eq_append_getElem h, List.map_append]; congr 1; simp [List.getD, h]
theorem drop_one (l : List ByteArray) (k : Nat) (h : k < l.length) : (l.drop k).map Value.string = .string (l.getD k ⟨#[]⟩) :: (l.drop (k + 1)).map Value.string := by
  rw [List.drop_eq_getElem_cons h, List.map_cons]; congr 1; simp [List.getD, h]
theorem one_text (l : List ByteArray) : ∀ u ∈ l.map Value.string, u.oneCell' = true := by
  intro u hu
  obtain ⟨s, _, rfl⟩ := List.mem_map.1 hu
  rfl

set_option maxRecDepth 20000 in
set_option maxHeartbeats 3200000 in
theorem walkTexts {H : Type} {enc : TypeId × Value → H} {d0 : DataW H} {P0 : List MemPlace} {r : Reach} {b0 : Nat} (v0 : Value) (w : World)
    (k0 : DataW.Trod enc Try.prog w 0 (fun _ => true) true 41 v0 d0 P0) (ok0 : Value.okWide Try.prog w r b0 41 v0) :
    Calls Try.prog 6 #[v0] w fun e w' => e = .returned (.bool true) ∧ Below w.heap.size w w' := by
  obtain ⟨A, n, cap, l, rfl, hl, hsl⟩ := open_texts k0 ok0
  clear k0 ok0
  have HS := Lib.hid hsl
  have HL := Lib.hid hl
  clear hsl hl
  by_cases hn : n ≤ 50
  · have t1 : decide (50 < (n : Int)) = false := by simp; omega
    have t2 : (n : Int) ≤ 50 := by omega
    go_enter Try.func6, Try.ntmps6
    go_wp2_with fail
    refine (alive_any _).mono ?_
    rintro e w2 ⟨rfl, hb2⟩
    have hq := Lib.hid (sQ_new w2 44)
    have B2 := Lib.hid (hb2.alloc hb2.size (.cells #[.slice none 0 0] 44))
    have Z2 := Lib.hid hb2.size
    clear hb2
    go_wp2_with fail
    generalize w2.alloc (.cells #[.slice none 0 0] 44) = W at *
    generalize w2.heap.size = q at *
    go_loopw [5] (fun i wr => ∃ k : Nat, k ≤ n ∧ i = .int .i64 k ∧ sQ wr q ((l.take k).map Value.string) ∧ Below w.heap.size w wr) (fun i _ => n - (intOf i).toNat)
    case atStart => exact ⟨0, Nat.zero_le _, rfl, hq.out, B2.out⟩
    case round =>
      obtain ⟨k, hk, rfl, hQ, hB⟩ := hrel
      have HQ := Lib.hid hQ
      have HB := Lib.hid hB
      clear hQ hB
      by_cases hlt : k < n
      · obtain ⟨b, o, rfl, hc⟩ := text_cell (HS.out.keep HB.out) hlt
        have e1 := Lib.hid (take_one l k (by rw [HL.out]; exact hlt))
        generalize l.getD k ⟨#[]⟩ = s at *
        go_wp2_with fail
        refine (sadd_any q _ s _ HQ.out (by rw [List.length_map, List.length_take]; omega)).mono ?_
        rintro e w3 ⟨rfl, q3, hb3⟩
        rw [← e1.out] at q3
        have q3 := Lib.hid q3
        have B3 := Lib.hid (HB.out.trans (hb3.mono Z2.out))
        clear hb3
        go_wp2_with fail
        go_roundw
        case rel => exact ⟨k + 1, by omega, by go_num, q3.out, B3.out⟩
        case measure => simp [intOf]; omega
      · obtain rfl : k = n := by omega
        go_wp2_with fail
        obtain ⟨wo, rfl⟩ : ∃ wo : World, wo = wr := ⟨_, rfl⟩
        have e0 : l.take k = l := List.take_of_length_le (by rw [HL.out]; exact Nat.le_refl _)
        have hQ0 := HQ.out
        rw [e0] at hQ0
        have HQ0 := Lib.hid hQ0
        clear e0 hQ0 hlt hk
        go_loopw [6] (fun i wr => ∃ j : Nat, j ≤ k ∧ i = .int .i64 j ∧ sQ wr q ((l.drop j).map Value.string) ∧ Below w.heap.size w wr) (fun i _ => k - (intOf i).toNat)
        case atStart => exact ⟨0, Nat.zero_le _, rfl, HQ0.out, HB.out⟩
        case round =>
          obtain ⟨j, hj, rfl, hQ2, hB2⟩ := hrel
          have HQ2 := Lib.hid hQ2
          have HB2 := Lib.hid hB2
          clear hQ2 hB2
          by_cases hlt : j < k
          · obtain ⟨b, o, rfl, hc⟩ := text_cell (HS.out.keep HB2.out) hlt
            have e1 := drop_one l j (by rw [HL.out]; exact hlt)
            have h1 := one_text (l.drop j)
            have hq2 := HQ2.out
            rw [e1] at h1 hq2
            generalize hs : l.getD j ⟨#[]⟩ = s at *
            have HSj := Lib.hid hs
            clear hs
            have C := Lib.hid (scut_head q (.string s) _ _ hq2 (by rw [List.length_map, List.length_drop, HL.out]; omega) h1)
            clear e1 h1 hq2
            go_wp2_with fail
            refine C.out.mono ?_
            rintro e w3 ⟨rfl, q3, hb3⟩
            have q3 := Lib.hid q3
            have B3 := Lib.hid (HB2.out.trans (hb3.mono Z2.out))
            clear hb3
            obtain ⟨b', o', e', hc3⟩ := text_cell (HS.out.keep B3.out) hlt
            rw [HSj.out] at hc3
            injection e' with e'
            injection e' with e1 e2
            subst e1 e2
            have hs1 : (s.toList == s.toList) = true := beq_self_eq_true _
            have hs2 : (s.toList != s.toList) = false := by simp
            go_wp2_with fail
            go_roundw
            case rel => exact ⟨j + 1, by omega, by go_num, q3.out, B3.out⟩
            case measure => simp [intOf]; omega
          · obtain rfl : j = k := by omega
            have e0 : l.drop j = [] := List.drop_eq_nil_of_le (by rw [HL.out]; exact Nat.le_refl _)
            have hQ2 := HQ2.out
            rw [e0] at hQ2
            have HQ3 := Lib.hid hQ2
            clear e0 hQ2
            go_wp2_with fail
            refine (scut_out q 0 [] _ HQ3.out (by simp)).mono ?_
            rintro e w' ⟨rfl, rfl⟩
            go_wp2_with fail
            refine (slen_any q [] _ HQ3.out).mono ?_
            rintro e w' ⟨rfl, rfl⟩
            go_wp2_with fail
            go_ret
            exact ⟨rfl, HB2.out⟩
  · have t1 : decide (50 < (n : Int)) = true := by simp; omega
    go_enter Try.func6, Try.ntmps6
    go_wp2_with fail
    refine (alive_any _).mono ?_
    rintro e w2 ⟨rfl, hb2⟩
    go_wp2_with fail
    go_ret
    exact ⟨rfl, hb2⟩
end Go.Proofs.Ytdhihmeknoofoaa.QuT
