/-
  WALKS: the program's memory (package cells), each function once.
-/
import Derived.Test.YtgadjmojebhlgaaRefMem
import Derived.Lib.SliceRun
import Derived.Laws.CopyOwn
namespace Go.Proofs.Ytgadjmojebhlgaa.Cl
set_option linter.unusedVariables false
set_option linter.unusedSimpArgs false
open Go.RowKit Cm Mm Ow Me Rm

theorem cplace_any (p n : Nat) (a : Int) (A1 : Option Addr) (c1 : Nat) (w : World) (h1 : -9223372036854775808 ≤ a) (h2 : a ≤ 9223372036854775807) (hn : n ≤ 64)
    (hc : w.cell? ⟨p, 0, none⟩ = some (.slice A1 n c1)) :
    Calls Try.prog 61 #[.pointer (some ⟨p, 0, none⟩), .int .i64 a] w fun e w' => e = .returned (.tuple #[.int .i64 ((plc n a).getD 0 : Nat), .bool (plc n a).isSome]) ∧ w = w' := by
  cases ho : plc n a with
  | none =>
    obtain h | ⟨h, h'⟩ | ⟨h, h', h''⟩ := plc_none ho
    · clear ho
      go_enter Try.func61, Try.ntmps61
      go_wp2
      go_ret2
      exact ⟨rfl, rfl⟩
    · have hb : ((a - 4096) % 8 != 0) = true := by rw [bne_iff_ne]; exact h'
      clear h' ho
      go_enter Try.func61, Try.ntmps61
      go_wp2
      go_ret2
      exact ⟨rfl, rfl⟩
    · have hb : ((a - 4096) % 8 != 0) = false := by rw [h']; rfl
      clear h' ho
      go_enter Try.func61, Try.ntmps61
      go_wp2
      go_ret2
      exact ⟨rfl, rfl⟩
  | some i =>
    obtain ⟨k1, k2, k3, k4⟩ := plc_some ho
    have hb : ((a - 4096) % 8 != 0) = false := by rw [k2]; rfl
    have K3 := Lib.hid k3
    have k5 : (a - 4096) / 8 < n := by omega
    clear k2 k3 ho
    go_enter Try.func61, Try.ntmps61
    go_wp2
    go_ret2
    refine ⟨?_, rfl⟩
    show Ending.returned (.tuple #[.int .i64 ((a - 4096) / 8), .bool true]) = _
    rw [K3.out]
    rfl

theorem cread_any (p n : Nat) (a : Int) (F : List Nat) (now kept ver : List Int) (w : World) (h1 : -9223372036854775808 ≤ a) (h2 : a ≤ 9223372036854775807) (h : Mem w 66 p F n now kept ver) :
    Calls Try.prog 36 #[.pointer (some ⟨p, 0, none⟩), .int .i64 a] w fun e w' => e = .returned (.tuple #[.int .u64 (rd now (plc n a)), .bool (plc n a).isSome]) ∧ w = w' := by
  obtain ⟨A1, A2, A3, c1, c2, c3, h⟩ := h
  obtain ⟨g1, g2, g3⟩ := h.cells
  have hs := h.small
  have R := cplace_any p n a A1 c1 w h1 h2 hs g1
  cases ho : plc n a with
  | none =>
    rw [ho] at R
    have HR := Lib.hid R; clear R ho
    go_enter Try.func36, Try.ntmps36
    go_wp2_with fail
    refine HR.out.mono ?_
    rintro e w' ⟨rfl, rfl⟩
    go_wp2_with fail
    go_ret2
    exact ⟨rfl, rfl⟩
  | some i =>
    obtain ⟨k1, k2, k3, k4⟩ := plc_some ho
    rw [ho] at R
    have HR := Lib.hid R; clear R ho k2 k3
    obtain ⟨b1, b2, b3, rfl, rfl, rfl⟩ := h.some_ (by omega)
    obtain ⟨e1, e2⟩ := cell_now h rfl k4
    have hi : (i : Int) < n := by omega
    have hx : rd now (some i) = now.getD i 0 := rfl
    have HX := Lib.hid hx; clear hx
    generalize now.getD i 0 = x at *
    go_enter Try.func36, Try.ntmps36
    go_wp2_with fail
    refine HR.out.mono ?_
    rintro e w' ⟨rfl, rfl⟩
    go_wp2_with fail
    go_ret2
    rw [HX.out]
    exact ⟨rfl, rfl⟩

theorem cversion_any (p n : Nat) (a : Int) (F : List Nat) (now kept ver : List Int) (w : World) (h1 : -9223372036854775808 ≤ a) (h2 : a ≤ 9223372036854775807) (h : Mem w 66 p F n now kept ver) :
    Calls Try.prog 38 #[.pointer (some ⟨p, 0, none⟩), .int .i64 a] w fun e w' => e = .returned (.int .i64 (rd ver (plc n a))) ∧ w = w' := by
  obtain ⟨A1, A2, A3, c1, c2, c3, h⟩ := h
  obtain ⟨g1, g2, g3⟩ := h.cells
  have hs := h.small
  have R := cplace_any p n a A1 c1 w h1 h2 hs g1
  cases ho : plc n a with
  | none =>
    rw [ho] at R
    have HR := Lib.hid R; clear R ho
    go_enter Try.func38, Try.ntmps38
    go_wp2_with fail
    refine HR.out.mono ?_
    rintro e w' ⟨rfl, rfl⟩
    go_wp2_with fail
    go_ret
    exact ⟨rfl, rfl⟩
  | some i =>
    obtain ⟨k1, k2, k3, k4⟩ := plc_some ho
    rw [ho] at R
    have HR := Lib.hid R; clear R ho k2 k3
    obtain ⟨b1, b2, b3, rfl, rfl, rfl⟩ := h.some_ (by omega)
    obtain ⟨e1, e2⟩ := cell_ver h rfl k4
    have hi : (i : Int) < n := by omega
    have hx : rd ver (some i) = ver.getD i 0 := rfl
    have HX := Lib.hid hx; clear hx
    generalize ver.getD i 0 = x at *
    go_enter Try.func38, Try.ntmps38
    go_wp2_with fail
    refine HR.out.mono ?_
    rintro e w' ⟨rfl, rfl⟩
    go_wp2_with fail
    go_ret
    rw [HX.out]
    exact ⟨rfl, rfl⟩

theorem cwrite_any (p n : Nat) (a v : Int) (F : List Nat) (now kept ver : List Int) (w : World) (h1 : -9223372036854775808 ≤ a) (h2 : a ≤ 9223372036854775807) (h : Mem w 66 p F n now kept ver) :
    Calls Try.prog 37 #[.pointer (some ⟨p, 0, none⟩), .int .i64 a, .int .u64 v] w fun e w' => e = .returned (.bool (plc n a).isSome) ∧ Mem w' 66 p F n (put now (plc n a) v) kept (tick ver (plc n a)) ∧ Only F w w' := by
  have hM := h
  obtain ⟨A1, A2, A3, c1, c2, c3, h⟩ := h
  obtain ⟨g1, g2, g3⟩ := h.cells
  have hs := h.small
  have R := cplace_any p n a A1 c1 w h1 h2 hs g1
  cases ho : plc n a with
  | none =>
    rw [ho] at R
    have HR := Lib.hid R; clear R ho
    have HM := Lib.hid hM; clear hM
    go_enter Try.func37, Try.ntmps37
    go_wp2_with fail
    refine HR.out.mono ?_
    rintro e w' ⟨rfl, rfl⟩
    go_wp2_with fail
    go_ret
    exact ⟨rfl, HM.out, Only.refl _ _⟩
  | some i =>
    obtain ⟨k1, k2, k3, k4⟩ := plc_some ho
    rw [ho] at R
    have HR := Lib.hid R; clear R ho k2 k3 hM
    obtain ⟨b1, b2, b3, rfl, rfl, rfl⟩ := h.some_ (by omega)
    obtain ⟨e1, e2⟩ := cell_now h rfl k4
    have hi : (i : Int) < n := by omega
    obtain ⟨S1, O1⟩ := h.set_now (by decide) i v
    have S1' := S1
    obtain ⟨g1', g2', g3'⟩ := S1.cells
    obtain ⟨e3, e4⟩ := cell_ver S1 rfl k4
    have S2 := S1'.set_ver (by decide) i (wrap64 (ver.getD i 0 + 1))
    have HS := Lib.hid S2; clear S2 S1 S1'
    have HO := Lib.hid O1; clear O1
    have hx : tick ver (some i) = ver.set i (wrap64 (ver.getD i 0 + 1)) := rfl
    have HX := Lib.hid hx; clear hx
    generalize ver.getD i 0 = x at *
    go_enter Try.func37, Try.ntmps37
    go_wp2_with fail
    refine HR.out.mono ?_
    rintro e w' ⟨rfl, rfl⟩
    go_wp2_with fail
    go_ret
    exact ⟨rfl, HX.out ▸ ⟨_, _, _, _, _, _, HS.out.1⟩, HO.out.seq HS.out.2⟩

/-- a call makes a memory -/
def Made (T : TypeId) (n : Nat) (w : World) (e : Ending) (w' : World) : Prop := ∃ p F, e = .returned (.pointer (some ⟨p, 0, none⟩)) ∧ Mem w' T p F n (zeros n) (zeros n) (zeros n) ∧ (∀ k ∈ F, w.heap.size ≤ k) ∧ Below w.heap.size w w'

section
attribute [local go_sem] if_min if_max
set_option maxHeartbeats 800000 in
theorem cnew_any (a : Int) (w : World) : Calls Try.prog 35 #[.int .i64 a] w (Made 66 (words a) w) := by
  have hn := words_le a
  have hw := words_int a
  generalize words a = n at *
  have m1 := run_make_u n (by omega)
  have m2 := run_make_i n (by omega)
  go_enter Try.func35, Try.ntmps35
  go_wp2_with fail
  go_region
  all_goals go_wp2
  all_goals go_ret
  all_goals refine ⟨_, _, rfl, mem_made hn (at3 w _ _ _ _) ?_ ?_ ?_ (by omega), ?_, ?_⟩
  all_goals first
    | exact at0 w _ _ _ _
    | exact at1 w _ _ _ _
    | exact at2 w _ _ _ _
    | (intro k hk; simp at hk; omega)
    | (go_grown; done)
end

theorem elems_eq {l : List Int} {n : Nat} (h : l.length = n) : List.map (fun i => [uw (l.getD i 0)]) (List.range n) = (l.map uw).map fun v => [v] := by
  rw [← h]
  refine List.ext_getElem (by simp) (fun i h1 h2 => ?_)
  simp at h1
  simp [List.getD, h1]

theorem clone_any (A : Option Addr) (n c : Nat) (l : List Int) (w : World) (h : IsU w A n c l) (hn : n ≤ 65536) :
    Calls Try.prog 62 #[.slice A n c] w (GaveU w l) := by
  have hsl := Lib.hid h.2
  have hl := h.1
  have HG := Lib.hid (show ∀ (A : Option Addr) (c : Nat) (w' : World), Own w' w.heap.size 43 1 A n c (List.map (fun i => [uw (l.getD i 0)]) (List.range n)) → Below w.heap.size w w' → GaveU w l (.returned (.slice A n c)) w' from fun A c w' ho hb => ⟨A, n, c, rfl, row_of_own (by rwa [elems_eq hl] at ho), hb⟩)
  have he := fun wx => Lib.run_eql_slice_nil (P := Try.prog) wx 52 43 A n c 0 0 Try.underlying52
  cases A with
  | none =>
    have h0 : n = 0 := by
      rcases Nat.eq_zero_or_pos n with h0 | h0
      · exact h0
      · obtain ⟨b, o, e, _⟩ := h.2.at_ h0
        cases e
    subst h0
    obtain rfl : l = [] := List.eq_nil_of_length_eq_zero hl
    clear hsl hl HG h
    go_enter Try.func62, Try.ntmps62
    go_wp2_with fail
    go_ret
    exact ⟨none, 0, 0, rfl, World.ownsRow_nil _ _ _ _, Below.refl _ _⟩
  | some ad =>
    clear hl h
    have hO : Own (w.alloc (.cells #[] 43)) w.heap.size 43 1 (some ⟨w.heap.size, 0, none⟩) 0 0 [] :=
      ⟨rfl, fun x h => by simp at h, World.ownsRow_made w #[] 0 (Nat.le_refl _) (by unfold maxLen; omega) rfl⟩
    have HO := Lib.hid hO; clear hO
    have hB : Below w.heap.size w (w.alloc (.cells #[] 43)) := (Below.refl _ _).alloc (Nat.le_refl _) _
    have hs2 := Lib.hid (hsl.out.keep hB)
    go_enter Try.func62, Try.ntmps62
    go_wp2_with (at_builtin; refine wpList_app _ rfl _ _ rfl elU w.heap.size (some ⟨w.heap.size, 0, none⟩) 0 0 [] rfl HO.out (some ad) n c _ rfl hs2.out (fun _ _ => rfl) (fun _ _ u hu => by simp at hu; subst hu; rfl) (by unfold maxLen; omega) (by omega) (by simp) ?_; intro A2' c2' w2 hown hg hat)
    simp only [Nat.zero_add, List.nil_append] at hown
    go_ret
    exact HG.out _ _ _ (by simpa using hown) (hB.trans ((Below.refl _ _).grown hg (by simp) (fun k hk => by simp at hk; omega)))

theorem cnow_any (p n : Nat) (F : List Nat) (now kept ver : List Int) (w : World) (h : Mem w 66 p F n now kept ver) :
    Calls Try.prog 43 #[.pointer (some ⟨p, 0, none⟩)] w (GaveU w now) := by
  obtain ⟨A1, A2, A3, c1, c2, c3, h⟩ := h
  obtain ⟨g1, g2, g3⟩ := h.cells
  have hs := h.small
  have U := Lib.hid (isU_of_row h.r1)
  go_enter Try.func43, Try.ntmps43
  go_wp2_with fail
  refine (clone_any _ _ _ _ _ U.out (by omega)).mono ?_
  rintro e w' ⟨A, m, c, rfl, hr, hb⟩
  go_wp2_with fail
  go_ret
  exact ⟨A, m, c, rfl, hr, hb⟩

theorem ckept_any (p n : Nat) (F : List Nat) (now kept ver : List Int) (w : World) (h : Mem w 66 p F n now kept ver) :
    Calls Try.prog 44 #[.pointer (some ⟨p, 0, none⟩)] w (GaveU w kept) := by
  obtain ⟨A1, A2, A3, c1, c2, c3, h⟩ := h
  obtain ⟨g1, g2, g3⟩ := h.cells
  have hs := h.small
  have U := Lib.hid (isU_of_row h.r2)
  go_enter Try.func44, Try.ntmps44
  go_wp2_with fail
  refine (clone_any _ _ _ _ _ U.out (by omega)).mono ?_
  rintro e w' ⟨A, m, c, rfl, hr, hb⟩
  go_wp2_with fail
  go_ret
  exact ⟨A, m, c, rfl, hr, hb⟩

theorem uw_one (l : List Int) : ∀ v ∈ l.map uw, v.oneCell' = true := fun v hv => by
  obtain ⟨x, _, rfl⟩ := List.mem_map.1 hv
  rfl
theorem sizeU : (Try.prog.info? 43).map (·.size) = some 1 := by kernel_rfl

/-- what a row of words hands to copy -/
theorem row_src {w : World} {base n cap g : Nat} {l : List Int} (h : w.ownsRow base 43 1 (.slice (some ⟨g, 0, none⟩) n cap) n (l.map uw)) (off : Nat) : ∀ j v, ((l.drop off).map uw)[j]? = some v → w.cell? ((⟨g, off, none⟩ : Addr).add j) = some v := fun j v hv => by
  have hl : l.length = n := by simpa using h.1
  have hj : off + j < l.length := by
    have := (List.getElem?_eq_some_iff.1 hv).1
    simp at this
    omega
  have e : (⟨g, off, none⟩ : Addr).add j = ⟨g, off + j, none⟩ := by
    unfold Addr.add
    split
    · rename_i h0; subst h0; rfl
    · rfl
  rw [e, h.cellAt (off + j) (by omega), ← hv]
  simp [List.getElem?_drop]

theorem ccrash_any (p n : Nat) (F : List Nat) (now kept ver : List Int) (w : World) (h : Mem w 66 p F n now kept ver) :
    Calls Try.prog 41 #[.pointer (some ⟨p, 0, none⟩)] w fun e w' => e = .returned (.tuple #[]) ∧ Mem w' 66 p F n kept kept ver ∧ Only F w w' := by
  obtain ⟨A1, A2, A3, c1, c2, c3, h⟩ := h
  obtain ⟨g1, g2, g3⟩ := h.cells
  have l1 := h.len1
  have l2 := h.len2
  rcases Nat.eq_zero_or_pos n with h0 | h0
  · subst h0
    have e : now = kept := by rw [List.eq_nil_of_length_eq_zero l1, List.eq_nil_of_length_eq_zero l2]
    subst e
    have HM := Lib.hid h
    go_enter Try.func41, Try.ntmps41
    go_still_tail 8, (by kernel_rfl)
    go_wp2_with (with_reducible refine wpList_copy_nothing rfl _ _ 52 52 rfl 43 Try.underlying52 sizeU A1 A2 0 c1 0 c2 rfl rfl rfl ?_)
    go_end0
    exact ⟨rfl, ⟨_, _, _, _, _, _, HM.out.drew⟩, (Only.refl _ _).drew⟩
  · obtain ⟨b1, b2, b3, rfl, rfl, rfl⟩ := h.some_ h0
    have hd := h.drew
    obtain ⟨cur, hcur, hsz, hrow⟩ := row_copy hd.r1
    have R := Lib.hid (hrow 0 (kept.map uw) (by simp [l2])); clear hrow
    have src := Lib.hid (row_src hd.r2 0)
    have HD := Lib.hid hd; clear hd
    have L1 := Lib.hid l1; clear l1
    have L2 := Lib.hid l2; clear l2
    have C := Lib.hid hcur; clear hcur
    go_enter Try.func41, Try.ntmps41
    go_still_tail 8, (by kernel_rfl)
    go_wp2_with ((refine wpList_copy_own rfl _ _ 52 52 rfl 43 Try.underlying52 sizeU b1 0 n c1 ⟨b2, 0, none⟩ n c2 rfl rfl cur 43 C.out (kept.map uw) (by simp [L2.out]) (by simpa using src.out) (by simp [L2.out]; omega) (uw_one _) ?_))
    go_end0
    obtain ⟨R1, R2⟩ := R.out
    have e : (now.map uw).take 0 ++ (kept.map uw ++ (now.map uw).drop (0 + (kept.map uw).length)) = kept.map uw := by
      simp [L1.out, L2.out]
    rw [e] at R1
    have e2 : (List.take 0 cur.toList ++ (kept.map uw ++ List.drop (0 + (kept.map uw).length) cur.toList)).toArray = (List.map uw kept ++ List.drop kept.length cur.toList).toArray := by simp
    rw [e2] at R1 R2
    obtain ⟨M, O⟩ := HD.out.row1 (by decide) R2 R1
    exact ⟨rfl, ⟨_, _, _, _, _, _, M⟩, (Only.refl _ _).drew.seq O⟩

theorem cpy_list (now kept : List Int) (a b : Nat) (h : a ≤ b) (hb : b ≤ kept.length) (hl : now.length = kept.length) : kept.take a ++ ((now.drop a).take (b - a) ++ kept.drop b) = cpy now kept a b := by
  refine List.ext_getElem ?_ (fun i h1 h2 => ?_)
  · simp [cpy]; omega
  · simp only [cpy, List.length_map, List.length_range] at h2
    simp only [cpy, List.getElem_map, List.getElem_range]
    rw [List.getElem_append]
    split
    · rename_i h3
      simp at h3
      rw [List.getElem_take, if_neg (by omega)]
      simp [List.getD, h2]
    · rename_i h3
      simp only [List.length_take, Nat.not_lt] at h3
      rw [List.getElem_append]
      split
      · rename_i h4
        simp only [List.length_take, List.length_drop] at h4
        rw [List.getElem_take, List.getElem_drop, if_pos (by omega)]
        have e : a + (i - (List.take a kept).length) = i := by simp; omega
        simp only [e]
        simp [List.getD, show i < now.length by omega]
      · rename_i h4
        simp only [List.length_take, List.length_drop] at h4
        rw [List.getElem_drop, if_neg (by omega)]
        have e : b + (i - (List.take a kept).length - (List.take (b - a) (List.drop a now)).length) = i := by simp; omega
        simp only [e]
        simp [List.getD, h2]

theorem take_some (l : List Int) (k j : Nat) (v : Value) (h : ((l.take k).map uw)[j]? = some v) : (l.map uw)[j]? = some v := by
  simp only [List.getElem?_map, List.getElem?_take] at h ⊢
  split at h
  · exact h
  · cases h

section
attribute [local go_sem] if_min
set_option maxHeartbeats 1600000 in
theorem cback_any (p n : Nat) (line : Int) (F : List Nat) (now kept ver : List Int) (w : World) (h1 : -9223372036854775808 ≤ line) (h2 : line ≤ 9223372036854775807) (h : Mem w 66 p F n now kept ver) :
    Calls Try.prog 40 #[.pointer (some ⟨p, 0, none⟩), .int .i64 line] w fun e w' => e = .returned (.bool (isLine n line)) ∧ Mem w' 66 p F n now (backed n now kept line) ver ∧ Only F w w' := by
  have hM := h
  obtain ⟨A1, A2, A3, c1, c2, c3, h⟩ := h
  obtain ⟨g1, g2, g3⟩ := h.cells
  have hs := h.small
  by_cases hl : 0 ≤ line ∧ 8 * line < n
  · obtain ⟨hl0, hl1⟩ := hl
    obtain ⟨a, rfl⟩ := Int.eq_ofNat_of_zero_le hl0
    have e1 : isLine n (a : Int) = true := decide_eq_true ⟨hl0, hl1⟩
    have E1 := Lib.hid e1; clear e1 hM
    obtain ⟨b1, b2, b3, rfl, rfl, rfl⟩ := h.some_ (by omega)
    have L1 := h.len1
    have L2 := h.len2
    have le1 := h.r1.2
    have hc1 : n ≤ c1 := by
      rcases le1 with ⟨x, _⟩ | ⟨_, _, _, x, _, _, y, _⟩
      · cases x
      · injection x with _ _ x; omega
    have hc2 : n ≤ c2 := by
      rcases h.r2.2 with ⟨x, _⟩ | ⟨_, _, _, x, _, _, y, _⟩
      · cases x
      · injection x with _ _ x; omega
    clear le1
    have hd := h.drew
    obtain ⟨cur, hcur, hsz, hrow⟩ := row_copy hd.r2
    have src := Lib.hid (row_src hd.r1 (a * 8))
    have HD := Lib.hid hd; clear hd
    have C := Lib.hid hcur; clear hcur
    obtain ⟨m, hm⟩ : ∃ m : Nat, m = min 8 (n - a * 8) := ⟨_, rfl⟩
    have hm8 : m ≤ 8 := by omega
    have hmn : a * 8 + m ≤ n := by omega
    have hmin : min ((a : Int) * 8 + 8) n = (a : Int) * 8 + m := by omega
    have e2 : backed n now kept (a : Int) = cpy now kept (a * 8) (a * 8 + m) := by
      unfold backed; rw [if_pos ⟨hl0, hl1⟩]
      refine List.map_congr_left (fun i hi => ?_)
      have hi := List.mem_range.1 hi
      have : ((8 * (a : Int)).toNat ≤ i ∧ i < (8 * (a : Int)).toNat + 8) ↔ (a * 8 ≤ i ∧ i < a * 8 + m) := by omega
      simp only [this]
    obtain ⟨cs, hcd⟩ : ∃ cs, cs = ((now.drop (a * 8)).take m).map uw := ⟨_, rfl⟩
    have hcs : cs.length = m := by rw [hcd]; simp; omega
    have R := Lib.hid (hrow (a * 8) cs (by rw [hcs]; omega)); clear hrow
    have hcp := cpy_list now kept (a * 8) (a * 8 + m) (by omega) (by omega) (by omega)
    have CP := Lib.hid hcp; clear hcp
    have CS := Lib.hid hcs; clear hcs
    have CD := Lib.hid hcd; clear hcd
    have E2 := Lib.hid e2; clear e2
    have HL1 := Lib.hid L1; clear L1
    have HL2 := Lib.hid L2; clear L2
    have HM := Lib.hid hm; clear hm
    go_enter Try.func40, Try.ntmps40
    go_wp2
    have hw1 : IntKind.i64.wrap ((a : Int) * 8 + 8) = (a : Int) * 8 + 8 := IntWalk.i64_in _ ⟨by omega, by omega⟩
    have hw2 : ((a : Int) * 8).toNat = a * 8 := by omega
    have hw3 : (0 : Int) ≤ (a : Int) * 8 := by omega
    have hw4 : ((a : Int) * 8 + m).toNat = a * 8 + m := by omega
    have hw5 : (0 : Int) ≤ (a : Int) * 8 + m := by omega
    have hw6 : (a : Int) * 8 ≤ (a : Int) * 8 + m := by omega
    have hw7 : (a : Int) * 8 + m ≤ (c2 : Int) := by omega
    have hw8 : (a : Int) * 8 ≤ (n : Int) := by omega
    have hw9 : ¬ c2 = a * 8 := by omega
    have hw10 : ¬ c1 = a * 8 := by omega
    have hw11 : a * 8 + m - a * 8 = m := by omega
    have hw12 : ¬ c2 ≤ a * 8 := by omega
    have hw13 : ¬ c1 ≤ a * 8 := by omega
    go_still_tail 20, (by kernel_rfl)
    go_wp2_with ((refine wpList_copy_own rfl _ _ 52 52 rfl 43 Try.underlying52 sizeU b2 (a * 8) m (c2 - a * 8) ⟨b1, a * 8, none⟩ (n - a * 8) (c1 - a * 8) rfl rfl cur 43 C.out cs (by rw [CS.out]; show m = min (n - a * 8) m; omega) (fun j v hj => src.out j v (take_some _ m _ _ (by rw [← CD.out]; exact hj))) (by rw [CS.out]; omega) (by rw [CD.out]; exact uw_one _) ?_))
    go_wp2
    go_ret
    obtain ⟨R1, R2⟩ := R.out
    have e : (kept.map uw).take (a * 8) ++ (cs ++ (kept.map uw).drop (a * 8 + cs.length)) = (backed n now kept (a : Int)).map uw := by
      rw [E2.out, ← CP.out, CS.out, CD.out, hw11]; simp
    rw [e] at R1
    obtain ⟨M, O⟩ := HD.out.row2 (by decide) R2 R1
    exact ⟨retb E1.out.symm, ⟨_, _, _, _, _, _, M⟩, (Only.refl _ _).drew.seq O⟩
  · have e1 : isLine n line = false := decide_eq_false hl
    have e2 : backed n now kept line = kept := by unfold backed; rw [if_neg hl]
    have E1 := Lib.hid e1; clear e1
    have E2 := Lib.hid e2; clear e2
    have HM := Lib.hid hM; clear hM
    obtain h0 | ⟨h0, h1⟩ | ⟨h0, h1, h2⟩ : line < 0 ∨ (0 ≤ line ∧ (n : Int) / 8 < line) ∨ (0 ≤ line ∧ line ≤ (n : Int) / 8 ∧ (n : Int) ≤ line * 8) := by omega
    all_goals clear hl
    all_goals
      go_enter Try.func40, Try.ntmps40
      go_wp2
      go_ret
      exact ⟨retb E1.out.symm, by rw [E2.out]; exact HM.out, Only.refl _ _⟩
end
end Go.Proofs.Ytgadjmojebhlgaa.Cl
