/-
  WALKS: the program's run of steps: what is told of it.
-/
import Derived.Test.YtdhihmeknoofoaaPrgStep
namespace Go.Proofs.Ytdhihmeknoofoaa.Ph
set_option linter.unusedVariables false
set_option linter.unusedSimpArgs false
open Go.RowKit Cm Mm Ow Ow2 Me Stp StW Rm Sp Sd Sx Sr Pn Pa Pq Pr Pm
open ElM (Cd zeroCd cdL okCd IsCd)

theorem isU_out {w : World} {B : Nat} {O : Option Addr} {n oc : Nat} {out : List Int} (h : Own w B 29 1 O n oc (out.map fun z => [uw z])) : IsU w O n oc out := by
  have hl : out.length = n := by have := h.len; simpa using this
  refine ⟨hl, h.sl.ext (fun i hi => ?_)⟩
  simp [List.getD, show i < out.length by omega]
theorem pout_any {w : World} {q : Nat} {C : Nat → Prop} {G : List Nat} {s : Cd} {cs : List Cd} {m : Mch Ln} (h : RunM w q C G s cs m) (ho : m.out.length ≤ 1000000) :
    Calls Try.prog 51 #[.pointer (some ⟨q, 0, none⟩)] w (GaveU w m.out) := by
  obtain ⟨rc, sd, tl, t, hR, -, -⟩ := h
  have z5 := hR.foc.c5
  have U := Lib.hid (isU_out hR.foc.row)
  clear hR
  go_enter Try.func51, Try.ntmps51
  go_wp2_with fail
  refine (uclone_any _ _ _ m.out w U.out ho).mono ?_
  rintro e w2 ⟨A, n, c, rfl, hr, hb⟩
  go_wp2_with fail
  go_ret
  exact ⟨A, n, c, rfl, hr, hb⟩
theorem clo_done (p : Nat) (b : Bool) (w : World) (h : w.cell? ⟨p, 5, none⟩ = some (.int .i64 (if b then 1 else 0))) : Calls Try.prog 74 #[.pointer (some ⟨p, 0, none⟩)] w fun e w' => e = .returned (.bool (!b)) ∧ w = w' := by
  cases b
  all_goals
    simp only [if_true, if_false, Bool.false_eq_true] at h
    go_enter Try.func74, Try.ntmps74
    go_wp2_with fail
    go_ret
    exact ⟨rfl, rfl⟩
/-- are all at their end? -/
def allEn (l : List Ln) : Bool := l.all (·.en)
theorem idx_done {w : World} {q : Nat} {C : Nat → Prop} {G : List Nat} {s : Cd} {cs : List Cd} {rc : Ln} {sd : Bool} {tl : List Ln} {now out : List Int} {t : Prq} (h : RunQ w q C G s cs rc sd tl now out t) (hn : tl.length ≤ 65536) :
    Calls Try.prog 88 #[.slice t.LA tl.length t.lc, .func (.func 74) #[] #[]] w fun e w' => (∃ z : Int, e = .returned (.int .i64 z) ∧ decide (0 ≤ z) = !allEn tl) ∧ w = w' := by
  have HH := Lib.hid h
  have zl := h.lmax
  clear h
  obtain ⟨n, hn2⟩ : ∃ n, tl.length = n := ⟨_, rfl⟩
  have HN := Lib.hid hn2
  rw [hn2] at zl hn ⊢
  clear hn2
  go_enter Try.func88, Try.ntmps88
  go_wp2_with fail
  go_loop [8] (fun i => ∃ (k : Nat), k ≤ n ∧ i = .int .i64 k ∧ Hid (∀ j (hj : j < tl.length), j < k → tl[j].en = true)) (fun i => n - (intOf i).toNat)
  case atStart => exact ⟨0, by omega, rfl, fun j _ hj => absurd hj (by omega)⟩
  case round =>
    obtain ⟨k, hk, rfl, hlow⟩ := hrel
    by_cases hkn : k < n
    · have hi : k < tl.length := by rw [HN.out]; exact hkn
      obtain ⟨g, hLA, zc⟩ := HH.out.at_th hi
      obtain ⟨p, hp, -, hst⟩ := (HH.out.ll k hi).st w
      rw [hp] at zc
      rw [hLA]
      have k1 : (k : Int) < n := by omega
      cases he : tl[k].en
      · have HE : Hid (allEn tl = false) := Lib.hid (by
          unfold allEn
          rw [List.all_eq_false]
          exact ⟨tl[k], List.getElem_mem hi, by rw [he]; decide⟩)
        rw [he] at hst
        go_wp2_with fail
        refine (clo_done p false w hst).mono ?_
        rintro e w2 ⟨rfl, rfl⟩
        go_wp2_with fail
        go_ret
        exact ⟨⟨k, rfl, by rw [HE.out]; exact decide_eq_true (by omega)⟩, rfl⟩
      · have HL : Hid (∀ j (hj : j < tl.length), j < k + 1 → tl[j].en = true) := Lib.hid (fun j hj hjk => by
          by_cases e : j = k
          · subst e; exact he
          · exact hlow.out j hj (by omega))
        rw [he] at hst
        clear he
        go_wp2_with fail
        refine (clo_done p true w hst).mono ?_
        rintro e w2 ⟨rfl, rfl⟩
        go_wp2_with fail
        go_round
        case rel => exact ⟨k + 1, by omega, by go_num, HL⟩
        case measure => simp [intOf]; omega
    · obtain rfl : k = n := by omega
      have HE : Hid (allEn tl = true) := Lib.hid (by
        unfold allEn
        rw [List.all_eq_true]
        intro x hx
        obtain ⟨j, hj, rfl⟩ := List.mem_iff_getElem.1 hx
        exact hlow.out j hj (by rw [← HN.out]; exact hj))
      go_wp2_with fail
      go_ret
      exact ⟨⟨-1, rfl, by rw [HE.out]; rfl⟩, rfl⟩
theorem has_done {w : World} {q : Nat} {C : Nat → Prop} {G : List Nat} {s : Cd} {cs : List Cd} {rc : Ln} {sd : Bool} {tl : List Ln} {now out : List Int} {t : Prq} (h : RunQ w q C G s cs rc sd tl now out t) (hn : tl.length ≤ 65536) :
    Calls Try.prog 73 #[.slice t.LA tl.length t.lc, .func (.func 74) #[] #[]] w fun e w' => e = .returned (.bool (!allEn tl)) ∧ w = w' := by
  have IX := Lib.hid (idx_done h hn)
  clear h
  generalize allEn tl = b at *
  go_enter Try.func73, Try.ntmps73
  go_wp2_with fail
  refine IX.out.mono ?_
  rintro e w2 ⟨⟨z, rfl, hz⟩, rfl⟩
  have HZ := Lib.hid hz
  clear hz
  go_wp2_with fail
  go_ret
  exact ⟨retb HZ.out, rfl⟩
def doneM (m : Mch Ln) : Bool := m.rc.isNone && allEn m.l
theorem pdone_any {w : World} {q : Nat} {C : Nat → Prop} {G : List Nat} {s : Cd} {cs : List Cd} {m : Mch Ln} (h : RunM w q C G s cs m) (hn : m.l.length ≤ 65536) :
    Calls Try.prog 52 #[.pointer (some ⟨q, 0, none⟩)] w fun e w' => e = .returned (.bool (doneM m)) ∧ w = w' := by
  obtain ⟨rc, sd, tl, t, hR, hf, ht⟩ := h
  have z8 := hR.c8
  have z7 := hR.c7
  cases sd with
  | false =>
    have HD : Hid (doneM m = false) := Lib.hid (by unfold doneM; rw [(hf rfl).1]; rfl)
    clear hR hf ht z7
    go_enter Try.func52, Try.ntmps52
    go_wp2_with fail
    go_ret
    exact ⟨retb HD.out.symm, rfl⟩
  | true =>
    obtain ⟨h1, h2⟩ := ht rfl
    have HD : Hid (doneM m = allEn tl) := Lib.hid (by unfold doneM; rw [h1, h2]; rfl)
    have IX := Lib.hid (has_done hR (by rw [← h2]; exact hn))
    clear hR hf ht h1 h2
    go_enter Try.func52, Try.ntmps52
    go_wp2_with fail
    refine IX.out.mono ?_
    rintro e w2 ⟨rfl, rfl⟩
    go_wp2_with fail
    go_ret
    exact ⟨retb HD.out.symm, rfl⟩
end Go.Proofs.Ytdhihmeknoofoaa.Ph
