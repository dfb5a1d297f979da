/-
  WALKS: the run of steps: a lane begun; all begun anew; what is told of a run.
-/
import Derived.Test.YtdhihmeknoofoaaStmGo
namespace Go.Proofs.Ytdhihmeknoofoaa.Sd
set_option linter.unusedVariables false
set_option linter.unusedSimpArgs false
open Go.RowKit Cm Mm Ow Ow2 Me Stp StW Rm Sp Sn Sa Sc Sg

def c400 (x : Int) : Nat := (max 0 (min x 400)).toNat
theorem c400_int (x : Int) : max 0 (min x 400) = (c400 x : Int) := by unfold c400; omega
theorem c400_le (x : Int) : c400 x ≤ 400 := by unfold c400; omega
def freshV (x : Int) : List Int := List.replicate (c400 x) 0
theorem row_made4 {w : World} {g n : Nat} {e : TypeId} {z : Value} (hn : n ≤ 400) (h : w.heap[g]? = some (.cells (madeCells #[z] n) e (0, 0))) : w.ownsRow 0 e 1 (.slice (some ⟨g, 0, none⟩) n n) n (List.replicate n z) := by
  refine ⟨by simp, .inr ⟨g, n, _, rfl, Nat.zero_le _, h, Nat.le_refl _, by unfold maxLen; omega, by rw [size_madeCells]; omega, ?_⟩⟩
  rw [toList_madeCells_one, Nat.mul_one]
  exact List.take_of_length_le (by simp)
/-- a new lane -/
def Laid (w : World) (x y : Int) (A : Option Addr) (n cap : Nat) (e : Ending) (w' : World) : Prop :=
  ∃ p Fl V cv, e = .returned (.pointer (some ⟨p, 0, none⟩)) ∧ LnAt w' p Fl x y A n cap V cv (freshV x) 0 false false ∧ (∀ k ∈ Fl, w.heap.size ≤ k) ∧ Below w.heap.size w w'
theorem laid_at (w : World) (x y : Int) (A : Option Addr) (n cap : Nat) (o1 : Obj) :
    LnAt ((((w.alloc o1).drew.alloc (.cells (madeCells #[.int .u64 0] (c400 x)) 29))).alloc (.cells #[.int .i64 x, .int .i64 y, .slice A n cap, .slice (some ⟨w.heap.size + 1, 0, none⟩) (c400 x) (c400 x), .int .i64 0, .bool false, .bool false] 89)) (w.heap.size + 2) [w.heap.size + 2, w.heap.size + 1] x y A n cap (some ⟨w.heap.size + 1, 0, none⟩) (c400 x) (freshV x) 0 false false := by
  have hlen : (freshV x).length = c400 x := by simp [freshV]
  have h1 : (w.alloc o1).drew.heap.size = w.heap.size + 1 := by simp
  have h2 : ((w.alloc o1).drew.alloc (.cells (madeCells #[.int .u64 0] (c400 x)) 29)).heap.size = w.heap.size + 2 := by simp
  refine ⟨?_, ?_, by simp, fun g hg => ?_, fun k hk => ?_, by rw [hlen]; exact c400_le x⟩
  · rw [hlen, ← h2]
    exact heap_alloc_new _ _
  · rw [hlen]
    have e : (freshV x).map uw = List.replicate (c400 x) (.int .u64 0) := by simp [freshV, uw]
    rw [e]
    refine row_made4 (c400_le x) ?_
    rw [← h1]
    rw [Below.heap_alloc _ _ _ (by simp)]
    exact heap_alloc_new _ _
  · simp at hg; simp [hg]
  · simp at hk ⊢; omega

set_option maxRecDepth 20000 in
set_option maxHeartbeats 3200000 in
theorem laid_any (x y : Int) (A : Option Addr) (n cap : Nat) (w : World) : Calls Try.prog 58 #[.agg #[.int .i64 x, .int .i64 y, .slice A n cap]] w (Laid w x y A n cap) := by
  have hm := run_make_u (c400 x) (by have := c400_le x; omega)
  have LA := Lib.hid (laid_at w x y A n cap (.cells #[.int .i64 x, .int .i64 y, .slice A n cap] 24))
  have HC : Hid (∀ w : World, Calls Try.prog 65 #[.int .i64 x, .int .i64 0, .int .i64 400] w fun e w' => e = .returned (.int .i64 (c400 x)) ∧ w = w') := Lib.hid (fun w => by rw [← c400_int]; exact ElM.rcut_any x 0 400 w (by decide))
  have hc4 := c400_le x
  have HW : Hid (Below w.heap.size w ((w.alloc (.cells #[.int .i64 x, .int .i64 y, .slice A n cap] 24)).alloc (.cells (madeCells #[.int .u64 0] (c400 x)) 29)).drew) := Lib.hid (((Below.refl _ _).alloc (Nat.le_refl _) _).alloc (by simp) _).drew
  go_enter Try.func58, Try.ntmps58
  go_wp2_with fail
  refine Hd.start 5 (fun w' => w'.cell? ⟨w.heap.size, 0, none⟩ = some (.int .i64 x) ∧ w'.cell? ⟨w.heap.size, 1, none⟩ = some (.int .i64 y) ∧ w'.cell? ⟨w.heap.size, 2, none⟩ = some (.slice A n cap)) (by kernel_rfl) ?_
  have SA : (w.alloc (.cells #[.int .i64 x, .int .i64 y, .slice A n cap] 24)).drew.cell? ⟨w.heap.size, 0, none⟩ = some (.int .i64 x) ∧ (w.alloc (.cells #[.int .i64 x, .int .i64 y, .slice A n cap] 24)).drew.cell? ⟨w.heap.size, 1, none⟩ = some (.int .i64 y) ∧ (w.alloc (.cells #[.int .i64 x, .int .i64 y, .slice A n cap] 24)).drew.cell? ⟨w.heap.size, 2, none⟩ = some (.slice A n cap) := ⟨by simp, by simp, by simp⟩
  refine Hd.take (i := 0) (v := ?v1) rfl (by decide +kernel) (by decide +kernel) (fun _ _ _ h => h) rfl ?hy1 SA ?rest1
  case hy1 =>
    intro wq hSw
    obtain ⟨s0, s1, s2⟩ := hSw
    go_simp
    try with_reducible rfl
  try simp only [Act.put, List.setIfInBounds_toArray, List.set_cons_zero, List.set_cons_succ]
  refine Hd.take (i := 1) (v := ?v2) rfl (by decide +kernel) (by decide +kernel) (fun _ _ _ h => h) rfl ?hy2 SA ?rest2
  case hy2 =>
    intro wq hSw
    obtain ⟨s0, s1, s2⟩ := hSw
    go_simp
    try with_reducible rfl
  try simp only [Act.put, List.setIfInBounds_toArray, List.set_cons_zero, List.set_cons_succ]
  refine Hd.take (i := 2) (v := ?v3) rfl (by decide +kernel) (by decide +kernel) (fun _ _ _ h => h) rfl ?hy3 SA ?rest3
  case hy3 =>
    intro wq hSw
    obtain ⟨s0, s1, s2⟩ := hSw
    go_simp
    try with_reducible rfl
  try simp only [Act.put, List.setIfInBounds_toArray, List.set_cons_zero, List.set_cons_succ]
  refine Hd.one (i := 3) rfl (by kernel_rfl) rfl (fun K hK => ?_)
  go_simp
  refine (HC.out _).mono ?_
  rintro e w2 ⟨rfl, rfl⟩
  refine hK _ _ (fun _ => SA) ?_
  clear hK K
  try simp only [Act.put, List.setIfInBounds_toArray, List.set_cons_zero, List.set_cons_succ]
  have SB : ((w.alloc (.cells #[.int .i64 x, .int .i64 y, .slice A n cap] 24)).alloc (.cells (madeCells #[.int .u64 0] (c400 x)) 29)).drew.cell? ⟨w.heap.size, 0, none⟩ = some (.int .i64 x) ∧ ((w.alloc (.cells #[.int .i64 x, .int .i64 y, .slice A n cap] 24)).alloc (.cells (madeCells #[.int .u64 0] (c400 x)) 29)).drew.cell? ⟨w.heap.size, 1, none⟩ = some (.int .i64 y) ∧ ((w.alloc (.cells #[.int .i64 x, .int .i64 y, .slice A n cap] 24)).alloc (.cells (madeCells #[.int .u64 0] (c400 x)) 29)).drew.cell? ⟨w.heap.size, 2, none⟩ = some (.slice A n cap) := ⟨(World.cell?_alloc_lt _ _ _ (by simp)).trans SA.1, (World.cell?_alloc_lt _ _ _ (by simp)).trans SA.2.1, (World.cell?_alloc_lt _ _ _ (by simp)).trans SA.2.2⟩
  generalize c400 x = m at *
  refine Hd.one (i := 4) rfl (by kernel_rfl) rfl (fun K hK => ?_)
  go_simp
  refine hK _ _ (fun _ => SB) ?_
  clear hK K
  try simp only [Act.put, List.setIfInBounds_toArray, List.set_cons_zero, List.set_cons_succ]
  refine Hd.one (i := 5) rfl (by kernel_rfl) rfl (fun K hK => ?_)
  go_simp
  refine hK _ _ (fun h => absurd h (by omega)) ?_
  clear hK K
  try simp only [Act.put, List.setIfInBounds_toArray, List.set_cons_zero, List.set_cons_succ]
  refine Hd.one (i := 6) rfl (by kernel_rfl) rfl (fun K hK => ?_)
  go_simp
  refine hK _ _ (fun h => absurd h (by omega)) ?_
  clear hK K
  try simp only [Act.put, List.setIfInBounds_toArray, List.set_cons_zero, List.set_cons_succ]
  refine Hd.one (i := 7) rfl (by kernel_rfl) rfl (fun K hK => ?_)
  go_simp
  refine hK _ _ (fun h => absurd h (by omega)) ?_
  clear hK K
  try simp only [Act.put, List.setIfInBounds_toArray, List.set_cons_zero, List.set_cons_succ]
  refine Hd.done (by kernel_rfl) ?_ _
  go_wp2_with fail
  go_ret
  exact ⟨_, _, _, _, rfl, LA.out, fun k hk => by simp at hk; omega, ((((Below.refl _ _).alloc (Nat.le_refl _) _).alloc (by simp) _).alloc (by simp; omega) _).drew⟩

/-- a field of the run's own struct is written -/
theorem foc_set {w : World} {q : Nat} {H H' : Hm} {Fm Fo : List Nat} {O : Option Addr} {oc : Nat} {now kept ver out : List Int} (h : Foc w q H Fm Fo O oc now kept ver out) (i : Nat) (u : Value)
    (hu : (#[H.s0, H.s1, H.s2, H.cs, .pointer (some ⟨H.m, 0, none⟩), .slice O out.length oc, H.rc, H.l, .bool H.ill] : Array Value).setIfInBounds i u = #[H'.s0, H'.s1, H'.s2, H'.cs, .pointer (some ⟨H'.m, 0, none⟩), .slice O out.length oc, H'.rc, H'.l, .bool H'.ill]) (hm : H'.m = H.m) :
    Foc (w.setCell ⟨q, i, none⟩ u) q H' Fm Fo O oc now kept ver out ∧ Only [q] w (w.setCell ⟨q, i, none⟩ u) := by
  have ho : Only [q] w (w.setCell ⟨q, i, none⟩ u) := (Only.refl _ _).setCell (by simp) _
  refine ⟨⟨?_, by rw [hm]; exact h.mem.far ho (fun k hk hm => h.qm (by rw [← List.mem_singleton.1 hm]; exact hk)), own_only h.row ho (fun g hg hm => h.qo (by rw [← List.mem_singleton.1 hm]; exact h.oF g hg)), h.oF, Nat.lt_of_lt_of_le h.qlt ho.size, fun k hk => Nat.lt_of_lt_of_le (h.oLt k hk) ho.size, h.qm, h.qo, h.mo⟩, ho⟩
  have hd := h.head
  unfold mcO at hd ⊢
  simp only [World.setCell, Array.getElem?_modify, hd, if_true, Option.map_some]
  rw [← hu]
  rfl
theorem foc_c0 {w : World} {q : Nat} {H : Hm} {Fm Fo : List Nat} {O : Option Addr} {oc : Nat} {now kept ver out : List Int} (h : Foc w q H Fm Fo O oc now kept ver out) : w.cell? ⟨q, 0, none⟩ = some H.s0 ∧ w.cell? ⟨q, 1, none⟩ = some H.s1 ∧ w.cell? ⟨q, 2, none⟩ = some H.s2 ∧ w.cell? ⟨q, 3, none⟩ = some H.cs := by
  refine ⟨?_, ?_, ?_, ?_⟩ <;> simp [World.cell?, h.head, mcO]

theorem stuck_any (q : Nat) (b : Bool) (w : World) (h : w.cell? ⟨q, 8, none⟩ = some (.bool b)) : Calls Try.prog 25 #[.pointer (some ⟨q, 0, none⟩)] w fun e w' => e = .returned (.bool b) ∧ w = w' := by
  go_enter Try.func25, Try.ntmps25
  go_wp2
  go_ret
  exact ⟨rfl, rfl⟩
set_option maxHeartbeats 1600000 in
theorem out_any {w : World} {q : Nat} {H : Hm} {Fm Fo : List Nat} {O : Option Addr} {oc : Nat} {now kept ver out : List Int} (h : Foc w q H Fm Fo O oc now kept ver out) (ho : out.length ≤ 1000000) :
    Calls Try.prog 27 #[.pointer (some ⟨q, 0, none⟩)] w (GaveU w out) := by
  have g5 := h.c5
  have e : List.map (fun i => [uw (out.getD i 0)]) (List.range out.length) = (out.map uw).map fun v => [v] := by
    refine List.ext_getElem (by simp) (fun i h1 h2 => ?_)
    simp at h1
    simp [List.getD, h1]
  have HG := Lib.hid (show ∀ (A : Option Addr) (c : Nat) (w' : World), Own w' w.heap.size 29 1 A out.length c (List.map (fun i => [uw (out.getD i 0)]) (List.range out.length)) → Below w.heap.size w w' → GaveU w out (.returned (.slice A out.length c)) w' from fun A c w' ho hb => ⟨A, _, c, rfl, row_of_own (by rwa [e] at ho), hb⟩)
  have hsl : Sl w O out.length oc 1 (fun i => [uw (out.getD i 0)]) := h.row.sl.ext (fun i hi => by simp [List.getD, hi])
  have HS := Lib.hid hsl
  clear h e hsl
  go_enter Try.func27, Try.ntmps27
  go_wp2_with (at_builtin; refine wpList_app _ rfl _ _ rfl elU w.heap.size none 0 0 [] rfl (Own.nil _ _ _ _) O out.length oc _ rfl HS.out (fun _ _ => rfl) (fun _ _ u hu => by simp at hu; subst hu; rfl) (by unfold maxLen; omega) (by omega) (Nat.le_refl _) ?_; intro A2' c2' w2 hown hg hat)
  simp only [Nat.zero_add, List.nil_append] at hown
  go_ret
  exact HG.out _ _ _ (by simpa using hown) ((Below.refl _ _).grown hg (Nat.le_refl _) (fun k hk => by cases hk))
theorem cells_any {w : World} {q : Nat} {H : Hm} {Fm Fo : List Nat} {O : Option Addr} {oc : Nat} {now kept ver out : List Int} (h : Foc w q H Fm Fo O oc now kept ver out) :
    Calls Try.prog 28 #[.pointer (some ⟨q, 0, none⟩)] w (GaveU w now) := by
  have g4 := h.c4
  have HM := Lib.hid h.mem
  clear h
  go_enter Try.func28, Try.ntmps28
  go_wp2_with fail
  refine (rnow_any _ _ Fm now kept ver w HM.out).mono ?_
  rintro e w2 ⟨A, n, c, rfl, hr, hb⟩
  go_wp2_with fail
  go_ret
  exact ⟨A, n, c, rfl, hr, hb⟩

/-- begun anew: who recovers alone goes on -/
def Crd (w : World) (q : Nat) (H : Hm) (Fm Fo : List Nat) (O : Option Addr) (oc : Nat) (now kept ver out : List Int) (x y : Int) (A : Option Addr) (n cap : Nat) (e : Ending) (w' : World) : Prop :=
  ∃ p Fl V cv, e = .returned (.tuple #[]) ∧ Foc w' q { H with rc := .pointer (some ⟨p, 0, none⟩), l := .slice none 0 0 } Fm Fo O oc now kept ver out ∧ LnAt w' p Fl x y A n cap V cv (freshV x) 0 false false ∧ (∀ k ∈ Fl, w.heap.size ≤ k) ∧ Only [q] w w'
set_option maxHeartbeats 1600000 in
theorem crash_any {w : World} {q : Nat} {H : Hm} {Fm Fo : List Nat} {O : Option Addr} {oc : Nat} {now kept ver out : List Int} {x y : Int} {A : Option Addr} {n cap : Nat} (h : Foc w q H Fm Fo O oc now kept ver out) (h0 : H.s0 = .int .i64 x) (h1 : H.s1 = .int .i64 y) (h2 : H.s2 = .slice A n cap) :
    Calls Try.prog 23 #[.pointer (some ⟨q, 0, none⟩)] w (Crd w q H Fm Fo O oc now kept ver out x y A n cap) := by
  obtain ⟨g0, g1, g2, g3⟩ := foc_c0 h
  rw [h0] at g0
  rw [h1] at g1
  rw [h2] at g2
  have HF := Lib.hid h
  clear h g3
  go_enter Try.func23, Try.ntmps23
  go_wp2_with fail
  refine (laid_any x y A n cap w).mono ?_
  rintro e w2 ⟨p, Fl, V, cv, rfl, hL, hFl, hb⟩
  have F2 := HF.out.keep hb
  have T3 := foc_set F2 6 (.pointer (some ⟨p, 0, none⟩)) (H' := { H with rc := .pointer (some ⟨p, 0, none⟩) }) rfl rfl
  have T4 := foc_set T3.1 7 (.slice none 0 0) (H' := { H with rc := .pointer (some ⟨p, 0, none⟩), l := .slice none 0 0 }) rfl rfl
  have O4 := T3.2.seq T4.2
  have c6 := F2.c6
  have c7 := T3.1.c7
  have fq := F2.free'
  have fq3 := T3.1.free'
  have hql := HF.out.qlt
  have L4 := hL.far O4 (fun k hk hm => by have := hFl k hk; have := List.mem_singleton.1 hm; omega)
  have G := Lib.hid (show Crd w q H Fm Fo O oc now kept ver out x y A n cap (.returned (.tuple #[])) ((w2.setCell ⟨q, 6, none⟩ (.pointer (some ⟨p, 0, none⟩))).setCell ⟨q, 7, none⟩ (.slice none 0 0)) from ⟨p, Fl, V, cv, rfl, T4.1, L4, hFl, (Only.of_below hb).seq O4⟩)
  clear F2 T3 T4 O4 L4 hL hFl hb
  go_wp2_with fail
  go_end0
  exact G.out
end Go.Proofs.Ytdhihmeknoofoaa.Sd
