/-
  WALK: the run of steps: an action.
-/
import Derived.Test.YtdhihmeknoofoaaStmAct
import Derived.Deep.Cut
namespace Go.Proofs.Ytdhihmeknoofoaa.Sc
set_option linter.unusedVariables false
set_option linter.unusedSimpArgs false
open Go.RowKit Cm Mm Ow Ow2 Me Stp StW Rm Sp Sn Sa

/-- the cells of a step, at a block -/
def Stc (w : World) (g : Nat) (s : St) : Prop := w.heap[g]? = some (.cells #[.int .i64 s.kind, .int .i64 s.d, .int .i64 s.a, .int .i64 s.b, .int .i64 s.c, .int .i64 s.to, .int .i64 s.cell, .int .u64 s.n, .int .u8 s.op] 31 (0, 0))
theorem Stc.same {w w' : World} {g : Nat} {s : St} (h : Stc w g s) (hb : w'.heap[g]? = w.heap[g]?) : Stc w' g s := hb.trans h
theorem Stc.lt {w : World} {g : Nat} {s : St} (h : Stc w g s) : g < w.heap.size := (Array.getElem?_eq_some_iff.1 h).1
theorem Stc.far {w w' : World} {g : Nat} {s : St} {G : List Nat} (h : Stc w g s) (ho : Only G w w') (hn : g ∉ G) : Stc w' g s := h.same (ho.block g h.lt hn)
theorem Stc.keep {w w' : World} {g : Nat} {s : St} (h : Stc w g s) (hb : Below w.heap.size w w') : Stc w' g s := h.same (hb.block g h.lt)
theorem Stc.c0 {w : World} {g : Nat} {s : St} (h : Stc w g s) : w.cell? ⟨g, 0, none⟩ = some (.int .i64 s.kind) := by unfold Stc at h; simp [World.cell?, h]
theorem Stc.c1 {w : World} {g : Nat} {s : St} (h : Stc w g s) : w.cell? ⟨g, 1, none⟩ = some (.int .i64 s.d) := by unfold Stc at h; simp [World.cell?, h]
theorem Stc.c2 {w : World} {g : Nat} {s : St} (h : Stc w g s) : w.cell? ⟨g, 2, none⟩ = some (.int .i64 s.a) := by unfold Stc at h; simp [World.cell?, h]
theorem Stc.c3 {w : World} {g : Nat} {s : St} (h : Stc w g s) : w.cell? ⟨g, 3, none⟩ = some (.int .i64 s.b) := by unfold Stc at h; simp [World.cell?, h]
theorem Stc.c4 {w : World} {g : Nat} {s : St} (h : Stc w g s) : w.cell? ⟨g, 4, none⟩ = some (.int .i64 s.c) := by unfold Stc at h; simp [World.cell?, h]
theorem Stc.c5 {w : World} {g : Nat} {s : St} (h : Stc w g s) : w.cell? ⟨g, 5, none⟩ = some (.int .i64 s.to) := by unfold Stc at h; simp [World.cell?, h]
theorem Stc.c6 {w : World} {g : Nat} {s : St} (h : Stc w g s) : w.cell? ⟨g, 6, none⟩ = some (.int .i64 s.cell) := by unfold Stc at h; simp [World.cell?, h]
theorem Stc.c7 {w : World} {g : Nat} {s : St} (h : Stc w g s) : w.cell? ⟨g, 7, none⟩ = some (.int .u64 s.n) := by unfold Stc at h; simp [World.cell?, h]
theorem Stc.c8 {w : World} {g : Nat} {s : St} (h : Stc w g s) : w.cell? ⟨g, 8, none⟩ = some (.int .u8 s.op) := by unfold Stc at h; simp [World.cell?, h]
theorem Stc.new (w : World) (s : St) : Stc (w.alloc (.cells #[.int .i64 s.kind, .int .i64 s.d, .int .i64 s.a, .int .i64 s.b, .int .i64 s.c, .int .i64 s.to, .int .i64 s.cell, .int .u64 s.n, .int .u8 s.op] 31)) w.heap.size s := heap_alloc_new w _

theorem drew_only (w : World) : Only [] w w.drew := (Only.refl _ _).drew
theorem get_still {p : Nat} {F : List Nat} {x y : Int} {A : Option Addr} {n cap : Nat} {V : Option Addr} {cv : Nat} {v : List Int} {a : Nat} {st en : Bool} (i : Int) (w : World) (h : LnAt w p F x y A n cap V cv v a st en) :
    Calls Try.prog 77 #[.pointer (some ⟨p, 0, none⟩), .int .i64 i] w fun e w' => e = .returned (.int .u64 (getV v i)) ∧ w' = w :=
  (get_any i w h).mono fun _ _ h => ⟨h.1, h.2.symm⟩
theorem bit_still (b : Bool) (w : World) : Calls Try.prog 89 #[.bool b] w fun e w' => e = .returned (.int .u64 (bitV b)) ∧ w' = w :=
  (bit_any b w).mono fun _ _ h => ⟨h.1, h.2.symm⟩
theorem op_still (o a b : Int) (w : World) : Calls Try.prog 78 #[.int .u8 o, .int .u64 a, .int .u64 b] w fun e w' => e = .returned (.int .u64 (opV o a b)) ∧ w' = w :=
  (op_any o a b w).mono fun _ _ h => ⟨h.1, h.2.symm⟩

theorem put_len (l : List Int) (o : Option Nat) (z : Int) : (put l o z).length = l.length := by cases o <;> simp [put]
/-- behind an action -/
def Acted (w : World) (q p : Nat) (H : Hm) (Fm Fo Fl : List Nat) (x y : Int) (A : Option Addr) (n cap : Nat) (V : Option Addr) (cv : Nat) (st en : Bool) (r : Ps) (e : Ending) (w' : World) : Prop :=
  e = .returned (.tuple #[]) ∧ ∃ Fo' O' oc' kept' ver', Foc w' q H Fm Fo' O' oc' r.now kept' ver' r.out ∧ LnAt w' p Fl x y A n cap V cv r.v r.at_ st en ∧ Only (q :: (Fm ++ Fo ++ Fl)) w w' ∧ (∀ k ∈ Fo', k ∈ Fo ∨ w.heap.size ≤ k)

set_option maxRecDepth 20000 in
set_option maxHeartbeats 6400000 in
theorem act_any (s : St) {w : World} {q p : Nat} {H : Hm} {Fm Fo Fl : List Nat} {O : Option Addr} {oc : Nat} {now kept ver out : List Int} {x y : Int} {A : Option Addr} {n cap : Nat} {V : Option Addr} {cv : Nat} {v : List Int} {a : Nat} {st en : Bool}
    (hF : Foc w q H Fm Fo O oc now kept ver out) (hL : LnAt w p Fl x y A n cap V cv v a st en) (hql : q ∉ Fl) (hml : ∀ k ∈ Fm, k ∉ Fl) (hol : ∀ k ∈ Fo, k ∉ Fl) (hout : out.length ≤ 1000000) (hk : isAct s.kind = true) :
    Calls Try.prog 80 #[.pointer (some ⟨q, 0, none⟩), .pointer (some ⟨p, 0, none⟩), .agg #[.int .i64 s.kind, .int .i64 s.d, .int .i64 s.a, .int .i64 s.b, .int .i64 s.c, .int .i64 s.to, .int .i64 s.cell, .int .u64 s.n, .int .u8 s.op]] w (Acted w q p H Fm Fo Fl x y A n cap V cv st en (actV s ⟨a, v, now, out⟩)) := by
  obtain ⟨W, hW⟩ : ∃ W, W = w.alloc (.cells #[.int .i64 s.kind, .int .i64 s.d, .int .i64 s.a, .int .i64 s.b, .int .i64 s.c, .int .i64 s.to, .int .i64 s.cell, .int .u64 s.n, .int .u8 s.op] 31) := ⟨_, rfl⟩
  have hB : Below w.heap.size w W := by rw [hW]; exact (Below.refl _ _).alloc (Nat.le_refl _) _
  have SS : Hid (Stc W w.heap.size s) := Lib.hid (by rw [hW]; exact Stc.new w s)
  have FF := Lib.hid (hF.keep hB)
  have LL := Lib.hid (hL.keep hB)
  have HW := Lib.hid hW
  have HB := Lib.hid hB
  have hab := addr_b (getV v s.a)
  have hpb := plcP s ⟨a, v, now, out⟩
  have LM := Lib.hid (hF.mem.lens)
  have q_m : Hid (∀ g ∈ Fm, g < w.heap.size) := Lib.hid hF.mem.lt
  have q_o : Hid (∀ g ∈ Fo, g < w.heap.size) := Lib.hid hF.oLt
  have q_l : Hid (∀ g ∈ Fl, g < w.heap.size) := Lib.hid hL.lt
  have hqlt := hF.qlt
  have hvF := Lib.hid hL.vF
  have DQ := Lib.hid hql
  have DM := Lib.hid hml
  have DO := Lib.hid hol
  clear hW hB hF hL hql hml hol hpb
  have x0 := SS.out.c0
  have x1 := SS.out.c1
  have x2 := SS.out.c2
  have x3 := SS.out.c3
  have x4 := SS.out.c4
  have y4 := FF.out.c4
  have y5 := FF.out.c5
  have fq := FF.out.free'
  obtain hk | hk | hk | hk : s.kind = 8 ∨ s.kind = 3 ∨ s.kind = 4 ∨ s.kind = 5 := by
    unfold isAct at hk
    simp only [Bool.or_eq_true, beq_iff_eq] at hk
    omega
  all_goals
    rw [hk] at x0
    have HK := Lib.hid hk
    clear hk
    go_enter Try.func80, Try.ntmps80
    go_upto_region 1 with (fail)
    rw [← HW.out]
    go_wp2_with fail
    refine (get_any s.a W LL.out).mono ?_
    rintro e w1 ⟨rfl, rfl⟩
    go_wp2_with fail
    refine (address_any _ W).mono ?_
    rintro e w1 ⟨rfl, rfl⟩
    go_wp2_with fail
    refine (rread_any H.m now.length _ Fm now kept ver W hab.1 hab.2 FF.out.mem).mono ?_
    rintro e w1 ⟨rfl, rfl⟩
  · have HR := Lib.hid (show actV s ⟨a, v, now, out⟩ = ⟨a, v, now, out ++ [getV v s.a]⟩ by unfold actV; rw [if_pos HK.out])
    go_wp2_with fail
    have SW : Hid (Below W.heap.size W W.drew) := Lib.hid ((Below.refl _ _).drew)
    refine Hd.start 11 (fun w' => w'.cell? ⟨q, 5, none⟩ = some (.slice O out.length oc) ∧ w'.cell? ⟨w.heap.size, 2, none⟩ = some (.int .i64 s.a)) (by kernel_rfl) ?_
    have SA : W.drew.cell? ⟨q, 5, none⟩ = some (.slice O out.length oc) ∧ W.drew.cell? ⟨w.heap.size, 2, none⟩ = some (.int .i64 s.a) := ⟨y5, x2⟩
    refine Hd.take (i := 0) (v := ?v1) rfl (by decide +kernel) (by decide +kernel) (fun _ _ _ h => h) rfl ?hy1 SA ?rest1
    case hy1 =>
      intro wq hSw
      obtain ⟨s1, s2⟩ := hSw
      go_simp
      try with_reducible rfl
    try simp only [Act.put, List.setIfInBounds_toArray, List.set_cons_zero, List.set_cons_succ]
    refine Hd.take (i := 1) (v := ?v2) rfl (by decide +kernel) (by decide +kernel) (fun _ _ _ h => h) rfl ?hy2 SA ?rest2
    case hy2 =>
      intro wq hSw
      obtain ⟨s1, s2⟩ := hSw
      go_simp
      try with_reducible rfl
    try simp only [Act.put, List.setIfInBounds_toArray, List.set_cons_zero, List.set_cons_succ]
    refine Hd.take (i := 2) (v := ?v3) rfl (by decide +kernel) (by decide +kernel) (fun _ _ _ h => h) rfl ?hy3 SA ?rest3
    case hy3 =>
      intro wq hSw
      obtain ⟨s1, s2⟩ := hSw
      go_simp
      try with_reducible rfl
    try simp only [Act.put, List.setIfInBounds_toArray, List.set_cons_zero, List.set_cons_succ]
    refine Hd.take (i := 3) (v := ?v4) rfl (by decide +kernel) (by decide +kernel) (fun _ _ _ h => h) rfl ?hy4 SA ?rest4
    case hy4 =>
      intro wq hSw
      obtain ⟨s1, s2⟩ := hSw
      go_simp
      try with_reducible rfl
    try simp only [Act.put, List.setIfInBounds_toArray, List.set_cons_zero, List.set_cons_succ]
    refine Hd.take (i := 4) (v := ?v5) rfl (by decide +kernel) (by decide +kernel) (fun _ _ _ h => h) rfl ?hy5 SA ?rest5
    case hy5 =>
      intro wq hSw
      obtain ⟨s1, s2⟩ := hSw
      go_simp
      try with_reducible rfl
    try simp only [Act.put, List.setIfInBounds_toArray, List.set_cons_zero, List.set_cons_succ]
    refine Hd.take (i := 5) (v := ?v6) rfl (by decide +kernel) (by decide +kernel) (fun _ _ _ h => h) rfl ?hy6 SA ?rest6
    case hy6 =>
      intro wq hSw
      obtain ⟨s1, s2⟩ := hSw
      go_simp
      try with_reducible rfl
    try simp only [Act.put, List.setIfInBounds_toArray, List.set_cons_zero, List.set_cons_succ]
    refine Hd.take (i := 6) (v := ?v7) rfl (by decide +kernel) (by decide +kernel) (fun _ _ _ h => h) rfl ?hy7 SA ?rest7
    case hy7 =>
      intro wq hSw
      obtain ⟨s1, s2⟩ := hSw
      go_simp
      try with_reducible rfl
    try simp only [Act.put, List.setIfInBounds_toArray, List.set_cons_zero, List.set_cons_succ]
    refine Hd.take (i := 7) (v := ?v8) rfl (by decide +kernel) (by decide +kernel) (fun _ _ _ h => h) rfl ?hy8 SA ?rest8
    case hy8 =>
      intro wq hSw
      obtain ⟨s1, s2⟩ := hSw
      go_simp
      try with_reducible rfl
    try simp only [Act.put, List.setIfInBounds_toArray, List.set_cons_zero, List.set_cons_succ]
    refine Hd.one (i := 8) rfl (by kernel_rfl) rfl (fun K hK => ?_)
    go_simp
    refine (get_any s.a W.drew (LL.out.keep SW.out)).mono ?_
    rintro e w2 ⟨rfl, rfl⟩
    refine hK _ _ (fun _ => SA) ?_
    clear hK K
    try simp only [Act.put, List.setIfInBounds_toArray, List.set_cons_zero, List.set_cons_succ]
    refine Hd.one (i := 9) rfl (by kernel_rfl) rfl (fun K hK => ?_)
    go_simp
    have SB : (W.drew.alloc (.cells #[.int .u64 (getV v s.a)] 29)).cell? ⟨q, 5, none⟩ = some (.slice O out.length oc) ∧ (W.drew.alloc (.cells #[.int .u64 (getV v s.a)] 29)).cell? ⟨w.heap.size, 2, none⟩ = some (.int .i64 s.a) := ⟨(World.cell?_alloc_lt _ _ _ FF.out.qlt).trans SA.1, (World.cell?_alloc_lt _ _ _ SS.out.lt).trans SA.2⟩
    refine hK _ _ (fun _ => SB) ?_
    clear hK K
    try simp only [Act.put, List.setIfInBounds_toArray, List.set_cons_zero, List.set_cons_succ]
    refine Hd.one (i := 10) rfl (by kernel_rfl) rfl (fun K hK => ?_)
    have BW3 : Hid (Below W.heap.size W (W.drew.alloc (.cells #[.int .u64 (getV v s.a)] 29))) := Lib.hid (SW.out.alloc SW.out.size _)
    have hsl : Sl (W.drew.alloc (.cells #[.int .u64 (getV v s.a)] 29)) (some ⟨W.heap.size, 0, none⟩) 1 1 1 (fun _ => [uw (getV v s.a)]) := sl_one W.drew [uw (getV v s.a)] 29
    refine wp_app _ _ _ rfl elU 0 O out.length oc _ rfl ((FF.out.keep BW3.out).row) (some ⟨W.heap.size, 0, none⟩) 1 1 (fun _ => [uw (getV v s.a)]) rfl hsl (fun _ _ => rfl) (fun _ _ u hu => by simp at hu; subst hu; rfl) (by unfold maxLen; omega) (by omega) (Nat.zero_le _) ?_
    intro O2 oc2 w5 hown5 hg5 hat5
    have hq5 : w5.heap[q]? = (W.drew.alloc (.cells #[.int .u64 (getV v s.a)] 29)).heap[q]? := hg5.block q (Nat.lt_of_lt_of_le FF.out.qlt BW3.out.size) (fun e => FF.out.qo (FF.out.oF q e.symm))
    have hx5 : w5.heap[w.heap.size]? = (W.drew.alloc (.cells #[.int .u64 (getV v s.a)] 29)).heap[w.heap.size]? := hg5.block _ (Nat.lt_of_lt_of_le SS.out.lt BW3.out.size) (fun e => by have := q_o.out _ (FF.out.oF _ e.symm); omega)
    have TT := Lib.hid (FF.out.told (z := (getV v s.a)) BW3.out hown5 (fun k hk hn => hg5.block k hk (fun e => hn e.symm)) ⟨hg5.os, hg5.tape, hg5.output, hg5.size, fun k hk => absurd hk (by omega)⟩ (hat5.imp id (fun e k hk => by rw [e] at hk; cases hk; exact Nat.le_refl _)))
    have HT5 : Hid (∀ k, O2.map (·.block) = some k → k ∈ Fo ∨ w.heap.size ≤ k) := Lib.hid (fun k hk => by rcases hat5 with e | e; (left; rw [e] at hk; exact FF.out.oF k hk); (right; rw [e] at hk; cases hk; exact Nat.le_trans HB.out.size BW3.out.size))
    have fq5 : ∀ i, w5.frozen? ⟨q, i, none⟩ = false := fun i => ((blk_same hq5).2 i).trans ((FF.out.keep BW3.out).free i)
    have y55 := ((blk_same hq5).1 5).trans SB.1
    refine hK _ _ (fun _ => ⟨y55, ((blk_same hx5).1 2).trans SB.2⟩) ?_
    clear hown5 hg5 hat5 hq5 hx5 hsl SB SA
    clear hK K
    try simp only [Act.put, List.setIfInBounds_toArray, List.set_cons_zero, List.set_cons_succ]
    refine Hd.one (i := 11) rfl (by kernel_rfl) rfl (fun K hK => ?_)
    go_simp
    refine hK _ _ (fun h => absurd h (by omega)) ?_
    clear hK K
    try simp only [Act.put, List.setIfInBounds_toArray, List.set_cons_zero, List.set_cons_succ]
    refine Hd.one (i := 12) rfl (by kernel_rfl) rfl (fun K hK => ?_)
    go_simp
    refine hK _ _ (fun h => absurd h (by omega)) ?_
    clear hK K
    try simp only [Act.put, List.setIfInBounds_toArray, List.set_cons_zero, List.set_cons_succ]
    refine Hd.one (i := 13) rfl (by kernel_rfl) rfl (fun K hK => ?_)
    go_simp
    refine hK _ _ (fun h => absurd h (by omega)) ?_
    clear hK K
    try simp only [Act.put, List.setIfInBounds_toArray, List.set_cons_zero, List.set_cons_succ]
    refine Hd.done (by kernel_rfl) ?_ _
    go_wp2_with fail
    refine ⟨rfl, _, results_none rfl _ _ _, ?_⟩
    have LF := Lib.hid (LL.out.far TT.out.2 (fun k hk hm => by
      rcases List.mem_cons.1 hm with e | e
      · subst e; exact DQ.out hk
      · exact DO.out k e hk))
    refine ⟨rfl, _, _, _, _, _, by rw [HR.out]; exact TT.out.1, by rw [HR.out]; exact LF.out, (Only.of_below HB.out).trans TT.out.2 (fun k hk => ?_), fun k hk => ?_⟩
    · rcases List.mem_cons.1 hk with e | e
      · subst e; exact .inl (by simp)
      · exact .inl (by simp [e])
    · rcases List.mem_append.1 hk with e | e
      · exact .inl e
      · exact HT5.out k (by simpa using e)
  · have HR := Lib.hid (show actV s ⟨a, v, now, out⟩ = ⟨a, putV v s.d (rd now (plc now.length (addrV (getV v s.a)))), now, out⟩ by unfold actV; rw [if_neg (by rw [HK.out]; decide), if_pos HK.out]; rfl)
    go_wp2_with fail
    refine (put_any s.d _ W LL.out).mono ?_
    rintro e w2 ⟨rfl, hL2, hO2⟩
    have L2 := Lib.hid hL2
    have HO2 : Hid (Only Fl W w2) := Lib.hid (hO2.more (fun k hk => hvF.out k (by simpa using hk)))
    clear hL2 hO2
    go_wp2_with fail
    refine ⟨rfl, _, results_none rfl _ _ _, ?_⟩
    refine ⟨rfl, Fo, O, oc, kept, ver, by rw [HR.out]; exact FF.out.far HO2.out DQ.out DM.out DO.out, by rw [HR.out]; exact L2.out, (Only.of_below HB.out).trans HO2.out (fun k hk => .inl (by simp [hk])), fun k hk => .inl hk⟩
  · have HR := Lib.hid (show actV s ⟨a, v, now, out⟩ = ⟨a, v, put now (plc now.length (addrV (getV v s.a))) (getV v s.b), out⟩ by unfold actV; rw [if_neg (by rw [HK.out]; decide), if_neg (by rw [HK.out]; decide), if_pos HK.out]; rfl)
    have SW : Hid (Below W.heap.size W W.drew) := Lib.hid ((Below.refl _ _).drew)
    go_wp2_with fail
    go_still_tail 9, (by kernel_rfl)
    still_call (get_still s.b W.drew (LL.out.keep SW.out))
    refine wpStill_nil ?_
    go_wp2_with fail
    refine (rwrite_any H.m now.length _ _ Fm now kept ver W.drew hab.1 hab.2 (FF.out.keep SW.out).mem).mono ?_
    rintro e w2 ⟨rfl, hM2, hO2⟩
    have M2 := Lib.hid hM2
    have HO2 : Hid (Only Fm W w2) := Lib.hid ((Only.of_below (F := Fm) SW.out).seq hO2)
    clear hM2 hO2
    go_wp2_with fail
    refine ⟨rfl, _, results_none rfl _ _ _, ?_⟩
    refine ⟨rfl, Fo, O, oc, _, _, by rw [HR.out]; exact FF.out.wrote M2.out (put_len _ _ _) HO2.out, by rw [HR.out]; exact LL.out.far HO2.out (fun k hk hm => DM.out k hm hk), (Only.of_below HB.out).trans HO2.out (fun k hk => .inl (by simp [hk])), fun k hk => .inl hk⟩
  · have HV : Hid (casV s ⟨a, v, now, out⟩ = ((plc now.length (addrV (getV v s.a))).isSome && (rd now (plc now.length (addrV (getV v s.a))) == getV v s.b))) := Lib.hid rfl
    cases hs : (plc now.length (addrV (getV v s.a))).isSome
    · have HV2 : Hid (casV s ⟨a, v, now, out⟩ = false) := Lib.hid (by rw [HV.out, hs]; rfl)
      have HR := Lib.hid (show actV s ⟨a, v, now, out⟩ = ⟨a, putV v s.d (bitV false), now, out⟩ by unfold actV; rw [if_neg (by rw [HK.out]; decide), if_neg (by rw [HK.out]; decide), if_neg (by rw [HK.out]; decide), if_pos HK.out]; rw [HV2.out]; rfl)
      clear hs
      go_wp2_with fail
      go_still_tail 5, (by kernel_rfl)
      still_call (bit_still false W.drew)
      refine wpStill_nil ?_
      go_wp2_with fail
      refine (put_any s.d _ W.drew (LL.out.keep ((Below.refl _ _).drew))).mono ?_
      rintro e w3 ⟨rfl, hL3, hO3⟩
      have L3 := Lib.hid hL3
      have HO3 : Hid (Only Fl W w3) := Lib.hid ((Only.of_below (F := Fl) ((Below.refl _ _).drew)).seq (hO3.more (fun k hk => hvF.out k (by simpa using hk))))
      clear hL3 hO3
      go_wp2_with fail
      refine ⟨rfl, _, results_none rfl _ _ _, ?_⟩
      refine ⟨rfl, Fo, O, oc, _, _, by rw [HR.out]; exact FF.out.far HO3.out DQ.out DM.out DO.out, by rw [HR.out]; exact L3.out, (Only.of_below HB.out).trans HO3.out (fun k hk => .inl (by simp [hk])), fun k hk => .inl hk⟩
    · go_wp2_with fail
      refine (get_any s.b W LL.out).mono ?_
      rintro e w1 ⟨rfl, rfl⟩
      cases he : (rd now (plc now.length (addrV (getV v s.a))) == getV v s.b)
      · have HV2 : Hid (casV s ⟨a, v, now, out⟩ = false) := Lib.hid (by rw [HV.out, hs, he]; rfl)
        have HR := Lib.hid (show actV s ⟨a, v, now, out⟩ = ⟨a, putV v s.d (bitV false), now, out⟩ by unfold actV; rw [if_neg (by rw [HK.out]; decide), if_neg (by rw [HK.out]; decide), if_neg (by rw [HK.out]; decide), if_pos HK.out]; rw [HV2.out]; rfl)
        clear hs
        go_wp2_with fail
        go_still_tail 5, (by kernel_rfl)
        still_call (bit_still false W.drew)
        refine wpStill_nil ?_
        go_wp2_with fail
        refine (put_any s.d _ W.drew (LL.out.keep ((Below.refl _ _).drew))).mono ?_
        rintro e w3 ⟨rfl, hL3, hO3⟩
        have L3 := Lib.hid hL3
        have HO3 : Hid (Only Fl W w3) := Lib.hid ((Only.of_below (F := Fl) ((Below.refl _ _).drew)).seq (hO3.more (fun k hk => hvF.out k (by simpa using hk))))
        clear hL3 hO3
        go_wp2_with fail
        refine ⟨rfl, _, results_none rfl _ _ _, ?_⟩
        refine ⟨rfl, Fo, O, oc, _, _, by rw [HR.out]; exact FF.out.far HO3.out DQ.out DM.out DO.out, by rw [HR.out]; exact L3.out, (Only.of_below HB.out).trans HO3.out (fun k hk => .inl (by simp [hk])), fun k hk => .inl hk⟩
      · have HV2 : Hid (casV s ⟨a, v, now, out⟩ = true) := Lib.hid (by rw [HV.out, hs, he]; rfl)
        have HR := Lib.hid (show actV s ⟨a, v, now, out⟩ = ⟨a, putV v s.d (bitV true), put now (plc now.length (addrV (getV v s.a))) (getV v s.c), out⟩ by unfold actV; rw [if_neg (by rw [HK.out]; decide), if_neg (by rw [HK.out]; decide), if_neg (by rw [HK.out]; decide), if_pos HK.out]; rw [HV2.out]; rfl)
        have SW : Hid (Below W.heap.size W W.drew) := Lib.hid ((Below.refl _ _).drew)
        clear hs
        go_wp2_with fail
        go_still_tail 9, (by kernel_rfl)
        still_call (get_still s.c W.drew (LL.out.keep SW.out))
        refine wpStill_nil ?_
        go_wp2_with fail
        refine (rwrite_any H.m now.length _ _ Fm now kept ver W.drew hab.1 hab.2 (FF.out.keep SW.out).mem).mono ?_
        rintro e w2 ⟨rfl, hM2, hO2⟩
        have HO2 : Hid (Only Fm W w2) := Lib.hid ((Only.of_below (F := Fm) SW.out).seq hO2)
        have F2 := Lib.hid (FF.out.wrote hM2 (put_len _ _ _) HO2.out)
        have L2 := Lib.hid (LL.out.far HO2.out (fun k hk hm => DM.out k hm hk))
        have S2 := Lib.hid (SS.out.far HO2.out (fun hm => by have := q_m.out _ hm; omega))
        clear x0 x1 x2 x3 x4 y4 y5 fq hM2 hO2
        have x1 := S2.out.c1
        go_wp2_with fail
        go_still_tail 5, (by kernel_rfl)
        still_call (bit_still true w2.drew)
        refine wpStill_nil ?_
        go_wp2_with fail
        refine (put_any s.d _ w2.drew (L2.out.keep ((Below.refl _ _).drew))).mono ?_
        rintro e w3 ⟨rfl, hL3, hO3⟩
        have L3 := Lib.hid hL3
        have HO3 : Hid (Only Fl w2 w3) := Lib.hid ((Only.of_below (F := Fl) ((Below.refl _ _).drew)).seq (hO3.more (fun k hk => hvF.out k (by simpa using hk))))
        clear hL3 hO3
        go_wp2_with fail
        refine ⟨rfl, _, results_none rfl _ _ _, ?_⟩
        refine ⟨rfl, Fo, O, oc, _, _, by rw [HR.out]; exact F2.out.far HO3.out DQ.out DM.out DO.out, by rw [HR.out]; exact L3.out, ((Only.of_below HB.out).trans HO2.out (F := q :: (Fm ++ Fo ++ Fl)) (fun k hk => .inl (by simp [hk]))).trans HO3.out (fun k hk => .inl (by simp [hk])), fun k hk => .inl hk⟩
end Go.Proofs.Ytdhihmeknoofoaa.Sc
