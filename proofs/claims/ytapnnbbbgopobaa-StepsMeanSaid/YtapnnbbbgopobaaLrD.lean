/-
  WALKS: the reference's lowerer: stmt, body.
-/
import Derived.Test.YtapnnbbbgopobaaG19
set_option linter.unusedVariables false
set_option linter.unusedSimpArgs false
namespace Go.Proofs.Ytapnnbbbgopobaa.Lr
open Go.RowKit Cm Mm Ow Me Ml Lg Stp StW Rr
def CelB (cs : List Lay.Cl) : Bd → Prop
  | .nil => True
  | .cons h body els rest => (Fr.isCelled h.kind = true → cix cs h.cell < cs.length) ∧ (h.kind = 6 ∨ h.kind = 7 → CelB cs body) ∧ (h.kind = 6 → CelB cs els) ∧ CelB cs rest
theorem celB_of {cs : List Lay.Cl} : ∀ (b : Bd) (l : List ByteArray), Fr.walkOk cs l b → CelB cs b
  | .nil, _, _ => trivial
  | .cons h body els rest, l, hw => by
    rw [Fr.walkOk] at hw
    exact ⟨fun hc => find_pos (hw.1.cell hc), fun h67 => celB_of body _ (hw.2.1 h67), fun h6 => celB_of els _ (hw.2.2.1 h6), celB_of rest _ hw.2.2.2⟩
section
variable (cs : List Lay.Cl) (nl : List ByteArray)
theorem kP_bd (h : Hd) (k : Nat) : kP h k ≤ k + 2 * lv h.i + 6 := by have := kE_bd h.i k; unfold kP; omega
theorem codeP_len (h : Hd) (k : Nat) : (codeP cs nl h k).length ≤ 2 * lv h.i + 6 := by have := codeE_len nl h.i k; unfold codeP; simp; omega
theorem kH_bd (h : Hd) (k : Nat) : kH h k ≤ k + 2 * (lv h.i + lv h.x + lv h.y) + 6 := by
  have h1 := kE_bd h.x k
  have h2 := kP_bd h k
  have h3 := kE_bd h.x (kP h k)
  have h4 := kE_bd h.y (kE h.x (kP h k))
  unfold kH
  repeat' split
  all_goals omega
theorem codeH_len (h : Hd) (k : Nat) : (codeH cs nl h k).length ≤ 2 * (lv h.i + lv h.x + lv h.y) + 7 := by
  have h1 := codeE_len nl h.x k
  have h2 := codeP_len cs nl h k
  have h3 := codeE_len nl h.x (kP h k)
  have h4 := codeE_len nl h.y (kE h.x (kP h k))
  unfold codeH
  repeat' split
  all_goals (simp; try omega)
theorem kB_bd : ∀ (b : Bd) (k : Nat), kB b k ≤ k + 10 * bsz b
  | .nil, k => Nat.le_add_right _ _
  | .cons h body els rest, k => by
    have h1 := kH_bd h k
    have h2 := kB_bd body (kH h k)
    have h3 := kB_bd els (kB body (kH h k))
    unfold kB
    split
    · have := kB_bd rest (kB els (kB body (kH h k))); simp only [bsz]; omega
    · split
      · have := kB_bd rest (kB body (kH h k)); simp only [bsz]; omega
      · have := kB_bd rest (kH h k); simp only [bsz]; omega
theorem lB_bd : ∀ (b : Bd) (l : Nat), lB b l ≤ l + 10 * bsz b
  | .nil, k => Nat.le_add_right _ _
  | .cons h body els rest, l => by
    have h2 := lB_bd body (l + 2)
    have h3 := lB_bd els (lB body (l + 2))
    unfold lB
    split
    · have := lB_bd rest (lB els (lB body (l + 2))); simp only [bsz]; omega
    · split
      · have := lB_bd rest (lB body (l + 2)); simp only [bsz]; omega
      · have := lB_bd rest l; simp only [bsz]; omega
theorem codeB_len : ∀ (b : Bd) (k l : Nat), (codeB cs nl b k l).length ≤ 10 * bsz b
  | .nil, k, l => by simp [codeB]
  | .cons h body els rest, k, l => by
    have h0 := codeE_len nl h.x k
    have h1 := codeH_len cs nl h k
    unfold codeB
    split
    · have a1 := codeB_len body (kH h k) (l + 2)
      have a2 := codeB_len els (kB body (kH h k)) (lB body (l + 2))
      have a3 := codeB_len rest (kB els (kB body (kH h k))) (lB els (lB body (l + 2)))
      simp [bsz]; omega
    · split
      · have a1 := codeB_len body (kH h k) (l + 2)
        have a3 := codeB_len rest (kB body (kH h k)) (lB body (l + 2))
        simp [bsz]; omega
      · have a3 := codeB_len rest (kH h k) l
        simp [bsz]; omega
theorem codeB_cons (h : Hd) (body els rest : Bd) (k l : Nat) : codeB cs nl (.cons h body els rest) k l = codeB cs nl (.cons h body els .nil) k l ++ codeB cs nl rest (kB (.cons h body els .nil) k) (lB (.cons h body els .nil) l) := by
  simp only [codeB, kB, lB]
  by_cases h6 : h.kind = 6
  · simp only [h6, if_true, List.append_nil]
  · by_cases h7 : h.kind = 7
    · simp only [h7, if_true, List.append_nil]
      simp
    · simp only [h6, h7, if_false, List.append_nil]
end
theorem kB_cons (h : Hd) (body els rest : Bd) (k : Nat) : kB (.cons h body els rest) k = kB rest (kB (.cons h body els .nil) k) := by simp only [kB]
theorem lB_cons (h : Hd) (body els rest : Bd) (l : Nat) : lB (.cons h body els rest) l = lB rest (lB (.cons h body els .nil) l) := by simp only [lB]
def LowA (w : World) (q : Nat) (f : Fl) (v : Nat) (SA : Option Addr) (sl : List St) (lb : Nat) (b : Bd) (en : Ending) (w' : World) : Prop := en = .returned (.tuple #[]) ∧ LwA w q f SA (kB b v) (sl ++ codeB f.cs f.nl b v lb) (lB b lb) w'
structure Bl (k : Nat) : Prop where
  go : ∀ {b : Bd} {w : World} {q : Nat} {f : Fl} {v : Nat} {SA : Option Addr} {n c : Nat} {sl : List St} {lb : Nat} {BA : Option Addr} {bn bc : Nat}, bsz b ≤ k → IsBdP (Fr.Lo q) w b BA bn bc → Lw w q f v SA n c sl lb → CelB f.cs b → CellsOk f.cs → v + 12 * bsz b ≤ 5000000 → n + 12 * bsz b ≤ 5000000 → lb + 12 * bsz b ≤ 5000000 →
    Calls Try.prog 54 #[.pointer (some ⟨q, 0, none⟩), .slice BA bn bc] w (LowA w q f v SA sl lb b)
set_option maxRecDepth 20000 in
set_option maxHeartbeats 6400000 in
theorem stmt_0 {w : World} {q : Nat} {f : Fl} {v : Nat} {SA : Option Addr} {n c : Nat} {sl : List St} {lb : Nat} {h : Hd} {b1 b2 : Bd} {vs : List Value} (hk : h.kind = 0) (hs : StP (Fr.Lo q) w h b1 b2 vs) (hL : Lw w q f v SA n c sl lb) (hcel : CelB f.cs (.cons h b1 b2 .nil)) (hcs : CellsOk f.cs) (hv : v + 12 * wtS h b1 b2 ≤ 5000000) (hn : n + 12 * wtS h b1 b2 ≤ 5000000) (hlb : lb + 12 * wtS h b1 b2 ≤ 5000000) :
    Calls Try.prog 74 #[.pointer (some ⟨q, 0, none⟩), .agg vs.toArray] w (LowA w q f v SA sl lb (.cons h b1 b2 .nil)) := by
  have U0 := Lib.hid (Lu.start hL (.cells vs.toArray 122))
  have AP := Lib.hid (lw_apart hL)
  have HS := Lib.hid hs
  have HCS := Lib.hid hcs
  have HCEL := Lib.hid hcel
  have hnl := hL.len
  have HII : Hid ((Try.prog.info? 122).map (·.size) = some vs.toArray.size) := Lib.hid (by rw [List.size_toArray, Fr.StP.len hs]; kernel_rfl)
  have hw := hv
  unfold wtS at hv hn hlb
  obtain ⟨vi, vx, vy, BA, bn, bc, EA, en, ec, hvs, hi, hx, hy, -, -, hB, hE⟩ := hs
  have XX := Lib.hid hx
  have XY := Lib.hid hy
  have XB := Lib.hid hB
  have XE := Lib.hid hE
  obtain ⟨i0, i1, i2, i3, i4, rfl⟩ := Fr.len5 (Fr.exP_len hi)
  obtain ⟨x0, x1, x2, x3, x4, rfl⟩ := Fr.len5 (Fr.exP_len hx)
  obtain ⟨y0, y1, y2, y3, y4, rfl⟩ := Fr.len5 (Fr.exP_len hy)
  have v0 : vs.toArray[0]? = some (.int .i64 0) := by rw [hvs]; simp only [stVs, hk]; rfl
  have v2 : vs.toArray[2]? = some (.string h.name) := by rw [hvs]; rfl
  have v9 : vs.toArray[9]? = some (x0) := by rw [hvs]; rfl
  have v10 : vs.toArray[10]? = some (x1) := by rw [hvs]; rfl
  have v11 : vs.toArray[11]? = some (x2) := by rw [hvs]; rfl
  have v12 : vs.toArray[12]? = some (x3) := by rw [hvs]; rfl
  have v13 : vs.toArray[13]? = some (x4) := by rw [hvs]; rfl
  have v14 : vs.toArray[14]? = some (y0) := by rw [hvs]; rfl
  have v15 : vs.toArray[15]? = some (y1) := by rw [hvs]; rfl
  have v16 : vs.toArray[16]? = some (y2) := by rw [hvs]; rfl
  have v17 : vs.toArray[17]? = some (y3) := by rw [hvs]; rfl
  have v18 : vs.toArray[18]? = some (y4) := by rw [hvs]; rfl
  have v19 : vs.toArray[19]? = some (.slice BA bn bc) := by rw [hvs]; rfl
  have v20 : vs.toArray[20]? = some (.slice EA en ec) := by rw [hvs]; rfl
  have V := Lib.hid (And.intro v0 (And.intro v2 (And.intro v9 (And.intro v10 (And.intro v11 (And.intro v12 (And.intro v13 (And.intro v14 (And.intro v15 (And.intro v16 (And.intro v17 (And.intro v18 (And.intro v19 v20)))))))))))))
  clear hvs hi hx hy hB hE v0 v2 v9 v10 v11 v12 v13 v14 v15 v16 v17 v18 v19 v20
  have HK := Lib.hid hk
  obtain ⟨W, hW⟩ : ∃ W, w.alloc (.cells vs.toArray 122) = W := ⟨_, rfl⟩
  rw [hW] at U0
  clear hk hL hcs hcel
  have HU : Try.prog.underlying 122 = some _ := Try.underlying122
  have z0 := cells_of U0.out.sb V.out.1
  have z2 := cells_of U0.out.sb V.out.2.1
  have z9 := cells_of U0.out.sb V.out.2.2.1
  have z10 := cells_of U0.out.sb V.out.2.2.2.1
  have z11 := cells_of U0.out.sb V.out.2.2.2.2.1
  have z12 := cells_of U0.out.sb V.out.2.2.2.2.2.1
  have z13 := cells_of U0.out.sb V.out.2.2.2.2.2.2.1
  have z14 := cells_of U0.out.sb V.out.2.2.2.2.2.2.2.1
  have z15 := cells_of U0.out.sb V.out.2.2.2.2.2.2.2.2.1
  have z16 := cells_of U0.out.sb V.out.2.2.2.2.2.2.2.2.2.1
  have z17 := cells_of U0.out.sb V.out.2.2.2.2.2.2.2.2.2.2.1
  have z18 := cells_of U0.out.sb V.out.2.2.2.2.2.2.2.2.2.2.2.1
  have z19 := cells_of U0.out.sb V.out.2.2.2.2.2.2.2.2.2.2.2.2.1
  have z20 := cells_of U0.out.sb V.out.2.2.2.2.2.2.2.2.2.2.2.2.2
  go_enter Try.func74, Try.ntmps74
  go_upto_region 1 with fail
  try rw [hW]
  clear hW
  go_wp2_with (first | (refine wpList_load_row rfl 122 (.tmp 3) rfl w.heap.size rfl 122 vs.toArray (0, 0) _ U0.out.sb HU rfl HII.out ?_) | fail)
  refine (expr_any h.x (exP_only U0.out.cw.only AP.out XX.out) U0.out.lw (by omega) (by omega)).mono ?_
  rintro en w1 ⟨rfl, SA1, n1, c1, hl1, hc1⟩
  have U1 := Lib.hid (U0.out.step hl1 hc1)
  have hn1 : n1 ≤ n + 2 * lv h.x := by have := hl1.len; have := U0.out.lw.len; have := codeE_len f.nl h.x v; simp at *; omega
  have hv1 := kE_bd h.x v
  clear hl1 hc1 U0 z0 z2 z9 z10 z11 z12 z13 z14 z15 z16 z17 z18 z19 z20
  have z0 := cells_of U1.out.sb V.out.1
  have z2 := cells_of U1.out.sb V.out.2.1
  have z9 := cells_of U1.out.sb V.out.2.2.1
  have z10 := cells_of U1.out.sb V.out.2.2.2.1
  have z11 := cells_of U1.out.sb V.out.2.2.2.2.1
  have z12 := cells_of U1.out.sb V.out.2.2.2.2.2.1
  have z13 := cells_of U1.out.sb V.out.2.2.2.2.2.2.1
  have z14 := cells_of U1.out.sb V.out.2.2.2.2.2.2.2.1
  have z15 := cells_of U1.out.sb V.out.2.2.2.2.2.2.2.2.1
  have z16 := cells_of U1.out.sb V.out.2.2.2.2.2.2.2.2.2.1
  have z17 := cells_of U1.out.sb V.out.2.2.2.2.2.2.2.2.2.2.1
  have z18 := cells_of U1.out.sb V.out.2.2.2.2.2.2.2.2.2.2.2.1
  have z19 := cells_of U1.out.sb V.out.2.2.2.2.2.2.2.2.2.2.2.2.1
  have z20 := cells_of U1.out.sb V.out.2.2.2.2.2.2.2.2.2.2.2.2.2
  go_wp2_with (first | (refine wpList_load_row rfl 122 (.tmp 3) rfl w.heap.size rfl 122 vs.toArray (0, 0) _ U1.out.sb HU rfl HII.out ?_) | fail)
  refine (local_any h.name U1.out.lw).mono ?_
  rintro en w' ⟨rfl, rfl⟩
  go_wp2_with (first | (refine wpList_load_row rfl 122 (.tmp 3) rfl w.heap.size rfl 122 vs.toArray (0, 0) _ U1.out.sb HU rfl HII.out ?_) | fail)
  refine (step_any ⟨1, (locN f.nl h.name : Nat), (varE f.nl h.x v : Nat), 0, 0, 0, 0, 0, 0⟩ U1.out.lw (by omega)).mono ?_
  rintro en w2 ⟨rfl, SA2, n2, c2, hl2, hc2⟩
  have U2 := Lib.hid (U1.out.step hl2 hc2)
  have hn2 : n2 = n1 + 1 := by have := hl2.len; have := U1.out.lw.len; simp at *; omega
  clear hl2 hc2 U1 z0 z2 z9 z10 z11 z12 z13 z14 z15 z16 z17 z18 z19 z20
  have z0 := cells_of U2.out.sb V.out.1
  have z2 := cells_of U2.out.sb V.out.2.1
  have z9 := cells_of U2.out.sb V.out.2.2.1
  have z10 := cells_of U2.out.sb V.out.2.2.2.1
  have z11 := cells_of U2.out.sb V.out.2.2.2.2.1
  have z12 := cells_of U2.out.sb V.out.2.2.2.2.2.1
  have z13 := cells_of U2.out.sb V.out.2.2.2.2.2.2.1
  have z14 := cells_of U2.out.sb V.out.2.2.2.2.2.2.2.1
  have z15 := cells_of U2.out.sb V.out.2.2.2.2.2.2.2.2.1
  have z16 := cells_of U2.out.sb V.out.2.2.2.2.2.2.2.2.2.1
  have z17 := cells_of U2.out.sb V.out.2.2.2.2.2.2.2.2.2.2.1
  have z18 := cells_of U2.out.sb V.out.2.2.2.2.2.2.2.2.2.2.2.1
  have z19 := cells_of U2.out.sb V.out.2.2.2.2.2.2.2.2.2.2.2.2.1
  have z20 := cells_of U2.out.sb V.out.2.2.2.2.2.2.2.2.2.2.2.2.2
  go_wp2_with fail
  go_end0
  refine ⟨rfl, SA2, n2, c2, ?_, U2.out.cw⟩
  have e := U2.out.lw
  have hK := HK.out
  have ekB : kB (.cons h b1 b2 .nil) v = kH h v := by simp [kB, hK]
  have elB : lB (.cons h b1 b2 .nil) lb = lb := by simp [lB, hK]
  have ecB : codeB f.cs f.nl (.cons h b1 b2 .nil) v lb = codeH f.cs f.nl h v := by simp [codeB, hK]
  have ekH : kH h v = kE h.x v := by unfold kH; simp [hK]
  have ecH : codeH f.cs f.nl h v = codeE f.nl h.x v ++ [⟨1, (locN f.nl h.name : Nat), (varE f.nl h.x v : Nat), 0, 0, 0, 0, 0, 0⟩] := by unfold codeH; simp [hK]
  rw [ekB, elB, ecB, ekH, ecH]
  simpa only [List.append_assoc, List.cons_append, List.nil_append] using e
set_option maxRecDepth 20000 in
set_option maxHeartbeats 6400000 in
theorem stmt_1 {w : World} {q : Nat} {f : Fl} {v : Nat} {SA : Option Addr} {n c : Nat} {sl : List St} {lb : Nat} {h : Hd} {b1 b2 : Bd} {vs : List Value} (hk : h.kind = 1) (hs : StP (Fr.Lo q) w h b1 b2 vs) (hL : Lw w q f v SA n c sl lb) (hcel : CelB f.cs (.cons h b1 b2 .nil)) (hcs : CellsOk f.cs) (hv : v + 12 * wtS h b1 b2 ≤ 5000000) (hn : n + 12 * wtS h b1 b2 ≤ 5000000) (hlb : lb + 12 * wtS h b1 b2 ≤ 5000000) :
    Calls Try.prog 74 #[.pointer (some ⟨q, 0, none⟩), .agg vs.toArray] w (LowA w q f v SA sl lb (.cons h b1 b2 .nil)) := by
  have U0 := Lib.hid (Lu.start hL (.cells vs.toArray 122))
  have AP := Lib.hid (lw_apart hL)
  have HS := Lib.hid hs
  have HCS := Lib.hid hcs
  have HCEL := Lib.hid hcel
  have hnl := hL.len
  have HII : Hid ((Try.prog.info? 122).map (·.size) = some vs.toArray.size) := Lib.hid (by rw [List.size_toArray, Fr.StP.len hs]; kernel_rfl)
  have hw := hv
  unfold wtS at hv hn hlb
  obtain ⟨vi, vx, vy, BA, bn, bc, EA, en, ec, hvs, hi, hx, hy, -, -, hB, hE⟩ := hs
  have XX := Lib.hid hx
  have XY := Lib.hid hy
  have XB := Lib.hid hB
  have XE := Lib.hid hE
  obtain ⟨i0, i1, i2, i3, i4, rfl⟩ := Fr.len5 (Fr.exP_len hi)
  obtain ⟨x0, x1, x2, x3, x4, rfl⟩ := Fr.len5 (Fr.exP_len hx)
  obtain ⟨y0, y1, y2, y3, y4, rfl⟩ := Fr.len5 (Fr.exP_len hy)
  have v0 : vs.toArray[0]? = some (.int .i64 1) := by rw [hvs]; simp only [stVs, hk]; rfl
  have v2 : vs.toArray[2]? = some (.string h.name) := by rw [hvs]; rfl
  have v9 : vs.toArray[9]? = some (x0) := by rw [hvs]; rfl
  have v10 : vs.toArray[10]? = some (x1) := by rw [hvs]; rfl
  have v11 : vs.toArray[11]? = some (x2) := by rw [hvs]; rfl
  have v12 : vs.toArray[12]? = some (x3) := by rw [hvs]; rfl
  have v13 : vs.toArray[13]? = some (x4) := by rw [hvs]; rfl
  have v14 : vs.toArray[14]? = some (y0) := by rw [hvs]; rfl
  have v15 : vs.toArray[15]? = some (y1) := by rw [hvs]; rfl
  have v16 : vs.toArray[16]? = some (y2) := by rw [hvs]; rfl
  have v17 : vs.toArray[17]? = some (y3) := by rw [hvs]; rfl
  have v18 : vs.toArray[18]? = some (y4) := by rw [hvs]; rfl
  have v19 : vs.toArray[19]? = some (.slice BA bn bc) := by rw [hvs]; rfl
  have v20 : vs.toArray[20]? = some (.slice EA en ec) := by rw [hvs]; rfl
  have V := Lib.hid (And.intro v0 (And.intro v2 (And.intro v9 (And.intro v10 (And.intro v11 (And.intro v12 (And.intro v13 (And.intro v14 (And.intro v15 (And.intro v16 (And.intro v17 (And.intro v18 (And.intro v19 v20)))))))))))))
  clear hvs hi hx hy hB hE v0 v2 v9 v10 v11 v12 v13 v14 v15 v16 v17 v18 v19 v20
  have HK := Lib.hid hk
  obtain ⟨W, hW⟩ : ∃ W, w.alloc (.cells vs.toArray 122) = W := ⟨_, rfl⟩
  rw [hW] at U0
  clear hk hL hcs hcel
  have HU : Try.prog.underlying 122 = some _ := Try.underlying122
  have z0 := cells_of U0.out.sb V.out.1
  have z2 := cells_of U0.out.sb V.out.2.1
  have z9 := cells_of U0.out.sb V.out.2.2.1
  have z10 := cells_of U0.out.sb V.out.2.2.2.1
  have z11 := cells_of U0.out.sb V.out.2.2.2.2.1
  have z12 := cells_of U0.out.sb V.out.2.2.2.2.2.1
  have z13 := cells_of U0.out.sb V.out.2.2.2.2.2.2.1
  have z14 := cells_of U0.out.sb V.out.2.2.2.2.2.2.2.1
  have z15 := cells_of U0.out.sb V.out.2.2.2.2.2.2.2.2.1
  have z16 := cells_of U0.out.sb V.out.2.2.2.2.2.2.2.2.2.1
  have z17 := cells_of U0.out.sb V.out.2.2.2.2.2.2.2.2.2.2.1
  have z18 := cells_of U0.out.sb V.out.2.2.2.2.2.2.2.2.2.2.2.1
  have z19 := cells_of U0.out.sb V.out.2.2.2.2.2.2.2.2.2.2.2.2.1
  have z20 := cells_of U0.out.sb V.out.2.2.2.2.2.2.2.2.2.2.2.2.2
  go_enter Try.func74, Try.ntmps74
  go_upto_region 1 with fail
  try rw [hW]
  clear hW
  go_wp2_with (first | (refine wpList_load_row rfl 122 (.tmp 3) rfl w.heap.size rfl 122 vs.toArray (0, 0) _ U0.out.sb HU rfl HII.out ?_) | fail)
  refine (place_any (stP_only U0.out.cw.only AP.out HS.out) U0.out.lw (by omega) (by omega) (HCEL.out.1 (by rw [HK.out]; rfl)) HCS.out).mono ?_
  rintro en w1 ⟨rfl, SA1, n1, c1, hl1, hc1⟩
  have U1 := Lib.hid (U0.out.step hl1 hc1)
  have hn1 : n1 ≤ n + 2 * lv h.i + 6 := by have := hl1.len; have := U0.out.lw.len; have := codeP_len f.cs f.nl h v; simp at *; omega
  have hv1 := kP_bd h v
  clear hl1 hc1 U0 z0 z2 z9 z10 z11 z12 z13 z14 z15 z16 z17 z18 z19 z20
  have z0 := cells_of U1.out.sb V.out.1
  have z2 := cells_of U1.out.sb V.out.2.1
  have z9 := cells_of U1.out.sb V.out.2.2.1
  have z10 := cells_of U1.out.sb V.out.2.2.2.1
  have z11 := cells_of U1.out.sb V.out.2.2.2.2.1
  have z12 := cells_of U1.out.sb V.out.2.2.2.2.2.1
  have z13 := cells_of U1.out.sb V.out.2.2.2.2.2.2.1
  have z14 := cells_of U1.out.sb V.out.2.2.2.2.2.2.2.1
  have z15 := cells_of U1.out.sb V.out.2.2.2.2.2.2.2.2.1
  have z16 := cells_of U1.out.sb V.out.2.2.2.2.2.2.2.2.2.1
  have z17 := cells_of U1.out.sb V.out.2.2.2.2.2.2.2.2.2.2.1
  have z18 := cells_of U1.out.sb V.out.2.2.2.2.2.2.2.2.2.2.2.1
  have z19 := cells_of U1.out.sb V.out.2.2.2.2.2.2.2.2.2.2.2.2.1
  have z20 := cells_of U1.out.sb V.out.2.2.2.2.2.2.2.2.2.2.2.2.2
  go_wp2_with (first | (refine wpList_load_row rfl 122 (.tmp 3) rfl w.heap.size rfl 122 vs.toArray (0, 0) _ U1.out.sb HU rfl HII.out ?_) | fail)
  refine (local_any h.name U1.out.lw).mono ?_
  rintro en w' ⟨rfl, rfl⟩
  go_wp2_with (first | (refine wpList_load_row rfl 122 (.tmp 3) rfl w.heap.size rfl 122 vs.toArray (0, 0) _ U1.out.sb HU rfl HII.out ?_) | fail)
  refine (step_any ⟨3, (locN f.nl h.name : Nat), (varP h v : Nat), 0, 0, 0, (cix f.cs h.cell : Nat), 0, 0⟩ U1.out.lw (by omega)).mono ?_
  rintro en w2 ⟨rfl, SA2, n2, c2, hl2, hc2⟩
  have U2 := Lib.hid (U1.out.step hl2 hc2)
  have hn2 : n2 = n1 + 1 := by have := hl2.len; have := U1.out.lw.len; simp at *; omega
  clear hl2 hc2 U1 z0 z2 z9 z10 z11 z12 z13 z14 z15 z16 z17 z18 z19 z20
  have z0 := cells_of U2.out.sb V.out.1
  have z2 := cells_of U2.out.sb V.out.2.1
  have z9 := cells_of U2.out.sb V.out.2.2.1
  have z10 := cells_of U2.out.sb V.out.2.2.2.1
  have z11 := cells_of U2.out.sb V.out.2.2.2.2.1
  have z12 := cells_of U2.out.sb V.out.2.2.2.2.2.1
  have z13 := cells_of U2.out.sb V.out.2.2.2.2.2.2.1
  have z14 := cells_of U2.out.sb V.out.2.2.2.2.2.2.2.1
  have z15 := cells_of U2.out.sb V.out.2.2.2.2.2.2.2.2.1
  have z16 := cells_of U2.out.sb V.out.2.2.2.2.2.2.2.2.2.1
  have z17 := cells_of U2.out.sb V.out.2.2.2.2.2.2.2.2.2.2.1
  have z18 := cells_of U2.out.sb V.out.2.2.2.2.2.2.2.2.2.2.2.1
  have z19 := cells_of U2.out.sb V.out.2.2.2.2.2.2.2.2.2.2.2.2.1
  have z20 := cells_of U2.out.sb V.out.2.2.2.2.2.2.2.2.2.2.2.2.2
  go_wp2_with fail
  go_end0
  refine ⟨rfl, SA2, n2, c2, ?_, U2.out.cw⟩
  have e := U2.out.lw
  have hK := HK.out
  have ekB : kB (.cons h b1 b2 .nil) v = kH h v := by simp [kB, hK]
  have elB : lB (.cons h b1 b2 .nil) lb = lb := by simp [lB, hK]
  have ecB : codeB f.cs f.nl (.cons h b1 b2 .nil) v lb = codeH f.cs f.nl h v := by simp [codeB, hK]
  have ekH : kH h v = kP h v := by unfold kH; simp [hK]
  have ecH : codeH f.cs f.nl h v = codeP f.cs f.nl h v ++ [⟨3, (locN f.nl h.name : Nat), (varP h v : Nat), 0, 0, 0, (cix f.cs h.cell : Nat), 0, 0⟩] := by unfold codeH; simp [hK]
  rw [ekB, elB, ecB, ekH, ecH]
  simpa only [List.append_assoc, List.cons_append, List.nil_append] using e
set_option maxRecDepth 20000 in
set_option maxHeartbeats 6400000 in
theorem stmt_2 {w : World} {q : Nat} {f : Fl} {v : Nat} {SA : Option Addr} {n c : Nat} {sl : List St} {lb : Nat} {h : Hd} {b1 b2 : Bd} {vs : List Value} (hk : h.kind = 2) (hs : StP (Fr.Lo q) w h b1 b2 vs) (hL : Lw w q f v SA n c sl lb) (hcel : CelB f.cs (.cons h b1 b2 .nil)) (hcs : CellsOk f.cs) (hv : v + 12 * wtS h b1 b2 ≤ 5000000) (hn : n + 12 * wtS h b1 b2 ≤ 5000000) (hlb : lb + 12 * wtS h b1 b2 ≤ 5000000) :
    Calls Try.prog 74 #[.pointer (some ⟨q, 0, none⟩), .agg vs.toArray] w (LowA w q f v SA sl lb (.cons h b1 b2 .nil)) := by
  have U0 := Lib.hid (Lu.start hL (.cells vs.toArray 122))
  have AP := Lib.hid (lw_apart hL)
  have HS := Lib.hid hs
  have HCS := Lib.hid hcs
  have HCEL := Lib.hid hcel
  have hnl := hL.len
  have HII : Hid ((Try.prog.info? 122).map (·.size) = some vs.toArray.size) := Lib.hid (by rw [List.size_toArray, Fr.StP.len hs]; kernel_rfl)
  have hw := hv
  unfold wtS at hv hn hlb
  obtain ⟨vi, vx, vy, BA, bn, bc, EA, en, ec, hvs, hi, hx, hy, -, -, hB, hE⟩ := hs
  have XX := Lib.hid hx
  have XY := Lib.hid hy
  have XB := Lib.hid hB
  have XE := Lib.hid hE
  obtain ⟨i0, i1, i2, i3, i4, rfl⟩ := Fr.len5 (Fr.exP_len hi)
  obtain ⟨x0, x1, x2, x3, x4, rfl⟩ := Fr.len5 (Fr.exP_len hx)
  obtain ⟨y0, y1, y2, y3, y4, rfl⟩ := Fr.len5 (Fr.exP_len hy)
  have v0 : vs.toArray[0]? = some (.int .i64 2) := by rw [hvs]; simp only [stVs, hk]; rfl
  have v2 : vs.toArray[2]? = some (.string h.name) := by rw [hvs]; rfl
  have v9 : vs.toArray[9]? = some (x0) := by rw [hvs]; rfl
  have v10 : vs.toArray[10]? = some (x1) := by rw [hvs]; rfl
  have v11 : vs.toArray[11]? = some (x2) := by rw [hvs]; rfl
  have v12 : vs.toArray[12]? = some (x3) := by rw [hvs]; rfl
  have v13 : vs.toArray[13]? = some (x4) := by rw [hvs]; rfl
  have v14 : vs.toArray[14]? = some (y0) := by rw [hvs]; rfl
  have v15 : vs.toArray[15]? = some (y1) := by rw [hvs]; rfl
  have v16 : vs.toArray[16]? = some (y2) := by rw [hvs]; rfl
  have v17 : vs.toArray[17]? = some (y3) := by rw [hvs]; rfl
  have v18 : vs.toArray[18]? = some (y4) := by rw [hvs]; rfl
  have v19 : vs.toArray[19]? = some (.slice BA bn bc) := by rw [hvs]; rfl
  have v20 : vs.toArray[20]? = some (.slice EA en ec) := by rw [hvs]; rfl
  have V := Lib.hid (And.intro v0 (And.intro v2 (And.intro v9 (And.intro v10 (And.intro v11 (And.intro v12 (And.intro v13 (And.intro v14 (And.intro v15 (And.intro v16 (And.intro v17 (And.intro v18 (And.intro v19 v20)))))))))))))
  clear hvs hi hx hy hB hE v0 v2 v9 v10 v11 v12 v13 v14 v15 v16 v17 v18 v19 v20
  have HK := Lib.hid hk
  obtain ⟨W, hW⟩ : ∃ W, w.alloc (.cells vs.toArray 122) = W := ⟨_, rfl⟩
  rw [hW] at U0
  clear hk hL hcs hcel
  have HU : Try.prog.underlying 122 = some _ := Try.underlying122
  have z0 := cells_of U0.out.sb V.out.1
  have z2 := cells_of U0.out.sb V.out.2.1
  have z9 := cells_of U0.out.sb V.out.2.2.1
  have z10 := cells_of U0.out.sb V.out.2.2.2.1
  have z11 := cells_of U0.out.sb V.out.2.2.2.2.1
  have z12 := cells_of U0.out.sb V.out.2.2.2.2.2.1
  have z13 := cells_of U0.out.sb V.out.2.2.2.2.2.2.1
  have z14 := cells_of U0.out.sb V.out.2.2.2.2.2.2.2.1
  have z15 := cells_of U0.out.sb V.out.2.2.2.2.2.2.2.2.1
  have z16 := cells_of U0.out.sb V.out.2.2.2.2.2.2.2.2.2.1
  have z17 := cells_of U0.out.sb V.out.2.2.2.2.2.2.2.2.2.2.1
  have z18 := cells_of U0.out.sb V.out.2.2.2.2.2.2.2.2.2.2.2.1
  have z19 := cells_of U0.out.sb V.out.2.2.2.2.2.2.2.2.2.2.2.2.1
  have z20 := cells_of U0.out.sb V.out.2.2.2.2.2.2.2.2.2.2.2.2.2
  go_enter Try.func74, Try.ntmps74
  go_upto_region 1 with fail
  try rw [hW]
  clear hW
  go_wp2_with (first | (refine wpList_load_row rfl 122 (.tmp 3) rfl w.heap.size rfl 122 vs.toArray (0, 0) _ U0.out.sb HU rfl HII.out ?_) | fail)
  refine (place_any (stP_only U0.out.cw.only AP.out HS.out) U0.out.lw (by omega) (by omega) (HCEL.out.1 (by rw [HK.out]; rfl)) HCS.out).mono ?_
  rintro en w1 ⟨rfl, SA1, n1, c1, hl1, hc1⟩
  have U1 := Lib.hid (U0.out.step hl1 hc1)
  have hn1 : n1 ≤ n + 2 * lv h.i + 6 := by have := hl1.len; have := U0.out.lw.len; have := codeP_len f.cs f.nl h v; simp at *; omega
  have hv1 := kP_bd h v
  clear hl1 hc1 U0 z0 z2 z9 z10 z11 z12 z13 z14 z15 z16 z17 z18 z19 z20
  have z0 := cells_of U1.out.sb V.out.1
  have z2 := cells_of U1.out.sb V.out.2.1
  have z9 := cells_of U1.out.sb V.out.2.2.1
  have z10 := cells_of U1.out.sb V.out.2.2.2.1
  have z11 := cells_of U1.out.sb V.out.2.2.2.2.1
  have z12 := cells_of U1.out.sb V.out.2.2.2.2.2.1
  have z13 := cells_of U1.out.sb V.out.2.2.2.2.2.2.1
  have z14 := cells_of U1.out.sb V.out.2.2.2.2.2.2.2.1
  have z15 := cells_of U1.out.sb V.out.2.2.2.2.2.2.2.2.1
  have z16 := cells_of U1.out.sb V.out.2.2.2.2.2.2.2.2.2.1
  have z17 := cells_of U1.out.sb V.out.2.2.2.2.2.2.2.2.2.2.1
  have z18 := cells_of U1.out.sb V.out.2.2.2.2.2.2.2.2.2.2.2.1
  have z19 := cells_of U1.out.sb V.out.2.2.2.2.2.2.2.2.2.2.2.2.1
  have z20 := cells_of U1.out.sb V.out.2.2.2.2.2.2.2.2.2.2.2.2.2
  go_wp2_with (first | (refine wpList_load_row rfl 122 (.tmp 3) rfl w.heap.size rfl 122 vs.toArray (0, 0) _ U1.out.sb HU rfl HII.out ?_) | fail)
  refine (expr_any h.x (exP_only U1.out.cw.only AP.out XX.out) U1.out.lw (by omega) (by omega)).mono ?_
  rintro en w2 ⟨rfl, SA2, n2, c2, hl2, hc2⟩
  have U2 := Lib.hid (U1.out.step hl2 hc2)
  have hn2 : n2 ≤ n1 + 2 * lv h.x := by have := hl2.len; have := U1.out.lw.len; have := codeE_len f.nl h.x (kP h v); simp at *; omega
  have hv2 := kE_bd h.x (kP h v)
  clear hl2 hc2 U1 z0 z2 z9 z10 z11 z12 z13 z14 z15 z16 z17 z18 z19 z20
  have z0 := cells_of U2.out.sb V.out.1
  have z2 := cells_of U2.out.sb V.out.2.1
  have z9 := cells_of U2.out.sb V.out.2.2.1
  have z10 := cells_of U2.out.sb V.out.2.2.2.1
  have z11 := cells_of U2.out.sb V.out.2.2.2.2.1
  have z12 := cells_of U2.out.sb V.out.2.2.2.2.2.1
  have z13 := cells_of U2.out.sb V.out.2.2.2.2.2.2.1
  have z14 := cells_of U2.out.sb V.out.2.2.2.2.2.2.2.1
  have z15 := cells_of U2.out.sb V.out.2.2.2.2.2.2.2.2.1
  have z16 := cells_of U2.out.sb V.out.2.2.2.2.2.2.2.2.2.1
  have z17 := cells_of U2.out.sb V.out.2.2.2.2.2.2.2.2.2.2.1
  have z18 := cells_of U2.out.sb V.out.2.2.2.2.2.2.2.2.2.2.2.1
  have z19 := cells_of U2.out.sb V.out.2.2.2.2.2.2.2.2.2.2.2.2.1
  have z20 := cells_of U2.out.sb V.out.2.2.2.2.2.2.2.2.2.2.2.2.2
  go_wp2_with (first | (refine wpList_load_row rfl 122 (.tmp 3) rfl w.heap.size rfl 122 vs.toArray (0, 0) _ U2.out.sb HU rfl HII.out ?_) | fail)
  refine (step_any ⟨4, 0, (varP h v : Nat), (varE f.nl h.x (kP h v) : Nat), 0, 0, (cix f.cs h.cell : Nat), 0, 0⟩ U2.out.lw (by omega)).mono ?_
  rintro en w3 ⟨rfl, SA3, n3, c3, hl3, hc3⟩
  have U3 := Lib.hid (U2.out.step hl3 hc3)
  have hn3 : n3 = n2 + 1 := by have := hl3.len; have := U2.out.lw.len; simp at *; omega
  clear hl3 hc3 U2 z0 z2 z9 z10 z11 z12 z13 z14 z15 z16 z17 z18 z19 z20
  have z0 := cells_of U3.out.sb V.out.1
  have z2 := cells_of U3.out.sb V.out.2.1
  have z9 := cells_of U3.out.sb V.out.2.2.1
  have z10 := cells_of U3.out.sb V.out.2.2.2.1
  have z11 := cells_of U3.out.sb V.out.2.2.2.2.1
  have z12 := cells_of U3.out.sb V.out.2.2.2.2.2.1
  have z13 := cells_of U3.out.sb V.out.2.2.2.2.2.2.1
  have z14 := cells_of U3.out.sb V.out.2.2.2.2.2.2.2.1
  have z15 := cells_of U3.out.sb V.out.2.2.2.2.2.2.2.2.1
  have z16 := cells_of U3.out.sb V.out.2.2.2.2.2.2.2.2.2.1
  have z17 := cells_of U3.out.sb V.out.2.2.2.2.2.2.2.2.2.2.1
  have z18 := cells_of U3.out.sb V.out.2.2.2.2.2.2.2.2.2.2.2.1
  have z19 := cells_of U3.out.sb V.out.2.2.2.2.2.2.2.2.2.2.2.2.1
  have z20 := cells_of U3.out.sb V.out.2.2.2.2.2.2.2.2.2.2.2.2.2
  go_wp2_with fail
  go_end0
  refine ⟨rfl, SA3, n3, c3, ?_, U3.out.cw⟩
  have e := U3.out.lw
  have hK := HK.out
  have ekB : kB (.cons h b1 b2 .nil) v = kH h v := by simp [kB, hK]
  have elB : lB (.cons h b1 b2 .nil) lb = lb := by simp [lB, hK]
  have ecB : codeB f.cs f.nl (.cons h b1 b2 .nil) v lb = codeH f.cs f.nl h v := by simp [codeB, hK]
  have ekH : kH h v = kE h.x (kP h v) := by unfold kH; simp [hK]
  have ecH : codeH f.cs f.nl h v = codeP f.cs f.nl h v ++ codeE f.nl h.x (kP h v) ++ [⟨4, 0, (varP h v : Nat), (varE f.nl h.x (kP h v) : Nat), 0, 0, (cix f.cs h.cell : Nat), 0, 0⟩] := by unfold codeH; simp [hK]
  rw [ekB, elB, ecB, ekH, ecH]
  simpa only [List.append_assoc, List.cons_append, List.nil_append] using e
set_option maxRecDepth 20000 in
set_option maxHeartbeats 6400000 in
theorem stmt_3 {w : World} {q : Nat} {f : Fl} {v : Nat} {SA : Option Addr} {n c : Nat} {sl : List St} {lb : Nat} {h : Hd} {b1 b2 : Bd} {vs : List Value} (hk : h.kind = 3) (hs : StP (Fr.Lo q) w h b1 b2 vs) (hL : Lw w q f v SA n c sl lb) (hcel : CelB f.cs (.cons h b1 b2 .nil)) (hcs : CellsOk f.cs) (hv : v + 12 * wtS h b1 b2 ≤ 5000000) (hn : n + 12 * wtS h b1 b2 ≤ 5000000) (hlb : lb + 12 * wtS h b1 b2 ≤ 5000000) :
    Calls Try.prog 74 #[.pointer (some ⟨q, 0, none⟩), .agg vs.toArray] w (LowA w q f v SA sl lb (.cons h b1 b2 .nil)) := by
  have U0 := Lib.hid (Lu.start hL (.cells vs.toArray 122))
  have AP := Lib.hid (lw_apart hL)
  have HS := Lib.hid hs
  have HCS := Lib.hid hcs
  have HCEL := Lib.hid hcel
  have hnl := hL.len
  have HII : Hid ((Try.prog.info? 122).map (·.size) = some vs.toArray.size) := Lib.hid (by rw [List.size_toArray, Fr.StP.len hs]; kernel_rfl)
  have hw := hv
  unfold wtS at hv hn hlb
  obtain ⟨vi, vx, vy, BA, bn, bc, EA, en, ec, hvs, hi, hx, hy, -, -, hB, hE⟩ := hs
  have XX := Lib.hid hx
  have XY := Lib.hid hy
  have XB := Lib.hid hB
  have XE := Lib.hid hE
  obtain ⟨i0, i1, i2, i3, i4, rfl⟩ := Fr.len5 (Fr.exP_len hi)
  obtain ⟨x0, x1, x2, x3, x4, rfl⟩ := Fr.len5 (Fr.exP_len hx)
  obtain ⟨y0, y1, y2, y3, y4, rfl⟩ := Fr.len5 (Fr.exP_len hy)
  have v0 : vs.toArray[0]? = some (.int .i64 3) := by rw [hvs]; simp only [stVs, hk]; rfl
  have v2 : vs.toArray[2]? = some (.string h.name) := by rw [hvs]; rfl
  have v9 : vs.toArray[9]? = some (x0) := by rw [hvs]; rfl
  have v10 : vs.toArray[10]? = some (x1) := by rw [hvs]; rfl
  have v11 : vs.toArray[11]? = some (x2) := by rw [hvs]; rfl
  have v12 : vs.toArray[12]? = some (x3) := by rw [hvs]; rfl
  have v13 : vs.toArray[13]? = some (x4) := by rw [hvs]; rfl
  have v14 : vs.toArray[14]? = some (y0) := by rw [hvs]; rfl
  have v15 : vs.toArray[15]? = some (y1) := by rw [hvs]; rfl
  have v16 : vs.toArray[16]? = some (y2) := by rw [hvs]; rfl
  have v17 : vs.toArray[17]? = some (y3) := by rw [hvs]; rfl
  have v18 : vs.toArray[18]? = some (y4) := by rw [hvs]; rfl
  have v19 : vs.toArray[19]? = some (.slice BA bn bc) := by rw [hvs]; rfl
  have v20 : vs.toArray[20]? = some (.slice EA en ec) := by rw [hvs]; rfl
  have V := Lib.hid (And.intro v0 (And.intro v2 (And.intro v9 (And.intro v10 (And.intro v11 (And.intro v12 (And.intro v13 (And.intro v14 (And.intro v15 (And.intro v16 (And.intro v17 (And.intro v18 (And.intro v19 v20)))))))))))))
  clear hvs hi hx hy hB hE v0 v2 v9 v10 v11 v12 v13 v14 v15 v16 v17 v18 v19 v20
  have HK := Lib.hid hk
  obtain ⟨W, hW⟩ : ∃ W, w.alloc (.cells vs.toArray 122) = W := ⟨_, rfl⟩
  rw [hW] at U0
  clear hk hL hcs hcel
  have HU : Try.prog.underlying 122 = some _ := Try.underlying122
  have z0 := cells_of U0.out.sb V.out.1
  have z2 := cells_of U0.out.sb V.out.2.1
  have z9 := cells_of U0.out.sb V.out.2.2.1
  have z10 := cells_of U0.out.sb V.out.2.2.2.1
  have z11 := cells_of U0.out.sb V.out.2.2.2.2.1
  have z12 := cells_of U0.out.sb V.out.2.2.2.2.2.1
  have z13 := cells_of U0.out.sb V.out.2.2.2.2.2.2.1
  have z14 := cells_of U0.out.sb V.out.2.2.2.2.2.2.2.1
  have z15 := cells_of U0.out.sb V.out.2.2.2.2.2.2.2.2.1
  have z16 := cells_of U0.out.sb V.out.2.2.2.2.2.2.2.2.2.1
  have z17 := cells_of U0.out.sb V.out.2.2.2.2.2.2.2.2.2.2.1
  have z18 := cells_of U0.out.sb V.out.2.2.2.2.2.2.2.2.2.2.2.1
  have z19 := cells_of U0.out.sb V.out.2.2.2.2.2.2.2.2.2.2.2.2.1
  have z20 := cells_of U0.out.sb V.out.2.2.2.2.2.2.2.2.2.2.2.2.2
  go_enter Try.func74, Try.ntmps74
  go_upto_region 1 with fail
  try rw [hW]
  clear hW
  go_wp2_with (first | (refine wpList_load_row rfl 122 (.tmp 3) rfl w.heap.size rfl 122 vs.toArray (0, 0) _ U0.out.sb HU rfl HII.out ?_) | fail)
  refine (place_any (stP_only U0.out.cw.only AP.out HS.out) U0.out.lw (by omega) (by omega) (HCEL.out.1 (by rw [HK.out]; rfl)) HCS.out).mono ?_
  rintro en w1 ⟨rfl, SA1, n1, c1, hl1, hc1⟩
  have U1 := Lib.hid (U0.out.step hl1 hc1)
  have hn1 : n1 ≤ n + 2 * lv h.i + 6 := by have := hl1.len; have := U0.out.lw.len; have := codeP_len f.cs f.nl h v; simp at *; omega
  have hv1 := kP_bd h v
  clear hl1 hc1 U0 z0 z2 z9 z10 z11 z12 z13 z14 z15 z16 z17 z18 z19 z20
  have z0 := cells_of U1.out.sb V.out.1
  have z2 := cells_of U1.out.sb V.out.2.1
  have z9 := cells_of U1.out.sb V.out.2.2.1
  have z10 := cells_of U1.out.sb V.out.2.2.2.1
  have z11 := cells_of U1.out.sb V.out.2.2.2.2.1
  have z12 := cells_of U1.out.sb V.out.2.2.2.2.2.1
  have z13 := cells_of U1.out.sb V.out.2.2.2.2.2.2.1
  have z14 := cells_of U1.out.sb V.out.2.2.2.2.2.2.2.1
  have z15 := cells_of U1.out.sb V.out.2.2.2.2.2.2.2.2.1
  have z16 := cells_of U1.out.sb V.out.2.2.2.2.2.2.2.2.2.1
  have z17 := cells_of U1.out.sb V.out.2.2.2.2.2.2.2.2.2.2.1
  have z18 := cells_of U1.out.sb V.out.2.2.2.2.2.2.2.2.2.2.2.1
  have z19 := cells_of U1.out.sb V.out.2.2.2.2.2.2.2.2.2.2.2.2.1
  have z20 := cells_of U1.out.sb V.out.2.2.2.2.2.2.2.2.2.2.2.2.2
  go_wp2_with (first | (refine wpList_load_row rfl 122 (.tmp 3) rfl w.heap.size rfl 122 vs.toArray (0, 0) _ U1.out.sb HU rfl HII.out ?_) | fail)
  refine (expr_any h.x (exP_only U1.out.cw.only AP.out XX.out) U1.out.lw (by omega) (by omega)).mono ?_
  rintro en w2 ⟨rfl, SA2, n2, c2, hl2, hc2⟩
  have U2 := Lib.hid (U1.out.step hl2 hc2)
  have hn2 : n2 ≤ n1 + 2 * lv h.x := by have := hl2.len; have := U1.out.lw.len; have := codeE_len f.nl h.x (kP h v); simp at *; omega
  have hv2 := kE_bd h.x (kP h v)
  clear hl2 hc2 U1 z0 z2 z9 z10 z11 z12 z13 z14 z15 z16 z17 z18 z19 z20
  have z0 := cells_of U2.out.sb V.out.1
  have z2 := cells_of U2.out.sb V.out.2.1
  have z9 := cells_of U2.out.sb V.out.2.2.1
  have z10 := cells_of U2.out.sb V.out.2.2.2.1
  have z11 := cells_of U2.out.sb V.out.2.2.2.2.1
  have z12 := cells_of U2.out.sb V.out.2.2.2.2.2.1
  have z13 := cells_of U2.out.sb V.out.2.2.2.2.2.2.1
  have z14 := cells_of U2.out.sb V.out.2.2.2.2.2.2.2.1
  have z15 := cells_of U2.out.sb V.out.2.2.2.2.2.2.2.2.1
  have z16 := cells_of U2.out.sb V.out.2.2.2.2.2.2.2.2.2.1
  have z17 := cells_of U2.out.sb V.out.2.2.2.2.2.2.2.2.2.2.1
  have z18 := cells_of U2.out.sb V.out.2.2.2.2.2.2.2.2.2.2.2.1
  have z19 := cells_of U2.out.sb V.out.2.2.2.2.2.2.2.2.2.2.2.2.1
  have z20 := cells_of U2.out.sb V.out.2.2.2.2.2.2.2.2.2.2.2.2.2
  go_wp2_with (first | (refine wpList_load_row rfl 122 (.tmp 3) rfl w.heap.size rfl 122 vs.toArray (0, 0) _ U2.out.sb HU rfl HII.out ?_) | fail)
  refine (expr_any h.y (exP_only U2.out.cw.only AP.out XY.out) U2.out.lw (by omega) (by omega)).mono ?_
  rintro en w3 ⟨rfl, SA3, n3, c3, hl3, hc3⟩
  have U3 := Lib.hid (U2.out.step hl3 hc3)
  have hn3 : n3 ≤ n2 + 2 * lv h.y := by have := hl3.len; have := U2.out.lw.len; have := codeE_len f.nl h.y (kE h.x (kP h v)); simp at *; omega
  have hv3 := kE_bd h.y (kE h.x (kP h v))
  clear hl3 hc3 U2 z0 z2 z9 z10 z11 z12 z13 z14 z15 z16 z17 z18 z19 z20
  have z0 := cells_of U3.out.sb V.out.1
  have z2 := cells_of U3.out.sb V.out.2.1
  have z9 := cells_of U3.out.sb V.out.2.2.1
  have z10 := cells_of U3.out.sb V.out.2.2.2.1
  have z11 := cells_of U3.out.sb V.out.2.2.2.2.1
  have z12 := cells_of U3.out.sb V.out.2.2.2.2.2.1
  have z13 := cells_of U3.out.sb V.out.2.2.2.2.2.2.1
  have z14 := cells_of U3.out.sb V.out.2.2.2.2.2.2.2.1
  have z15 := cells_of U3.out.sb V.out.2.2.2.2.2.2.2.2.1
  have z16 := cells_of U3.out.sb V.out.2.2.2.2.2.2.2.2.2.1
  have z17 := cells_of U3.out.sb V.out.2.2.2.2.2.2.2.2.2.2.1
  have z18 := cells_of U3.out.sb V.out.2.2.2.2.2.2.2.2.2.2.2.1
  have z19 := cells_of U3.out.sb V.out.2.2.2.2.2.2.2.2.2.2.2.2.1
  have z20 := cells_of U3.out.sb V.out.2.2.2.2.2.2.2.2.2.2.2.2.2
  go_wp2_with (first | (refine wpList_load_row rfl 122 (.tmp 3) rfl w.heap.size rfl 122 vs.toArray (0, 0) _ U3.out.sb HU rfl HII.out ?_) | fail)
  refine (local_any h.name U3.out.lw).mono ?_
  rintro en w' ⟨rfl, rfl⟩
  go_wp2_with (first | (refine wpList_load_row rfl 122 (.tmp 3) rfl w.heap.size rfl 122 vs.toArray (0, 0) _ U3.out.sb HU rfl HII.out ?_) | fail)
  refine (step_any ⟨5, (locN f.nl h.name : Nat), (varP h v : Nat), (varE f.nl h.x (kP h v) : Nat), (varE f.nl h.y (kE h.x (kP h v)) : Nat), 0, (cix f.cs h.cell : Nat), 0, 0⟩ U3.out.lw (by omega)).mono ?_
  rintro en w4 ⟨rfl, SA4, n4, c4, hl4, hc4⟩
  have U4 := Lib.hid (U3.out.step hl4 hc4)
  have hn4 : n4 = n3 + 1 := by have := hl4.len; have := U3.out.lw.len; simp at *; omega
  clear hl4 hc4 U3 z0 z2 z9 z10 z11 z12 z13 z14 z15 z16 z17 z18 z19 z20
  have z0 := cells_of U4.out.sb V.out.1
  have z2 := cells_of U4.out.sb V.out.2.1
  have z9 := cells_of U4.out.sb V.out.2.2.1
  have z10 := cells_of U4.out.sb V.out.2.2.2.1
  have z11 := cells_of U4.out.sb V.out.2.2.2.2.1
  have z12 := cells_of U4.out.sb V.out.2.2.2.2.2.1
  have z13 := cells_of U4.out.sb V.out.2.2.2.2.2.2.1
  have z14 := cells_of U4.out.sb V.out.2.2.2.2.2.2.2.1
  have z15 := cells_of U4.out.sb V.out.2.2.2.2.2.2.2.2.1
  have z16 := cells_of U4.out.sb V.out.2.2.2.2.2.2.2.2.2.1
  have z17 := cells_of U4.out.sb V.out.2.2.2.2.2.2.2.2.2.2.1
  have z18 := cells_of U4.out.sb V.out.2.2.2.2.2.2.2.2.2.2.2.1
  have z19 := cells_of U4.out.sb V.out.2.2.2.2.2.2.2.2.2.2.2.2.1
  have z20 := cells_of U4.out.sb V.out.2.2.2.2.2.2.2.2.2.2.2.2.2
  go_wp2_with fail
  go_end0
  refine ⟨rfl, SA4, n4, c4, ?_, U4.out.cw⟩
  have e := U4.out.lw
  have hK := HK.out
  have ekB : kB (.cons h b1 b2 .nil) v = kH h v := by simp [kB, hK]
  have elB : lB (.cons h b1 b2 .nil) lb = lb := by simp [lB, hK]
  have ecB : codeB f.cs f.nl (.cons h b1 b2 .nil) v lb = codeH f.cs f.nl h v := by simp [codeB, hK]
  have ekH : kH h v = kE h.y (kE h.x (kP h v)) := by unfold kH; simp [hK]
  have ecH : codeH f.cs f.nl h v = codeP f.cs f.nl h v ++ codeE f.nl h.x (kP h v) ++ codeE f.nl h.y (kE h.x (kP h v)) ++ [⟨5, (locN f.nl h.name : Nat), (varP h v : Nat), (varE f.nl h.x (kP h v) : Nat), (varE f.nl h.y (kE h.x (kP h v)) : Nat), 0, (cix f.cs h.cell : Nat), 0, 0⟩] := by unfold codeH; simp [hK]
  rw [ekB, elB, ecB, ekH, ecH]
  simpa only [List.append_assoc, List.cons_append, List.nil_append] using e
set_option maxRecDepth 20000 in
set_option maxHeartbeats 6400000 in
theorem stmt_4 {w : World} {q : Nat} {f : Fl} {v : Nat} {SA : Option Addr} {n c : Nat} {sl : List St} {lb : Nat} {h : Hd} {b1 b2 : Bd} {vs : List Value} (hk : h.kind = 4) (hs : StP (Fr.Lo q) w h b1 b2 vs) (hL : Lw w q f v SA n c sl lb) (hcel : CelB f.cs (.cons h b1 b2 .nil)) (hcs : CellsOk f.cs) (hv : v + 12 * wtS h b1 b2 ≤ 5000000) (hn : n + 12 * wtS h b1 b2 ≤ 5000000) (hlb : lb + 12 * wtS h b1 b2 ≤ 5000000) :
    Calls Try.prog 74 #[.pointer (some ⟨q, 0, none⟩), .agg vs.toArray] w (LowA w q f v SA sl lb (.cons h b1 b2 .nil)) := by
  have U0 := Lib.hid (Lu.start hL (.cells vs.toArray 122))
  have AP := Lib.hid (lw_apart hL)
  have HS := Lib.hid hs
  have HCS := Lib.hid hcs
  have HCEL := Lib.hid hcel
  have hnl := hL.len
  have HII : Hid ((Try.prog.info? 122).map (·.size) = some vs.toArray.size) := Lib.hid (by rw [List.size_toArray, Fr.StP.len hs]; kernel_rfl)
  have hw := hv
  unfold wtS at hv hn hlb
  obtain ⟨vi, vx, vy, BA, bn, bc, EA, en, ec, hvs, hi, hx, hy, -, -, hB, hE⟩ := hs
  have XX := Lib.hid hx
  have XY := Lib.hid hy
  have XB := Lib.hid hB
  have XE := Lib.hid hE
  obtain ⟨i0, i1, i2, i3, i4, rfl⟩ := Fr.len5 (Fr.exP_len hi)
  obtain ⟨x0, x1, x2, x3, x4, rfl⟩ := Fr.len5 (Fr.exP_len hx)
  obtain ⟨y0, y1, y2, y3, y4, rfl⟩ := Fr.len5 (Fr.exP_len hy)
  have v0 : vs.toArray[0]? = some (.int .i64 4) := by rw [hvs]; simp only [stVs, hk]; rfl
  have v2 : vs.toArray[2]? = some (.string h.name) := by rw [hvs]; rfl
  have v9 : vs.toArray[9]? = some (x0) := by rw [hvs]; rfl
  have v10 : vs.toArray[10]? = some (x1) := by rw [hvs]; rfl
  have v11 : vs.toArray[11]? = some (x2) := by rw [hvs]; rfl
  have v12 : vs.toArray[12]? = some (x3) := by rw [hvs]; rfl
  have v13 : vs.toArray[13]? = some (x4) := by rw [hvs]; rfl
  have v14 : vs.toArray[14]? = some (y0) := by rw [hvs]; rfl
  have v15 : vs.toArray[15]? = some (y1) := by rw [hvs]; rfl
  have v16 : vs.toArray[16]? = some (y2) := by rw [hvs]; rfl
  have v17 : vs.toArray[17]? = some (y3) := by rw [hvs]; rfl
  have v18 : vs.toArray[18]? = some (y4) := by rw [hvs]; rfl
  have v19 : vs.toArray[19]? = some (.slice BA bn bc) := by rw [hvs]; rfl
  have v20 : vs.toArray[20]? = some (.slice EA en ec) := by rw [hvs]; rfl
  have V := Lib.hid (And.intro v0 (And.intro v2 (And.intro v9 (And.intro v10 (And.intro v11 (And.intro v12 (And.intro v13 (And.intro v14 (And.intro v15 (And.intro v16 (And.intro v17 (And.intro v18 (And.intro v19 v20)))))))))))))
  clear hvs hi hx hy hB hE v0 v2 v9 v10 v11 v12 v13 v14 v15 v16 v17 v18 v19 v20
  have HK := Lib.hid hk
  obtain ⟨W, hW⟩ : ∃ W, w.alloc (.cells vs.toArray 122) = W := ⟨_, rfl⟩
  rw [hW] at U0
  clear hk hL hcs hcel
  have HU : Try.prog.underlying 122 = some _ := Try.underlying122
  have z0 := cells_of U0.out.sb V.out.1
  have z2 := cells_of U0.out.sb V.out.2.1
  have z9 := cells_of U0.out.sb V.out.2.2.1
  have z10 := cells_of U0.out.sb V.out.2.2.2.1
  have z11 := cells_of U0.out.sb V.out.2.2.2.2.1
  have z12 := cells_of U0.out.sb V.out.2.2.2.2.2.1
  have z13 := cells_of U0.out.sb V.out.2.2.2.2.2.2.1
  have z14 := cells_of U0.out.sb V.out.2.2.2.2.2.2.2.1
  have z15 := cells_of U0.out.sb V.out.2.2.2.2.2.2.2.2.1
  have z16 := cells_of U0.out.sb V.out.2.2.2.2.2.2.2.2.2.1
  have z17 := cells_of U0.out.sb V.out.2.2.2.2.2.2.2.2.2.2.1
  have z18 := cells_of U0.out.sb V.out.2.2.2.2.2.2.2.2.2.2.2.1
  have z19 := cells_of U0.out.sb V.out.2.2.2.2.2.2.2.2.2.2.2.2.1
  have z20 := cells_of U0.out.sb V.out.2.2.2.2.2.2.2.2.2.2.2.2.2
  go_enter Try.func74, Try.ntmps74
  go_upto_region 1 with fail
  try rw [hW]
  clear hW
  go_wp2_with (first | (refine wpList_load_row rfl 122 (.tmp 3) rfl w.heap.size rfl 122 vs.toArray (0, 0) _ U0.out.sb HU rfl HII.out ?_) | fail)
  refine (step_any ⟨13, 0, 0, 0, 0, 0, 0, 0, 0⟩ U0.out.lw (by omega)).mono ?_
  rintro en w1 ⟨rfl, SA1, n1, c1, hl1, hc1⟩
  have U1 := Lib.hid (U0.out.step hl1 hc1)
  have hn1 : n1 = n + 1 := by have := hl1.len; have := U0.out.lw.len; simp at *; omega
  clear hl1 hc1 U0 z0 z2 z9 z10 z11 z12 z13 z14 z15 z16 z17 z18 z19 z20
  have z0 := cells_of U1.out.sb V.out.1
  have z2 := cells_of U1.out.sb V.out.2.1
  have z9 := cells_of U1.out.sb V.out.2.2.1
  have z10 := cells_of U1.out.sb V.out.2.2.2.1
  have z11 := cells_of U1.out.sb V.out.2.2.2.2.1
  have z12 := cells_of U1.out.sb V.out.2.2.2.2.2.1
  have z13 := cells_of U1.out.sb V.out.2.2.2.2.2.2.1
  have z14 := cells_of U1.out.sb V.out.2.2.2.2.2.2.2.1
  have z15 := cells_of U1.out.sb V.out.2.2.2.2.2.2.2.2.1
  have z16 := cells_of U1.out.sb V.out.2.2.2.2.2.2.2.2.2.1
  have z17 := cells_of U1.out.sb V.out.2.2.2.2.2.2.2.2.2.2.1
  have z18 := cells_of U1.out.sb V.out.2.2.2.2.2.2.2.2.2.2.2.1
  have z19 := cells_of U1.out.sb V.out.2.2.2.2.2.2.2.2.2.2.2.2.1
  have z20 := cells_of U1.out.sb V.out.2.2.2.2.2.2.2.2.2.2.2.2.2
  go_wp2_with fail
  go_end0
  refine ⟨rfl, SA1, n1, c1, ?_, U1.out.cw⟩
  have e := U1.out.lw
  have hK := HK.out
  have ekB : kB (.cons h b1 b2 .nil) v = kH h v := by simp [kB, hK]
  have elB : lB (.cons h b1 b2 .nil) lb = lb := by simp [lB, hK]
  have ecB : codeB f.cs f.nl (.cons h b1 b2 .nil) v lb = codeH f.cs f.nl h v := by simp [codeB, hK]
  have ekH : kH h v = v := by unfold kH; simp [hK]
  have ecH : codeH f.cs f.nl h v = [⟨13, 0, 0, 0, 0, 0, 0, 0, 0⟩] := by unfold codeH; simp [hK]
  rw [ekB, elB, ecB, ekH, ecH]
  simpa only [List.append_assoc, List.cons_append, List.nil_append] using e
set_option maxRecDepth 20000 in
set_option maxHeartbeats 6400000 in
theorem stmt_5 {w : World} {q : Nat} {f : Fl} {v : Nat} {SA : Option Addr} {n c : Nat} {sl : List St} {lb : Nat} {h : Hd} {b1 b2 : Bd} {vs : List Value} (hk : h.kind = 5) (hs : StP (Fr.Lo q) w h b1 b2 vs) (hL : Lw w q f v SA n c sl lb) (hcel : CelB f.cs (.cons h b1 b2 .nil)) (hcs : CellsOk f.cs) (hv : v + 12 * wtS h b1 b2 ≤ 5000000) (hn : n + 12 * wtS h b1 b2 ≤ 5000000) (hlb : lb + 12 * wtS h b1 b2 ≤ 5000000) :
    Calls Try.prog 74 #[.pointer (some ⟨q, 0, none⟩), .agg vs.toArray] w (LowA w q f v SA sl lb (.cons h b1 b2 .nil)) := by
  have U0 := Lib.hid (Lu.start hL (.cells vs.toArray 122))
  have AP := Lib.hid (lw_apart hL)
  have HS := Lib.hid hs
  have HCS := Lib.hid hcs
  have HCEL := Lib.hid hcel
  have hnl := hL.len
  have HII : Hid ((Try.prog.info? 122).map (·.size) = some vs.toArray.size) := Lib.hid (by rw [List.size_toArray, Fr.StP.len hs]; kernel_rfl)
  have hw := hv
  unfold wtS at hv hn hlb
  obtain ⟨vi, vx, vy, BA, bn, bc, EA, en, ec, hvs, hi, hx, hy, -, -, hB, hE⟩ := hs
  have XX := Lib.hid hx
  have XY := Lib.hid hy
  have XB := Lib.hid hB
  have XE := Lib.hid hE
  obtain ⟨i0, i1, i2, i3, i4, rfl⟩ := Fr.len5 (Fr.exP_len hi)
  obtain ⟨x0, x1, x2, x3, x4, rfl⟩ := Fr.len5 (Fr.exP_len hx)
  obtain ⟨y0, y1, y2, y3, y4, rfl⟩ := Fr.len5 (Fr.exP_len hy)
  have v0 : vs.toArray[0]? = some (.int .i64 5) := by rw [hvs]; simp only [stVs, hk]; rfl
  have v2 : vs.toArray[2]? = some (.string h.name) := by rw [hvs]; rfl
  have v9 : vs.toArray[9]? = some (x0) := by rw [hvs]; rfl
  have v10 : vs.toArray[10]? = some (x1) := by rw [hvs]; rfl
  have v11 : vs.toArray[11]? = some (x2) := by rw [hvs]; rfl
  have v12 : vs.toArray[12]? = some (x3) := by rw [hvs]; rfl
  have v13 : vs.toArray[13]? = some (x4) := by rw [hvs]; rfl
  have v14 : vs.toArray[14]? = some (y0) := by rw [hvs]; rfl
  have v15 : vs.toArray[15]? = some (y1) := by rw [hvs]; rfl
  have v16 : vs.toArray[16]? = some (y2) := by rw [hvs]; rfl
  have v17 : vs.toArray[17]? = some (y3) := by rw [hvs]; rfl
  have v18 : vs.toArray[18]? = some (y4) := by rw [hvs]; rfl
  have v19 : vs.toArray[19]? = some (.slice BA bn bc) := by rw [hvs]; rfl
  have v20 : vs.toArray[20]? = some (.slice EA en ec) := by rw [hvs]; rfl
  have V := Lib.hid (And.intro v0 (And.intro v2 (And.intro v9 (And.intro v10 (And.intro v11 (And.intro v12 (And.intro v13 (And.intro v14 (And.intro v15 (And.intro v16 (And.intro v17 (And.intro v18 (And.intro v19 v20)))))))))))))
  clear hvs hi hx hy hB hE v0 v2 v9 v10 v11 v12 v13 v14 v15 v16 v17 v18 v19 v20
  have HK := Lib.hid hk
  obtain ⟨W, hW⟩ : ∃ W, w.alloc (.cells vs.toArray 122) = W := ⟨_, rfl⟩
  rw [hW] at U0
  clear hk hL hcs hcel
  have HU : Try.prog.underlying 122 = some _ := Try.underlying122
  have z0 := cells_of U0.out.sb V.out.1
  have z2 := cells_of U0.out.sb V.out.2.1
  have z9 := cells_of U0.out.sb V.out.2.2.1
  have z10 := cells_of U0.out.sb V.out.2.2.2.1
  have z11 := cells_of U0.out.sb V.out.2.2.2.2.1
  have z12 := cells_of U0.out.sb V.out.2.2.2.2.2.1
  have z13 := cells_of U0.out.sb V.out.2.2.2.2.2.2.1
  have z14 := cells_of U0.out.sb V.out.2.2.2.2.2.2.2.1
  have z15 := cells_of U0.out.sb V.out.2.2.2.2.2.2.2.2.1
  have z16 := cells_of U0.out.sb V.out.2.2.2.2.2.2.2.2.2.1
  have z17 := cells_of U0.out.sb V.out.2.2.2.2.2.2.2.2.2.2.1
  have z18 := cells_of U0.out.sb V.out.2.2.2.2.2.2.2.2.2.2.2.1
  have z19 := cells_of U0.out.sb V.out.2.2.2.2.2.2.2.2.2.2.2.2.1
  have z20 := cells_of U0.out.sb V.out.2.2.2.2.2.2.2.2.2.2.2.2.2
  go_enter Try.func74, Try.ntmps74
  go_upto_region 1 with fail
  try rw [hW]
  clear hW
  go_wp2_with (first | (refine wpList_load_row rfl 122 (.tmp 3) rfl w.heap.size rfl 122 vs.toArray (0, 0) _ U0.out.sb HU rfl HII.out ?_) | fail)
  refine (expr_any h.x (exP_only U0.out.cw.only AP.out XX.out) U0.out.lw (by omega) (by omega)).mono ?_
  rintro en w1 ⟨rfl, SA1, n1, c1, hl1, hc1⟩
  have U1 := Lib.hid (U0.out.step hl1 hc1)
  have hn1 : n1 ≤ n + 2 * lv h.x := by have := hl1.len; have := U0.out.lw.len; have := codeE_len f.nl h.x v; simp at *; omega
  have hv1 := kE_bd h.x v
  clear hl1 hc1 U0 z0 z2 z9 z10 z11 z12 z13 z14 z15 z16 z17 z18 z19 z20
  have z0 := cells_of U1.out.sb V.out.1
  have z2 := cells_of U1.out.sb V.out.2.1
  have z9 := cells_of U1.out.sb V.out.2.2.1
  have z10 := cells_of U1.out.sb V.out.2.2.2.1
  have z11 := cells_of U1.out.sb V.out.2.2.2.2.1
  have z12 := cells_of U1.out.sb V.out.2.2.2.2.2.1
  have z13 := cells_of U1.out.sb V.out.2.2.2.2.2.2.1
  have z14 := cells_of U1.out.sb V.out.2.2.2.2.2.2.2.1
  have z15 := cells_of U1.out.sb V.out.2.2.2.2.2.2.2.2.1
  have z16 := cells_of U1.out.sb V.out.2.2.2.2.2.2.2.2.2.1
  have z17 := cells_of U1.out.sb V.out.2.2.2.2.2.2.2.2.2.2.1
  have z18 := cells_of U1.out.sb V.out.2.2.2.2.2.2.2.2.2.2.2.1
  have z19 := cells_of U1.out.sb V.out.2.2.2.2.2.2.2.2.2.2.2.2.1
  have z20 := cells_of U1.out.sb V.out.2.2.2.2.2.2.2.2.2.2.2.2.2
  go_wp2_with (first | (refine wpList_load_row rfl 122 (.tmp 3) rfl w.heap.size rfl 122 vs.toArray (0, 0) _ U1.out.sb HU rfl HII.out ?_) | fail)
  refine (step_any ⟨8, 0, (varE f.nl h.x v : Nat), 0, 0, 0, 0, 0, 0⟩ U1.out.lw (by omega)).mono ?_
  rintro en w2 ⟨rfl, SA2, n2, c2, hl2, hc2⟩
  have U2 := Lib.hid (U1.out.step hl2 hc2)
  have hn2 : n2 = n1 + 1 := by have := hl2.len; have := U1.out.lw.len; simp at *; omega
  clear hl2 hc2 U1 z0 z2 z9 z10 z11 z12 z13 z14 z15 z16 z17 z18 z19 z20
  have z0 := cells_of U2.out.sb V.out.1
  have z2 := cells_of U2.out.sb V.out.2.1
  have z9 := cells_of U2.out.sb V.out.2.2.1
  have z10 := cells_of U2.out.sb V.out.2.2.2.1
  have z11 := cells_of U2.out.sb V.out.2.2.2.2.1
  have z12 := cells_of U2.out.sb V.out.2.2.2.2.2.1
  have z13 := cells_of U2.out.sb V.out.2.2.2.2.2.2.1
  have z14 := cells_of U2.out.sb V.out.2.2.2.2.2.2.2.1
  have z15 := cells_of U2.out.sb V.out.2.2.2.2.2.2.2.2.1
  have z16 := cells_of U2.out.sb V.out.2.2.2.2.2.2.2.2.2.1
  have z17 := cells_of U2.out.sb V.out.2.2.2.2.2.2.2.2.2.2.1
  have z18 := cells_of U2.out.sb V.out.2.2.2.2.2.2.2.2.2.2.2.1
  have z19 := cells_of U2.out.sb V.out.2.2.2.2.2.2.2.2.2.2.2.2.1
  have z20 := cells_of U2.out.sb V.out.2.2.2.2.2.2.2.2.2.2.2.2.2
  go_wp2_with fail
  go_end0
  refine ⟨rfl, SA2, n2, c2, ?_, U2.out.cw⟩
  have e := U2.out.lw
  have hK := HK.out
  have ekB : kB (.cons h b1 b2 .nil) v = kH h v := by simp [kB, hK]
  have elB : lB (.cons h b1 b2 .nil) lb = lb := by simp [lB, hK]
  have ecB : codeB f.cs f.nl (.cons h b1 b2 .nil) v lb = codeH f.cs f.nl h v := by simp [codeB, hK]
  have ekH : kH h v = kE h.x v := by unfold kH; simp [hK]
  have ecH : codeH f.cs f.nl h v = codeE f.nl h.x v ++ [⟨8, 0, (varE f.nl h.x v : Nat), 0, 0, 0, 0, 0, 0⟩] := by unfold codeH; simp [hK]
  rw [ekB, elB, ecB, ekH, ecH]
  simpa only [List.append_assoc, List.cons_append, List.nil_append] using e
set_option maxRecDepth 20000 in
set_option maxHeartbeats 6400000 in
theorem stmt_6 {w : World} {q : Nat} {f : Fl} {v : Nat} {SA : Option Addr} {n c : Nat} {sl : List St} {lb : Nat} {h : Hd} {b1 b2 : Bd} {vs : List Value} (hk : h.kind = 6) (IH : ∀ j, j < wtS h b1 b2 → Bl j) (hs : StP (Fr.Lo q) w h b1 b2 vs) (hL : Lw w q f v SA n c sl lb) (hcel : CelB f.cs (.cons h b1 b2 .nil)) (hcs : CellsOk f.cs) (hv : v + 12 * wtS h b1 b2 ≤ 5000000) (hn : n + 12 * wtS h b1 b2 ≤ 5000000) (hlb : lb + 12 * wtS h b1 b2 ≤ 5000000) :
    Calls Try.prog 74 #[.pointer (some ⟨q, 0, none⟩), .agg vs.toArray] w (LowA w q f v SA sl lb (.cons h b1 b2 .nil)) := by
  have U0 := Lib.hid (Lu.start hL (.cells vs.toArray 122))
  have AP := Lib.hid (lw_apart hL)
  have HS := Lib.hid hs
  have HCS := Lib.hid hcs
  have HCEL := Lib.hid hcel
  have hnl := hL.len
  have HII : Hid ((Try.prog.info? 122).map (·.size) = some vs.toArray.size) := Lib.hid (by rw [List.size_toArray, Fr.StP.len hs]; kernel_rfl)
  have IHH := Lib.hid IH
  have hw := hv
  unfold wtS at hv hn hlb
  obtain ⟨vi, vx, vy, BA, bn, bc, EA, en, ec, hvs, hi, hx, hy, -, -, hB, hE⟩ := hs
  have XX := Lib.hid hx
  have XY := Lib.hid hy
  have XB := Lib.hid hB
  have XE := Lib.hid hE
  obtain ⟨i0, i1, i2, i3, i4, rfl⟩ := Fr.len5 (Fr.exP_len hi)
  obtain ⟨x0, x1, x2, x3, x4, rfl⟩ := Fr.len5 (Fr.exP_len hx)
  obtain ⟨y0, y1, y2, y3, y4, rfl⟩ := Fr.len5 (Fr.exP_len hy)
  have v0 : vs.toArray[0]? = some (.int .i64 6) := by rw [hvs]; simp only [stVs, hk]; rfl
  have v2 : vs.toArray[2]? = some (.string h.name) := by rw [hvs]; rfl
  have v9 : vs.toArray[9]? = some (x0) := by rw [hvs]; rfl
  have v10 : vs.toArray[10]? = some (x1) := by rw [hvs]; rfl
  have v11 : vs.toArray[11]? = some (x2) := by rw [hvs]; rfl
  have v12 : vs.toArray[12]? = some (x3) := by rw [hvs]; rfl
  have v13 : vs.toArray[13]? = some (x4) := by rw [hvs]; rfl
  have v14 : vs.toArray[14]? = some (y0) := by rw [hvs]; rfl
  have v15 : vs.toArray[15]? = some (y1) := by rw [hvs]; rfl
  have v16 : vs.toArray[16]? = some (y2) := by rw [hvs]; rfl
  have v17 : vs.toArray[17]? = some (y3) := by rw [hvs]; rfl
  have v18 : vs.toArray[18]? = some (y4) := by rw [hvs]; rfl
  have v19 : vs.toArray[19]? = some (.slice BA bn bc) := by rw [hvs]; rfl
  have v20 : vs.toArray[20]? = some (.slice EA en ec) := by rw [hvs]; rfl
  have V := Lib.hid (And.intro v0 (And.intro v2 (And.intro v9 (And.intro v10 (And.intro v11 (And.intro v12 (And.intro v13 (And.intro v14 (And.intro v15 (And.intro v16 (And.intro v17 (And.intro v18 (And.intro v19 v20)))))))))))))
  clear hvs hi hx hy hB hE v0 v2 v9 v10 v11 v12 v13 v14 v15 v16 v17 v18 v19 v20
  have HK := Lib.hid hk
  obtain ⟨W, hW⟩ : ∃ W, w.alloc (.cells vs.toArray 122) = W := ⟨_, rfl⟩
  rw [hW] at U0
  clear hk hL hcs hcel IH
  have HU : Try.prog.underlying 122 = some _ := Try.underlying122
  have z0 := cells_of U0.out.sb V.out.1
  have z2 := cells_of U0.out.sb V.out.2.1
  have z9 := cells_of U0.out.sb V.out.2.2.1
  have z10 := cells_of U0.out.sb V.out.2.2.2.1
  have z11 := cells_of U0.out.sb V.out.2.2.2.2.1
  have z12 := cells_of U0.out.sb V.out.2.2.2.2.2.1
  have z13 := cells_of U0.out.sb V.out.2.2.2.2.2.2.1
  have z14 := cells_of U0.out.sb V.out.2.2.2.2.2.2.2.1
  have z15 := cells_of U0.out.sb V.out.2.2.2.2.2.2.2.2.1
  have z16 := cells_of U0.out.sb V.out.2.2.2.2.2.2.2.2.2.1
  have z17 := cells_of U0.out.sb V.out.2.2.2.2.2.2.2.2.2.2.1
  have z18 := cells_of U0.out.sb V.out.2.2.2.2.2.2.2.2.2.2.2.1
  have z19 := cells_of U0.out.sb V.out.2.2.2.2.2.2.2.2.2.2.2.2.1
  have z20 := cells_of U0.out.sb V.out.2.2.2.2.2.2.2.2.2.2.2.2.2
  go_enter Try.func74, Try.ntmps74
  go_upto_region 1 with fail
  try rw [hW]
  clear hW
  go_wp2_with (first | (refine wpList_load_row rfl 122 (.tmp 3) rfl w.heap.size rfl 122 vs.toArray (0, 0) _ U0.out.sb HU rfl HII.out ?_) | fail)
  refine (label_any U0.out.lw (by omega)).mono ?_
  rintro en w1 ⟨rfl, hl1, hc1⟩
  have U1 := Lib.hid (U0.out.step hl1 hc1)
  obtain ⟨l1, hl1⟩ : ∃ m, lb + 1 = m := ⟨_, rfl⟩
  rw [hl1] at U1
  have Hl1 := Lib.hid hl1
  have el1 : l1 ≤ lb + 1 := by omega
  clear hl1
  clear hl1 hc1 U0 z0 z2 z9 z10 z11 z12 z13 z14 z15 z16 z17 z18 z19 z20
  have z0 := cells_of U1.out.sb V.out.1
  have z2 := cells_of U1.out.sb V.out.2.1
  have z9 := cells_of U1.out.sb V.out.2.2.1
  have z10 := cells_of U1.out.sb V.out.2.2.2.1
  have z11 := cells_of U1.out.sb V.out.2.2.2.2.1
  have z12 := cells_of U1.out.sb V.out.2.2.2.2.2.1
  have z13 := cells_of U1.out.sb V.out.2.2.2.2.2.2.1
  have z14 := cells_of U1.out.sb V.out.2.2.2.2.2.2.2.1
  have z15 := cells_of U1.out.sb V.out.2.2.2.2.2.2.2.2.1
  have z16 := cells_of U1.out.sb V.out.2.2.2.2.2.2.2.2.2.1
  have z17 := cells_of U1.out.sb V.out.2.2.2.2.2.2.2.2.2.2.1
  have z18 := cells_of U1.out.sb V.out.2.2.2.2.2.2.2.2.2.2.2.1
  have z19 := cells_of U1.out.sb V.out.2.2.2.2.2.2.2.2.2.2.2.2.1
  have z20 := cells_of U1.out.sb V.out.2.2.2.2.2.2.2.2.2.2.2.2.2
  go_wp2_with (first | (refine wpList_load_row rfl 122 (.tmp 3) rfl w.heap.size rfl 122 vs.toArray (0, 0) _ U1.out.sb HU rfl HII.out ?_) | fail)
  refine (label_any U1.out.lw (by omega)).mono ?_
  rintro en w2 ⟨rfl, hl2, hc2⟩
  have U2 := Lib.hid (U1.out.step hl2 hc2)
  obtain ⟨l2, hl2⟩ : ∃ m, l1 + 1 = m := ⟨_, rfl⟩
  rw [hl2] at U2
  have Hl2 := Lib.hid hl2
  have el2 : l2 ≤ l1 + 1 := by omega
  clear hl2
  clear hl2 hc2 U1 z0 z2 z9 z10 z11 z12 z13 z14 z15 z16 z17 z18 z19 z20
  have z0 := cells_of U2.out.sb V.out.1
  have z2 := cells_of U2.out.sb V.out.2.1
  have z9 := cells_of U2.out.sb V.out.2.2.1
  have z10 := cells_of U2.out.sb V.out.2.2.2.1
  have z11 := cells_of U2.out.sb V.out.2.2.2.2.1
  have z12 := cells_of U2.out.sb V.out.2.2.2.2.2.1
  have z13 := cells_of U2.out.sb V.out.2.2.2.2.2.2.1
  have z14 := cells_of U2.out.sb V.out.2.2.2.2.2.2.2.1
  have z15 := cells_of U2.out.sb V.out.2.2.2.2.2.2.2.2.1
  have z16 := cells_of U2.out.sb V.out.2.2.2.2.2.2.2.2.2.1
  have z17 := cells_of U2.out.sb V.out.2.2.2.2.2.2.2.2.2.2.1
  have z18 := cells_of U2.out.sb V.out.2.2.2.2.2.2.2.2.2.2.2.1
  have z19 := cells_of U2.out.sb V.out.2.2.2.2.2.2.2.2.2.2.2.2.1
  have z20 := cells_of U2.out.sb V.out.2.2.2.2.2.2.2.2.2.2.2.2.2
  go_wp2_with (first | (refine wpList_load_row rfl 122 (.tmp 3) rfl w.heap.size rfl 122 vs.toArray (0, 0) _ U2.out.sb HU rfl HII.out ?_) | fail)
  refine (expr_any h.x (exP_only U2.out.cw.only AP.out XX.out) U2.out.lw (by omega) (by omega)).mono ?_
  rintro en w3 ⟨rfl, SA3, n3, c3, hl3, hc3⟩
  have U3 := Lib.hid (U2.out.step hl3 hc3)
  have hn3 : n3 ≤ n + 2 * lv h.x := by have := hl3.len; have := U2.out.lw.len; have := codeE_len f.nl h.x v; simp at *; omega
  have hv3 := kE_bd h.x v
  clear hl3 hc3 U2 z0 z2 z9 z10 z11 z12 z13 z14 z15 z16 z17 z18 z19 z20
  have z0 := cells_of U3.out.sb V.out.1
  have z2 := cells_of U3.out.sb V.out.2.1
  have z9 := cells_of U3.out.sb V.out.2.2.1
  have z10 := cells_of U3.out.sb V.out.2.2.2.1
  have z11 := cells_of U3.out.sb V.out.2.2.2.2.1
  have z12 := cells_of U3.out.sb V.out.2.2.2.2.2.1
  have z13 := cells_of U3.out.sb V.out.2.2.2.2.2.2.1
  have z14 := cells_of U3.out.sb V.out.2.2.2.2.2.2.2.1
  have z15 := cells_of U3.out.sb V.out.2.2.2.2.2.2.2.2.1
  have z16 := cells_of U3.out.sb V.out.2.2.2.2.2.2.2.2.2.1
  have z17 := cells_of U3.out.sb V.out.2.2.2.2.2.2.2.2.2.2.1
  have z18 := cells_of U3.out.sb V.out.2.2.2.2.2.2.2.2.2.2.2.1
  have z19 := cells_of U3.out.sb V.out.2.2.2.2.2.2.2.2.2.2.2.2.1
  have z20 := cells_of U3.out.sb V.out.2.2.2.2.2.2.2.2.2.2.2.2.2
  go_wp2_with (first | (refine wpList_load_row rfl 122 (.tmp 3) rfl w.heap.size rfl 122 vs.toArray (0, 0) _ U3.out.sb HU rfl HII.out ?_) | fail)
  refine (step_any (sZero (varE f.nl h.x v) lb) U3.out.lw (by omega)).mono ?_
  rintro en w4 ⟨rfl, SA4, n4, c4, hl4, hc4⟩
  have U4 := Lib.hid (U3.out.step hl4 hc4)
  have hn4 : n4 = n3 + 1 := by have := hl4.len; have := U3.out.lw.len; simp at *; omega
  clear hl4 hc4 U3 z0 z2 z9 z10 z11 z12 z13 z14 z15 z16 z17 z18 z19 z20
  have z0 := cells_of U4.out.sb V.out.1
  have z2 := cells_of U4.out.sb V.out.2.1
  have z9 := cells_of U4.out.sb V.out.2.2.1
  have z10 := cells_of U4.out.sb V.out.2.2.2.1
  have z11 := cells_of U4.out.sb V.out.2.2.2.2.1
  have z12 := cells_of U4.out.sb V.out.2.2.2.2.2.1
  have z13 := cells_of U4.out.sb V.out.2.2.2.2.2.2.1
  have z14 := cells_of U4.out.sb V.out.2.2.2.2.2.2.2.1
  have z15 := cells_of U4.out.sb V.out.2.2.2.2.2.2.2.2.1
  have z16 := cells_of U4.out.sb V.out.2.2.2.2.2.2.2.2.2.1
  have z17 := cells_of U4.out.sb V.out.2.2.2.2.2.2.2.2.2.2.1
  have z18 := cells_of U4.out.sb V.out.2.2.2.2.2.2.2.2.2.2.2.1
  have z19 := cells_of U4.out.sb V.out.2.2.2.2.2.2.2.2.2.2.2.2.1
  have z20 := cells_of U4.out.sb V.out.2.2.2.2.2.2.2.2.2.2.2.2.2
  go_wp2_with (first | (refine wpList_load_row rfl 122 (.tmp 3) rfl w.heap.size rfl 122 vs.toArray (0, 0) _ U4.out.sb HU rfl HII.out ?_) | fail)
  refine ((IHH.out (bsz b1) (by unfold wtS; omega)).go (Nat.le_refl _) (isP_only U4.out.cw.only AP.out XB.out) U4.out.lw (HCEL.out.2.1 (.inl HK.out)) HCS.out (by omega) (by omega) (by omega)).mono ?_
  rintro en w5 ⟨rfl, SA5, n5, c5, hl5, hc5⟩
  have U5 := Lib.hid (U4.out.step hl5 hc5)
  have hn5 : n5 ≤ n4 + 10 * bsz b1 := by have := hl5.len; have := U4.out.lw.len; have := codeB_len f.cs f.nl b1 (kE h.x v) l2; simp at *; omega
  have hv5 := kB_bd b1 (kE h.x v)
  have hb5 := lB_bd b1 l2
  clear hl5 hc5 U4 z0 z2 z9 z10 z11 z12 z13 z14 z15 z16 z17 z18 z19 z20
  have z0 := cells_of U5.out.sb V.out.1
  have z2 := cells_of U5.out.sb V.out.2.1
  have z9 := cells_of U5.out.sb V.out.2.2.1
  have z10 := cells_of U5.out.sb V.out.2.2.2.1
  have z11 := cells_of U5.out.sb V.out.2.2.2.2.1
  have z12 := cells_of U5.out.sb V.out.2.2.2.2.2.1
  have z13 := cells_of U5.out.sb V.out.2.2.2.2.2.2.1
  have z14 := cells_of U5.out.sb V.out.2.2.2.2.2.2.2.1
  have z15 := cells_of U5.out.sb V.out.2.2.2.2.2.2.2.2.1
  have z16 := cells_of U5.out.sb V.out.2.2.2.2.2.2.2.2.2.1
  have z17 := cells_of U5.out.sb V.out.2.2.2.2.2.2.2.2.2.2.1
  have z18 := cells_of U5.out.sb V.out.2.2.2.2.2.2.2.2.2.2.2.1
  have z19 := cells_of U5.out.sb V.out.2.2.2.2.2.2.2.2.2.2.2.2.1
  have z20 := cells_of U5.out.sb V.out.2.2.2.2.2.2.2.2.2.2.2.2.2
  go_wp2_with (first | (refine wpList_load_row rfl 122 (.tmp 3) rfl w.heap.size rfl 122 vs.toArray (0, 0) _ U5.out.sb HU rfl HII.out ?_) | fail)
  refine (step_any (sJump l1) U5.out.lw (by omega)).mono ?_
  rintro en w6 ⟨rfl, SA6, n6, c6, hl6, hc6⟩
  have U6 := Lib.hid (U5.out.step hl6 hc6)
  have hn6 : n6 = n5 + 1 := by have := hl6.len; have := U5.out.lw.len; simp at *; omega
  clear hl6 hc6 U5 z0 z2 z9 z10 z11 z12 z13 z14 z15 z16 z17 z18 z19 z20
  have z0 := cells_of U6.out.sb V.out.1
  have z2 := cells_of U6.out.sb V.out.2.1
  have z9 := cells_of U6.out.sb V.out.2.2.1
  have z10 := cells_of U6.out.sb V.out.2.2.2.1
  have z11 := cells_of U6.out.sb V.out.2.2.2.2.1
  have z12 := cells_of U6.out.sb V.out.2.2.2.2.2.1
  have z13 := cells_of U6.out.sb V.out.2.2.2.2.2.2.1
  have z14 := cells_of U6.out.sb V.out.2.2.2.2.2.2.2.1
  have z15 := cells_of U6.out.sb V.out.2.2.2.2.2.2.2.2.1
  have z16 := cells_of U6.out.sb V.out.2.2.2.2.2.2.2.2.2.1
  have z17 := cells_of U6.out.sb V.out.2.2.2.2.2.2.2.2.2.2.1
  have z18 := cells_of U6.out.sb V.out.2.2.2.2.2.2.2.2.2.2.2.1
  have z19 := cells_of U6.out.sb V.out.2.2.2.2.2.2.2.2.2.2.2.2.1
  have z20 := cells_of U6.out.sb V.out.2.2.2.2.2.2.2.2.2.2.2.2.2
  go_wp2_with (first | (refine wpList_load_row rfl 122 (.tmp 3) rfl w.heap.size rfl 122 vs.toArray (0, 0) _ U6.out.sb HU rfl HII.out ?_) | fail)
  refine (step_any (sLab lb) U6.out.lw (by omega)).mono ?_
  rintro en w7 ⟨rfl, SA7, n7, c7, hl7, hc7⟩
  have U7 := Lib.hid (U6.out.step hl7 hc7)
  have hn7 : n7 = n6 + 1 := by have := hl7.len; have := U6.out.lw.len; simp at *; omega
  clear hl7 hc7 U6 z0 z2 z9 z10 z11 z12 z13 z14 z15 z16 z17 z18 z19 z20
  have z0 := cells_of U7.out.sb V.out.1
  have z2 := cells_of U7.out.sb V.out.2.1
  have z9 := cells_of U7.out.sb V.out.2.2.1
  have z10 := cells_of U7.out.sb V.out.2.2.2.1
  have z11 := cells_of U7.out.sb V.out.2.2.2.2.1
  have z12 := cells_of U7.out.sb V.out.2.2.2.2.2.1
  have z13 := cells_of U7.out.sb V.out.2.2.2.2.2.2.1
  have z14 := cells_of U7.out.sb V.out.2.2.2.2.2.2.2.1
  have z15 := cells_of U7.out.sb V.out.2.2.2.2.2.2.2.2.1
  have z16 := cells_of U7.out.sb V.out.2.2.2.2.2.2.2.2.2.1
  have z17 := cells_of U7.out.sb V.out.2.2.2.2.2.2.2.2.2.2.1
  have z18 := cells_of U7.out.sb V.out.2.2.2.2.2.2.2.2.2.2.2.1
  have z19 := cells_of U7.out.sb V.out.2.2.2.2.2.2.2.2.2.2.2.2.1
  have z20 := cells_of U7.out.sb V.out.2.2.2.2.2.2.2.2.2.2.2.2.2
  go_wp2_with (first | (refine wpList_load_row rfl 122 (.tmp 3) rfl w.heap.size rfl 122 vs.toArray (0, 0) _ U7.out.sb HU rfl HII.out ?_) | fail)
  refine ((IHH.out (bsz b2) (by unfold wtS; omega)).go (Nat.le_refl _) (isP_only U7.out.cw.only AP.out XE.out) U7.out.lw (HCEL.out.2.2.1 HK.out) HCS.out (by omega) (by omega) (by omega)).mono ?_
  rintro en w8 ⟨rfl, SA8, n8, c8, hl8, hc8⟩
  have U8 := Lib.hid (U7.out.step hl8 hc8)
  have hn8 : n8 ≤ n7 + 10 * bsz b2 := by have := hl8.len; have := U7.out.lw.len; have := codeB_len f.cs f.nl b2 (kB b1 (kE h.x v)) (lB b1 l2); simp at *; omega
  have hv8 := kB_bd b2 (kB b1 (kE h.x v))
  have hb8 := lB_bd b2 (lB b1 l2)
  clear hl8 hc8 U7 z0 z2 z9 z10 z11 z12 z13 z14 z15 z16 z17 z18 z19 z20
  have z0 := cells_of U8.out.sb V.out.1
  have z2 := cells_of U8.out.sb V.out.2.1
  have z9 := cells_of U8.out.sb V.out.2.2.1
  have z10 := cells_of U8.out.sb V.out.2.2.2.1
  have z11 := cells_of U8.out.sb V.out.2.2.2.2.1
  have z12 := cells_of U8.out.sb V.out.2.2.2.2.2.1
  have z13 := cells_of U8.out.sb V.out.2.2.2.2.2.2.1
  have z14 := cells_of U8.out.sb V.out.2.2.2.2.2.2.2.1
  have z15 := cells_of U8.out.sb V.out.2.2.2.2.2.2.2.2.1
  have z16 := cells_of U8.out.sb V.out.2.2.2.2.2.2.2.2.2.1
  have z17 := cells_of U8.out.sb V.out.2.2.2.2.2.2.2.2.2.2.1
  have z18 := cells_of U8.out.sb V.out.2.2.2.2.2.2.2.2.2.2.2.1
  have z19 := cells_of U8.out.sb V.out.2.2.2.2.2.2.2.2.2.2.2.2.1
  have z20 := cells_of U8.out.sb V.out.2.2.2.2.2.2.2.2.2.2.2.2.2
  go_wp2_with (first | (refine wpList_load_row rfl 122 (.tmp 3) rfl w.heap.size rfl 122 vs.toArray (0, 0) _ U8.out.sb HU rfl HII.out ?_) | fail)
  refine (step_any (sLab l1) U8.out.lw (by omega)).mono ?_
  rintro en w9 ⟨rfl, SA9, n9, c9, hl9, hc9⟩
  have U9 := Lib.hid (U8.out.step hl9 hc9)
  have hn9 : n9 = n8 + 1 := by have := hl9.len; have := U8.out.lw.len; simp at *; omega
  clear hl9 hc9 U8 z0 z2 z9 z10 z11 z12 z13 z14 z15 z16 z17 z18 z19 z20
  have z0 := cells_of U9.out.sb V.out.1
  have z2 := cells_of U9.out.sb V.out.2.1
  have z9 := cells_of U9.out.sb V.out.2.2.1
  have z10 := cells_of U9.out.sb V.out.2.2.2.1
  have z11 := cells_of U9.out.sb V.out.2.2.2.2.1
  have z12 := cells_of U9.out.sb V.out.2.2.2.2.2.1
  have z13 := cells_of U9.out.sb V.out.2.2.2.2.2.2.1
  have z14 := cells_of U9.out.sb V.out.2.2.2.2.2.2.2.1
  have z15 := cells_of U9.out.sb V.out.2.2.2.2.2.2.2.2.1
  have z16 := cells_of U9.out.sb V.out.2.2.2.2.2.2.2.2.2.1
  have z17 := cells_of U9.out.sb V.out.2.2.2.2.2.2.2.2.2.2.1
  have z18 := cells_of U9.out.sb V.out.2.2.2.2.2.2.2.2.2.2.2.1
  have z19 := cells_of U9.out.sb V.out.2.2.2.2.2.2.2.2.2.2.2.2.1
  have z20 := cells_of U9.out.sb V.out.2.2.2.2.2.2.2.2.2.2.2.2.2
  go_wp2_with fail
  go_end0
  refine ⟨rfl, SA9, n9, c9, ?_, U9.out.cw⟩
  have e := U9.out.lw
  have el1 := Hl1.out
  have el2 := Hl2.out
  subst el1 el2
  have hK := HK.out
  have ekH : kH h v = kE h.x v := by unfold kH; simp [hK]
  have ekB : kB (.cons h b1 b2 .nil) v = kB b2 (kB b1 (kE h.x v)) := by simp [kB, hK, ekH]
  have elB : lB (.cons h b1 b2 .nil) lb = lB b2 (lB b1 (lb + 2)) := by simp [lB, hK]
  have ecB : codeB f.cs f.nl (.cons h b1 b2 .nil) v lb = codeE f.nl h.x v ++ ([sZero (varE f.nl h.x v) lb] ++ (codeB f.cs f.nl b1 (kE h.x v) (lb + 2) ++ ([sJump (lb + 1), sLab lb] ++ (codeB f.cs f.nl b2 (kB b1 (kE h.x v)) (lB b1 (lb + 2)) ++ [sLab (lb + 1)])))) := by simp [codeB, hK, ekH]
  rw [ekB, elB, ecB]
  simpa only [List.append_assoc, List.cons_append, List.nil_append, Nat.add_assoc] using e
set_option maxRecDepth 20000 in
set_option maxHeartbeats 6400000 in
theorem stmt_7 {w : World} {q : Nat} {f : Fl} {v : Nat} {SA : Option Addr} {n c : Nat} {sl : List St} {lb : Nat} {h : Hd} {b1 b2 : Bd} {vs : List Value} (hk : h.kind = 7) (IH : ∀ j, j < wtS h b1 b2 → Bl j) (hs : StP (Fr.Lo q) w h b1 b2 vs) (hL : Lw w q f v SA n c sl lb) (hcel : CelB f.cs (.cons h b1 b2 .nil)) (hcs : CellsOk f.cs) (hv : v + 12 * wtS h b1 b2 ≤ 5000000) (hn : n + 12 * wtS h b1 b2 ≤ 5000000) (hlb : lb + 12 * wtS h b1 b2 ≤ 5000000) :
    Calls Try.prog 74 #[.pointer (some ⟨q, 0, none⟩), .agg vs.toArray] w (LowA w q f v SA sl lb (.cons h b1 b2 .nil)) := by
  have U0 := Lib.hid (Lu.start hL (.cells vs.toArray 122))
  have AP := Lib.hid (lw_apart hL)
  have HS := Lib.hid hs
  have HCS := Lib.hid hcs
  have HCEL := Lib.hid hcel
  have hnl := hL.len
  have HII : Hid ((Try.prog.info? 122).map (·.size) = some vs.toArray.size) := Lib.hid (by rw [List.size_toArray, Fr.StP.len hs]; kernel_rfl)
  have IHH := Lib.hid IH
  have hw := hv
  unfold wtS at hv hn hlb
  obtain ⟨vi, vx, vy, BA, bn, bc, EA, en, ec, hvs, hi, hx, hy, -, -, hB, hE⟩ := hs
  have XX := Lib.hid hx
  have XY := Lib.hid hy
  have XB := Lib.hid hB
  have XE := Lib.hid hE
  obtain ⟨i0, i1, i2, i3, i4, rfl⟩ := Fr.len5 (Fr.exP_len hi)
  obtain ⟨x0, x1, x2, x3, x4, rfl⟩ := Fr.len5 (Fr.exP_len hx)
  obtain ⟨y0, y1, y2, y3, y4, rfl⟩ := Fr.len5 (Fr.exP_len hy)
  have v0 : vs.toArray[0]? = some (.int .i64 7) := by rw [hvs]; simp only [stVs, hk]; rfl
  have v2 : vs.toArray[2]? = some (.string h.name) := by rw [hvs]; rfl
  have v9 : vs.toArray[9]? = some (x0) := by rw [hvs]; rfl
  have v10 : vs.toArray[10]? = some (x1) := by rw [hvs]; rfl
  have v11 : vs.toArray[11]? = some (x2) := by rw [hvs]; rfl
  have v12 : vs.toArray[12]? = some (x3) := by rw [hvs]; rfl
  have v13 : vs.toArray[13]? = some (x4) := by rw [hvs]; rfl
  have v14 : vs.toArray[14]? = some (y0) := by rw [hvs]; rfl
  have v15 : vs.toArray[15]? = some (y1) := by rw [hvs]; rfl
  have v16 : vs.toArray[16]? = some (y2) := by rw [hvs]; rfl
  have v17 : vs.toArray[17]? = some (y3) := by rw [hvs]; rfl
  have v18 : vs.toArray[18]? = some (y4) := by rw [hvs]; rfl
  have v19 : vs.toArray[19]? = some (.slice BA bn bc) := by rw [hvs]; rfl
  have v20 : vs.toArray[20]? = some (.slice EA en ec) := by rw [hvs]; rfl
  have V := Lib.hid (And.intro v0 (And.intro v2 (And.intro v9 (And.intro v10 (And.intro v11 (And.intro v12 (And.intro v13 (And.intro v14 (And.intro v15 (And.intro v16 (And.intro v17 (And.intro v18 (And.intro v19 v20)))))))))))))
  clear hvs hi hx hy hB hE v0 v2 v9 v10 v11 v12 v13 v14 v15 v16 v17 v18 v19 v20
  have HK := Lib.hid hk
  obtain ⟨W, hW⟩ : ∃ W, w.alloc (.cells vs.toArray 122) = W := ⟨_, rfl⟩
  rw [hW] at U0
  clear hk hL hcs hcel IH
  have HU : Try.prog.underlying 122 = some _ := Try.underlying122
  have z0 := cells_of U0.out.sb V.out.1
  have z2 := cells_of U0.out.sb V.out.2.1
  have z9 := cells_of U0.out.sb V.out.2.2.1
  have z10 := cells_of U0.out.sb V.out.2.2.2.1
  have z11 := cells_of U0.out.sb V.out.2.2.2.2.1
  have z12 := cells_of U0.out.sb V.out.2.2.2.2.2.1
  have z13 := cells_of U0.out.sb V.out.2.2.2.2.2.2.1
  have z14 := cells_of U0.out.sb V.out.2.2.2.2.2.2.2.1
  have z15 := cells_of U0.out.sb V.out.2.2.2.2.2.2.2.2.1
  have z16 := cells_of U0.out.sb V.out.2.2.2.2.2.2.2.2.2.1
  have z17 := cells_of U0.out.sb V.out.2.2.2.2.2.2.2.2.2.2.1
  have z18 := cells_of U0.out.sb V.out.2.2.2.2.2.2.2.2.2.2.2.1
  have z19 := cells_of U0.out.sb V.out.2.2.2.2.2.2.2.2.2.2.2.2.1
  have z20 := cells_of U0.out.sb V.out.2.2.2.2.2.2.2.2.2.2.2.2.2
  go_enter Try.func74, Try.ntmps74
  go_upto_region 1 with fail
  try rw [hW]
  clear hW
  go_wp2_with (first | (refine wpList_load_row rfl 122 (.tmp 3) rfl w.heap.size rfl 122 vs.toArray (0, 0) _ U0.out.sb HU rfl HII.out ?_) | fail)
  refine (label_any U0.out.lw (by omega)).mono ?_
  rintro en w1 ⟨rfl, hl1, hc1⟩
  have U1 := Lib.hid (U0.out.step hl1 hc1)
  obtain ⟨l1, hl1⟩ : ∃ m, lb + 1 = m := ⟨_, rfl⟩
  rw [hl1] at U1
  have Hl1 := Lib.hid hl1
  have el1 : l1 ≤ lb + 1 := by omega
  clear hl1
  clear hl1 hc1 U0 z0 z2 z9 z10 z11 z12 z13 z14 z15 z16 z17 z18 z19 z20
  have z0 := cells_of U1.out.sb V.out.1
  have z2 := cells_of U1.out.sb V.out.2.1
  have z9 := cells_of U1.out.sb V.out.2.2.1
  have z10 := cells_of U1.out.sb V.out.2.2.2.1
  have z11 := cells_of U1.out.sb V.out.2.2.2.2.1
  have z12 := cells_of U1.out.sb V.out.2.2.2.2.2.1
  have z13 := cells_of U1.out.sb V.out.2.2.2.2.2.2.1
  have z14 := cells_of U1.out.sb V.out.2.2.2.2.2.2.2.1
  have z15 := cells_of U1.out.sb V.out.2.2.2.2.2.2.2.2.1
  have z16 := cells_of U1.out.sb V.out.2.2.2.2.2.2.2.2.2.1
  have z17 := cells_of U1.out.sb V.out.2.2.2.2.2.2.2.2.2.2.1
  have z18 := cells_of U1.out.sb V.out.2.2.2.2.2.2.2.2.2.2.2.1
  have z19 := cells_of U1.out.sb V.out.2.2.2.2.2.2.2.2.2.2.2.2.1
  have z20 := cells_of U1.out.sb V.out.2.2.2.2.2.2.2.2.2.2.2.2.2
  go_wp2_with (first | (refine wpList_load_row rfl 122 (.tmp 3) rfl w.heap.size rfl 122 vs.toArray (0, 0) _ U1.out.sb HU rfl HII.out ?_) | fail)
  refine (label_any U1.out.lw (by omega)).mono ?_
  rintro en w2 ⟨rfl, hl2, hc2⟩
  have U2 := Lib.hid (U1.out.step hl2 hc2)
  obtain ⟨l2, hl2⟩ : ∃ m, l1 + 1 = m := ⟨_, rfl⟩
  rw [hl2] at U2
  have Hl2 := Lib.hid hl2
  have el2 : l2 ≤ l1 + 1 := by omega
  clear hl2
  clear hl2 hc2 U1 z0 z2 z9 z10 z11 z12 z13 z14 z15 z16 z17 z18 z19 z20
  have z0 := cells_of U2.out.sb V.out.1
  have z2 := cells_of U2.out.sb V.out.2.1
  have z9 := cells_of U2.out.sb V.out.2.2.1
  have z10 := cells_of U2.out.sb V.out.2.2.2.1
  have z11 := cells_of U2.out.sb V.out.2.2.2.2.1
  have z12 := cells_of U2.out.sb V.out.2.2.2.2.2.1
  have z13 := cells_of U2.out.sb V.out.2.2.2.2.2.2.1
  have z14 := cells_of U2.out.sb V.out.2.2.2.2.2.2.2.1
  have z15 := cells_of U2.out.sb V.out.2.2.2.2.2.2.2.2.1
  have z16 := cells_of U2.out.sb V.out.2.2.2.2.2.2.2.2.2.1
  have z17 := cells_of U2.out.sb V.out.2.2.2.2.2.2.2.2.2.2.1
  have z18 := cells_of U2.out.sb V.out.2.2.2.2.2.2.2.2.2.2.2.1
  have z19 := cells_of U2.out.sb V.out.2.2.2.2.2.2.2.2.2.2.2.2.1
  have z20 := cells_of U2.out.sb V.out.2.2.2.2.2.2.2.2.2.2.2.2.2
  go_wp2_with (first | (refine wpList_load_row rfl 122 (.tmp 3) rfl w.heap.size rfl 122 vs.toArray (0, 0) _ U2.out.sb HU rfl HII.out ?_) | fail)
  refine (step_any (sLab lb) U2.out.lw (by omega)).mono ?_
  rintro en w3 ⟨rfl, SA3, n3, c3, hl3, hc3⟩
  have U3 := Lib.hid (U2.out.step hl3 hc3)
  have hn3 : n3 = n + 1 := by have := hl3.len; have := U2.out.lw.len; simp at *; omega
  clear hl3 hc3 U2 z0 z2 z9 z10 z11 z12 z13 z14 z15 z16 z17 z18 z19 z20
  have z0 := cells_of U3.out.sb V.out.1
  have z2 := cells_of U3.out.sb V.out.2.1
  have z9 := cells_of U3.out.sb V.out.2.2.1
  have z10 := cells_of U3.out.sb V.out.2.2.2.1
  have z11 := cells_of U3.out.sb V.out.2.2.2.2.1
  have z12 := cells_of U3.out.sb V.out.2.2.2.2.2.1
  have z13 := cells_of U3.out.sb V.out.2.2.2.2.2.2.1
  have z14 := cells_of U3.out.sb V.out.2.2.2.2.2.2.2.1
  have z15 := cells_of U3.out.sb V.out.2.2.2.2.2.2.2.2.1
  have z16 := cells_of U3.out.sb V.out.2.2.2.2.2.2.2.2.2.1
  have z17 := cells_of U3.out.sb V.out.2.2.2.2.2.2.2.2.2.2.1
  have z18 := cells_of U3.out.sb V.out.2.2.2.2.2.2.2.2.2.2.2.1
  have z19 := cells_of U3.out.sb V.out.2.2.2.2.2.2.2.2.2.2.2.2.1
  have z20 := cells_of U3.out.sb V.out.2.2.2.2.2.2.2.2.2.2.2.2.2
  go_wp2_with (first | (refine wpList_load_row rfl 122 (.tmp 3) rfl w.heap.size rfl 122 vs.toArray (0, 0) _ U3.out.sb HU rfl HII.out ?_) | fail)
  refine (expr_any h.x (exP_only U3.out.cw.only AP.out XX.out) U3.out.lw (by omega) (by omega)).mono ?_
  rintro en w4 ⟨rfl, SA4, n4, c4, hl4, hc4⟩
  have U4 := Lib.hid (U3.out.step hl4 hc4)
  have hn4 : n4 ≤ n3 + 2 * lv h.x := by have := hl4.len; have := U3.out.lw.len; have := codeE_len f.nl h.x v; simp at *; omega
  have hv4 := kE_bd h.x v
  clear hl4 hc4 U3 z0 z2 z9 z10 z11 z12 z13 z14 z15 z16 z17 z18 z19 z20
  have z0 := cells_of U4.out.sb V.out.1
  have z2 := cells_of U4.out.sb V.out.2.1
  have z9 := cells_of U4.out.sb V.out.2.2.1
  have z10 := cells_of U4.out.sb V.out.2.2.2.1
  have z11 := cells_of U4.out.sb V.out.2.2.2.2.1
  have z12 := cells_of U4.out.sb V.out.2.2.2.2.2.1
  have z13 := cells_of U4.out.sb V.out.2.2.2.2.2.2.1
  have z14 := cells_of U4.out.sb V.out.2.2.2.2.2.2.2.1
  have z15 := cells_of U4.out.sb V.out.2.2.2.2.2.2.2.2.1
  have z16 := cells_of U4.out.sb V.out.2.2.2.2.2.2.2.2.2.1
  have z17 := cells_of U4.out.sb V.out.2.2.2.2.2.2.2.2.2.2.1
  have z18 := cells_of U4.out.sb V.out.2.2.2.2.2.2.2.2.2.2.2.1
  have z19 := cells_of U4.out.sb V.out.2.2.2.2.2.2.2.2.2.2.2.2.1
  have z20 := cells_of U4.out.sb V.out.2.2.2.2.2.2.2.2.2.2.2.2.2
  go_wp2_with (first | (refine wpList_load_row rfl 122 (.tmp 3) rfl w.heap.size rfl 122 vs.toArray (0, 0) _ U4.out.sb HU rfl HII.out ?_) | fail)
  refine (step_any (sZero (varE f.nl h.x v) l1) U4.out.lw (by omega)).mono ?_
  rintro en w5 ⟨rfl, SA5, n5, c5, hl5, hc5⟩
  have U5 := Lib.hid (U4.out.step hl5 hc5)
  have hn5 : n5 = n4 + 1 := by have := hl5.len; have := U4.out.lw.len; simp at *; omega
  clear hl5 hc5 U4 z0 z2 z9 z10 z11 z12 z13 z14 z15 z16 z17 z18 z19 z20
  have z0 := cells_of U5.out.sb V.out.1
  have z2 := cells_of U5.out.sb V.out.2.1
  have z9 := cells_of U5.out.sb V.out.2.2.1
  have z10 := cells_of U5.out.sb V.out.2.2.2.1
  have z11 := cells_of U5.out.sb V.out.2.2.2.2.1
  have z12 := cells_of U5.out.sb V.out.2.2.2.2.2.1
  have z13 := cells_of U5.out.sb V.out.2.2.2.2.2.2.1
  have z14 := cells_of U5.out.sb V.out.2.2.2.2.2.2.2.1
  have z15 := cells_of U5.out.sb V.out.2.2.2.2.2.2.2.2.1
  have z16 := cells_of U5.out.sb V.out.2.2.2.2.2.2.2.2.2.1
  have z17 := cells_of U5.out.sb V.out.2.2.2.2.2.2.2.2.2.2.1
  have z18 := cells_of U5.out.sb V.out.2.2.2.2.2.2.2.2.2.2.2.1
  have z19 := cells_of U5.out.sb V.out.2.2.2.2.2.2.2.2.2.2.2.2.1
  have z20 := cells_of U5.out.sb V.out.2.2.2.2.2.2.2.2.2.2.2.2.2
  go_wp2_with (first | (refine wpList_load_row rfl 122 (.tmp 3) rfl w.heap.size rfl 122 vs.toArray (0, 0) _ U5.out.sb HU rfl HII.out ?_) | fail)
  refine ((IHH.out (bsz b1) (by unfold wtS; omega)).go (Nat.le_refl _) (isP_only U5.out.cw.only AP.out XB.out) U5.out.lw (HCEL.out.2.1 (.inr HK.out)) HCS.out (by omega) (by omega) (by omega)).mono ?_
  rintro en w6 ⟨rfl, SA6, n6, c6, hl6, hc6⟩
  have U6 := Lib.hid (U5.out.step hl6 hc6)
  have hn6 : n6 ≤ n5 + 10 * bsz b1 := by have := hl6.len; have := U5.out.lw.len; have := codeB_len f.cs f.nl b1 (kE h.x v) l2; simp at *; omega
  have hv6 := kB_bd b1 (kE h.x v)
  have hb6 := lB_bd b1 l2
  clear hl6 hc6 U5 z0 z2 z9 z10 z11 z12 z13 z14 z15 z16 z17 z18 z19 z20
  have z0 := cells_of U6.out.sb V.out.1
  have z2 := cells_of U6.out.sb V.out.2.1
  have z9 := cells_of U6.out.sb V.out.2.2.1
  have z10 := cells_of U6.out.sb V.out.2.2.2.1
  have z11 := cells_of U6.out.sb V.out.2.2.2.2.1
  have z12 := cells_of U6.out.sb V.out.2.2.2.2.2.1
  have z13 := cells_of U6.out.sb V.out.2.2.2.2.2.2.1
  have z14 := cells_of U6.out.sb V.out.2.2.2.2.2.2.2.1
  have z15 := cells_of U6.out.sb V.out.2.2.2.2.2.2.2.2.1
  have z16 := cells_of U6.out.sb V.out.2.2.2.2.2.2.2.2.2.1
  have z17 := cells_of U6.out.sb V.out.2.2.2.2.2.2.2.2.2.2.1
  have z18 := cells_of U6.out.sb V.out.2.2.2.2.2.2.2.2.2.2.2.1
  have z19 := cells_of U6.out.sb V.out.2.2.2.2.2.2.2.2.2.2.2.2.1
  have z20 := cells_of U6.out.sb V.out.2.2.2.2.2.2.2.2.2.2.2.2.2
  go_wp2_with (first | (refine wpList_load_row rfl 122 (.tmp 3) rfl w.heap.size rfl 122 vs.toArray (0, 0) _ U6.out.sb HU rfl HII.out ?_) | fail)
  refine (step_any (sJump lb) U6.out.lw (by omega)).mono ?_
  rintro en w7 ⟨rfl, SA7, n7, c7, hl7, hc7⟩
  have U7 := Lib.hid (U6.out.step hl7 hc7)
  have hn7 : n7 = n6 + 1 := by have := hl7.len; have := U6.out.lw.len; simp at *; omega
  clear hl7 hc7 U6 z0 z2 z9 z10 z11 z12 z13 z14 z15 z16 z17 z18 z19 z20
  have z0 := cells_of U7.out.sb V.out.1
  have z2 := cells_of U7.out.sb V.out.2.1
  have z9 := cells_of U7.out.sb V.out.2.2.1
  have z10 := cells_of U7.out.sb V.out.2.2.2.1
  have z11 := cells_of U7.out.sb V.out.2.2.2.2.1
  have z12 := cells_of U7.out.sb V.out.2.2.2.2.2.1
  have z13 := cells_of U7.out.sb V.out.2.2.2.2.2.2.1
  have z14 := cells_of U7.out.sb V.out.2.2.2.2.2.2.2.1
  have z15 := cells_of U7.out.sb V.out.2.2.2.2.2.2.2.2.1
  have z16 := cells_of U7.out.sb V.out.2.2.2.2.2.2.2.2.2.1
  have z17 := cells_of U7.out.sb V.out.2.2.2.2.2.2.2.2.2.2.1
  have z18 := cells_of U7.out.sb V.out.2.2.2.2.2.2.2.2.2.2.2.1
  have z19 := cells_of U7.out.sb V.out.2.2.2.2.2.2.2.2.2.2.2.2.1
  have z20 := cells_of U7.out.sb V.out.2.2.2.2.2.2.2.2.2.2.2.2.2
  go_wp2_with (first | (refine wpList_load_row rfl 122 (.tmp 3) rfl w.heap.size rfl 122 vs.toArray (0, 0) _ U7.out.sb HU rfl HII.out ?_) | fail)
  refine (step_any (sLab l1) U7.out.lw (by omega)).mono ?_
  rintro en w8 ⟨rfl, SA8, n8, c8, hl8, hc8⟩
  have U8 := Lib.hid (U7.out.step hl8 hc8)
  have hn8 : n8 = n7 + 1 := by have := hl8.len; have := U7.out.lw.len; simp at *; omega
  clear hl8 hc8 U7 z0 z2 z9 z10 z11 z12 z13 z14 z15 z16 z17 z18 z19 z20
  have z0 := cells_of U8.out.sb V.out.1
  have z2 := cells_of U8.out.sb V.out.2.1
  have z9 := cells_of U8.out.sb V.out.2.2.1
  have z10 := cells_of U8.out.sb V.out.2.2.2.1
  have z11 := cells_of U8.out.sb V.out.2.2.2.2.1
  have z12 := cells_of U8.out.sb V.out.2.2.2.2.2.1
  have z13 := cells_of U8.out.sb V.out.2.2.2.2.2.2.1
  have z14 := cells_of U8.out.sb V.out.2.2.2.2.2.2.2.1
  have z15 := cells_of U8.out.sb V.out.2.2.2.2.2.2.2.2.1
  have z16 := cells_of U8.out.sb V.out.2.2.2.2.2.2.2.2.2.1
  have z17 := cells_of U8.out.sb V.out.2.2.2.2.2.2.2.2.2.2.1
  have z18 := cells_of U8.out.sb V.out.2.2.2.2.2.2.2.2.2.2.2.1
  have z19 := cells_of U8.out.sb V.out.2.2.2.2.2.2.2.2.2.2.2.2.1
  have z20 := cells_of U8.out.sb V.out.2.2.2.2.2.2.2.2.2.2.2.2.2
  go_wp2_with fail
  go_end0
  refine ⟨rfl, SA8, n8, c8, ?_, U8.out.cw⟩
  have e := U8.out.lw
  have el1 := Hl1.out
  have el2 := Hl2.out
  subst el1 el2
  have hK := HK.out
  have ekH : kH h v = kE h.x v := by unfold kH; simp [hK]
  have ekB : kB (.cons h b1 b2 .nil) v = kB b1 (kE h.x v) := by simp [kB, hK, ekH]
  have elB : lB (.cons h b1 b2 .nil) lb = lB b1 (lb + 2) := by simp [lB, hK]
  have ecB : codeB f.cs f.nl (.cons h b1 b2 .nil) v lb = [sLab lb] ++ (codeE f.nl h.x v ++ ([sZero (varE f.nl h.x v) (lb + 1)] ++ (codeB f.cs f.nl b1 (kE h.x v) (lb + 2) ++ [sJump lb, sLab (lb + 1)]))) := by simp [codeB, hK, ekH]
  rw [ekB, elB, ecB]
  simpa only [List.append_assoc, List.cons_append, List.nil_append, Nat.add_assoc] using e
end Go.Proofs.Ytapnnbbbgopobaa.Lr
