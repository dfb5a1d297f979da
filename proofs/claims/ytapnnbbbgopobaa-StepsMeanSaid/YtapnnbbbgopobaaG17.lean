/-
  WALKS: the reference's reader: top.
-/
import Derived.Test.YtapnnbbbgopobaaG16
import Derived.Deep.CutBlock
import Derived.Deep.DeepCutAuto
import Derived.OrdersHeld
import Derived.StillTail
set_option linter.unusedVariables false
set_option linter.unusedSimpArgs false
namespace Go.Proofs.Ytapnnbbbgopobaa.Rr
open Go.RowKit Cm Mm Ow Me Ml Lg Lx
theorem ix_99_101_108_108 (W : World) : (Instr.index 9 (.string ⟨#[99, 101, 108, 108]⟩) (.int .i64 0)).run Try.prog W = .ok (.int .u8 99) W := by kernel_rfl
theorem ix_91 (W : World) : (Instr.index 9 (.string ⟨#[91]⟩) (.int .i64 0)).run Try.prog W = .ok (.int .u8 91) W := by kernel_rfl
theorem ix_93 (W : World) : (Instr.index 9 (.string ⟨#[93]⟩) (.int .i64 0)).run Try.prog W = .ok (.int .u8 93) W := by kernel_rfl
theorem ix_116_104_114_101_97_100 (W : World) : (Instr.index 9 (.string ⟨#[116, 104, 114, 101, 97, 100]⟩) (.int .i64 0)).run Try.prog W = .ok (.int .u8 116) W := by kernel_rfl
theorem ix_114_101_99_111_118_101_114 (W : World) : (Instr.index 9 (.string ⟨#[114, 101, 99, 111, 118, 101, 114]⟩) (.int .i64 0)).run Try.prog W = .ok (.int .u8 114) W := by kernel_rfl
set_option maxRecDepth 20000 in
set_option maxHeartbeats 6400000 in
theorem top_any {w : World} {q : Nat} {f : Fx} {at_ : Nat} {bad : Int} (h : Rd w q f at_ 0 bad) (ht : Tp w q f at_) (hn : f.n ≤ 20000) :
    Calls Try.prog 28 #[.pointer (some ⟨q, 0, none⟩)] w (TopA w q f at_) := by
  obtain ⟨cA, cn, cc, LC, tA, tn, tc, LT, rA, rn, rc, ts, rb, ht⟩ := ht
  have hq := h.qlt
  have hlt := h.lt
  have H0 := Lib.hid h
  have T0 := Lib.hid ht
  have hcl := ht.cl
  have htl := ht.tl
  have f0 : ∀ (kd : Int) (tx : ByteArray) (nn a2 : Int) (W : World), (Instr.field 63 (.agg #[.int .i64 kd, .string tx, .int .u64 nn, .int .i64 a2]) 0).run Try.prog W = .ok (.int .i64 kd) W := fun kd tx nn a2 W => fd_0 kd tx nn a2 W
  have f1 : ∀ (kd : Int) (tx : ByteArray) (nn a2 : Int) (W : World), (Instr.field 63 (.agg #[.int .i64 kd, .string tx, .int .u64 nn, .int .i64 a2]) 1).run Try.prog W = .ok (.string tx) W := fun kd tx nn a2 W => fd_1 kd tx nn a2 W
  clear h ht
  go_enter Try.func28, Try.ntmps28
  go_wp2_with fail
  refine (take_any H0.out hn ⟨#[99, 101, 108, 108]⟩ 99 ix_99_101_108_108).mono ?_
  rintro en w1 ⟨bb, at1, rfl, hr1, ho1, ht1, hf1⟩
  have R1 := Lib.hid hr1
  have O1 := Lib.hid ho1
  have HT1 := Lib.hid ht1
  have HF1 := Lib.hid hf1
  clear hr1 ho1 ht1 hf1
  cases bb
  · rw [HF1.out rfl] at R1
    clear HT1 HF1
    go_wp2_with fail
    refine (take_any R1.out hn ⟨#[116, 104, 114, 101, 97, 100]⟩ 116 ix_116_104_114_101_97_100).mono ?_
    rintro en w2 ⟨bb, at2, rfl, hr2, ho2, ht2, hf2⟩
    have R2 := Lib.hid hr2
    have O2 := Lib.hid (O1.out.seq ho2)
    have HT2 := Lib.hid ht2
    have HF2 := Lib.hid hf2
    clear hr2 ho2 ht2 hf2 R1 O1
    cases bb
    · rw [HF2.out rfl] at R2
      clear HT2 HF2
      have c4 := R2.out.c4
      go_upto_region 0 with fail
      go_cut [20] (fun t wx => ∃ b : Bool, t = .bool b ∧ Below w2.heap.size w2 wx)
      case first =>
        cases hrc : f.rec_
        · rw [hrc] at c4
          go_wp2_with fail
          go_meet
          case rel => exact ⟨false, rfl, Below.refl _ _⟩
        · rw [hrc] at c4
          go_wp2_with fail
          refine (now_any R2.out).mono ?_
          rintro en w3 ⟨kd, tx, nn, a2, rfl, hb3, -, -⟩
          have R3 := Lib.hid (R2.out.keep hb3)
          have B3 := Lib.hid hb3
          clear hb3
          by_cases hk4 : kd = 4
          · subst hk4
            go_wp2_with fail
            refine (now_any R3.out).mono ?_
            rintro en w4 ⟨kd2, tx2, nn2, a22, rfl, hb4, -, -⟩
            have B4 := Lib.hid (B3.out.trans (hb4.mono B3.out.size))
            clear hb4
            go_wp2_with fail
            go_meet
            case rel => exact ⟨_, rfl, B4.out⟩
          · have k4 : (kd == 4) = false := by simpa using hk4
            go_wp2_with fail
            go_meet
            case rel => exact ⟨false, rfl, B3.out⟩
      case rest =>
        obtain ⟨b, rfl, hb⟩ := hcut
        have R3 := Lib.hid (R2.out.keep hb)
        have O3 := Lib.hid (O2.out.seq (Only.of_below (F := [q]) hb))
        clear hb c4 f0 f1 R2 O2
        rename_i wc
        go_upto_if 20 with fail
        go_cut [] (fun wx => ∃ (e2 bad2 : Int), Rd wx q f at_ e2 bad2 ∧ Only [q] w wx)
        case first =>
          cases b
          · go_wp2_with fail
            go_meet
            case rel => exact ⟨0, bad, R3.out, O3.out⟩
          · go_wp2_with fail
            refine (fail_any R3.out 5 (by decide)).mono ?_
            rintro en w4 ⟨rfl, e4, bad4, h4, hne4, ho4⟩
            have R4 := Lib.hid h4
            have O4 := Lib.hid (O3.out.seq ho4)
            clear h4 ho4
            go_wp2_with fail
            go_meet
            case rel => exact ⟨e4, bad4, R4.out, O4.out⟩
        case rest =>
          obtain ⟨e4, bad4, h4, ho4⟩ := hcut
          clear R3 O3
          have R4 := Lib.hid h4
          have O4 := Lib.hid ho4
          clear h4 ho4
          go_wp2_with fail
          refine (want_any R4.out hn ⟨#[114, 101, 99, 111, 118, 101, 114]⟩ 114 ix_114_101_99_111_118_101_114).mono ?_
          rintro en w5 ⟨rfl, at5, e5, bad5, h5, ho5, hat5, hok5⟩
          have R5 := Lib.hid (h5.set4 true)
          have O5 := Lib.hid ((O4.out.seq ho5).seq (only_q w5 q 4 (.bool true)))
          have fr5 := h5.free
          have c45 := h5.c4
          have HO5 := Lib.hid hok5
          clear h5 ho5 hok5 R4 O4
          go_upto_region 4 with fail
          obtain ⟨W, hW⟩ : ∃ W, w5.setCell ⟨q, 4, none⟩ (.bool true) = W := ⟨_, rfl⟩
          rw [hW] at R5 O5
          try rw [hW]
          clear hW fr5 c45
          go_wp2_with fail
          refine ((bo_any (f.n - at5)).go R5.out hn (Nat.le_refl _) 0 (by omega) (by omega)).mono ?_
          rintro en w6 ⟨A, n, c, at6, e6, bad6, rfl, h6, ho6, hat6, hok6⟩
          have R6 := Lib.hid (h6.set7 (.slice A n c))
          have fr6 := h6.free
          have c76 := h6.c7
          have hq6 := h6.qlt
          have hlt6 := h6.lt
          have O6 := Lib.hid (O5.out.seq ho6)
          have HO6 := Lib.hid hok6
          have hsz5 := O5.out.size
          clear h6 ho6 hok6 R5
          go_wp2_with fail
          go_end0
          refine ⟨rfl, { f with s7 := .slice A n c, rec_ := true }, at6, e6, bad6, rfl, rfl, rfl, R6.out, (O6.out.seq (only_q w6 q 7 _)).below (fun x hx => by simp at hx; omega) (by omega), by omega, fun h0 => ?_⟩
          obtain ⟨h1, b, hb, hz⟩ := HO6.out h0
          have h2 := (HO5.out h1).2
          have T6 := T0.out.only O6.out (Nat.le_refl at_)
          have T7 := tp_rec T6 true (isP_of (P := PB q cA tA) (fun b hb hl => ⟨by omega, fun hx => by have := (T0.out.oc.lt b hx).2; omega, fun hx => by have := (T0.out.ot.lt b hx).2; omega⟩) hb) (by omega)
          exact ⟨by omega, _, _, _, _, _, _, _, _, _, _, _, _, _, T7.only (Only.refl _ _) (show at_ ≤ at6 by omega)⟩
    · obtain ⟨-, rfl⟩ := HT2.out rfl
      clear HT2 HF2 f0 f1
      go_wp2_with fail
      refine (name_any R2.out hn).mono ?_
      rintro en w3 ⟨s, at3, e3, bad3, rfl, h3, ho3, hat3, hok3, hsz3⟩
      have hb3 := below_new w3 (.cells #[.string s, .slice none 0 0] 69)
      have R3 := Lib.hid (h3.keep hb3)
      have O3 := Lib.hid ((O2.out.seq ho3).seq (Only.of_below (F := [q]) hb3))
      have HO3 := Lib.hid hok3
      have HS := Lib.hid hsz3
      have hqg := h3.qlt
      have hwg := (O2.out.seq ho3).size
      have G0 : Hid ((w3.alloc (.cells #[.string s, .slice none 0 0] 69)).heap[w3.heap.size]? = some (.cells #[.string s, .slice none 0 0] 69 (0, 0))) := Lib.hid (heap_alloc_new _ _)
      clear h3 ho3 hok3 hsz3 hb3 R2 O2
      go_upto_region 20 with fail
      obtain ⟨W3, hW⟩ : ∃ W, w3.alloc (.cells #[.string s, .slice none 0 0] 69) = W := ⟨_, rfl⟩
      have hgW : w3.heap.size < W3.heap.size := by rw [← hW]; simp
      rw [hW] at R3 O3 G0
      try rw [hW]
      clear hW
      generalize w3.heap.size = g at *
      go_wp2_with fail
      refine ((bo_any (f.n - at3)).go R3.out hn (Nat.le_refl _) 0 (by omega) (by omega)).mono ?_
      rintro en w6 ⟨A, n, c, at6, e6, bad6, rfl, h6, ho6, hat6, hok6⟩
      have R6 := Lib.hid (rd_set h6 hqg 1 (.slice A n c))
      have O6 := Lib.hid ((O3.out.seq ho6).trans (F' := [g]) (only_q w6 g 1 (.slice A n c)) (fun x hx => by simp at hx; subst hx; exact .inr hwg))
      have HO6 := Lib.hid hok6
      have hsz5 := O3.out.size
      have hlt6 := h6.lt
      have hgne : g ∉ [q] := by simp; omega
      have G6 := blk_only G0.out ho6 hgne
      have g60 : w6.cell? ⟨g, 0, none⟩ = some (.string s) := by simp only [World.cell?, G6]; simp
      have g6f : ∀ k, w6.frozen? ⟨g, k, none⟩ = false := fun k => by simp only [World.frozen?, G6]; simp
      have g61 : w6.cell? ⟨g, 1, none⟩ = some (.slice none 0 0) := by simp only [World.cell?, G6]; simp
      have hIB : Hid (∀ b, IsBd W3.heap.size w6 b A n c → IsBd W3.heap.size (w6.setCell ⟨g, 1, none⟩ (.slice A n c)) b A n c) := Lib.hid (fun b hb => bd_set hb hgW 1 _)
      have G7 : (w6.setCell ⟨g, 1, none⟩ (.slice A n c)).heap[g]? = some (.cells #[.string s, .slice A n c] 69 (0, 0)) := blk_set G6 _
      have hG7 := Lib.hid G7
      clear h6 ho6 hok6 R3 G0 G7 G6
      go_upto_region 21 with fail
      obtain ⟨W, hW⟩ : ∃ W, w6.setCell ⟨g, 1, none⟩ (.slice A n c) = W := ⟨_, rfl⟩
      rw [hW] at R6 O6 hG7
      rw [hW] at hIB
      try rw [hW]
      clear hW g60 g6f g61
      have R7 := R6
      have gltW : g < W.heap.size := (Array.getElem?_eq_some_iff.1 hG7.out).1
      have T7 := Lib.hid (T0.out.only O6.out (Nat.le_refl at_))
      have OWN : Hid ((∀ b, tA.map (·.block) = some b → q + 1 ≤ b) ∧ (∀ b, tA.map (·.block) = some b → b < w.heap.size)) := Lib.hid ⟨fun b hb => (T0.out.ot.lt b hb).1, fun b hb => (T0.out.ot.lt b hb).2⟩
      have SA0 : W.cell? ⟨q, 6, none⟩ = some (.slice tA tn tc) ∧ W.cell? ⟨g, 0, none⟩ = some (.string s) ∧ W.cell? ⟨g, 1, none⟩ = some (.slice A n c) := ⟨by rw [R7.out.c6, T7.out.s6], by simp only [World.cell?, hG7.out]; simp, by simp only [World.cell?, hG7.out]; simp⟩
      have WD := Lib.hid (R7.out.keep (Below.refl _ _).drew)
      have SA : W.drew.cell? ⟨q, 6, none⟩ = some (.slice tA tn tc) ∧ W.drew.cell? ⟨g, 0, none⟩ = some (.string s) ∧ W.drew.cell? ⟨g, 1, none⟩ = some (.slice A n c) := SA0
      refine Hd.start 9 (fun w' => w'.cell? ⟨q, 6, none⟩ = some (.slice tA tn tc) ∧ w'.cell? ⟨g, 0, none⟩ = some (.string s) ∧ w'.cell? ⟨g, 1, none⟩ = some (.slice A n c)) (by kernel_rfl) ?_
      refine Hd.take (i := 0) (v := ?vT0) rfl (by decide +kernel) (by decide +kernel) (fun _ _ _ h => h) rfl ?hyT0 SA ?restT0
      case hyT0 =>
        intro wq hSw
        obtain ⟨s1, s2, s3⟩ := hSw
        go_simp
        try with_reducible rfl
      try simp only [Act.put, zA, zB, zC]
      refine Hd.take (i := 1) (v := ?vT1) rfl (by decide +kernel) (by decide +kernel) (fun _ _ _ h => h) rfl ?hyT1 SA ?restT1
      case hyT1 =>
        intro wq hSw
        obtain ⟨s1, s2, s3⟩ := hSw
        go_simp
        try with_reducible rfl
      try simp only [Act.put, zA, zB, zC]
      refine Hd.take (i := 2) (v := ?vT2) rfl (by decide +kernel) (by decide +kernel) (fun _ _ _ h => h) rfl ?hyT2 SA ?restT2
      case hyT2 =>
        intro wq hSw
        obtain ⟨s1, s2, s3⟩ := hSw
        go_simp
        try with_reducible rfl
      try simp only [Act.put, zA, zB, zC]
      refine Hd.take (i := 3) (v := ?vT3) rfl (by decide +kernel) (by decide +kernel) (fun _ _ _ h => h) rfl ?hyT3 SA ?restT3
      case hyT3 =>
        intro wq hSw
        obtain ⟨s1, s2, s3⟩ := hSw
        go_simp
        try with_reducible rfl
      try simp only [Act.put, zA, zB, zC]
      refine Hd.take (i := 4) (v := ?vT4) rfl (by decide +kernel) (by decide +kernel) (fun _ _ _ h => h) rfl ?hyT4 SA ?restT4
      case hyT4 =>
        intro wq hSw
        obtain ⟨s1, s2, s3⟩ := hSw
        go_simp
        try with_reducible rfl
      try simp only [Act.put, zA, zB, zC]
      refine Hd.take (i := 5) (v := ?vT5) rfl (by decide +kernel) (by decide +kernel) (fun _ _ _ h => h) rfl ?hyT5 SA ?restT5
      case hyT5 =>
        intro wq hSw
        obtain ⟨s1, s2, s3⟩ := hSw
        go_simp
        try with_reducible rfl
      try simp only [Act.put, zA, zB, zC]
      refine Hd.take (i := 6) (v := ?vT6) rfl (by decide +kernel) (by decide +kernel) (fun _ _ _ h => h) rfl ?hyT6 SA ?restT6
      case hyT6 =>
        intro wq hSw
        obtain ⟨s1, s2, s3⟩ := hSw
        go_simp
        try with_reducible rfl
      try simp only [Act.put, zA, zB, zC]
      refine Hd.one (i := 7) rfl (by kernel_rfl) rfl (fun K hK => ?_)
      go_simp
      have SB : (W.drew.alloc (.cells #[.string s, .slice A n c] 69)).cell? ⟨q, 6, none⟩ = some (.slice tA tn tc) ∧ (W.drew.alloc (.cells #[.string s, .slice A n c] 69)).cell? ⟨g, 0, none⟩ = some (.string s) ∧ (W.drew.alloc (.cells #[.string s, .slice A n c] 69)).cell? ⟨g, 1, none⟩ = some (.slice A n c) := ⟨(World.cell?_alloc_lt _ _ _ (show q < W.drew.heap.size from R7.out.qlt)).trans SA.1, (World.cell?_alloc_lt _ _ _ (show g < W.drew.heap.size from gltW)).trans SA.2.1, (World.cell?_alloc_lt _ _ _ (show g < W.drew.heap.size from gltW)).trans SA.2.2⟩
      refine hK _ _ (fun _ => SB) ?_
      clear hK K
      try simp only [Act.put, zA, zB, zC]
      refine Hd.one (i := 8) rfl (by kernel_rfl) rfl (fun K hK => ?_)
      refine wp_app _ _ _ rfl elTh (q + 1) tA tn tc LT rfl ((T7.out.ot.keep (Below.refl _ _).drew).keep (below_new _ _)) (some ⟨W.drew.heap.size, 0, none⟩) 1 1 (fun _ => [.string s, .slice A n c]) rfl (sl_one W.drew [.string s, .slice A n c] 69) (fun _ _ => rfl) (fun _ _ u hu => by simp at hu; rcases hu with rfl | rfl <;> rfl) (by unfold maxLen; omega) (by omega) (Nat.le_trans (show q + 1 ≤ W.heap.size by have := R7.out.qlt; omega) (show W.heap.size ≤ (W.drew.alloc (.cells #[.string s, .slice A n c] 69)).heap.size by simp)) ?_
      intro A2 c2 w8 hown8 hg8 hat8
      have hO8 := grown_out hg8
      have hat9 : A2.map (·.block) = tA.map (·.block) ∨ ∀ b, A2.map (·.block) = some b → W.heap.size ≤ b := hat8.imp id (fun e b hb => by rw [e] at hb; injection hb with hb; subst hb; simp)
      have R8 := Lib.hid (R7.out.only hO8 (fun g hg => by have := (OWN.out).1 g (mem_blk hg); omega))
      have hq8 : w8.cell? ⟨q, 6, none⟩ = _ := only_cell hO8 R7.out.qlt (fun hx => by have := OWN.out.1 q (mem_blk hx); omega) 6
      have hg80 : w8.cell? ⟨g, 0, none⟩ = _ := only_cell hO8 gltW (fun hx => by have := OWN.out.2 g (mem_blk hx); omega) 0
      have hg81 : w8.cell? ⟨g, 1, none⟩ = _ := only_cell hO8 gltW (fun hx => by have := OWN.out.2 g (mem_blk hx); omega) 1
      refine hK _ _ (fun _ => ⟨hq8.trans SA.1, hg80.trans SA.2.1, hg81.trans SA.2.2⟩) ?_
      have HOW8 := Lib.hid hown8
      have HO8 := Lib.hid hO8
      have HAT := Lib.hid hat9
      have fr8 := R8.out.free
      have c8k := R8.out.c6
      clear hK K SA SB SA0 hown8 hg8 hat8 hO8 hat9 hq8 hg80 hg81
      try simp only [Act.put, zA, zB, zC]
      refine Hd.one (i := 9) rfl (by kernel_rfl) rfl (fun K hK => ?_)
      go_simp
      refine hK _ _ (fun h => absurd h (by omega)) ?_
      clear hK K
      try simp only [Act.put, zA, zB, zC]
      refine Hd.one (i := 10) rfl (by kernel_rfl) rfl (fun K hK => ?_)
      go_simp
      refine hK _ _ (fun h => absurd h (by omega)) ?_
      clear hK K
      try simp only [Act.put, zA, zB, zC]
      refine Hd.one (i := 11) rfl (by kernel_rfl) rfl (fun K hK => ?_)
      go_simp
      refine hK _ _ (fun h => absurd h (by omega)) ?_
      clear hK K
      try simp only [Act.put, zA, zB, zC]
      refine Hd.one (i := 12) rfl (by kernel_rfl) rfl (fun K hK => ?_)
      go_simp
      refine hK _ _ (fun h => absurd h (by omega)) ?_
      clear hK K
      try simp only [Act.put, zA, zB, zC]
      refine Hd.done (by kernel_rfl) ?_ _
      go_wp2_with fail
      go_end0
      refine ⟨rfl, { f with s6 := .slice A2 (tn + 1) c2 }, at6, e6, bad6, rfl, rfl, rfl, R8.out.set6 (.slice A2 (tn + 1) c2), ((O6.out.below (fun x hx => by simp at hx; omega) (by omega)).trans ((HO8.out.below (fun x hx => by have := OWN.out.1 x (mem_blk hx); omega) (by have := O6.out.size; omega)).trans ((only_q w8 q 6 _).below (fun x hx => by simp at hx; omega) (by have := R8.out.qlt; omega)))), by omega, fun h0 => ?_⟩
      obtain ⟨h1, b, hb, hz⟩ := HO6.out h0
      have h2 := (HO3.out h1).2
      have T9 := tp_thread T7.out HS.out (isP_of (P := PB q cA tA) (fun b hb hl => ⟨by omega, fun hx => by have := (T0.out.oc.lt b hx).2; omega, fun hx => by have := (T0.out.ot.lt b hx).2; omega⟩) (hIB.out b hb)) (by omega) HOW8.out HO8.out HAT.out
      exact ⟨by omega, _, _, _, _, _, _, _, _, _, _, _, _, _, T9.only (Only.refl _ _) (show at_ + 1 ≤ at6 by omega)⟩
  · obtain ⟨-, rfl⟩ := HT1.out rfl
    clear HT1 HF1 f0 f1
    go_wp2_with fail
    refine (name_any R1.out hn).mono ?_
    rintro en w3 ⟨s, at3, e3, bad3, rfl, h3, ho3, hat3, hok3, hsz3⟩
    have hb3 := below_new w3 (.cells #[.string s, .int .i64 1] 82)
    have R3 := Lib.hid (h3.keep hb3)
    have O3 := Lib.hid ((O1.out.seq ho3).seq (Only.of_below (F := [q]) hb3))
    have HS := Lib.hid hsz3
    have hqg := h3.qlt
    have hwg := (O1.out.seq ho3).size
    have G0 : Hid ((w3.alloc (.cells #[.string s, .int .i64 1] 82)).heap[w3.heap.size]? = some (.cells #[.string s, .int .i64 1] 82 (0, 0))) := Lib.hid (heap_alloc_new _ _)
    clear h3 ho3 hok3 hsz3 hb3 R1 O1
    go_upto_region 7 with fail
    obtain ⟨W3, hW⟩ : ∃ W, w3.alloc (.cells #[.string s, .int .i64 1] 82) = W := ⟨_, rfl⟩
    have hgW : w3.heap.size < W3.heap.size := by rw [← hW]; simp
    rw [hW] at R3 O3 G0
    try rw [hW]
    clear hW
    generalize w3.heap.size = g at *
    have hgne : g ∉ [q] := by simp; omega
    go_wp2_with fail
    refine (take_any R3.out hn ⟨#[91]⟩ 91 ix_91).mono ?_
    rintro en w4 ⟨bb, at4, rfl, hr4, ho4, ht4, hf4⟩
    have R4 := Lib.hid hr4
    have O4 := Lib.hid (O3.out.seq ho4)
    have G4 := Lib.hid (blk_only G0.out ho4 hgne)
    have HT4 := Lib.hid ht4
    have HF4 := Lib.hid hf4
    clear hr4 ho4 ht4 hf4 R3 O3 G0
    go_upto_if 41 with fail
    go_cut [] (fun wx => ∃ (at5 : Nat) (e5 bad5 z : Int), Rd wx q f at5 e5 bad5 ∧ Only [q] w wx ∧ wx.heap[g]? = some (.cells #[.string s, .int .i64 z] 82 (0, 0)) ∧ at3 ≤ at5 ∧ 0 ≤ z ∧ z ≤ 1048576)
    case first =>
      cases bb
      · rw [HF4.out rfl] at R4
        go_wp2_with fail
        go_meet
        case rel => exact ⟨at3, e3, bad3, 1, R4.out, O4.out, G4.out, Nat.le_refl _, by decide, by decide⟩
      · obtain ⟨rfl, hat4e⟩ := HT4.out rfl
        have hat4 : at3 + 1 ≤ at4 := by omega
        clear hat4e
        clear HT4 HF4
        go_wp2_with fail
        refine (now_any R4.out).mono ?_
        rintro en w5 ⟨kd, tx, nn, a2, rfl, hb5, htx, hend⟩
        have hb5' := below_new w5 (.cells #[.int .i64 kd, .string tx, .int .u64 nn, .int .i64 a2] 63)
        have R5 := Lib.hid ((R4.out.keep hb5).keep hb5')
        have T5 := Lib.hid (Tv.new w5 kd tx nn a2)
        have O5 := Lib.hid ((O4.out.seq (Only.of_below (F := [q]) hb5)).seq (Only.of_below (F := [q]) hb5'))
        have G5 := Lib.hid (blk_only (blk_only G4.out (Only.of_below (F := []) hb5) (by simp)) (Only.of_below (F := []) hb5') (by simp))
        have HE := Lib.hid (And.intro htx hend)
        have hgt : g < w5.heap.size := Nat.lt_of_lt_of_le (Array.getElem?_eq_some_iff.1 G4.out).1 hb5.size
        clear hb5 hb5' htx hend R4 O4 G4
        go_upto_region 9 with fail
        obtain ⟨W5, hW⟩ : ∃ W, w5.alloc (.cells #[.int .i64 kd, .string tx, .int .u64 nn, .int .i64 a2] 63) = W := ⟨_, rfl⟩
        rw [hW] at R5 T5 O5 G5
        try rw [hW]
        clear hW
        generalize w5.heap.size = g5 at *
        have c2 := R5.out.c2
        have t0 := T5.out.c0
        go_upto_if 53 with fail
        go_cut [] (fun wx => ∃ (at6 : Nat) (e6 bad6 z : Int), Rd wx q f at6 e6 bad6 ∧ Only [q] w wx ∧ wx.heap[g]? = some (.cells #[.string s, .int .i64 z] 82 (0, 0)) ∧ at3 ≤ at6 ∧ 0 ≤ z ∧ z ≤ 1048576)
        case first =>
          have c1 := R5.out.c1
          have cf := R5.out.free
          have t2 := T5.out.c2
          have g50 : W5.cell? ⟨g, 0, none⟩ = some (.string s) := by simp only [World.cell?, G5.out]; simp
          have g51 : W5.cell? ⟨g, 1, none⟩ = some (.int .i64 1) := by simp only [World.cell?, G5.out]; simp
          have g5f : ∀ k, W5.frozen? ⟨g, k, none⟩ = false := fun k => by simp only [World.frozen?, G5.out]; simp
          by_cases hk2 : kd = 2
          · subst hk2
            have h1 : at4 + 1 < f.n := by
              have := R5.out.lt
              rcases Nat.lt_or_ge (at4 + 1) f.n with h | h
              · exact h
              · exact absurd (HE.out.2 (by omega)) (by decide)
            have i1 : IntKind.i64.wrap ((at4 : Int) + 1) = (at4 : Int) + 1 := IntWalk.i64_in _ ⟨by omega, by omega⟩
            have hn0 := HE.out.1.2.1
            by_cases hsm : nn < 1048576
            · have d1 : decide (nn < 1048576) = true := decide_eq_true hsm
              have i2 : IntKind.i64.wrap nn = nn := IntWalk.i64_in _ ⟨by omega, by omega⟩
              have R6 := Lib.hid ((rd_set (rd_set R5.out hqg 1 (.int .i64 1048576)) hqg 1 (.int .i64 nn)).step h1)
              have O6 := Lib.hid ((only_set (only_set O5.out hwg 1 (.int .i64 1048576)) hwg 1 (.int .i64 nn)).seq (only_q _ q 1 (.int .i64 ((at4 : Int) + 1))))
              have G6 := Lib.hid (blk_only (blk_set (blk_set G5.out (i := 1) (.int .i64 1048576)) (i := 1) (.int .i64 nn)) (only_q _ q 1 (.int .i64 ((at4 : Int) + 1))) hgne)
              have HN := Lib.hid hn0
              clear hn0
              go_wp2_with fail
              go_meet
              case rel => exact ⟨at4 + 1, 0, bad3, nn, R6.out, O6.out, G6.out, by omega, HN.out, by omega⟩
            · have d1 : decide (nn < 1048576) = false := decide_eq_false hsm
              have R6 := Lib.hid ((rd_set R5.out hqg 1 (.int .i64 1048576)).step h1)
              have O6 := Lib.hid ((only_set O5.out hwg 1 (.int .i64 1048576)).seq (only_q _ q 1 (.int .i64 ((at4 : Int) + 1))))
              have G6 := Lib.hid (blk_only (blk_set G5.out (i := 1) (.int .i64 1048576)) (only_q _ q 1 (.int .i64 ((at4 : Int) + 1))) hgne)
              clear hn0
              go_wp2_with fail
              go_meet
              case rel => exact ⟨at4 + 1, 0, bad3, 1048576, R6.out, O6.out, G6.out, by omega, by decide, by decide⟩
          · have k2 : (kd == 2) = false := by simpa using hk2
            go_wp2_with fail
            refine (fail_any R5.out 2 (by decide)).mono ?_
            rintro en w6 ⟨rfl, e6, bad6, h6, hne6, ho6⟩
            have R6 := Lib.hid h6
            have O6 := Lib.hid (O5.out.seq ho6)
            have G6 := Lib.hid (blk_only G5.out ho6 hgne)
            clear h6 ho6
            go_wp2_with fail
            go_meet
            case rel => exact ⟨_, e6, bad6, 1, R6.out, O6.out, G6.out, by omega, by decide, by decide⟩
        case rest =>
          obtain ⟨at6, e6, bad6, z, h6, ho6, hg6, hat6, hz0, hz1⟩ := hcut
          clear R5 T5 O5 G5 HE c2 t0
          have R6 := Lib.hid h6
          have O6 := Lib.hid ho6
          have G6 := Lib.hid hg6
          clear h6 ho6 hg6
          go_wp2_with fail
          refine (want_any R6.out hn ⟨#[93]⟩ 93 ix_93).mono ?_
          rintro en w7 ⟨rfl, at7, e7, bad7, h7, ho7, hat7, hok7⟩
          have R7 := Lib.hid h7
          have O7 := Lib.hid (O6.out.seq ho7)
          have G7 := Lib.hid (blk_only G6.out ho7 hgne)
          clear h7 ho7 hok7 R6 O6 G6
          go_wp2_with fail
          go_meet
          case rel => exact ⟨at7, e7, bad7, z, R7.out, O7.out, G7.out, by omega, hz0, hz1⟩
    case rest =>
      obtain ⟨at5, e5, bad5, z, h5, ho5, hg5, hat5, hz0, hz1⟩ := hcut
      clear R4 O4 G4 HT4 HF4
      have R5 := Lib.hid h5
      have O5 := Lib.hid ho5
      have G5 := Lib.hid hg5
      have HZ := Lib.hid (And.intro hz0 hz1)
      clear h5 ho5 hg5 hz0 hz1
      go_wp2_with fail
      refine (want_any R5.out hn ⟨#[59]⟩ 59 ix_59).mono ?_
      rintro en W ⟨rfl, at6, e6, bad6, h6, ho6, hat6, hok6⟩
      have R7 := Lib.hid h6
      have O6 := Lib.hid (O5.out.seq ho6)
      have hG7 := Lib.hid (blk_only G5.out ho6 hgne)
      have gltW : g < W.heap.size := (Array.getElem?_eq_some_iff.1 hG7.out).1
      clear h6 ho6 hok6 R5 O5 G5
      go_upto_region 17 with fail
      have T7 := Lib.hid (T0.out.only O6.out (Nat.le_refl at_))
      have OWN : Hid ((∀ b, cA.map (·.block) = some b → q + 1 ≤ b) ∧ (∀ b, cA.map (·.block) = some b → b < w.heap.size)) := Lib.hid ⟨fun b hb => (T0.out.oc.lt b hb).1, fun b hb => (T0.out.oc.lt b hb).2⟩
      have SA0 : W.cell? ⟨q, 5, none⟩ = some (.slice cA cn cc) ∧ W.cell? ⟨g, 0, none⟩ = some (.string s) ∧ W.cell? ⟨g, 1, none⟩ = some (.int .i64 z) := ⟨by rw [R7.out.c5, T7.out.s5], by simp only [World.cell?, hG7.out]; simp, by simp only [World.cell?, hG7.out]; simp⟩
      have WD := Lib.hid (R7.out.keep (Below.refl _ _).drew)
      have SA : W.drew.cell? ⟨q, 5, none⟩ = some (.slice cA cn cc) ∧ W.drew.cell? ⟨g, 0, none⟩ = some (.string s) ∧ W.drew.cell? ⟨g, 1, none⟩ = some (.int .i64 z) := SA0
      refine Hd.start 9 (fun w' => w'.cell? ⟨q, 5, none⟩ = some (.slice cA cn cc) ∧ w'.cell? ⟨g, 0, none⟩ = some (.string s) ∧ w'.cell? ⟨g, 1, none⟩ = some (.int .i64 z)) (by kernel_rfl) ?_
      refine Hd.take (i := 0) (v := ?vC0) rfl (by decide +kernel) (by decide +kernel) (fun _ _ _ h => h) rfl ?hyC0 SA ?restC0
      case hyC0 =>
        intro wq hSw
        obtain ⟨s1, s2, s3⟩ := hSw
        go_simp
        try with_reducible rfl
      try simp only [Act.put, zA, zB, zC]
      refine Hd.take (i := 1) (v := ?vC1) rfl (by decide +kernel) (by decide +kernel) (fun _ _ _ h => h) rfl ?hyC1 SA ?restC1
      case hyC1 =>
        intro wq hSw
        obtain ⟨s1, s2, s3⟩ := hSw
        go_simp
        try with_reducible rfl
      try simp only [Act.put, zA, zB, zC]
      refine Hd.take (i := 2) (v := ?vC2) rfl (by decide +kernel) (by decide +kernel) (fun _ _ _ h => h) rfl ?hyC2 SA ?restC2
      case hyC2 =>
        intro wq hSw
        obtain ⟨s1, s2, s3⟩ := hSw
        go_simp
        try with_reducible rfl
      try simp only [Act.put, zA, zB, zC]
      refine Hd.take (i := 3) (v := ?vC3) rfl (by decide +kernel) (by decide +kernel) (fun _ _ _ h => h) rfl ?hyC3 SA ?restC3
      case hyC3 =>
        intro wq hSw
        obtain ⟨s1, s2, s3⟩ := hSw
        go_simp
        try with_reducible rfl
      try simp only [Act.put, zA, zB, zC]
      refine Hd.take (i := 4) (v := ?vC4) rfl (by decide +kernel) (by decide +kernel) (fun _ _ _ h => h) rfl ?hyC4 SA ?restC4
      case hyC4 =>
        intro wq hSw
        obtain ⟨s1, s2, s3⟩ := hSw
        go_simp
        try with_reducible rfl
      try simp only [Act.put, zA, zB, zC]
      refine Hd.take (i := 5) (v := ?vC5) rfl (by decide +kernel) (by decide +kernel) (fun _ _ _ h => h) rfl ?hyC5 SA ?restC5
      case hyC5 =>
        intro wq hSw
        obtain ⟨s1, s2, s3⟩ := hSw
        go_simp
        try with_reducible rfl
      try simp only [Act.put, zA, zB, zC]
      refine Hd.take (i := 6) (v := ?vC6) rfl (by decide +kernel) (by decide +kernel) (fun _ _ _ h => h) rfl ?hyC6 SA ?restC6
      case hyC6 =>
        intro wq hSw
        obtain ⟨s1, s2, s3⟩ := hSw
        go_simp
        try with_reducible rfl
      try simp only [Act.put, zA, zB, zC]
      refine Hd.one (i := 7) rfl (by kernel_rfl) rfl (fun K hK => ?_)
      go_simp
      have SB : (W.drew.alloc (.cells #[.string s, .int .i64 z] 82)).cell? ⟨q, 5, none⟩ = some (.slice cA cn cc) ∧ (W.drew.alloc (.cells #[.string s, .int .i64 z] 82)).cell? ⟨g, 0, none⟩ = some (.string s) ∧ (W.drew.alloc (.cells #[.string s, .int .i64 z] 82)).cell? ⟨g, 1, none⟩ = some (.int .i64 z) := ⟨(World.cell?_alloc_lt _ _ _ (show q < W.drew.heap.size from R7.out.qlt)).trans SA.1, (World.cell?_alloc_lt _ _ _ (show g < W.drew.heap.size from gltW)).trans SA.2.1, (World.cell?_alloc_lt _ _ _ (show g < W.drew.heap.size from gltW)).trans SA.2.2⟩
      refine hK _ _ (fun _ => SB) ?_
      clear hK K
      try simp only [Act.put, zA, zB, zC]
      refine Hd.one (i := 8) rfl (by kernel_rfl) rfl (fun K hK => ?_)
      refine wp_app _ _ _ rfl elCl (q + 1) cA cn cc LC rfl ((T7.out.oc.keep (Below.refl _ _).drew).keep (below_new _ _)) (some ⟨W.drew.heap.size, 0, none⟩) 1 1 (fun _ => [.string s, .int .i64 z]) rfl (sl_one W.drew [.string s, .int .i64 z] 82) (fun _ _ => rfl) (fun _ _ u hu => by simp at hu; rcases hu with rfl | rfl <;> rfl) (by unfold maxLen; omega) (by omega) (Nat.le_trans (show q + 1 ≤ W.heap.size by have := R7.out.qlt; omega) (show W.heap.size ≤ (W.drew.alloc (.cells #[.string s, .int .i64 z] 82)).heap.size by simp)) ?_
      intro A2 c2 w8 hown8 hg8 hat8
      have hO8 := grown_out hg8
      have hat9 : A2.map (·.block) = cA.map (·.block) ∨ ∀ b, A2.map (·.block) = some b → W.heap.size ≤ b := hat8.imp id (fun e b hb => by rw [e] at hb; injection hb with hb; subst hb; simp)
      have R8 := Lib.hid (R7.out.only hO8 (fun g hg => by have := (OWN.out).1 g (mem_blk hg); omega))
      have hq8 : w8.cell? ⟨q, 5, none⟩ = _ := only_cell hO8 R7.out.qlt (fun hx => by have := OWN.out.1 q (mem_blk hx); omega) 5
      have hg80 : w8.cell? ⟨g, 0, none⟩ = _ := only_cell hO8 gltW (fun hx => by have := OWN.out.2 g (mem_blk hx); omega) 0
      have hg81 : w8.cell? ⟨g, 1, none⟩ = _ := only_cell hO8 gltW (fun hx => by have := OWN.out.2 g (mem_blk hx); omega) 1
      refine hK _ _ (fun _ => ⟨hq8.trans SA.1, hg80.trans SA.2.1, hg81.trans SA.2.2⟩) ?_
      have HOW8 := Lib.hid hown8
      have HO8 := Lib.hid hO8
      have HAT := Lib.hid hat9
      have fr8 := R8.out.free
      have c8k := R8.out.c5
      clear hK K SA SB SA0 hown8 hg8 hat8 hO8 hat9 hq8 hg80 hg81
      try simp only [Act.put, zA, zB, zC]
      refine Hd.one (i := 9) rfl (by kernel_rfl) rfl (fun K hK => ?_)
      go_simp
      refine hK _ _ (fun h => absurd h (by omega)) ?_
      clear hK K
      try simp only [Act.put, zA, zB, zC]
      refine Hd.one (i := 10) rfl (by kernel_rfl) rfl (fun K hK => ?_)
      go_simp
      refine hK _ _ (fun h => absurd h (by omega)) ?_
      clear hK K
      try simp only [Act.put, zA, zB, zC]
      refine Hd.one (i := 11) rfl (by kernel_rfl) rfl (fun K hK => ?_)
      go_simp
      refine hK _ _ (fun h => absurd h (by omega)) ?_
      clear hK K
      try simp only [Act.put, zA, zB, zC]
      refine Hd.one (i := 12) rfl (by kernel_rfl) rfl (fun K hK => ?_)
      go_simp
      refine hK _ _ (fun h => absurd h (by omega)) ?_
      clear hK K
      try simp only [Act.put, zA, zB, zC]
      refine Hd.done (by kernel_rfl) ?_ _
      go_wp2_with fail
      go_end0
      have T9 := tp_cell T7.out HS.out HZ.out.1 HZ.out.2 HOW8.out HO8.out HAT.out
      exact ⟨rfl, { f with s5 := .slice A2 (cn + 1) c2 }, at6, e6, bad6, rfl, rfl, rfl, R8.out.set5 (.slice A2 (cn + 1) c2), ((O6.out.below (fun x hx => by simp at hx; omega) (by omega)).trans ((HO8.out.below (fun x hx => by have := OWN.out.1 x (mem_blk hx); omega) (by have := O6.out.size; omega)).trans ((only_q w8 q 5 _).below (fun x hx => by simp at hx; omega) (by have := R8.out.qlt; omega)))), by omega, fun h0 => ⟨by omega, _, _, _, _, _, _, _, _, _, _, _, _, _, T9.only (Only.refl _ _) (show at_ + 1 ≤ at6 by omega)⟩⟩
end Go.Proofs.Ytapnnbbbgopobaa.Rr
namespace Go.Proofs.Ytapnnbbbgopobaa.Hh
section
variable {P : Program} {ops : Array Oper} {Q : Exit → Act → World → Prop} {md : Region.Mode} {S : World → Prop}
theorem take {i : Nat} {oi : Oper} {v : Value} {fuel : Nat} {listed : Array Bool} {a : Act} {w : World} (hi' : ops.toList[i]? = some oi)
    (hs : Region.noSelect ops = true) (hf : (Region.free md ops listed i && (Region.ready md ops listed).contains i) = true)
    (hQ : ∀ c a w, Q (.panic c) (a.put oi.dst v) w → Q (.panic c) a w) (hg : oi.guard = none) (hy : ∀ w, S w → (execOp a.eval oi).run P w = .ok (.value v) w) (hS : S w)
    (h : wpAnyH P md ops Q S fuel (listed.setIfInBounds i true) (a.put oi.dst v) w) : wpAnyH P md ops Q S (fuel + 1) listed a w := by
  simp only [Bool.and_eq_true] at hf
  exact wpAnyH_take (by simpa using hi') hs hf.1 hf.2 hQ (.inl ⟨by simp [Region.wanted, hg], hy⟩) hS h
theorem one {i : Nat} {oi : Oper} {fuel : Nat} {listed : Array Bool} {a : Act} {w : World} (hi' : ops.toList[i]? = some oi) (hr : decide (Region.ready md ops listed = [i]) = true) (hg : oi.guard = none)
    (h : ∀ K : Act → World → Prop, (∀ a' w', S w' → wpAnyH P md ops Q S fuel (listed.setIfInBounds i true) a' w' → K a' w') → oi.wp P a w K Q) : wpAnyH P md ops Q S (fuel + 1) listed a w := by
  have hi : ops[i]? = some oi := by simpa using hi'
  have hr := of_decide_eq_true hr
  refine ⟨fun h0 => (by rw [hr] at h0; cases h0), fun j hj => ?_⟩
  rw [hr] at hj
  have hj : j = i := by simpa using hj
  subst hj
  unfold wpOp
  simp only [hi, Region.wanted, hg, if_true]
  exact .inl (h _ fun a' w' h1 h2 => ⟨h1, h2⟩)
theorem two {i j : Nat} {oi oj : Oper} {fuel : Nat} {listed : Array Bool} {a : Act} {w : World} (hi' : ops.toList[i]? = some oi) (hj' : ops.toList[j]? = some oj) (hr : decide (Region.ready md ops listed = [i, j]) = true) (hgi : oi.guard = none) (hgj : oj.guard = none)
    (h1 : ∀ K : Act → World → Prop, (∀ a' w', S w' → wpAnyH P md ops Q S fuel (listed.setIfInBounds i true) a' w' → K a' w') → oi.wp P a w K Q)
    (h2 : ∀ K : Act → World → Prop, (∀ a' w', S w' → wpAnyH P md ops Q S fuel (listed.setIfInBounds j true) a' w' → K a' w') → oj.wp P a w K Q) : wpAnyH P md ops Q S (fuel + 1) listed a w := by
  have hi : ops[i]? = some oi := by simpa using hi'
  have hj : ops[j]? = some oj := by simpa using hj'
  have hr := of_decide_eq_true hr
  refine ⟨fun h0 => (by rw [hr] at h0; cases h0), fun k hk => ?_⟩
  rw [hr] at hk
  have hk : k = i ∨ k = j := by simpa using hk
  rcases hk with rfl | rfl
  · unfold wpOp
    simp only [hi, Region.wanted, hgi, if_true]
    exact .inl (h1 _ fun a' w' h1 h2 => ⟨h1, h2⟩)
  · unfold wpOp
    simp only [hj, Region.wanted, hgj, if_true]
    exact .inl (h2 _ fun a' w' h1 h2 => ⟨h1, h2⟩)
theorem done {listed : Array Bool} {a : Act} {w : World} (hr : decide (Region.ready md ops listed = []) = true) (h : Q .normal a w) : ∀ fuel, wpAnyH P md ops Q S fuel listed a w :=
  wpAnyH_done (of_decide_eq_true hr) h
theorem start {id : Nat} {a : Act} {w : World} (S : World → Prop) (hm : P.follows .mixedOrders = true)
    (h : wpAnyH P .any ops Q S ops.size (Array.replicate ops.size false) a w.drew) : (Code.region id ops true).wp P Q a w :=
  wp_region_held hm h
end
end Go.Proofs.Ytapnnbbbgopobaa.Hh
