/-
  TWO QUEUES OF INTS AND A SLICE BESIDE THEM: what each act leaves; two slices of ints compared.
-/
import Derived.Test.YtdhihmeknoofoaaQueueAct
namespace Go.Proofs.Ytdhihmeknoofoaa.QuC
set_option linter.unusedVariables false
set_option linter.unusedSimpArgs false
open Go.RowKit Cm Mm Ow Ow2 Del Qu QuB

structure QS (w0 wr : World) (q o B : Nat) (Lq : List Int) (Aq : Option Addr) (cq : Nat) (Lo : List Int) (Ao : Option Addr) (co : Nat) (Lw : List Int) (Aw : Option Addr) (cw : Nat) : Prop where
  Q : Qv wr q Aq Lq.length cq
  RQ : Ro wr B Aq Lq.length cq Lq
  O : Qv wr o Ao Lo.length co
  RO : Ro wr B Ao Lo.length co Lo
  RW : Ro wr B Aw Lw.length cw Lw
  d1 : ∀ g, Aq.map (·.block) = some g → Ao.map (·.block) ≠ some g
  d2 : ∀ g, Aq.map (·.block) = some g → Aw.map (·.block) ≠ some g
  d3 : ∀ g, Ao.map (·.block) = some g → Aw.map (·.block) ≠ some g
  bel : Below w0.heap.size w0 wr
  g1 : w0.heap.size ≤ q
  g2 : q < o
  g3 : o < B
  g4 : B ≤ wr.heap.size
theorem QS.updQ {w0 wr w' : World} {q o B : Nat} {Lq : List Int} {Aq : Option Addr} {cq : Nat} {Lo : List Int} {Ao : Option Addr} {co : Nat} {Lw : List Int} {Aw : Option Addr} {cw : Nat} (h : QS w0 wr q o B Lq Aq cq Lo Ao co Lw Aw cw)
    {A' : Option Addr} {n' c' : Nat} {L' : List Int} (a : Acted wr w' q B Aq A' n' c' L') (hn : n' = L'.length) : QS w0 w' q o B L' A' c' Lo Ao co Lw Aw cw := by
  subst hn
  have ho := h.O.lt
  have nqo : Aq.map (·.block) ≠ some o := fun e => by have := (h.RQ.lt o e).1; have := h.g3; omega
  have g2 := h.g2
  have g3 := h.g3
  refine ⟨a.Q, a.R, h.O.same (a.same o ho (by omega) nqo), own_same h.RO fun g hg => a.same g (h.RO.lt g hg).2 (by have := (h.RO.lt g hg).1; omega) (fun e => h.d1 g e hg),
    own_same h.RW fun g hg => a.same g (h.RW.lt g hg).2 (by have := (h.RW.lt g hg).1; omega) (fun e => h.d2 g e hg), fun g hg e => ?_, fun g hg e => ?_, h.d3, h.bel.trans (a.below.mono h.g1), h.g1, h.g2, h.g3, Nat.le_trans h.g4 a.below.size⟩
  · rcases a.row with r | r
    · rw [r] at hg; exact h.d1 g hg e
    · have := r g hg; have := (h.RO.lt g e).2; omega
  · rcases a.row with r | r
    · rw [r] at hg; exact h.d2 g hg e
    · have := r g hg; have := (h.RW.lt g e).2; omega
theorem QS.updO {w0 wr w' : World} {q o B : Nat} {Lq : List Int} {Aq : Option Addr} {cq : Nat} {Lo : List Int} {Ao : Option Addr} {co : Nat} {Lw : List Int} {Aw : Option Addr} {cw : Nat} (h : QS w0 wr q o B Lq Aq cq Lo Ao co Lw Aw cw)
    {A' : Option Addr} {n' c' : Nat} {L' : List Int} (a : Acted wr w' o B Ao A' n' c' L') (hn : n' = L'.length) : QS w0 w' q o B Lq Aq cq L' A' c' Lw Aw cw := by
  subst hn
  have hq := h.Q.lt
  have nqo : Ao.map (·.block) ≠ some q := fun e => by have := (h.RO.lt q e).1; have := h.g3; have := h.g2; omega
  have g2 := h.g2
  have g3 := h.g3
  refine ⟨h.Q.same (a.same q hq (by omega) nqo), own_same h.RQ fun g hg => a.same g (h.RQ.lt g hg).2 (by have := (h.RQ.lt g hg).1; omega) (h.d1 g hg), a.Q, a.R,
    own_same h.RW fun g hg => a.same g (h.RW.lt g hg).2 (by have := (h.RW.lt g hg).1; omega) (fun e => h.d3 g e hg), fun g hg e => ?_, h.d2, fun g hg e => ?_, h.bel.trans (a.below.mono (by have := h.g1; omega)), h.g1, h.g2, h.g3, Nat.le_trans h.g4 a.below.size⟩
  · rcases a.row with r | r
    · rw [r] at e; exact h.d1 g hg e
    · have := r g e; have := (h.RQ.lt g hg).2; omega
  · rcases a.row with r | r
    · rw [r] at hg; exact h.d3 g hg e
    · have := r g hg; have := (h.RW.lt g e).2; omega
theorem QS.updW {w0 wr w' : World} {q o B : Nat} {Lq : List Int} {Aq : Option Addr} {cq : Nat} {Lo : List Int} {Ao : Option Addr} {co : Nat} {Lw : List Int} {Aw : Option Addr} {cw : Nat} (h : QS w0 wr q o B Lq Aq cq Lo Ao co Lw Aw cw)
    {A' : Option Addr} {n' c' : Nat} {L' : List Int} (hR : Ro w' B A' n' c' L') (hn : n' = L'.length) (hk : ∀ b, b < wr.heap.size → Aw.map (·.block) ≠ some b → w'.heap[b]? = wr.heap[b]?) (hr : A'.map (·.block) = Aw.map (·.block) ∨ ∀ b, A'.map (·.block) = some b → wr.heap.size ≤ b) (hb : Below B wr w') :
    QS w0 w' q o B Lq Aq cq Lo Ao co L' A' c' := by
  subst hn
  have hq := h.Q.lt
  have ho := h.O.lt
  have g2 := h.g2
  have g3 := h.g3
  have nw : ∀ b, b < B → Aw.map (·.block) ≠ some b := fun b hb e => by have := (h.RW.lt b e).1; omega
  refine ⟨h.Q.same (hk q hq (nw q (by omega))), own_same h.RQ fun g hg => hk g (h.RQ.lt g hg).2 (h.d2 g hg), h.O.same (hk o ho (nw o (by omega))), own_same h.RO fun g hg => hk g (h.RO.lt g hg).2 (h.d3 g hg), hR, h.d1, fun g hg e => ?_, fun g hg e => ?_, h.bel.trans (hb.mono (by have := h.g1; omega)), h.g1, h.g2, h.g3, Nat.le_trans h.g4 hb.size⟩
  · rcases hr with r | r
    · rw [r] at e; exact h.d2 g hg e
    · have := r g e; have := (h.RQ.lt g hg).2; omega
  · rcases hr with r | r
    · rw [r] at e; exact h.d3 g hg e
    · have := r g e; have := (h.RO.lt g hg).2; omega
theorem QS.iQ {w0 wr : World} {q o B : Nat} {Lq : List Int} {Aq : Option Addr} {cq : Nat} {Lo : List Int} {Ao : Option Addr} {co : Nat} {Lw : List Int} {Aw : Option Addr} {cw : Nat} (h : QS w0 wr q o B Lq Aq cq Lo Ao co Lw Aw cw) : iQ wr q (vq Lq) :=
  ⟨Aq, Lq.length, cq, h.Q.1, h.Q.2, Ow.Own.low h.RQ (by have := h.g2; have := h.g3; omega)⟩

/-- the slice that holds ints -/
def Is (w : World) (A : Option Addr) (n cap : Nat) (l : List Int) : Prop := l.length = n ∧ Sl w A n cap 1 (fun i => [.int .i64 (l.getD i 0)])
theorem Is.keep {w w' : World} {A : Option Addr} {n cap : Nat} {l : List Int} (h : Is w A n cap l) (hb : Below w.heap.size w w') : Is w' A n cap l := ⟨h.1, h.2.keep hb⟩
theorem Is.cell {w : World} {A : Option Addr} {n cap : Nat} {l : List Int} (h : Is w A n cap l) {k : Nat} (hk : k < n) : ∃ b o, A = some ⟨b, o, none⟩ ∧ b < w.heap.size ∧ w.cell? ⟨b, o + k, none⟩ = some (.int .i64 (l.getD k 0)) := by
  obtain ⟨b, o, e, hb, hc⟩ := h.2.at_ (by omega)
  exact ⟨b, o, e, hb, by simpa using hc k hk 0 (by omega)⟩
theorem is_row {w : World} {B : Nat} {A : Option Addr} {n c : Nat} {L : List Int} (h : Ro w B A n c L) : Is w A n c L := by
  have h' : Ow.Own w B 3 1 A n c ((vq L).map fun v => [v]) := h
  have hl : L.length = n := by simpa [vq_len] using h'.len
  refine ⟨hl, h'.sl.ext fun i hi => ?_⟩
  simp [List.getD, show i < L.length by omega, vq]
theorem flat_one (xs : List Value) : (xs.map fun v => [v]).flatten = xs := by
  induction xs with
  | nil => rfl
  | cons x xs ih => simp only [List.map_cons, List.flatten_cons, ih]; rfl
theorem is_owns {w : World} {B : Nat} {A : Option Addr} {n c : Nat} {L : List Int} (h : w.ownsRow B 3 1 (.slice A n c) n (L.map fun x => .int .i64 x)) : Is w A n c L := by
  refine is_row (B := B) ⟨?_, fun x hx => by obtain ⟨v, _, rfl⟩ := List.mem_map.1 hx; rfl, ?_⟩
  · have := h.1; simpa [vq] using this
  · have e : ((vq L).map fun v => [v]).flatten = L.map fun x => .int .i64 x := by
      exact flat_one (vq L)
    rw [e]; exact h
theorem is_rest {w : World} {gb n c k : Nat} {l : List Int} (h : Is w (some ⟨gb, 0, none⟩) n c l) (hk : k < n) : Sl w (if c = k + 1 then some ⟨gb, 0, none⟩ else some ⟨gb, k + 1, none⟩) (n - (k + 1)) (c - (k + 1)) 1 (fun i => [.int .i64 ((l.drop (k + 1)).getD i 0)]) := by
  have hd : ∀ i, [Value.int .i64 (l.getD (k + 1 + i) 0)] = [.int .i64 ((l.drop (k + 1)).getD i 0)] := fun i => by simp [List.getD, List.getElem?_drop]
  by_cases hc : c = k + 1
  · rw [if_pos hc]
    have := h.2.le
    exact ⟨by omega, by unfold maxLen; omega, fun h0 => absurd h0 (by omega)⟩
  · rw [if_neg hc]
    have := (h.2.drop (k := k + 1) (by omega)).ext (fun i _ => hd i)
    rw [Nat.zero_add, Nat.mul_one] at this
    exact this

set_option maxHeartbeats 1600000 in
theorem same_any (A A' : Option Addr) (n c c' : Nat) (l : List Int) (w : World) (h : Is w A n c l) (h' : Is w A' n c' l) (hn : n ≤ 65536) :
    Calls Try.prog 44 #[.slice A n c, .slice A' n c'] w fun e w' => e = .returned (.bool true) ∧ Below w.heap.size w w' := by
  have hS := Lib.hid h
  have hS' := Lib.hid h'
  clear h h'
  go_enter Try.func44, Try.ntmps44
  go_wp2
  go_loopw [5] (fun i wr => ∃ (k : Nat), k ≤ n ∧ i = .int .i64 k ∧ Below w.heap.size w wr) (fun i _ => n - (intOf i).toNat)
  case atStart => exact ⟨0, by omega, rfl, Below.refl _ _⟩
  case round =>
    obtain ⟨k, hk, rfl, hbel⟩ := hrel
    by_cases hkn : k < n
    · obtain ⟨b, o, rfl, hb, s0⟩ := (hS.out.keep hbel).cell (k := k) hkn
      obtain ⟨b', o', rfl, hb', r0⟩ := (hS'.out.keep hbel).cell (k := k) hkn
      generalize l.getD k 0 = s at *
      go_wp2
      go_quiet (fail)
      go_wp2
      go_roundw
      case rel => exact ⟨k + 1, by omega, by go_num, below_drewN hbel _⟩
      case measure => simp [intOf]; omega
    · obtain rfl : k = n := by omega
      go_wp2
      go_ret
      exact ⟨rfl, hbel⟩
end Go.Proofs.Ytdhihmeknoofoaa.QuC
