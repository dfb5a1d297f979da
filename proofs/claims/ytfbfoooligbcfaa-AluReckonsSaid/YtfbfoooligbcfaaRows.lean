/-
  No cell of these rows narrows 'for every input' (looked for: loops, veiled, ifaces, maps, wideKeys, modest, calm, conditions, laid).
  DERIVED. THE GIVEN ROWS OF THIS SEAT. 11 by the template 'for every input the law returns true; each argument reads behind the call as it read before'; 0 by the template 'total and deterministic' (their statements: YtfbfoooligbcfaaTotals.lean).
  GIVEN WITH THE SEED: the statements are not yours to turn. If you find one false, say at which input.
  Laid BY PROGRAM, IN A SANDBOX (cutbox-rows.mjs): the forced cells as the released guide's own fill.sh prints them over the translation 8d5ec99e78ee34df… (all of the seat's roots in one cut). By AI agents, Wed Nov 11 2026. No macro, syntax, notation, axiom, sorry.
-/
import Derived.Test.YtfbfoooligbcfaaChecked
import GoSem.Claim
import GoSem.ClaimJoined
import GoSem.ClaimMapViews
import Derived.JoinedTies
import Derived.KernelRfl
namespace Go.Proofs.Ytfbfoooligbcfaa
/- THE CELL 'sum', in the pinned program and in every row, IS THE sha256 OF THE DUMP (.gsa) THAT YtfbfoooligbcfaaProg.lean LOADS. Nothing in Lean hashes anything: it is a label: what it is worth is what the hold of that sum in a sandbox is worth. -/
noncomputable def Try.pinned : Pinned := { name := "ytfbfoooligbcfaa", sum := "8d5ec99e78ee34dfec605c6b84204c71ed4fe44f33eb543b958c254f7ec663ce", checked := Try.checked }
namespace Rows
def none {H : Type} : Left H := { results := [], args := [] }

/-- 'cofferdamlaw2.A64Encodes': WHATEVER THE INPUT: true; the input reads as it did. -/
def a64EncodesSpec : ChangeSpec := { name := "a64Encodes", fn := fun _ => fun
  | [d] => { results := [.lit (.bool true)], args := [d] }
  | _ => none }
def a64EncodesRow : OpenClaim := { program := "ytfbfoooligbcfaa", sum := "8d5ec99e78ee34dfec605c6b84204c71ed4fe44f33eb543b958c254f7ec663ce", func := "cofferdam/cofferdamlaw2.A64Encodes", spec := "a64Encodes", unfollowed := true, recurses := true, apart := false }
def A64EncodesSaid : Prop := a64EncodesRow.holds Try.pinned (OpenSpec.ofChange a64EncodesSpec)

/-- ITS FALSE NEIGHBOUR: 'it returns false'. Refute it at one input. -/
def a64EncodesWrong : ChangeSpec := { name := "a64Encodes", fn := fun _ => fun
  | [d] => { results := [.lit (.bool false)], args := [d] }
  | _ => none }
def A64EncodesWrongFalsely : Prop := a64EncodesRow.holds Try.pinned (OpenSpec.ofChange a64EncodesWrong)

/-- 'cofferdamlaw2.A64Decodes': WHATEVER THE INPUT: true; the input reads as it did. -/
def a64DecodesSpec : ChangeSpec := { name := "a64Decodes", fn := fun _ => fun
  | [d] => { results := [.lit (.bool true)], args := [d] }
  | _ => none }
def a64DecodesRow : OpenClaim := { program := "ytfbfoooligbcfaa", sum := "8d5ec99e78ee34dfec605c6b84204c71ed4fe44f33eb543b958c254f7ec663ce", func := "cofferdam/cofferdamlaw2.A64Decodes", spec := "a64Decodes", unfollowed := true, recurses := true, apart := false }
def A64DecodesSaid : Prop := a64DecodesRow.holds Try.pinned (OpenSpec.ofChange a64DecodesSpec)

/-- ITS FALSE NEIGHBOUR: 'it returns false'. Refute it at one input. -/
def a64DecodesWrong : ChangeSpec := { name := "a64Decodes", fn := fun _ => fun
  | [d] => { results := [.lit (.bool false)], args := [d] }
  | _ => none }
def A64DecodesWrongFalsely : Prop := a64DecodesRow.holds Try.pinned (OpenSpec.ofChange a64DecodesWrong)

/-- 'cofferdamlaw2.A64Known': WHATEVER THE INPUT: true; the input reads as it did. -/
def a64KnownSpec : ChangeSpec := { name := "a64Known", fn := fun _ => fun
  | [d] => { results := [.lit (.bool true)], args := [d] }
  | _ => none }
def a64KnownRow : OpenClaim := { program := "ytfbfoooligbcfaa", sum := "8d5ec99e78ee34dfec605c6b84204c71ed4fe44f33eb543b958c254f7ec663ce", func := "cofferdam/cofferdamlaw2.A64Known", spec := "a64Known", unfollowed := true, recurses := true, apart := false }
def A64KnownSaid : Prop := a64KnownRow.holds Try.pinned (OpenSpec.ofChange a64KnownSpec)

/-- ITS FALSE NEIGHBOUR: 'it returns false'. Refute it at one input. -/
def a64KnownWrong : ChangeSpec := { name := "a64Known", fn := fun _ => fun
  | [d] => { results := [.lit (.bool false)], args := [d] }
  | _ => none }
def A64KnownWrongFalsely : Prop := a64KnownRow.holds Try.pinned (OpenSpec.ofChange a64KnownWrong)

/-- 'cofferdamlaw2.A64Limits': WHATEVER THE INPUT: true; the input reads as it did. -/
def a64LimitsSpec : ChangeSpec := { name := "a64Limits", fn := fun _ => fun
  | [d1, d2] => { results := [.lit (.bool true)], args := [d1, d2] }
  | _ => none }
def a64LimitsRow : OpenClaim := { program := "ytfbfoooligbcfaa", sum := "8d5ec99e78ee34dfec605c6b84204c71ed4fe44f33eb543b958c254f7ec663ce", func := "cofferdam/cofferdamlaw2.A64Limits", spec := "a64Limits", unfollowed := true, recurses := true, apart := false }
def A64LimitsSaid : Prop := a64LimitsRow.holds Try.pinned (OpenSpec.ofChange a64LimitsSpec)

/-- ITS FALSE NEIGHBOUR: 'it returns false'. Refute it at one input. -/
def a64LimitsWrong : ChangeSpec := { name := "a64Limits", fn := fun _ => fun
  | [d1, d2] => { results := [.lit (.bool false)], args := [d1, d2] }
  | _ => none }
def A64LimitsWrongFalsely : Prop := a64LimitsRow.holds Try.pinned (OpenSpec.ofChange a64LimitsWrong)

/-- 'cofferdamlaw2.A64Apart': WHATEVER THE INPUT: true; the input reads as it did. -/
def a64ApartSpec : ChangeSpec := { name := "a64Apart", fn := fun _ => fun
  | [d1, d2] => { results := [.lit (.bool true)], args := [d1, d2] }
  | _ => none }
def a64ApartRow : OpenClaim := { program := "ytfbfoooligbcfaa", sum := "8d5ec99e78ee34dfec605c6b84204c71ed4fe44f33eb543b958c254f7ec663ce", func := "cofferdam/cofferdamlaw2.A64Apart", spec := "a64Apart", unfollowed := true, recurses := true, apart := false }
def A64ApartSaid : Prop := a64ApartRow.holds Try.pinned (OpenSpec.ofChange a64ApartSpec)

/-- ITS FALSE NEIGHBOUR: 'it returns false'. Refute it at one input. -/
def a64ApartWrong : ChangeSpec := { name := "a64Apart", fn := fun _ => fun
  | [d1, d2] => { results := [.lit (.bool false)], args := [d1, d2] }
  | _ => none }
def A64ApartWrongFalsely : Prop := a64ApartRow.holds Try.pinned (OpenSpec.ofChange a64ApartWrong)

/-- 'cofferdamlaw3.AluSteps': WHATEVER THE INPUT: true; the input reads as it did. -/
def aluStepsSpec : ChangeSpec := { name := "aluSteps", fn := fun _ => fun
  | [d1, d2, d3, d4] => { results := [.lit (.bool true)], args := [d1, d2, d3, d4] }
  | _ => none }
def aluStepsRow : OpenClaim := { program := "ytfbfoooligbcfaa", sum := "8d5ec99e78ee34dfec605c6b84204c71ed4fe44f33eb543b958c254f7ec663ce", func := "cofferdam/cofferdamlaw3.AluSteps", spec := "aluSteps", unfollowed := true, recurses := true, apart := false }
def AluStepsSaid : Prop := aluStepsRow.holds Try.pinned (OpenSpec.ofChange aluStepsSpec)

/-- ITS FALSE NEIGHBOUR: 'it returns false'. Refute it at one input. -/
def aluStepsWrong : ChangeSpec := { name := "aluSteps", fn := fun _ => fun
  | [d1, d2, d3, d4] => { results := [.lit (.bool false)], args := [d1, d2, d3, d4] }
  | _ => none }
def AluStepsWrongFalsely : Prop := aluStepsRow.holds Try.pinned (OpenSpec.ofChange aluStepsWrong)

/-- 'cofferdamlaw3.AluMoves': WHATEVER THE INPUT: true; the input reads as it did. -/
def aluMovesSpec : ChangeSpec := { name := "aluMoves", fn := fun _ => fun
  | [d1, d2] => { results := [.lit (.bool true)], args := [d1, d2] }
  | _ => none }
def aluMovesRow : OpenClaim := { program := "ytfbfoooligbcfaa", sum := "8d5ec99e78ee34dfec605c6b84204c71ed4fe44f33eb543b958c254f7ec663ce", func := "cofferdam/cofferdamlaw3.AluMoves", spec := "aluMoves", unfollowed := true, recurses := true, apart := false }
def AluMovesSaid : Prop := aluMovesRow.holds Try.pinned (OpenSpec.ofChange aluMovesSpec)

/-- ITS FALSE NEIGHBOUR: 'it returns false'. Refute it at one input. -/
def aluMovesWrong : ChangeSpec := { name := "aluMoves", fn := fun _ => fun
  | [d1, d2] => { results := [.lit (.bool false)], args := [d1, d2] }
  | _ => none }
def AluMovesWrongFalsely : Prop := aluMovesRow.holds Try.pinned (OpenSpec.ofChange aluMovesWrong)

/-- 'cofferdamlaw3.AluReckons': WHATEVER THE INPUT: true; the input reads as it did. -/
def aluReckonsSpec : ChangeSpec := { name := "aluReckons", fn := fun _ => fun
  | [d1, d2] => { results := [.lit (.bool true)], args := [d1, d2] }
  | _ => none }
def aluReckonsRow : OpenClaim := { program := "ytfbfoooligbcfaa", sum := "8d5ec99e78ee34dfec605c6b84204c71ed4fe44f33eb543b958c254f7ec663ce", func := "cofferdam/cofferdamlaw3.AluReckons", spec := "aluReckons", unfollowed := true, recurses := true, apart := false }
def AluReckonsSaid : Prop := aluReckonsRow.holds Try.pinned (OpenSpec.ofChange aluReckonsSpec)

/-- ITS FALSE NEIGHBOUR: 'it returns false'. Refute it at one input. -/
def aluReckonsWrong : ChangeSpec := { name := "aluReckons", fn := fun _ => fun
  | [d1, d2] => { results := [.lit (.bool false)], args := [d1, d2] }
  | _ => none }
def AluReckonsWrongFalsely : Prop := aluReckonsRow.holds Try.pinned (OpenSpec.ofChange aluReckonsWrong)

/-- 'cofferdamlaw3.AluBranches': WHATEVER THE INPUT: true; the input reads as it did. -/
def aluBranchesSpec : ChangeSpec := { name := "aluBranches", fn := fun _ => fun
  | [d1, d2] => { results := [.lit (.bool true)], args := [d1, d2] }
  | _ => none }
def aluBranchesRow : OpenClaim := { program := "ytfbfoooligbcfaa", sum := "8d5ec99e78ee34dfec605c6b84204c71ed4fe44f33eb543b958c254f7ec663ce", func := "cofferdam/cofferdamlaw3.AluBranches", spec := "aluBranches", unfollowed := true, recurses := true, apart := false }
def AluBranchesSaid : Prop := aluBranchesRow.holds Try.pinned (OpenSpec.ofChange aluBranchesSpec)

/-- ITS FALSE NEIGHBOUR: 'it returns false'. Refute it at one input. -/
def aluBranchesWrong : ChangeSpec := { name := "aluBranches", fn := fun _ => fun
  | [d1, d2] => { results := [.lit (.bool false)], args := [d1, d2] }
  | _ => none }
def AluBranchesWrongFalsely : Prop := aluBranchesRow.holds Try.pinned (OpenSpec.ofChange aluBranchesWrong)

/-- 'cofferdamlaw3.AluNothing': WHATEVER THE INPUT: true; the input reads as it did. -/
def aluNothingSpec : ChangeSpec := { name := "aluNothing", fn := fun _ => fun
  | [d1, d2, d3, d4, d5] => { results := [.lit (.bool true)], args := [d1, d2, d3, d4, d5] }
  | _ => none }
def aluNothingRow : OpenClaim := { program := "ytfbfoooligbcfaa", sum := "8d5ec99e78ee34dfec605c6b84204c71ed4fe44f33eb543b958c254f7ec663ce", func := "cofferdam/cofferdamlaw3.AluNothing", spec := "aluNothing", unfollowed := true, recurses := true, apart := false }
def AluNothingSaid : Prop := aluNothingRow.holds Try.pinned (OpenSpec.ofChange aluNothingSpec)

/-- ITS FALSE NEIGHBOUR: 'it returns false'. Refute it at one input. -/
def aluNothingWrong : ChangeSpec := { name := "aluNothing", fn := fun _ => fun
  | [d1, d2, d3, d4, d5] => { results := [.lit (.bool false)], args := [d1, d2, d3, d4, d5] }
  | _ => none }
def AluNothingWrongFalsely : Prop := aluNothingRow.holds Try.pinned (OpenSpec.ofChange aluNothingWrong)

/-- 'cofferdamlaw3.AluOthers': WHATEVER THE INPUT: true; the input reads as it did. -/
def aluOthersSpec : ChangeSpec := { name := "aluOthers", fn := fun _ => fun
  | [d1, d2] => { results := [.lit (.bool true)], args := [d1, d2] }
  | _ => none }
def aluOthersRow : OpenClaim := { program := "ytfbfoooligbcfaa", sum := "8d5ec99e78ee34dfec605c6b84204c71ed4fe44f33eb543b958c254f7ec663ce", func := "cofferdam/cofferdamlaw3.AluOthers", spec := "aluOthers", unfollowed := true, recurses := true, apart := false }
def AluOthersSaid : Prop := aluOthersRow.holds Try.pinned (OpenSpec.ofChange aluOthersSpec)

/-- ITS FALSE NEIGHBOUR: 'it returns false'. Refute it at one input. -/
def aluOthersWrong : ChangeSpec := { name := "aluOthers", fn := fun _ => fun
  | [d1, d2] => { results := [.lit (.bool false)], args := [d1, d2] }
  | _ => none }
def AluOthersWrongFalsely : Prop := aluOthersRow.holds Try.pinned (OpenSpec.ofChange aluOthersWrong)

/- THE SECOND FORM. 'bulk': how many values and letters a reading holds, each counted each time it is reached (what is shared counts as often as it is met; a slice's spare places count too). A statement '..UptoSaid' is the law's where the arguments, and the package variables that the reading takes, are together of bulk at most 1048576: NARROWER than '..Said'. Prove '..Said' where nothing that the law and all that it calls make is longer than what came in: it says more and counts as full. Else prove '..UptoSaid'. A law counts once. -/
mutual
def uptoBulk {H : Type} : DataW H → Nat
  | .lit (.string bytes) => bytes.length + 1
  | .lit _ => 1
  | .nil => 1
  | .ptr d => uptoBulk d + 1
  | .slice elems spare => uptoBulkAll elems + uptoBulkAll spare + 1
  | .agg parts => uptoBulkAll parts + 1
  | .iface _ d => uptoBulk d + 1
  | .map entries => uptoBulkEntries entries + 1
  | .held _ => 1
def uptoBulkAll {H : Type} : List (DataW H) → Nat
  | [] => 0
  | d :: r => uptoBulk d + uptoBulkAll r
def uptoBulkEntries {H : Type} : List (Lit × DataW H) → Nat
  | [] => 0
  | x :: r => uptoBulkEntry x + uptoBulkEntries r
def uptoBulkEntry {H : Type} : Lit × DataW H → Nat
  | (.string bytes, d) => bytes.length + uptoBulk d + 1
  | (_, d) => uptoBulk d + 1
 end
def uptoSmall : (H : Type) → List (DataW H) → Bool := fun _ ds => decide (uptoBulkAll ds ≤ 1048576)
def OpenSpec.upto (s : _root_.Go.ChangeSpec) : _root_.Go.OpenSpec := { _root_.Go.OpenSpec.ofChange s with cond := some uptoSmall }

/-- 'cofferdamlaw2.A64Encodes', WHERE WHAT IT READS IS OF BULK AT MOST 1048576: true; the input reads as it did. -/
def a64EncodesUptoRow : OpenClaim := { program := "ytfbfoooligbcfaa", sum := "8d5ec99e78ee34dfec605c6b84204c71ed4fe44f33eb543b958c254f7ec663ce", func := "cofferdam/cofferdamlaw2.A64Encodes", spec := "a64Encodes", unfollowed := true, recurses := true, apart := false, narrowed := true }
def A64EncodesUptoSaid : Prop := a64EncodesUptoRow.holds Try.pinned (OpenSpec.upto a64EncodesSpec)

/-- 'cofferdamlaw2.A64Decodes', WHERE WHAT IT READS IS OF BULK AT MOST 1048576: true; the input reads as it did. -/
def a64DecodesUptoRow : OpenClaim := { program := "ytfbfoooligbcfaa", sum := "8d5ec99e78ee34dfec605c6b84204c71ed4fe44f33eb543b958c254f7ec663ce", func := "cofferdam/cofferdamlaw2.A64Decodes", spec := "a64Decodes", unfollowed := true, recurses := true, apart := false, narrowed := true }
def A64DecodesUptoSaid : Prop := a64DecodesUptoRow.holds Try.pinned (OpenSpec.upto a64DecodesSpec)

/-- 'cofferdamlaw2.A64Known', WHERE WHAT IT READS IS OF BULK AT MOST 1048576: true; the input reads as it did. -/
def a64KnownUptoRow : OpenClaim := { program := "ytfbfoooligbcfaa", sum := "8d5ec99e78ee34dfec605c6b84204c71ed4fe44f33eb543b958c254f7ec663ce", func := "cofferdam/cofferdamlaw2.A64Known", spec := "a64Known", unfollowed := true, recurses := true, apart := false, narrowed := true }
def A64KnownUptoSaid : Prop := a64KnownUptoRow.holds Try.pinned (OpenSpec.upto a64KnownSpec)

/-- 'cofferdamlaw2.A64Limits', WHERE WHAT IT READS IS OF BULK AT MOST 1048576: true; the input reads as it did. -/
def a64LimitsUptoRow : OpenClaim := { program := "ytfbfoooligbcfaa", sum := "8d5ec99e78ee34dfec605c6b84204c71ed4fe44f33eb543b958c254f7ec663ce", func := "cofferdam/cofferdamlaw2.A64Limits", spec := "a64Limits", unfollowed := true, recurses := true, apart := false, narrowed := true }
def A64LimitsUptoSaid : Prop := a64LimitsUptoRow.holds Try.pinned (OpenSpec.upto a64LimitsSpec)

/-- 'cofferdamlaw2.A64Apart', WHERE WHAT IT READS IS OF BULK AT MOST 1048576: true; the input reads as it did. -/
def a64ApartUptoRow : OpenClaim := { program := "ytfbfoooligbcfaa", sum := "8d5ec99e78ee34dfec605c6b84204c71ed4fe44f33eb543b958c254f7ec663ce", func := "cofferdam/cofferdamlaw2.A64Apart", spec := "a64Apart", unfollowed := true, recurses := true, apart := false, narrowed := true }
def A64ApartUptoSaid : Prop := a64ApartUptoRow.holds Try.pinned (OpenSpec.upto a64ApartSpec)

/-- 'cofferdamlaw3.AluSteps', WHERE WHAT IT READS IS OF BULK AT MOST 1048576: true; the input reads as it did. -/
def aluStepsUptoRow : OpenClaim := { program := "ytfbfoooligbcfaa", sum := "8d5ec99e78ee34dfec605c6b84204c71ed4fe44f33eb543b958c254f7ec663ce", func := "cofferdam/cofferdamlaw3.AluSteps", spec := "aluSteps", unfollowed := true, recurses := true, apart := false, narrowed := true }
def AluStepsUptoSaid : Prop := aluStepsUptoRow.holds Try.pinned (OpenSpec.upto aluStepsSpec)

/-- 'cofferdamlaw3.AluMoves', WHERE WHAT IT READS IS OF BULK AT MOST 1048576: true; the input reads as it did. -/
def aluMovesUptoRow : OpenClaim := { program := "ytfbfoooligbcfaa", sum := "8d5ec99e78ee34dfec605c6b84204c71ed4fe44f33eb543b958c254f7ec663ce", func := "cofferdam/cofferdamlaw3.AluMoves", spec := "aluMoves", unfollowed := true, recurses := true, apart := false, narrowed := true }
def AluMovesUptoSaid : Prop := aluMovesUptoRow.holds Try.pinned (OpenSpec.upto aluMovesSpec)

/-- 'cofferdamlaw3.AluReckons', WHERE WHAT IT READS IS OF BULK AT MOST 1048576: true; the input reads as it did. -/
def aluReckonsUptoRow : OpenClaim := { program := "ytfbfoooligbcfaa", sum := "8d5ec99e78ee34dfec605c6b84204c71ed4fe44f33eb543b958c254f7ec663ce", func := "cofferdam/cofferdamlaw3.AluReckons", spec := "aluReckons", unfollowed := true, recurses := true, apart := false, narrowed := true }
def AluReckonsUptoSaid : Prop := aluReckonsUptoRow.holds Try.pinned (OpenSpec.upto aluReckonsSpec)

/-- 'cofferdamlaw3.AluBranches', WHERE WHAT IT READS IS OF BULK AT MOST 1048576: true; the input reads as it did. -/
def aluBranchesUptoRow : OpenClaim := { program := "ytfbfoooligbcfaa", sum := "8d5ec99e78ee34dfec605c6b84204c71ed4fe44f33eb543b958c254f7ec663ce", func := "cofferdam/cofferdamlaw3.AluBranches", spec := "aluBranches", unfollowed := true, recurses := true, apart := false, narrowed := true }
def AluBranchesUptoSaid : Prop := aluBranchesUptoRow.holds Try.pinned (OpenSpec.upto aluBranchesSpec)

/-- 'cofferdamlaw3.AluNothing', WHERE WHAT IT READS IS OF BULK AT MOST 1048576: true; the input reads as it did. -/
def aluNothingUptoRow : OpenClaim := { program := "ytfbfoooligbcfaa", sum := "8d5ec99e78ee34dfec605c6b84204c71ed4fe44f33eb543b958c254f7ec663ce", func := "cofferdam/cofferdamlaw3.AluNothing", spec := "aluNothing", unfollowed := true, recurses := true, apart := false, narrowed := true }
def AluNothingUptoSaid : Prop := aluNothingUptoRow.holds Try.pinned (OpenSpec.upto aluNothingSpec)

/-- 'cofferdamlaw3.AluOthers', WHERE WHAT IT READS IS OF BULK AT MOST 1048576: true; the input reads as it did. -/
def aluOthersUptoRow : OpenClaim := { program := "ytfbfoooligbcfaa", sum := "8d5ec99e78ee34dfec605c6b84204c71ed4fe44f33eb543b958c254f7ec663ce", func := "cofferdam/cofferdamlaw3.AluOthers", spec := "aluOthers", unfollowed := true, recurses := true, apart := false, narrowed := true }
def AluOthersUptoSaid : Prop := aluOthersUptoRow.holds Try.pinned (OpenSpec.upto aluOthersSpec)

end Rows
end Go.Proofs.Ytfbfoooligbcfaa
