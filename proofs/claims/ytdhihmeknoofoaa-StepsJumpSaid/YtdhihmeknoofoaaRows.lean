/-
  No cell of these rows narrows 'for every input' (looked for: loops, veiled, ifaces, maps, wideKeys, modest, calm, conditions, laid).
  DERIVED. THE GIVEN ROWS OF THIS SEAT. 13 by the template 'for every input the law returns true; each argument reads behind the call as it read before'; 0 by the template 'total and deterministic' (their statements: YtdhihmeknoofoaaTotals.lean).
  GIVEN WITH THE SEED: the statements are not yours to turn. If you find one false, say at which input.
  Laid BY PROGRAM, IN A SANDBOX (cutbox-rows.mjs): the forced cells as the released guide's own fill.sh prints them over the translation 82d1f25073264c3f… (all of the seat's roots in one cut). By AI agents, Wed Nov 11 2026. No macro, syntax, notation, axiom, sorry.
-/
import Derived.Test.YtdhihmeknoofoaaChecked
import GoSem.Claim
import GoSem.ClaimJoined
import GoSem.ClaimMapViews
import Derived.JoinedTies
import Derived.KernelRfl
namespace Go.Proofs.Ytdhihmeknoofoaa
/- THE CELL 'sum', in the pinned program and in every row, IS THE sha256 OF THE DUMP (.gsa) THAT YtdhihmeknoofoaaProg.lean LOADS. Nothing in Lean hashes anything: it is a label: what it is worth is what the hold of that sum in a sandbox is worth. -/
noncomputable def Try.pinned : Pinned := { name := "ytdhihmeknoofoaa", sum := "82d1f25073264c3f6d033040752f194dafd2c3026d2e6cd0eecb614eb1d0a495", checked := Try.checked }
namespace Rows
def none {H : Type} : Left H := { results := [], args := [] }

/-- 'cofferdamlaw15.FlushCodes': WHATEVER THE INPUT: true; the input reads as it did. -/
def flushCodesSpec : ChangeSpec := { name := "flushCodes", fn := fun _ => fun
  | [d] => { results := [.lit (.bool true)], args := [d] }
  | _ => none }
def flushCodesRow : OpenClaim := { program := "ytdhihmeknoofoaa", sum := "82d1f25073264c3f6d033040752f194dafd2c3026d2e6cd0eecb614eb1d0a495", func := "cofferdam/cofferdamlaw15.FlushCodes", spec := "flushCodes", apart := false }
def FlushCodesSaid : Prop := flushCodesRow.holds Try.pinned (OpenSpec.ofChange flushCodesSpec)

/-- ITS FALSE NEIGHBOUR: 'it returns false'. Refute it at one input. -/
def flushCodesWrong : ChangeSpec := { name := "flushCodes", fn := fun _ => fun
  | [d] => { results := [.lit (.bool false)], args := [d] }
  | _ => none }
def FlushCodesWrongFalsely : Prop := flushCodesRow.holds Try.pinned (OpenSpec.ofChange flushCodesWrong)

/-- 'cofferdamlaw15.FlushKeeps': WHATEVER THE INPUT: true; the input reads as it did. -/
def flushKeepsSpec : ChangeSpec := { name := "flushKeeps", fn := fun _ => fun
  | [d] => { results := [.lit (.bool true)], args := [d] }
  | _ => none }
def flushKeepsRow : OpenClaim := { program := "ytdhihmeknoofoaa", sum := "82d1f25073264c3f6d033040752f194dafd2c3026d2e6cd0eecb614eb1d0a495", func := "cofferdam/cofferdamlaw15.FlushKeeps", spec := "flushKeeps", apart := false }
def FlushKeepsSaid : Prop := flushKeepsRow.holds Try.pinned (OpenSpec.ofChange flushKeepsSpec)

/-- ITS FALSE NEIGHBOUR: 'it returns false'. Refute it at one input. -/
def flushKeepsWrong : ChangeSpec := { name := "flushKeeps", fn := fun _ => fun
  | [d] => { results := [.lit (.bool false)], args := [d] }
  | _ => none }
def FlushKeepsWrongFalsely : Prop := flushKeepsRow.holds Try.pinned (OpenSpec.ofChange flushKeepsWrong)

/-- 'cofferdamlaw15.FlushMeans': WHATEVER THE INPUT: true; the input reads as it did. -/
def flushMeansSpec : ChangeSpec := { name := "flushMeans", fn := fun _ => fun
  | [d1, d2, d3, d4] => { results := [.lit (.bool true)], args := [d1, d2, d3, d4] }
  | _ => none }
def flushMeansRow : OpenClaim := { program := "ytdhihmeknoofoaa", sum := "82d1f25073264c3f6d033040752f194dafd2c3026d2e6cd0eecb614eb1d0a495", func := "cofferdam/cofferdamlaw15.FlushMeans", spec := "flushMeans", apart := false }
def FlushMeansSaid : Prop := flushMeansRow.holds Try.pinned (OpenSpec.ofChange flushMeansSpec)

/-- ITS FALSE NEIGHBOUR: 'it returns false'. Refute it at one input. -/
def flushMeansWrong : ChangeSpec := { name := "flushMeans", fn := fun _ => fun
  | [d1, d2, d3, d4] => { results := [.lit (.bool false)], args := [d1, d2, d3, d4] }
  | _ => none }
def FlushMeansWrongFalsely : Prop := flushMeansRow.holds Try.pinned (OpenSpec.ofChange flushMeansWrong)

/-- 'cofferdamlaw5.QueueTexts': WHATEVER THE INPUT: true; the input reads as it did. -/
def queueTextsSpec : ChangeSpec := { name := "queueTexts", fn := fun _ => fun
  | [d] => { results := [.lit (.bool true)], args := [d] }
  | _ => none }
def queueTextsRow : OpenClaim := { program := "ytdhihmeknoofoaa", sum := "82d1f25073264c3f6d033040752f194dafd2c3026d2e6cd0eecb614eb1d0a495", func := "cofferdam/cofferdamlaw5.QueueTexts", spec := "queueTexts", unfollowed := true, recurses := true, apart := false }
def QueueTextsSaid : Prop := queueTextsRow.holds Try.pinned (OpenSpec.ofChange queueTextsSpec)

/-- ITS FALSE NEIGHBOUR: 'it returns false'. Refute it at one input. -/
def queueTextsWrong : ChangeSpec := { name := "queueTexts", fn := fun _ => fun
  | [d] => { results := [.lit (.bool false)], args := [d] }
  | _ => none }
def QueueTextsWrongFalsely : Prop := queueTextsRow.holds Try.pinned (OpenSpec.ofChange queueTextsWrong)

/-- 'cofferdamlaw5.PendingFirst': WHATEVER THE INPUT: true; the input reads as it did. -/
def pendingFirstSpec : ChangeSpec := { name := "pendingFirst", fn := fun _ => fun
  | [d1, d2] => { results := [.lit (.bool true)], args := [d1, d2] }
  | _ => none }
def pendingFirstRow : OpenClaim := { program := "ytdhihmeknoofoaa", sum := "82d1f25073264c3f6d033040752f194dafd2c3026d2e6cd0eecb614eb1d0a495", func := "cofferdam/cofferdamlaw5.PendingFirst", spec := "pendingFirst", unfollowed := true, recurses := true, apart := false }
def PendingFirstSaid : Prop := pendingFirstRow.holds Try.pinned (OpenSpec.ofChange pendingFirstSpec)

/-- ITS FALSE NEIGHBOUR: 'it returns false'. Refute it at one input. -/
def pendingFirstWrong : ChangeSpec := { name := "pendingFirst", fn := fun _ => fun
  | [d1, d2] => { results := [.lit (.bool false)], args := [d1, d2] }
  | _ => none }
def PendingFirstWrongFalsely : Prop := pendingFirstRow.holds Try.pinned (OpenSpec.ofChange pendingFirstWrong)

/-- 'cofferdamlaw16.ElideCodes': WHATEVER THE INPUT: true; the input reads as it did. -/
def elideCodesSpec : ChangeSpec := { name := "elideCodes", fn := fun _ => fun
  | [d1, d2, d3] => { results := [.lit (.bool true)], args := [d1, d2, d3] }
  | _ => none }
def elideCodesRow : OpenClaim := { program := "ytdhihmeknoofoaa", sum := "82d1f25073264c3f6d033040752f194dafd2c3026d2e6cd0eecb614eb1d0a495", func := "cofferdam/cofferdamlaw16.ElideCodes", spec := "elideCodes", apart := false }
def ElideCodesSaid : Prop := elideCodesRow.holds Try.pinned (OpenSpec.ofChange elideCodesSpec)

/-- ITS FALSE NEIGHBOUR: 'it returns false'. Refute it at one input. -/
def elideCodesWrong : ChangeSpec := { name := "elideCodes", fn := fun _ => fun
  | [d1, d2, d3] => { results := [.lit (.bool false)], args := [d1, d2, d3] }
  | _ => none }
def ElideCodesWrongFalsely : Prop := elideCodesRow.holds Try.pinned (OpenSpec.ofChange elideCodesWrong)

/-- 'cofferdamlaw16.ElideStores': WHATEVER THE INPUT: true; the input reads as it did. -/
def elideStoresSpec : ChangeSpec := { name := "elideStores", fn := fun _ => fun
  | [d1, d2] => { results := [.lit (.bool true)], args := [d1, d2] }
  | _ => none }
def elideStoresRow : OpenClaim := { program := "ytdhihmeknoofoaa", sum := "82d1f25073264c3f6d033040752f194dafd2c3026d2e6cd0eecb614eb1d0a495", func := "cofferdam/cofferdamlaw16.ElideStores", spec := "elideStores", apart := false }
def ElideStoresSaid : Prop := elideStoresRow.holds Try.pinned (OpenSpec.ofChange elideStoresSpec)

/-- ITS FALSE NEIGHBOUR: 'it returns false'. Refute it at one input. -/
def elideStoresWrong : ChangeSpec := { name := "elideStores", fn := fun _ => fun
  | [d1, d2] => { results := [.lit (.bool false)], args := [d1, d2] }
  | _ => none }
def ElideStoresWrongFalsely : Prop := elideStoresRow.holds Try.pinned (OpenSpec.ofChange elideStoresWrong)

/-- 'cofferdamlaw16.ElideMeans': WHATEVER THE INPUT: true; the input reads as it did. -/
def elideMeansSpec : ChangeSpec := { name := "elideMeans", fn := fun _ => fun
  | [d1, d2, d3, d4] => { results := [.lit (.bool true)], args := [d1, d2, d3, d4] }
  | _ => none }
def elideMeansRow : OpenClaim := { program := "ytdhihmeknoofoaa", sum := "82d1f25073264c3f6d033040752f194dafd2c3026d2e6cd0eecb614eb1d0a495", func := "cofferdam/cofferdamlaw16.ElideMeans", spec := "elideMeans", apart := false }
def ElideMeansSaid : Prop := elideMeansRow.holds Try.pinned (OpenSpec.ofChange elideMeansSpec)

/-- ITS FALSE NEIGHBOUR: 'it returns false'. Refute it at one input. -/
def elideMeansWrong : ChangeSpec := { name := "elideMeans", fn := fun _ => fun
  | [d1, d2, d3, d4] => { results := [.lit (.bool false)], args := [d1, d2, d3, d4] }
  | _ => none }
def ElideMeansWrongFalsely : Prop := elideMeansRow.holds Try.pinned (OpenSpec.ofChange elideMeansWrong)

/-- 'cofferdamlaw5.QueuePlays': WHATEVER THE INPUT: true; the input reads as it did. -/
def queuePlaysSpec : ChangeSpec := { name := "queuePlays", fn := fun _ => fun
  | [d1, d2] => { results := [.lit (.bool true)], args := [d1, d2] }
  | _ => none }
def queuePlaysRow : OpenClaim := { program := "ytdhihmeknoofoaa", sum := "82d1f25073264c3f6d033040752f194dafd2c3026d2e6cd0eecb614eb1d0a495", func := "cofferdam/cofferdamlaw5.QueuePlays", spec := "queuePlays", unfollowed := true, recurses := true, apart := false }
def QueuePlaysSaid : Prop := queuePlaysRow.holds Try.pinned (OpenSpec.ofChange queuePlaysSpec)

/-- ITS FALSE NEIGHBOUR: 'it returns false'. Refute it at one input. -/
def queuePlaysWrong : ChangeSpec := { name := "queuePlays", fn := fun _ => fun
  | [d1, d2] => { results := [.lit (.bool false)], args := [d1, d2] }
  | _ => none }
def QueuePlaysWrongFalsely : Prop := queuePlaysRow.holds Try.pinned (OpenSpec.ofChange queuePlaysWrong)

/-- 'cofferdamlaw5.PendingMay': WHATEVER THE INPUT: true; the input reads as it did. -/
def pendingMaySpec : ChangeSpec := { name := "pendingMay", fn := fun _ => fun
  | [d1, d2, d3] => { results := [.lit (.bool true)], args := [d1, d2, d3] }
  | _ => none }
def pendingMayRow : OpenClaim := { program := "ytdhihmeknoofoaa", sum := "82d1f25073264c3f6d033040752f194dafd2c3026d2e6cd0eecb614eb1d0a495", func := "cofferdam/cofferdamlaw5.PendingMay", spec := "pendingMay", unfollowed := true, recurses := true, apart := false }
def PendingMaySaid : Prop := pendingMayRow.holds Try.pinned (OpenSpec.ofChange pendingMaySpec)

/-- ITS FALSE NEIGHBOUR: 'it returns false'. Refute it at one input. -/
def pendingMayWrong : ChangeSpec := { name := "pendingMay", fn := fun _ => fun
  | [d1, d2, d3] => { results := [.lit (.bool false)], args := [d1, d2, d3] }
  | _ => none }
def PendingMayWrongFalsely : Prop := pendingMayRow.holds Try.pinned (OpenSpec.ofChange pendingMayWrong)

/-- 'cofferdamlaw5.PendingRel': WHATEVER THE INPUT: true; the input reads as it did. -/
def pendingRelSpec : ChangeSpec := { name := "pendingRel", fn := fun _ => fun
  | [d1, d2, d3] => { results := [.lit (.bool true)], args := [d1, d2, d3] }
  | _ => none }
def pendingRelRow : OpenClaim := { program := "ytdhihmeknoofoaa", sum := "82d1f25073264c3f6d033040752f194dafd2c3026d2e6cd0eecb614eb1d0a495", func := "cofferdam/cofferdamlaw5.PendingRel", spec := "pendingRel", unfollowed := true, recurses := true, apart := false }
def PendingRelSaid : Prop := pendingRelRow.holds Try.pinned (OpenSpec.ofChange pendingRelSpec)

/-- ITS FALSE NEIGHBOUR: 'it returns false'. Refute it at one input. -/
def pendingRelWrong : ChangeSpec := { name := "pendingRel", fn := fun _ => fun
  | [d1, d2, d3] => { results := [.lit (.bool false)], args := [d1, d2, d3] }
  | _ => none }
def PendingRelWrongFalsely : Prop := pendingRelRow.holds Try.pinned (OpenSpec.ofChange pendingRelWrong)

/-- 'cofferdamlaw17.StepsJump': WHATEVER THE INPUT: true; the input reads as it did. -/
def stepsJumpSpec : ChangeSpec := { name := "stepsJump", fn := fun _ => fun
  | [d1, d2, d3] => { results := [.lit (.bool true)], args := [d1, d2, d3] }
  | _ => none }
def stepsJumpRow : OpenClaim := { program := "ytdhihmeknoofoaa", sum := "82d1f25073264c3f6d033040752f194dafd2c3026d2e6cd0eecb614eb1d0a495", func := "cofferdam/cofferdamlaw17.StepsJump", spec := "stepsJump", unfollowed := true, recurses := true, apart := false }
def StepsJumpSaid : Prop := stepsJumpRow.holds Try.pinned (OpenSpec.ofChange stepsJumpSpec)

/-- ITS FALSE NEIGHBOUR: 'it returns false'. Refute it at one input. -/
def stepsJumpWrong : ChangeSpec := { name := "stepsJump", fn := fun _ => fun
  | [d1, d2, d3] => { results := [.lit (.bool false)], args := [d1, d2, d3] }
  | _ => none }
def StepsJumpWrongFalsely : Prop := stepsJumpRow.holds Try.pinned (OpenSpec.ofChange stepsJumpWrong)

/-- 'cofferdamlaw17.StepsCas': WHATEVER THE INPUT: true; the input reads as it did. -/
def stepsCasSpec : ChangeSpec := { name := "stepsCas", fn := fun _ => fun
  | [d1, d2, d3, d4] => { results := [.lit (.bool true)], args := [d1, d2, d3, d4] }
  | _ => none }
def stepsCasRow : OpenClaim := { program := "ytdhihmeknoofoaa", sum := "82d1f25073264c3f6d033040752f194dafd2c3026d2e6cd0eecb614eb1d0a495", func := "cofferdam/cofferdamlaw17.StepsCas", spec := "stepsCas", unfollowed := true, recurses := true, apart := false }
def StepsCasSaid : Prop := stepsCasRow.holds Try.pinned (OpenSpec.ofChange stepsCasSpec)

/-- ITS FALSE NEIGHBOUR: 'it returns false'. Refute it at one input. -/
def stepsCasWrong : ChangeSpec := { name := "stepsCas", fn := fun _ => fun
  | [d1, d2, d3, d4] => { results := [.lit (.bool false)], args := [d1, d2, d3, d4] }
  | _ => none }
def StepsCasWrongFalsely : Prop := stepsCasRow.holds Try.pinned (OpenSpec.ofChange stepsCasWrong)

/- THE SECOND FORM. 'bulk': how many values and letters a reading holds, each counted each time it is reached (what is shared counts as often as it is met; a slice's spare places count too). A statement '..UptoSaid' is the law's where the arguments, and the package variables that the reading takes, are together of bulk at most 1048576: NARROWER than '..Said'. Prove '..Said' where nothing that the law and all that it calls make is longer than what came in: it says more and counts as full. Else prove '..UptoSaid'. A law counts once. -/
mutual
def uptoBulk {H : Type} : DataW H → Nat
  | .lit (.string bytes) => bytes.length + 1
  | .lit _ => 1
  | .nil => 1
  | .ptr d => uptoBulk d + 1
  | .slice elems spare => uptoBulkAll elems + uptoBulkAll spare + 1
  | .agg parts => uptoBulkAll parts + 1
  | .iface _ d => uptoBulk d + 1
  | .map entries => uptoBulkEntries entries + 1
  | .held _ => 1
def uptoBulkAll {H : Type} : List (DataW H) → Nat
  | [] => 0
  | d :: r => uptoBulk d + uptoBulkAll r
def uptoBulkEntries {H : Type} : List (Lit × DataW H) → Nat
  | [] => 0
  | x :: r => uptoBulkEntry x + uptoBulkEntries r
def uptoBulkEntry {H : Type} : Lit × DataW H → Nat
  | (.string bytes, d) => bytes.length + uptoBulk d + 1
  | (_, d) => uptoBulk d + 1
 end
def uptoSmall : (H : Type) → List (DataW H) → Bool := fun _ ds => decide (uptoBulkAll ds ≤ 1048576)
def OpenSpec.upto (s : _root_.Go.ChangeSpec) : _root_.Go.OpenSpec := { _root_.Go.OpenSpec.ofChange s with cond := some uptoSmall }

/-- 'cofferdamlaw15.FlushCodes', WHERE WHAT IT READS IS OF BULK AT MOST 1048576: true; the input reads as it did. -/
def flushCodesUptoRow : OpenClaim := { program := "ytdhihmeknoofoaa", sum := "82d1f25073264c3f6d033040752f194dafd2c3026d2e6cd0eecb614eb1d0a495", func := "cofferdam/cofferdamlaw15.FlushCodes", spec := "flushCodes", apart := false, narrowed := true }
def FlushCodesUptoSaid : Prop := flushCodesUptoRow.holds Try.pinned (OpenSpec.upto flushCodesSpec)

/-- 'cofferdamlaw15.FlushKeeps', WHERE WHAT IT READS IS OF BULK AT MOST 1048576: true; the input reads as it did. -/
def flushKeepsUptoRow : OpenClaim := { program := "ytdhihmeknoofoaa", sum := "82d1f25073264c3f6d033040752f194dafd2c3026d2e6cd0eecb614eb1d0a495", func := "cofferdam/cofferdamlaw15.FlushKeeps", spec := "flushKeeps", apart := false, narrowed := true }
def FlushKeepsUptoSaid : Prop := flushKeepsUptoRow.holds Try.pinned (OpenSpec.upto flushKeepsSpec)

/-- 'cofferdamlaw15.FlushMeans', WHERE WHAT IT READS IS OF BULK AT MOST 1048576: true; the input reads as it did. -/
def flushMeansUptoRow : OpenClaim := { program := "ytdhihmeknoofoaa", sum := "82d1f25073264c3f6d033040752f194dafd2c3026d2e6cd0eecb614eb1d0a495", func := "cofferdam/cofferdamlaw15.FlushMeans", spec := "flushMeans", apart := false, narrowed := true }
def FlushMeansUptoSaid : Prop := flushMeansUptoRow.holds Try.pinned (OpenSpec.upto flushMeansSpec)

/-- 'cofferdamlaw5.QueueTexts', WHERE WHAT IT READS IS OF BULK AT MOST 1048576: true; the input reads as it did. -/
def queueTextsUptoRow : OpenClaim := { program := "ytdhihmeknoofoaa", sum := "82d1f25073264c3f6d033040752f194dafd2c3026d2e6cd0eecb614eb1d0a495", func := "cofferdam/cofferdamlaw5.QueueTexts", spec := "queueTexts", unfollowed := true, recurses := true, apart := false, narrowed := true }
def QueueTextsUptoSaid : Prop := queueTextsUptoRow.holds Try.pinned (OpenSpec.upto queueTextsSpec)

/-- 'cofferdamlaw5.PendingFirst', WHERE WHAT IT READS IS OF BULK AT MOST 1048576: true; the input reads as it did. -/
def pendingFirstUptoRow : OpenClaim := { program := "ytdhihmeknoofoaa", sum := "82d1f25073264c3f6d033040752f194dafd2c3026d2e6cd0eecb614eb1d0a495", func := "cofferdam/cofferdamlaw5.PendingFirst", spec := "pendingFirst", unfollowed := true, recurses := true, apart := false, narrowed := true }
def PendingFirstUptoSaid : Prop := pendingFirstUptoRow.holds Try.pinned (OpenSpec.upto pendingFirstSpec)

/-- 'cofferdamlaw16.ElideCodes', WHERE WHAT IT READS IS OF BULK AT MOST 1048576: true; the input reads as it did. -/
def elideCodesUptoRow : OpenClaim := { program := "ytdhihmeknoofoaa", sum := "82d1f25073264c3f6d033040752f194dafd2c3026d2e6cd0eecb614eb1d0a495", func := "cofferdam/cofferdamlaw16.ElideCodes", spec := "elideCodes", apart := false, narrowed := true }
def ElideCodesUptoSaid : Prop := elideCodesUptoRow.holds Try.pinned (OpenSpec.upto elideCodesSpec)

/-- 'cofferdamlaw16.ElideStores', WHERE WHAT IT READS IS OF BULK AT MOST 1048576: true; the input reads as it did. -/
def elideStoresUptoRow : OpenClaim := { program := "ytdhihmeknoofoaa", sum := "82d1f25073264c3f6d033040752f194dafd2c3026d2e6cd0eecb614eb1d0a495", func := "cofferdam/cofferdamlaw16.ElideStores", spec := "elideStores", apart := false, narrowed := true }
def ElideStoresUptoSaid : Prop := elideStoresUptoRow.holds Try.pinned (OpenSpec.upto elideStoresSpec)

/-- 'cofferdamlaw16.ElideMeans', WHERE WHAT IT READS IS OF BULK AT MOST 1048576: true; the input reads as it did. -/
def elideMeansUptoRow : OpenClaim := { program := "ytdhihmeknoofoaa", sum := "82d1f25073264c3f6d033040752f194dafd2c3026d2e6cd0eecb614eb1d0a495", func := "cofferdam/cofferdamlaw16.ElideMeans", spec := "elideMeans", apart := false, narrowed := true }
def ElideMeansUptoSaid : Prop := elideMeansUptoRow.holds Try.pinned (OpenSpec.upto elideMeansSpec)

/-- 'cofferdamlaw5.QueuePlays', WHERE WHAT IT READS IS OF BULK AT MOST 1048576: true; the input reads as it did. -/
def queuePlaysUptoRow : OpenClaim := { program := "ytdhihmeknoofoaa", sum := "82d1f25073264c3f6d033040752f194dafd2c3026d2e6cd0eecb614eb1d0a495", func := "cofferdam/cofferdamlaw5.QueuePlays", spec := "queuePlays", unfollowed := true, recurses := true, apart := false, narrowed := true }
def QueuePlaysUptoSaid : Prop := queuePlaysUptoRow.holds Try.pinned (OpenSpec.upto queuePlaysSpec)

/-- 'cofferdamlaw5.PendingMay', WHERE WHAT IT READS IS OF BULK AT MOST 1048576: true; the input reads as it did. -/
def pendingMayUptoRow : OpenClaim := { program := "ytdhihmeknoofoaa", sum := "82d1f25073264c3f6d033040752f194dafd2c3026d2e6cd0eecb614eb1d0a495", func := "cofferdam/cofferdamlaw5.PendingMay", spec := "pendingMay", unfollowed := true, recurses := true, apart := false, narrowed := true }
def PendingMayUptoSaid : Prop := pendingMayUptoRow.holds Try.pinned (OpenSpec.upto pendingMaySpec)

/-- 'cofferdamlaw5.PendingRel', WHERE WHAT IT READS IS OF BULK AT MOST 1048576: true; the input reads as it did. -/
def pendingRelUptoRow : OpenClaim := { program := "ytdhihmeknoofoaa", sum := "82d1f25073264c3f6d033040752f194dafd2c3026d2e6cd0eecb614eb1d0a495", func := "cofferdam/cofferdamlaw5.PendingRel", spec := "pendingRel", unfollowed := true, recurses := true, apart := false, narrowed := true }
def PendingRelUptoSaid : Prop := pendingRelUptoRow.holds Try.pinned (OpenSpec.upto pendingRelSpec)

/-- 'cofferdamlaw17.StepsJump', WHERE WHAT IT READS IS OF BULK AT MOST 1048576: true; the input reads as it did. -/
def stepsJumpUptoRow : OpenClaim := { program := "ytdhihmeknoofoaa", sum := "82d1f25073264c3f6d033040752f194dafd2c3026d2e6cd0eecb614eb1d0a495", func := "cofferdam/cofferdamlaw17.StepsJump", spec := "stepsJump", unfollowed := true, recurses := true, apart := false, narrowed := true }
def StepsJumpUptoSaid : Prop := stepsJumpUptoRow.holds Try.pinned (OpenSpec.upto stepsJumpSpec)

/-- 'cofferdamlaw17.StepsCas', WHERE WHAT IT READS IS OF BULK AT MOST 1048576: true; the input reads as it did. -/
def stepsCasUptoRow : OpenClaim := { program := "ytdhihmeknoofoaa", sum := "82d1f25073264c3f6d033040752f194dafd2c3026d2e6cd0eecb614eb1d0a495", func := "cofferdam/cofferdamlaw17.StepsCas", spec := "stepsCas", unfollowed := true, recurses := true, apart := false, narrowed := true }
def StepsCasUptoSaid : Prop := stepsCasUptoRow.holds Try.pinned (OpenSpec.upto stepsCasSpec)

end Rows
end Go.Proofs.Ytdhihmeknoofoaa
