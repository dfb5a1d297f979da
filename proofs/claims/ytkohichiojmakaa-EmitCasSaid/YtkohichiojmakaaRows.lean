/-
  No cell of these rows narrows 'for every input' (looked for: loops, veiled, ifaces, maps, wideKeys, modest, calm, conditions, laid).
  DERIVED. THE GIVEN ROWS OF THIS SEAT. 10 by the template 'for every input the law returns true; each argument reads behind the call as it read before'; 0 by the template 'total and deterministic' (their statements: YtkohichiojmakaaTotals.lean).
  GIVEN WITH THE SEED: the statements are not yours to turn. If you find one false, say at which input.
  Laid BY PROGRAM, IN A SANDBOX (cutbox-rows.mjs): the forced cells as the released guide's own fill.sh prints them over the translation b8d2d3d3808a1ed1… (all of the seat's roots in one cut). By AI agents, Wed Nov 11 2026. No macro, syntax, notation, axiom, sorry.
-/
import Derived.Test.YtkohichiojmakaaChecked
import GoSem.Claim
import GoSem.ClaimJoined
import GoSem.ClaimMapViews
import Derived.JoinedTies
import Derived.KernelRfl
namespace Go.Proofs.Ytkohichiojmakaa
/- THE CELL 'sum', in the pinned program and in every row, IS THE sha256 OF THE DUMP (.gsa) THAT YtkohichiojmakaaProg.lean LOADS. Nothing in Lean hashes anything: it is a label: what it is worth is what the hold of that sum in a sandbox is worth. -/
noncomputable def Try.pinned : Pinned := { name := "ytkohichiojmakaa", sum := "b8d2d3d3808a1ed17068ad3dd75db91bda058ae24122b108a95d3ea03cc7430d", checked := Try.checked }
namespace Rows
def none {H : Type} : Left H := { results := [], args := [] }

/-- 'cofferdamlaw22.ImageJoins': WHATEVER THE INPUT: true; the input reads as it did. -/
def imageJoinsSpec : ChangeSpec := { name := "imageJoins", fn := fun _ => fun
  | [d1, d2, d3] => { results := [.lit (.bool true)], args := [d1, d2, d3] }
  | _ => none }
def imageJoinsRow : OpenClaim := { program := "ytkohichiojmakaa", sum := "b8d2d3d3808a1ed17068ad3dd75db91bda058ae24122b108a95d3ea03cc7430d", func := "cofferdam/cofferdamlaw22.ImageJoins", spec := "imageJoins", unfollowed := true, recurses := true, apart := false }
def ImageJoinsSaid : Prop := imageJoinsRow.holds Try.pinned (OpenSpec.ofChange imageJoinsSpec)

/-- ITS FALSE NEIGHBOUR: 'it returns false'. Refute it at one input. -/
def imageJoinsWrong : ChangeSpec := { name := "imageJoins", fn := fun _ => fun
  | [d1, d2, d3] => { results := [.lit (.bool false)], args := [d1, d2, d3] }
  | _ => none }
def ImageJoinsWrongFalsely : Prop := imageJoinsRow.holds Try.pinned (OpenSpec.ofChange imageJoinsWrong)

/-- 'cofferdamlaw22.ImageBytes': WHATEVER THE INPUT: true; the input reads as it did. -/
def imageBytesSpec : ChangeSpec := { name := "imageBytes", fn := fun _ => fun
  | [d] => { results := [.lit (.bool true)], args := [d] }
  | _ => none }
def imageBytesRow : OpenClaim := { program := "ytkohichiojmakaa", sum := "b8d2d3d3808a1ed17068ad3dd75db91bda058ae24122b108a95d3ea03cc7430d", func := "cofferdam/cofferdamlaw22.ImageBytes", spec := "imageBytes", unfollowed := true, recurses := true, apart := false }
def ImageBytesSaid : Prop := imageBytesRow.holds Try.pinned (OpenSpec.ofChange imageBytesSpec)

/-- ITS FALSE NEIGHBOUR: 'it returns false'. Refute it at one input. -/
def imageBytesWrong : ChangeSpec := { name := "imageBytes", fn := fun _ => fun
  | [d] => { results := [.lit (.bool false)], args := [d] }
  | _ => none }
def ImageBytesWrongFalsely : Prop := imageBytesRow.holds Try.pinned (OpenSpec.ofChange imageBytesWrong)

/-- 'cofferdamlaw21.PatchLeads': WHATEVER THE INPUT: true; the input reads as it did. -/
def patchLeadsSpec : ChangeSpec := { name := "patchLeads", fn := fun _ => fun
  | [d1, d2, d3] => { results := [.lit (.bool true)], args := [d1, d2, d3] }
  | _ => none }
def patchLeadsRow : OpenClaim := { program := "ytkohichiojmakaa", sum := "b8d2d3d3808a1ed17068ad3dd75db91bda058ae24122b108a95d3ea03cc7430d", func := "cofferdam/cofferdamlaw21.PatchLeads", spec := "patchLeads", unfollowed := true, recurses := true, apart := false }
def PatchLeadsSaid : Prop := patchLeadsRow.holds Try.pinned (OpenSpec.ofChange patchLeadsSpec)

/-- ITS FALSE NEIGHBOUR: 'it returns false'. Refute it at one input. -/
def patchLeadsWrong : ChangeSpec := { name := "patchLeads", fn := fun _ => fun
  | [d1, d2, d3] => { results := [.lit (.bool false)], args := [d1, d2, d3] }
  | _ => none }
def PatchLeadsWrongFalsely : Prop := patchLeadsRow.holds Try.pinned (OpenSpec.ofChange patchLeadsWrong)

/-- 'cofferdamlaw21.PatchLinks': WHATEVER THE INPUT: true; the input reads as it did. -/
def patchLinksSpec : ChangeSpec := { name := "patchLinks", fn := fun _ => fun
  | [d1, d2] => { results := [.lit (.bool true)], args := [d1, d2] }
  | _ => none }
def patchLinksRow : OpenClaim := { program := "ytkohichiojmakaa", sum := "b8d2d3d3808a1ed17068ad3dd75db91bda058ae24122b108a95d3ea03cc7430d", func := "cofferdam/cofferdamlaw21.PatchLinks", spec := "patchLinks", unfollowed := true, recurses := true, apart := false }
def PatchLinksSaid : Prop := patchLinksRow.holds Try.pinned (OpenSpec.ofChange patchLinksSpec)

/-- ITS FALSE NEIGHBOUR: 'it returns false'. Refute it at one input. -/
def patchLinksWrong : ChangeSpec := { name := "patchLinks", fn := fun _ => fun
  | [d1, d2] => { results := [.lit (.bool false)], args := [d1, d2] }
  | _ => none }
def PatchLinksWrongFalsely : Prop := patchLinksRow.holds Try.pinned (OpenSpec.ofChange patchLinksWrong)

/-- 'cofferdamlaw20.EmitConstants': WHATEVER THE INPUT: true; the input reads as it did. -/
def emitConstantsSpec : ChangeSpec := { name := "emitConstants", fn := fun _ => fun
  | [d1, d2, d3] => { results := [.lit (.bool true)], args := [d1, d2, d3] }
  | _ => none }
def emitConstantsRow : OpenClaim := { program := "ytkohichiojmakaa", sum := "b8d2d3d3808a1ed17068ad3dd75db91bda058ae24122b108a95d3ea03cc7430d", func := "cofferdam/cofferdamlaw20.EmitConstants", spec := "emitConstants", apart := false }
def EmitConstantsSaid : Prop := emitConstantsRow.holds Try.pinned (OpenSpec.ofChange emitConstantsSpec)

/-- ITS FALSE NEIGHBOUR: 'it returns false'. Refute it at one input. -/
def emitConstantsWrong : ChangeSpec := { name := "emitConstants", fn := fun _ => fun
  | [d1, d2, d3] => { results := [.lit (.bool false)], args := [d1, d2, d3] }
  | _ => none }
def EmitConstantsWrongFalsely : Prop := emitConstantsRow.holds Try.pinned (OpenSpec.ofChange emitConstantsWrong)

/-- 'cofferdamlaw20.EmitOps': WHATEVER THE INPUT: true; the input reads as it did. -/
def emitOpsSpec : ChangeSpec := { name := "emitOps", fn := fun _ => fun
  | [d1, d2, d3, d4, d5, d6] => { results := [.lit (.bool true)], args := [d1, d2, d3, d4, d5, d6] }
  | _ => none }
def emitOpsRow : OpenClaim := { program := "ytkohichiojmakaa", sum := "b8d2d3d3808a1ed17068ad3dd75db91bda058ae24122b108a95d3ea03cc7430d", func := "cofferdam/cofferdamlaw20.EmitOps", spec := "emitOps", apart := false }
def EmitOpsSaid : Prop := emitOpsRow.holds Try.pinned (OpenSpec.ofChange emitOpsSpec)

/-- ITS FALSE NEIGHBOUR: 'it returns false'. Refute it at one input. -/
def emitOpsWrong : ChangeSpec := { name := "emitOps", fn := fun _ => fun
  | [d1, d2, d3, d4, d5, d6] => { results := [.lit (.bool false)], args := [d1, d2, d3, d4, d5, d6] }
  | _ => none }
def EmitOpsWrongFalsely : Prop := emitOpsRow.holds Try.pinned (OpenSpec.ofChange emitOpsWrong)

/-- 'cofferdamlaw20.EmitLoops': WHATEVER THE INPUT: true; the input reads as it did. -/
def emitLoopsSpec : ChangeSpec := { name := "emitLoops", fn := fun _ => fun
  | [d1, d2] => { results := [.lit (.bool true)], args := [d1, d2] }
  | _ => none }
def emitLoopsRow : OpenClaim := { program := "ytkohichiojmakaa", sum := "b8d2d3d3808a1ed17068ad3dd75db91bda058ae24122b108a95d3ea03cc7430d", func := "cofferdam/cofferdamlaw20.EmitLoops", spec := "emitLoops", apart := false }
def EmitLoopsSaid : Prop := emitLoopsRow.holds Try.pinned (OpenSpec.ofChange emitLoopsSpec)

/-- ITS FALSE NEIGHBOUR: 'it returns false'. Refute it at one input. -/
def emitLoopsWrong : ChangeSpec := { name := "emitLoops", fn := fun _ => fun
  | [d1, d2] => { results := [.lit (.bool false)], args := [d1, d2] }
  | _ => none }
def EmitLoopsWrongFalsely : Prop := emitLoopsRow.holds Try.pinned (OpenSpec.ofChange emitLoopsWrong)

/-- 'cofferdamlaw20.EmitCas': WHATEVER THE INPUT: true; the input reads as it did. -/
def emitCasSpec : ChangeSpec := { name := "emitCas", fn := fun _ => fun
  | [d1, d2, d3, d4, d5, d6, d7] => { results := [.lit (.bool true)], args := [d1, d2, d3, d4, d5, d6, d7] }
  | _ => none }
def emitCasRow : OpenClaim := { program := "ytkohichiojmakaa", sum := "b8d2d3d3808a1ed17068ad3dd75db91bda058ae24122b108a95d3ea03cc7430d", func := "cofferdam/cofferdamlaw20.EmitCas", spec := "emitCas", apart := false }
def EmitCasSaid : Prop := emitCasRow.holds Try.pinned (OpenSpec.ofChange emitCasSpec)

/-- ITS FALSE NEIGHBOUR: 'it returns false'. Refute it at one input. -/
def emitCasWrong : ChangeSpec := { name := "emitCas", fn := fun _ => fun
  | [d1, d2, d3, d4, d5, d6, d7] => { results := [.lit (.bool false)], args := [d1, d2, d3, d4, d5, d6, d7] }
  | _ => none }
def EmitCasWrongFalsely : Prop := emitCasRow.holds Try.pinned (OpenSpec.ofChange emitCasWrong)

/-- 'cofferdamlaw22.ImageShort': WHATEVER THE INPUT: true; the input reads as it did. -/
def imageShortSpec : ChangeSpec := { name := "imageShort", fn := fun _ => fun
  | [d1, d2] => { results := [.lit (.bool true)], args := [d1, d2] }
  | _ => none }
def imageShortRow : OpenClaim := { program := "ytkohichiojmakaa", sum := "b8d2d3d3808a1ed17068ad3dd75db91bda058ae24122b108a95d3ea03cc7430d", func := "cofferdam/cofferdamlaw22.ImageShort", spec := "imageShort", unfollowed := true, recurses := true, apart := false }
def ImageShortSaid : Prop := imageShortRow.holds Try.pinned (OpenSpec.ofChange imageShortSpec)

/-- ITS FALSE NEIGHBOUR: 'it returns false'. Refute it at one input. -/
def imageShortWrong : ChangeSpec := { name := "imageShort", fn := fun _ => fun
  | [d1, d2] => { results := [.lit (.bool false)], args := [d1, d2] }
  | _ => none }
def ImageShortWrongFalsely : Prop := imageShortRow.holds Try.pinned (OpenSpec.ofChange imageShortWrong)

/-- 'cofferdamlaw22.ImageBranches': WHATEVER THE INPUT: true; the input reads as it did. -/
def imageBranchesSpec : ChangeSpec := { name := "imageBranches", fn := fun _ => fun
  | [d1, d2, d3, d4] => { results := [.lit (.bool true)], args := [d1, d2, d3, d4] }
  | _ => none }
def imageBranchesRow : OpenClaim := { program := "ytkohichiojmakaa", sum := "b8d2d3d3808a1ed17068ad3dd75db91bda058ae24122b108a95d3ea03cc7430d", func := "cofferdam/cofferdamlaw22.ImageBranches", spec := "imageBranches", unfollowed := true, recurses := true, apart := false }
def ImageBranchesSaid : Prop := imageBranchesRow.holds Try.pinned (OpenSpec.ofChange imageBranchesSpec)

/-- ITS FALSE NEIGHBOUR: 'it returns false'. Refute it at one input. -/
def imageBranchesWrong : ChangeSpec := { name := "imageBranches", fn := fun _ => fun
  | [d1, d2, d3, d4] => { results := [.lit (.bool false)], args := [d1, d2, d3, d4] }
  | _ => none }
def ImageBranchesWrongFalsely : Prop := imageBranchesRow.holds Try.pinned (OpenSpec.ofChange imageBranchesWrong)

/- THE SECOND FORM. 'bulk': how many values and letters a reading holds, each counted each time it is reached (what is shared counts as often as it is met; a slice's spare places count too). A statement '..UptoSaid' is the law's where the arguments, and the package variables that the reading takes, are together of bulk at most 1048576: NARROWER than '..Said'. Prove '..Said' where nothing that the law and all that it calls make is longer than what came in: it says more and counts as full. Else prove '..UptoSaid'. A law counts once. -/
mutual
def uptoBulk {H : Type} : DataW H → Nat
  | .lit (.string bytes) => bytes.length + 1
  | .lit _ => 1
  | .nil => 1
  | .ptr d => uptoBulk d + 1
  | .slice elems spare => uptoBulkAll elems + uptoBulkAll spare + 1
  | .agg parts => uptoBulkAll parts + 1
  | .iface _ d => uptoBulk d + 1
  | .map entries => uptoBulkEntries entries + 1
  | .held _ => 1
def uptoBulkAll {H : Type} : List (DataW H) → Nat
  | [] => 0
  | d :: r => uptoBulk d + uptoBulkAll r
def uptoBulkEntries {H : Type} : List (Lit × DataW H) → Nat
  | [] => 0
  | x :: r => uptoBulkEntry x + uptoBulkEntries r
def uptoBulkEntry {H : Type} : Lit × DataW H → Nat
  | (.string bytes, d) => bytes.length + uptoBulk d + 1
  | (_, d) => uptoBulk d + 1
 end
def uptoSmall : (H : Type) → List (DataW H) → Bool := fun _ ds => decide (uptoBulkAll ds ≤ 1048576)
def OpenSpec.upto (s : _root_.Go.ChangeSpec) : _root_.Go.OpenSpec := { _root_.Go.OpenSpec.ofChange s with cond := some uptoSmall }

/-- 'cofferdamlaw22.ImageJoins', WHERE WHAT IT READS IS OF BULK AT MOST 1048576: true; the input reads as it did. -/
def imageJoinsUptoRow : OpenClaim := { program := "ytkohichiojmakaa", sum := "b8d2d3d3808a1ed17068ad3dd75db91bda058ae24122b108a95d3ea03cc7430d", func := "cofferdam/cofferdamlaw22.ImageJoins", spec := "imageJoins", unfollowed := true, recurses := true, apart := false, narrowed := true }
def ImageJoinsUptoSaid : Prop := imageJoinsUptoRow.holds Try.pinned (OpenSpec.upto imageJoinsSpec)

/-- 'cofferdamlaw22.ImageBytes', WHERE WHAT IT READS IS OF BULK AT MOST 1048576: true; the input reads as it did. -/
def imageBytesUptoRow : OpenClaim := { program := "ytkohichiojmakaa", sum := "b8d2d3d3808a1ed17068ad3dd75db91bda058ae24122b108a95d3ea03cc7430d", func := "cofferdam/cofferdamlaw22.ImageBytes", spec := "imageBytes", unfollowed := true, recurses := true, apart := false, narrowed := true }
def ImageBytesUptoSaid : Prop := imageBytesUptoRow.holds Try.pinned (OpenSpec.upto imageBytesSpec)

/-- 'cofferdamlaw21.PatchLeads', WHERE WHAT IT READS IS OF BULK AT MOST 1048576: true; the input reads as it did. -/
def patchLeadsUptoRow : OpenClaim := { program := "ytkohichiojmakaa", sum := "b8d2d3d3808a1ed17068ad3dd75db91bda058ae24122b108a95d3ea03cc7430d", func := "cofferdam/cofferdamlaw21.PatchLeads", spec := "patchLeads", unfollowed := true, recurses := true, apart := false, narrowed := true }
def PatchLeadsUptoSaid : Prop := patchLeadsUptoRow.holds Try.pinned (OpenSpec.upto patchLeadsSpec)

/-- 'cofferdamlaw21.PatchLinks', WHERE WHAT IT READS IS OF BULK AT MOST 1048576: true; the input reads as it did. -/
def patchLinksUptoRow : OpenClaim := { program := "ytkohichiojmakaa", sum := "b8d2d3d3808a1ed17068ad3dd75db91bda058ae24122b108a95d3ea03cc7430d", func := "cofferdam/cofferdamlaw21.PatchLinks", spec := "patchLinks", unfollowed := true, recurses := true, apart := false, narrowed := true }
def PatchLinksUptoSaid : Prop := patchLinksUptoRow.holds Try.pinned (OpenSpec.upto patchLinksSpec)

/-- 'cofferdamlaw20.EmitConstants', WHERE WHAT IT READS IS OF BULK AT MOST 1048576: true; the input reads as it did. -/
def emitConstantsUptoRow : OpenClaim := { program := "ytkohichiojmakaa", sum := "b8d2d3d3808a1ed17068ad3dd75db91bda058ae24122b108a95d3ea03cc7430d", func := "cofferdam/cofferdamlaw20.EmitConstants", spec := "emitConstants", apart := false, narrowed := true }
def EmitConstantsUptoSaid : Prop := emitConstantsUptoRow.holds Try.pinned (OpenSpec.upto emitConstantsSpec)

/-- 'cofferdamlaw20.EmitOps', WHERE WHAT IT READS IS OF BULK AT MOST 1048576: true; the input reads as it did. -/
def emitOpsUptoRow : OpenClaim := { program := "ytkohichiojmakaa", sum := "b8d2d3d3808a1ed17068ad3dd75db91bda058ae24122b108a95d3ea03cc7430d", func := "cofferdam/cofferdamlaw20.EmitOps", spec := "emitOps", apart := false, narrowed := true }
def EmitOpsUptoSaid : Prop := emitOpsUptoRow.holds Try.pinned (OpenSpec.upto emitOpsSpec)

/-- 'cofferdamlaw20.EmitLoops', WHERE WHAT IT READS IS OF BULK AT MOST 1048576: true; the input reads as it did. -/
def emitLoopsUptoRow : OpenClaim := { program := "ytkohichiojmakaa", sum := "b8d2d3d3808a1ed17068ad3dd75db91bda058ae24122b108a95d3ea03cc7430d", func := "cofferdam/cofferdamlaw20.EmitLoops", spec := "emitLoops", apart := false, narrowed := true }
def EmitLoopsUptoSaid : Prop := emitLoopsUptoRow.holds Try.pinned (OpenSpec.upto emitLoopsSpec)

/-- 'cofferdamlaw20.EmitCas', WHERE WHAT IT READS IS OF BULK AT MOST 1048576: true; the input reads as it did. -/
def emitCasUptoRow : OpenClaim := { program := "ytkohichiojmakaa", sum := "b8d2d3d3808a1ed17068ad3dd75db91bda058ae24122b108a95d3ea03cc7430d", func := "cofferdam/cofferdamlaw20.EmitCas", spec := "emitCas", apart := false, narrowed := true }
def EmitCasUptoSaid : Prop := emitCasUptoRow.holds Try.pinned (OpenSpec.upto emitCasSpec)

/-- 'cofferdamlaw22.ImageShort', WHERE WHAT IT READS IS OF BULK AT MOST 1048576: true; the input reads as it did. -/
def imageShortUptoRow : OpenClaim := { program := "ytkohichiojmakaa", sum := "b8d2d3d3808a1ed17068ad3dd75db91bda058ae24122b108a95d3ea03cc7430d", func := "cofferdam/cofferdamlaw22.ImageShort", spec := "imageShort", unfollowed := true, recurses := true, apart := false, narrowed := true }
def ImageShortUptoSaid : Prop := imageShortUptoRow.holds Try.pinned (OpenSpec.upto imageShortSpec)

/-- 'cofferdamlaw22.ImageBranches', WHERE WHAT IT READS IS OF BULK AT MOST 1048576: true; the input reads as it did. -/
def imageBranchesUptoRow : OpenClaim := { program := "ytkohichiojmakaa", sum := "b8d2d3d3808a1ed17068ad3dd75db91bda058ae24122b108a95d3ea03cc7430d", func := "cofferdam/cofferdamlaw22.ImageBranches", spec := "imageBranches", unfollowed := true, recurses := true, apart := false, narrowed := true }
def ImageBranchesUptoSaid : Prop := imageBranchesUptoRow.holds Try.pinned (OpenSpec.upto imageBranchesSpec)

end Rows
end Go.Proofs.Ytkohichiojmakaa
