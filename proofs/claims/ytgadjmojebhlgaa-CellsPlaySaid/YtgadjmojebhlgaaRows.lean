/-
  No cell of these rows narrows 'for every input' (looked for: loops, veiled, ifaces, maps, wideKeys, modest, calm, conditions, laid).
  DERIVED. THE GIVEN ROWS OF THIS SEAT. 12 by the template 'for every input the law returns true; each argument reads behind the call as it read before'; 0 by the template 'total and deterministic' (their statements: YtgadjmojebhlgaaTotals.lean).
  GIVEN WITH THE SEED: the statements are not yours to turn. If you find one false, say at which input.
  Laid BY PROGRAM, IN A SANDBOX (cutbox-rows.mjs): the forced cells as the released guide's own fill.sh prints them over the translation 392ad91bbb00cb57… (all of the seat's roots in one cut). By AI agents, Wed Nov 11 2026. No macro, syntax, notation, axiom, sorry.
-/
import Derived.Test.YtgadjmojebhlgaaChecked
import GoSem.Claim
import GoSem.ClaimJoined
import GoSem.ClaimMapViews
import Derived.JoinedTies
import Derived.KernelRfl
namespace Go.Proofs.Ytgadjmojebhlgaa
/- THE CELL 'sum', in the pinned program and in every row, IS THE sha256 OF THE DUMP (.gsa) THAT YtgadjmojebhlgaaProg.lean LOADS. Nothing in Lean hashes anything: it is a label: what it is worth is what the hold of that sum in a sandbox is worth. -/
noncomputable def Try.pinned : Pinned := { name := "ytgadjmojebhlgaa", sum := "392ad91bbb00cb57ce6cb732f6f2698310a1d5fae2721295cea1d9c69053d7a2", checked := Try.checked }
namespace Rows
def none {H : Type} : Left H := { results := [], args := [] }

/-- 'cofferdamlaw1.FieldApart': WHATEVER THE INPUT: true; the input reads as it did. -/
def fieldApartSpec : ChangeSpec := { name := "fieldApart", fn := fun _ => fun
  | [d1, d2, d3, d4, d5, d6] => { results := [.lit (.bool true)], args := [d1, d2, d3, d4, d5, d6] }
  | _ => none }
def fieldApartRow : OpenClaim := { program := "ytgadjmojebhlgaa", sum := "392ad91bbb00cb57ce6cb732f6f2698310a1d5fae2721295cea1d9c69053d7a2", func := "cofferdam/cofferdamlaw1.FieldApart", spec := "fieldApart", apart := false }
def FieldApartSaid : Prop := fieldApartRow.holds Try.pinned (OpenSpec.ofChange fieldApartSpec)

/-- ITS FALSE NEIGHBOUR: 'it returns false'. Refute it at one input. -/
def fieldApartWrong : ChangeSpec := { name := "fieldApart", fn := fun _ => fun
  | [d1, d2, d3, d4, d5, d6] => { results := [.lit (.bool false)], args := [d1, d2, d3, d4, d5, d6] }
  | _ => none }
def FieldApartWrongFalsely : Prop := fieldApartRow.holds Try.pinned (OpenSpec.ofChange fieldApartWrong)

/-- 'cofferdamlaw12.LayoutApart': WHATEVER THE INPUT: true; the input reads as it did. -/
def layoutApartSpec : ChangeSpec := { name := "layoutApart", fn := fun _ => fun
  | [d] => { results := [.lit (.bool true)], args := [d] }
  | _ => none }
def layoutApartRow : OpenClaim := { program := "ytgadjmojebhlgaa", sum := "392ad91bbb00cb57ce6cb732f6f2698310a1d5fae2721295cea1d9c69053d7a2", func := "cofferdam/cofferdamlaw12.LayoutApart", spec := "layoutApart", unfollowed := true, recurses := true, apart := false }
def LayoutApartSaid : Prop := layoutApartRow.holds Try.pinned (OpenSpec.ofChange layoutApartSpec)

/-- ITS FALSE NEIGHBOUR: 'it returns false'. Refute it at one input. -/
def layoutApartWrong : ChangeSpec := { name := "layoutApart", fn := fun _ => fun
  | [d] => { results := [.lit (.bool false)], args := [d] }
  | _ => none }
def LayoutApartWrongFalsely : Prop := layoutApartRow.holds Try.pinned (OpenSpec.ofChange layoutApartWrong)

/-- 'cofferdamlaw12.LayoutTells': WHATEVER THE INPUT: true; the input reads as it did. -/
def layoutTellsSpec : ChangeSpec := { name := "layoutTells", fn := fun _ => fun
  | [d1, d2, d3] => { results := [.lit (.bool true)], args := [d1, d2, d3] }
  | _ => none }
def layoutTellsRow : OpenClaim := { program := "ytgadjmojebhlgaa", sum := "392ad91bbb00cb57ce6cb732f6f2698310a1d5fae2721295cea1d9c69053d7a2", func := "cofferdam/cofferdamlaw12.LayoutTells", spec := "layoutTells", unfollowed := true, recurses := true, apart := false }
def LayoutTellsSaid : Prop := layoutTellsRow.holds Try.pinned (OpenSpec.ofChange layoutTellsSpec)

/-- ITS FALSE NEIGHBOUR: 'it returns false'. Refute it at one input. -/
def layoutTellsWrong : ChangeSpec := { name := "layoutTells", fn := fun _ => fun
  | [d1, d2, d3] => { results := [.lit (.bool false)], args := [d1, d2, d3] }
  | _ => none }
def LayoutTellsWrongFalsely : Prop := layoutTellsRow.holds Try.pinned (OpenSpec.ofChange layoutTellsWrong)

/-- 'cofferdamlaw12.LayoutFinds': WHATEVER THE INPUT: true; the input reads as it did. -/
def layoutFindsSpec : ChangeSpec := { name := "layoutFinds", fn := fun _ => fun
  | [d1, d2] => { results := [.lit (.bool true)], args := [d1, d2] }
  | _ => none }
def layoutFindsRow : OpenClaim := { program := "ytgadjmojebhlgaa", sum := "392ad91bbb00cb57ce6cb732f6f2698310a1d5fae2721295cea1d9c69053d7a2", func := "cofferdam/cofferdamlaw12.LayoutFinds", spec := "layoutFinds", unfollowed := true, recurses := true, apart := false }
def LayoutFindsSaid : Prop := layoutFindsRow.holds Try.pinned (OpenSpec.ofChange layoutFindsSpec)

/-- ITS FALSE NEIGHBOUR: 'it returns false'. Refute it at one input. -/
def layoutFindsWrong : ChangeSpec := { name := "layoutFinds", fn := fun _ => fun
  | [d1, d2] => { results := [.lit (.bool false)], args := [d1, d2] }
  | _ => none }
def LayoutFindsWrongFalsely : Prop := layoutFindsRow.holds Try.pinned (OpenSpec.ofChange layoutFindsWrong)

/-- 'cofferdamlaw1.FieldTells': WHATEVER THE INPUT: true; the input reads as it did. -/
def fieldTellsSpec : ChangeSpec := { name := "fieldTells", fn := fun _ => fun
  | [d1, d2, d3, d4] => { results := [.lit (.bool true)], args := [d1, d2, d3, d4] }
  | _ => none }
def fieldTellsRow : OpenClaim := { program := "ytgadjmojebhlgaa", sum := "392ad91bbb00cb57ce6cb732f6f2698310a1d5fae2721295cea1d9c69053d7a2", func := "cofferdam/cofferdamlaw1.FieldTells", spec := "fieldTells", apart := false }
def FieldTellsSaid : Prop := fieldTellsRow.holds Try.pinned (OpenSpec.ofChange fieldTellsSpec)

/-- ITS FALSE NEIGHBOUR: 'it returns false'. Refute it at one input. -/
def fieldTellsWrong : ChangeSpec := { name := "fieldTells", fn := fun _ => fun
  | [d1, d2, d3, d4] => { results := [.lit (.bool false)], args := [d1, d2, d3, d4] }
  | _ => none }
def FieldTellsWrongFalsely : Prop := fieldTellsRow.holds Try.pinned (OpenSpec.ofChange fieldTellsWrong)

/-- 'cofferdamlaw1.FieldKeeps': WHATEVER THE INPUT: true; the input reads as it did. -/
def fieldKeepsSpec : ChangeSpec := { name := "fieldKeeps", fn := fun _ => fun
  | [d1, d2, d3, d4] => { results := [.lit (.bool true)], args := [d1, d2, d3, d4] }
  | _ => none }
def fieldKeepsRow : OpenClaim := { program := "ytgadjmojebhlgaa", sum := "392ad91bbb00cb57ce6cb732f6f2698310a1d5fae2721295cea1d9c69053d7a2", func := "cofferdam/cofferdamlaw1.FieldKeeps", spec := "fieldKeeps", apart := false }
def FieldKeepsSaid : Prop := fieldKeepsRow.holds Try.pinned (OpenSpec.ofChange fieldKeepsSpec)

/-- ITS FALSE NEIGHBOUR: 'it returns false'. Refute it at one input. -/
def fieldKeepsWrong : ChangeSpec := { name := "fieldKeeps", fn := fun _ => fun
  | [d1, d2, d3, d4] => { results := [.lit (.bool false)], args := [d1, d2, d3, d4] }
  | _ => none }
def FieldKeepsWrongFalsely : Prop := fieldKeepsRow.holds Try.pinned (OpenSpec.ofChange fieldKeepsWrong)

/-- 'cofferdamlaw1.FieldSigns': WHATEVER THE INPUT: true; the input reads as it did. -/
def fieldSignsSpec : ChangeSpec := { name := "fieldSigns", fn := fun _ => fun
  | [d1, d2, d3] => { results := [.lit (.bool true)], args := [d1, d2, d3] }
  | _ => none }
def fieldSignsRow : OpenClaim := { program := "ytgadjmojebhlgaa", sum := "392ad91bbb00cb57ce6cb732f6f2698310a1d5fae2721295cea1d9c69053d7a2", func := "cofferdam/cofferdamlaw1.FieldSigns", spec := "fieldSigns", apart := false }
def FieldSignsSaid : Prop := fieldSignsRow.holds Try.pinned (OpenSpec.ofChange fieldSignsSpec)

/-- ITS FALSE NEIGHBOUR: 'it returns false'. Refute it at one input. -/
def fieldSignsWrong : ChangeSpec := { name := "fieldSigns", fn := fun _ => fun
  | [d1, d2, d3] => { results := [.lit (.bool false)], args := [d1, d2, d3] }
  | _ => none }
def FieldSignsWrongFalsely : Prop := fieldSignsRow.holds Try.pinned (OpenSpec.ofChange fieldSignsWrong)

/-- 'cofferdamlaw1.FieldLimits': WHATEVER THE INPUT: true; the input reads as it did. -/
def fieldLimitsSpec : ChangeSpec := { name := "fieldLimits", fn := fun _ => fun
  | [d] => { results := [.lit (.bool true)], args := [d] }
  | _ => none }
def fieldLimitsRow : OpenClaim := { program := "ytgadjmojebhlgaa", sum := "392ad91bbb00cb57ce6cb732f6f2698310a1d5fae2721295cea1d9c69053d7a2", func := "cofferdam/cofferdamlaw1.FieldLimits", spec := "fieldLimits", apart := false }
def FieldLimitsSaid : Prop := fieldLimitsRow.holds Try.pinned (OpenSpec.ofChange fieldLimitsSpec)

/-- ITS FALSE NEIGHBOUR: 'it returns false'. Refute it at one input. -/
def fieldLimitsWrong : ChangeSpec := { name := "fieldLimits", fn := fun _ => fun
  | [d] => { results := [.lit (.bool false)], args := [d] }
  | _ => none }
def FieldLimitsWrongFalsely : Prop := fieldLimitsRow.holds Try.pinned (OpenSpec.ofChange fieldLimitsWrong)

/-- 'cofferdamlaw4.CellsPlaces': WHATEVER THE INPUT: true; the input reads as it did. -/
def cellsPlacesSpec : ChangeSpec := { name := "cellsPlaces", fn := fun _ => fun
  | [d1, d2] => { results := [.lit (.bool true)], args := [d1, d2] }
  | _ => none }
def cellsPlacesRow : OpenClaim := { program := "ytgadjmojebhlgaa", sum := "392ad91bbb00cb57ce6cb732f6f2698310a1d5fae2721295cea1d9c69053d7a2", func := "cofferdam/cofferdamlaw4.CellsPlaces", spec := "cellsPlaces", apart := false }
def CellsPlacesSaid : Prop := cellsPlacesRow.holds Try.pinned (OpenSpec.ofChange cellsPlacesSpec)

/-- ITS FALSE NEIGHBOUR: 'it returns false'. Refute it at one input. -/
def cellsPlacesWrong : ChangeSpec := { name := "cellsPlaces", fn := fun _ => fun
  | [d1, d2] => { results := [.lit (.bool false)], args := [d1, d2] }
  | _ => none }
def CellsPlacesWrongFalsely : Prop := cellsPlacesRow.holds Try.pinned (OpenSpec.ofChange cellsPlacesWrong)

/-- 'cofferdamlaw4.CellsVersions': WHATEVER THE INPUT: true; the input reads as it did. -/
def cellsVersionsSpec : ChangeSpec := { name := "cellsVersions", fn := fun _ => fun
  | [d1, d2] => { results := [.lit (.bool true)], args := [d1, d2] }
  | _ => none }
def cellsVersionsRow : OpenClaim := { program := "ytgadjmojebhlgaa", sum := "392ad91bbb00cb57ce6cb732f6f2698310a1d5fae2721295cea1d9c69053d7a2", func := "cofferdam/cofferdamlaw4.CellsVersions", spec := "cellsVersions", apart := false }
def CellsVersionsSaid : Prop := cellsVersionsRow.holds Try.pinned (OpenSpec.ofChange cellsVersionsSpec)

/-- ITS FALSE NEIGHBOUR: 'it returns false'. Refute it at one input. -/
def cellsVersionsWrong : ChangeSpec := { name := "cellsVersions", fn := fun _ => fun
  | [d1, d2] => { results := [.lit (.bool false)], args := [d1, d2] }
  | _ => none }
def CellsVersionsWrongFalsely : Prop := cellsVersionsRow.holds Try.pinned (OpenSpec.ofChange cellsVersionsWrong)

/-- 'cofferdamlaw4.CellsKeep': WHATEVER THE INPUT: true; the input reads as it did. -/
def cellsKeepSpec : ChangeSpec := { name := "cellsKeep", fn := fun _ => fun
  | [d1, d2] => { results := [.lit (.bool true)], args := [d1, d2] }
  | _ => none }
def cellsKeepRow : OpenClaim := { program := "ytgadjmojebhlgaa", sum := "392ad91bbb00cb57ce6cb732f6f2698310a1d5fae2721295cea1d9c69053d7a2", func := "cofferdam/cofferdamlaw4.CellsKeep", spec := "cellsKeep", apart := false }
def CellsKeepSaid : Prop := cellsKeepRow.holds Try.pinned (OpenSpec.ofChange cellsKeepSpec)

/-- ITS FALSE NEIGHBOUR: 'it returns false'. Refute it at one input. -/
def cellsKeepWrong : ChangeSpec := { name := "cellsKeep", fn := fun _ => fun
  | [d1, d2] => { results := [.lit (.bool false)], args := [d1, d2] }
  | _ => none }
def CellsKeepWrongFalsely : Prop := cellsKeepRow.holds Try.pinned (OpenSpec.ofChange cellsKeepWrong)

/-- 'cofferdamlaw4.CellsPlay': WHATEVER THE INPUT: true; the input reads as it did. -/
def cellsPlaySpec : ChangeSpec := { name := "cellsPlay", fn := fun _ => fun
  | [d1, d2] => { results := [.lit (.bool true)], args := [d1, d2] }
  | _ => none }
def cellsPlayRow : OpenClaim := { program := "ytgadjmojebhlgaa", sum := "392ad91bbb00cb57ce6cb732f6f2698310a1d5fae2721295cea1d9c69053d7a2", func := "cofferdam/cofferdamlaw4.CellsPlay", spec := "cellsPlay", apart := false }
def CellsPlaySaid : Prop := cellsPlayRow.holds Try.pinned (OpenSpec.ofChange cellsPlaySpec)

/-- ITS FALSE NEIGHBOUR: 'it returns false'. Refute it at one input. -/
def cellsPlayWrong : ChangeSpec := { name := "cellsPlay", fn := fun _ => fun
  | [d1, d2] => { results := [.lit (.bool false)], args := [d1, d2] }
  | _ => none }
def CellsPlayWrongFalsely : Prop := cellsPlayRow.holds Try.pinned (OpenSpec.ofChange cellsPlayWrong)

/- THE SECOND FORM. 'bulk': how many values and letters a reading holds, each counted each time it is reached (what is shared counts as often as it is met; a slice's spare places count too). A statement '..UptoSaid' is the law's where the arguments, and the package variables that the reading takes, are together of bulk at most 1048576: NARROWER than '..Said'. Prove '..Said' where nothing that the law and all that it calls make is longer than what came in: it says more and counts as full. Else prove '..UptoSaid'. A law counts once. -/
mutual
def uptoBulk {H : Type} : DataW H → Nat
  | .lit (.string bytes) => bytes.length + 1
  | .lit _ => 1
  | .nil => 1
  | .ptr d => uptoBulk d + 1
  | .slice elems spare => uptoBulkAll elems + uptoBulkAll spare + 1
  | .agg parts => uptoBulkAll parts + 1
  | .iface _ d => uptoBulk d + 1
  | .map entries => uptoBulkEntries entries + 1
  | .held _ => 1
def uptoBulkAll {H : Type} : List (DataW H) → Nat
  | [] => 0
  | d :: r => uptoBulk d + uptoBulkAll r
def uptoBulkEntries {H : Type} : List (Lit × DataW H) → Nat
  | [] => 0
  | x :: r => uptoBulkEntry x + uptoBulkEntries r
def uptoBulkEntry {H : Type} : Lit × DataW H → Nat
  | (.string bytes, d) => bytes.length + uptoBulk d + 1
  | (_, d) => uptoBulk d + 1
 end
def uptoSmall : (H : Type) → List (DataW H) → Bool := fun _ ds => decide (uptoBulkAll ds ≤ 1048576)
def OpenSpec.upto (s : _root_.Go.ChangeSpec) : _root_.Go.OpenSpec := { _root_.Go.OpenSpec.ofChange s with cond := some uptoSmall }

/-- 'cofferdamlaw1.FieldApart', WHERE WHAT IT READS IS OF BULK AT MOST 1048576: true; the input reads as it did. -/
def fieldApartUptoRow : OpenClaim := { program := "ytgadjmojebhlgaa", sum := "392ad91bbb00cb57ce6cb732f6f2698310a1d5fae2721295cea1d9c69053d7a2", func := "cofferdam/cofferdamlaw1.FieldApart", spec := "fieldApart", apart := false, narrowed := true }
def FieldApartUptoSaid : Prop := fieldApartUptoRow.holds Try.pinned (OpenSpec.upto fieldApartSpec)

/-- 'cofferdamlaw12.LayoutApart', WHERE WHAT IT READS IS OF BULK AT MOST 1048576: true; the input reads as it did. -/
def layoutApartUptoRow : OpenClaim := { program := "ytgadjmojebhlgaa", sum := "392ad91bbb00cb57ce6cb732f6f2698310a1d5fae2721295cea1d9c69053d7a2", func := "cofferdam/cofferdamlaw12.LayoutApart", spec := "layoutApart", unfollowed := true, recurses := true, apart := false, narrowed := true }
def LayoutApartUptoSaid : Prop := layoutApartUptoRow.holds Try.pinned (OpenSpec.upto layoutApartSpec)

/-- 'cofferdamlaw12.LayoutTells', WHERE WHAT IT READS IS OF BULK AT MOST 1048576: true; the input reads as it did. -/
def layoutTellsUptoRow : OpenClaim := { program := "ytgadjmojebhlgaa", sum := "392ad91bbb00cb57ce6cb732f6f2698310a1d5fae2721295cea1d9c69053d7a2", func := "cofferdam/cofferdamlaw12.LayoutTells", spec := "layoutTells", unfollowed := true, recurses := true, apart := false, narrowed := true }
def LayoutTellsUptoSaid : Prop := layoutTellsUptoRow.holds Try.pinned (OpenSpec.upto layoutTellsSpec)

/-- 'cofferdamlaw12.LayoutFinds', WHERE WHAT IT READS IS OF BULK AT MOST 1048576: true; the input reads as it did. -/
def layoutFindsUptoRow : OpenClaim := { program := "ytgadjmojebhlgaa", sum := "392ad91bbb00cb57ce6cb732f6f2698310a1d5fae2721295cea1d9c69053d7a2", func := "cofferdam/cofferdamlaw12.LayoutFinds", spec := "layoutFinds", unfollowed := true, recurses := true, apart := false, narrowed := true }
def LayoutFindsUptoSaid : Prop := layoutFindsUptoRow.holds Try.pinned (OpenSpec.upto layoutFindsSpec)

/-- 'cofferdamlaw1.FieldTells', WHERE WHAT IT READS IS OF BULK AT MOST 1048576: true; the input reads as it did. -/
def fieldTellsUptoRow : OpenClaim := { program := "ytgadjmojebhlgaa", sum := "392ad91bbb00cb57ce6cb732f6f2698310a1d5fae2721295cea1d9c69053d7a2", func := "cofferdam/cofferdamlaw1.FieldTells", spec := "fieldTells", apart := false, narrowed := true }
def FieldTellsUptoSaid : Prop := fieldTellsUptoRow.holds Try.pinned (OpenSpec.upto fieldTellsSpec)

/-- 'cofferdamlaw1.FieldKeeps', WHERE WHAT IT READS IS OF BULK AT MOST 1048576: true; the input reads as it did. -/
def fieldKeepsUptoRow : OpenClaim := { program := "ytgadjmojebhlgaa", sum := "392ad91bbb00cb57ce6cb732f6f2698310a1d5fae2721295cea1d9c69053d7a2", func := "cofferdam/cofferdamlaw1.FieldKeeps", spec := "fieldKeeps", apart := false, narrowed := true }
def FieldKeepsUptoSaid : Prop := fieldKeepsUptoRow.holds Try.pinned (OpenSpec.upto fieldKeepsSpec)

/-- 'cofferdamlaw1.FieldSigns', WHERE WHAT IT READS IS OF BULK AT MOST 1048576: true; the input reads as it did. -/
def fieldSignsUptoRow : OpenClaim := { program := "ytgadjmojebhlgaa", sum := "392ad91bbb00cb57ce6cb732f6f2698310a1d5fae2721295cea1d9c69053d7a2", func := "cofferdam/cofferdamlaw1.FieldSigns", spec := "fieldSigns", apart := false, narrowed := true }
def FieldSignsUptoSaid : Prop := fieldSignsUptoRow.holds Try.pinned (OpenSpec.upto fieldSignsSpec)

/-- 'cofferdamlaw1.FieldLimits', WHERE WHAT IT READS IS OF BULK AT MOST 1048576: true; the input reads as it did. -/
def fieldLimitsUptoRow : OpenClaim := { program := "ytgadjmojebhlgaa", sum := "392ad91bbb00cb57ce6cb732f6f2698310a1d5fae2721295cea1d9c69053d7a2", func := "cofferdam/cofferdamlaw1.FieldLimits", spec := "fieldLimits", apart := false, narrowed := true }
def FieldLimitsUptoSaid : Prop := fieldLimitsUptoRow.holds Try.pinned (OpenSpec.upto fieldLimitsSpec)

/-- 'cofferdamlaw4.CellsPlaces', WHERE WHAT IT READS IS OF BULK AT MOST 1048576: true; the input reads as it did. -/
def cellsPlacesUptoRow : OpenClaim := { program := "ytgadjmojebhlgaa", sum := "392ad91bbb00cb57ce6cb732f6f2698310a1d5fae2721295cea1d9c69053d7a2", func := "cofferdam/cofferdamlaw4.CellsPlaces", spec := "cellsPlaces", apart := false, narrowed := true }
def CellsPlacesUptoSaid : Prop := cellsPlacesUptoRow.holds Try.pinned (OpenSpec.upto cellsPlacesSpec)

/-- 'cofferdamlaw4.CellsVersions', WHERE WHAT IT READS IS OF BULK AT MOST 1048576: true; the input reads as it did. -/
def cellsVersionsUptoRow : OpenClaim := { program := "ytgadjmojebhlgaa", sum := "392ad91bbb00cb57ce6cb732f6f2698310a1d5fae2721295cea1d9c69053d7a2", func := "cofferdam/cofferdamlaw4.CellsVersions", spec := "cellsVersions", apart := false, narrowed := true }
def CellsVersionsUptoSaid : Prop := cellsVersionsUptoRow.holds Try.pinned (OpenSpec.upto cellsVersionsSpec)

/-- 'cofferdamlaw4.CellsKeep', WHERE WHAT IT READS IS OF BULK AT MOST 1048576: true; the input reads as it did. -/
def cellsKeepUptoRow : OpenClaim := { program := "ytgadjmojebhlgaa", sum := "392ad91bbb00cb57ce6cb732f6f2698310a1d5fae2721295cea1d9c69053d7a2", func := "cofferdam/cofferdamlaw4.CellsKeep", spec := "cellsKeep", apart := false, narrowed := true }
def CellsKeepUptoSaid : Prop := cellsKeepUptoRow.holds Try.pinned (OpenSpec.upto cellsKeepSpec)

/-- 'cofferdamlaw4.CellsPlay', WHERE WHAT IT READS IS OF BULK AT MOST 1048576: true; the input reads as it did. -/
def cellsPlayUptoRow : OpenClaim := { program := "ytgadjmojebhlgaa", sum := "392ad91bbb00cb57ce6cb732f6f2698310a1d5fae2721295cea1d9c69053d7a2", func := "cofferdam/cofferdamlaw4.CellsPlay", spec := "cellsPlay", apart := false, narrowed := true }
def CellsPlayUptoSaid : Prop := cellsPlayUptoRow.holds Try.pinned (OpenSpec.upto cellsPlaySpec)

end Rows
end Go.Proofs.Ytgadjmojebhlgaa
