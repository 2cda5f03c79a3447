/-
  No cell of these rows narrows 'for every input' (looked for: loops, veiled, ifaces, maps, wideKeys, modest, calm, conditions, laid).
  DERIVED. THE GIVEN ROWS OF THIS SEAT. 11 by the template 'for every input the law returns true; each argument reads behind the call as it read before'; 0 by the template 'total and deterministic' (their statements: YtkicjflhokckgaaTotals.lean).
  GIVEN WITH THE SEED: the statements are not yours to turn. If you find one false, say at which input.
  Laid BY PROGRAM, IN A SANDBOX (cutbox-rows.mjs): the forced cells as the released guide's own fill.sh prints them over the translation a437a07325dbf10f… (all of the seat's roots in one cut). By AI agents, Wed Nov 11 2026. No macro, syntax, notation, axiom, sorry.
-/
import Derived.Test.YtkicjflhokckgaaChecked
import GoSem.Claim
import GoSem.ClaimJoined
import GoSem.ClaimMapViews
import Derived.JoinedTies
import Derived.KernelRfl
namespace Go.Proofs.Ytkicjflhokckgaa
/- THE CELL 'sum', in the pinned program and in every row, IS THE sha256 OF THE DUMP (.gsa) THAT YtkicjflhokckgaaProg.lean LOADS. Nothing in Lean hashes anything: it is a label: what it is worth is what the hold of that sum in a sandbox is worth. -/
noncomputable def Try.pinned : Pinned := { name := "ytkicjflhokckgaa", sum := "a437a07325dbf10fb35f13ec186535ad3019a39cae9b2fc1016346b8e9a3debc", checked := Try.checked }
namespace Rows
def none {H : Type} : Left H := { results := [], args := [] }

/-- 'laws.FnExactNormalCell': WHATEVER THE INPUT: true; the input reads as it did. -/
def fnExactNormalCellSpec : ChangeSpec := { name := "fnExactNormalCell", fn := fun _ => fun
  | [d] => { results := [.lit (.bool true)], args := [d] }
  | _ => none }
def fnExactNormalCellRow : OpenClaim := { program := "ytkicjflhokckgaa", sum := "a437a07325dbf10fb35f13ec186535ad3019a39cae9b2fc1016346b8e9a3debc", func := "loop.example/g03413/laws.FnExactNormalCell", spec := "fnExactNormalCell", unfollowed := true, recurses := true, apart := false }
def FnExactNormalCellSaid : Prop := fnExactNormalCellRow.holds Try.pinned (OpenSpec.ofChange fnExactNormalCellSpec)

/-- ITS FALSE NEIGHBOUR: 'it returns false'. Refute it at one input. -/
def fnExactNormalCellWrong : ChangeSpec := { name := "fnExactNormalCell", fn := fun _ => fun
  | [d] => { results := [.lit (.bool false)], args := [d] }
  | _ => none }
def FnExactNormalCellWrongFalsely : Prop := fnExactNormalCellRow.holds Try.pinned (OpenSpec.ofChange fnExactNormalCellWrong)

/-- 'laws.FnExactMeetCells': WHATEVER THE INPUT: true; the input reads as it did. -/
def fnExactMeetCellsSpec : ChangeSpec := { name := "fnExactMeetCells", fn := fun _ => fun
  | [d1, d2] => { results := [.lit (.bool true)], args := [d1, d2] }
  | _ => none }
def fnExactMeetCellsRow : OpenClaim := { program := "ytkicjflhokckgaa", sum := "a437a07325dbf10fb35f13ec186535ad3019a39cae9b2fc1016346b8e9a3debc", func := "loop.example/g03413/laws.FnExactMeetCells", spec := "fnExactMeetCells", unfollowed := true, recurses := true, apart := false }
def FnExactMeetCellsSaid : Prop := fnExactMeetCellsRow.holds Try.pinned (OpenSpec.ofChange fnExactMeetCellsSpec)

/-- ITS FALSE NEIGHBOUR: 'it returns false'. Refute it at one input. -/
def fnExactMeetCellsWrong : ChangeSpec := { name := "fnExactMeetCells", fn := fun _ => fun
  | [d1, d2] => { results := [.lit (.bool false)], args := [d1, d2] }
  | _ => none }
def FnExactMeetCellsWrongFalsely : Prop := fnExactMeetCellsRow.holds Try.pinned (OpenSpec.ofChange fnExactMeetCellsWrong)

/-- 'laws.FnExactIsEmptyCell': WHATEVER THE INPUT: true; the input reads as it did. -/
def fnExactIsEmptyCellSpec : ChangeSpec := { name := "fnExactIsEmptyCell", fn := fun _ => fun
  | [d] => { results := [.lit (.bool true)], args := [d] }
  | _ => none }
def fnExactIsEmptyCellRow : OpenClaim := { program := "ytkicjflhokckgaa", sum := "a437a07325dbf10fb35f13ec186535ad3019a39cae9b2fc1016346b8e9a3debc", func := "loop.example/g03413/laws.FnExactIsEmptyCell", spec := "fnExactIsEmptyCell", unfollowed := true, recurses := true, apart := false }
def FnExactIsEmptyCellSaid : Prop := fnExactIsEmptyCellRow.holds Try.pinned (OpenSpec.ofChange fnExactIsEmptyCellSpec)

/-- ITS FALSE NEIGHBOUR: 'it returns false'. Refute it at one input. -/
def fnExactIsEmptyCellWrong : ChangeSpec := { name := "fnExactIsEmptyCell", fn := fun _ => fun
  | [d] => { results := [.lit (.bool false)], args := [d] }
  | _ => none }
def FnExactIsEmptyCellWrongFalsely : Prop := fnExactIsEmptyCellRow.holds Try.pinned (OpenSpec.ofChange fnExactIsEmptyCellWrong)

/-- 'laws.FnExactSliceCell': WHATEVER THE INPUT: true; the input reads as it did. -/
def fnExactSliceCellSpec : ChangeSpec := { name := "fnExactSliceCell", fn := fun _ => fun
  | [d1, d2, d3] => { results := [.lit (.bool true)], args := [d1, d2, d3] }
  | _ => none }
def fnExactSliceCellRow : OpenClaim := { program := "ytkicjflhokckgaa", sum := "a437a07325dbf10fb35f13ec186535ad3019a39cae9b2fc1016346b8e9a3debc", func := "loop.example/g03413/laws.FnExactSliceCell", spec := "fnExactSliceCell", unfollowed := true, recurses := true, apart := false }
def FnExactSliceCellSaid : Prop := fnExactSliceCellRow.holds Try.pinned (OpenSpec.ofChange fnExactSliceCellSpec)

/-- ITS FALSE NEIGHBOUR: 'it returns false'. Refute it at one input. -/
def fnExactSliceCellWrong : ChangeSpec := { name := "fnExactSliceCell", fn := fun _ => fun
  | [d1, d2, d3] => { results := [.lit (.bool false)], args := [d1, d2, d3] }
  | _ => none }
def FnExactSliceCellWrongFalsely : Prop := fnExactSliceCellRow.holds Try.pinned (OpenSpec.ofChange fnExactSliceCellWrong)

/-- 'laws.FnExactDropVariable': WHATEVER THE INPUT: true; the input reads as it did. -/
def fnExactDropVariableSpec : ChangeSpec := { name := "fnExactDropVariable", fn := fun _ => fun
  | [d1, d2] => { results := [.lit (.bool true)], args := [d1, d2] }
  | _ => none }
def fnExactDropVariableRow : OpenClaim := { program := "ytkicjflhokckgaa", sum := "a437a07325dbf10fb35f13ec186535ad3019a39cae9b2fc1016346b8e9a3debc", func := "loop.example/g03413/laws.FnExactDropVariable", spec := "fnExactDropVariable", unfollowed := true, recurses := true, apart := false }
def FnExactDropVariableSaid : Prop := fnExactDropVariableRow.holds Try.pinned (OpenSpec.ofChange fnExactDropVariableSpec)

/-- ITS FALSE NEIGHBOUR: 'it returns false'. Refute it at one input. -/
def fnExactDropVariableWrong : ChangeSpec := { name := "fnExactDropVariable", fn := fun _ => fun
  | [d1, d2] => { results := [.lit (.bool false)], args := [d1, d2] }
  | _ => none }
def FnExactDropVariableWrongFalsely : Prop := fnExactDropVariableRow.holds Try.pinned (OpenSpec.ofChange fnExactDropVariableWrong)

/-- 'laws.FnExactImpliesAtom': WHATEVER THE INPUT: true; the input reads as it did. -/
def fnExactImpliesAtomSpec : ChangeSpec := { name := "fnExactImpliesAtom", fn := fun _ => fun
  | [d1, d2] => { results := [.lit (.bool true)], args := [d1, d2] }
  | _ => none }
def fnExactImpliesAtomRow : OpenClaim := { program := "ytkicjflhokckgaa", sum := "a437a07325dbf10fb35f13ec186535ad3019a39cae9b2fc1016346b8e9a3debc", func := "loop.example/g03413/laws.FnExactImpliesAtom", spec := "fnExactImpliesAtom", unfollowed := true, recurses := true, apart := false }
def FnExactImpliesAtomSaid : Prop := fnExactImpliesAtomRow.holds Try.pinned (OpenSpec.ofChange fnExactImpliesAtomSpec)

/-- ITS FALSE NEIGHBOUR: 'it returns false'. Refute it at one input. -/
def fnExactImpliesAtomWrong : ChangeSpec := { name := "fnExactImpliesAtom", fn := fun _ => fun
  | [d1, d2] => { results := [.lit (.bool false)], args := [d1, d2] }
  | _ => none }
def FnExactImpliesAtomWrongFalsely : Prop := fnExactImpliesAtomRow.holds Try.pinned (OpenSpec.ofChange fnExactImpliesAtomWrong)

/-- 'laws.FnExactIsEmptyRegion': WHATEVER THE INPUT: true; the input reads as it did. -/
def fnExactIsEmptyRegionSpec : ChangeSpec := { name := "fnExactIsEmptyRegion", fn := fun _ => fun
  | [d] => { results := [.lit (.bool true)], args := [d] }
  | _ => none }
def fnExactIsEmptyRegionRow : OpenClaim := { program := "ytkicjflhokckgaa", sum := "a437a07325dbf10fb35f13ec186535ad3019a39cae9b2fc1016346b8e9a3debc", func := "loop.example/g03413/laws.FnExactIsEmptyRegion", spec := "fnExactIsEmptyRegion", unfollowed := true, recurses := true, apart := false }
def FnExactIsEmptyRegionSaid : Prop := fnExactIsEmptyRegionRow.holds Try.pinned (OpenSpec.ofChange fnExactIsEmptyRegionSpec)

/-- ITS FALSE NEIGHBOUR: 'it returns false'. Refute it at one input. -/
def fnExactIsEmptyRegionWrong : ChangeSpec := { name := "fnExactIsEmptyRegion", fn := fun _ => fun
  | [d] => { results := [.lit (.bool false)], args := [d] }
  | _ => none }
def FnExactIsEmptyRegionWrongFalsely : Prop := fnExactIsEmptyRegionRow.holds Try.pinned (OpenSpec.ofChange fnExactIsEmptyRegionWrong)

/-- 'laws.FnExactClosureOfCell': WHATEVER THE INPUT: true; the input reads as it did. -/
def fnExactClosureOfCellSpec : ChangeSpec := { name := "fnExactClosureOfCell", fn := fun _ => fun
  | [d] => { results := [.lit (.bool true)], args := [d] }
  | _ => none }
def fnExactClosureOfCellRow : OpenClaim := { program := "ytkicjflhokckgaa", sum := "a437a07325dbf10fb35f13ec186535ad3019a39cae9b2fc1016346b8e9a3debc", func := "loop.example/g03413/laws.FnExactClosureOfCell", spec := "fnExactClosureOfCell", unfollowed := true, recurses := true, apart := false }
def FnExactClosureOfCellSaid : Prop := fnExactClosureOfCellRow.holds Try.pinned (OpenSpec.ofChange fnExactClosureOfCellSpec)

/-- ITS FALSE NEIGHBOUR: 'it returns false'. Refute it at one input. -/
def fnExactClosureOfCellWrong : ChangeSpec := { name := "fnExactClosureOfCell", fn := fun _ => fun
  | [d] => { results := [.lit (.bool false)], args := [d] }
  | _ => none }
def FnExactClosureOfCellWrongFalsely : Prop := fnExactClosureOfCellRow.holds Try.pinned (OpenSpec.ofChange fnExactClosureOfCellWrong)

/-- 'laws.FnExactCoversCell': WHATEVER THE INPUT: true; the input reads as it did. -/
def fnExactCoversCellSpec : ChangeSpec := { name := "fnExactCoversCell", fn := fun _ => fun
  | [d1, d2] => { results := [.lit (.bool true)], args := [d1, d2] }
  | _ => none }
def fnExactCoversCellRow : OpenClaim := { program := "ytkicjflhokckgaa", sum := "a437a07325dbf10fb35f13ec186535ad3019a39cae9b2fc1016346b8e9a3debc", func := "loop.example/g03413/laws.FnExactCoversCell", spec := "fnExactCoversCell", unfollowed := true, recurses := true, apart := false }
def FnExactCoversCellSaid : Prop := fnExactCoversCellRow.holds Try.pinned (OpenSpec.ofChange fnExactCoversCellSpec)

/-- ITS FALSE NEIGHBOUR: 'it returns false'. Refute it at one input. -/
def fnExactCoversCellWrong : ChangeSpec := { name := "fnExactCoversCell", fn := fun _ => fun
  | [d1, d2] => { results := [.lit (.bool false)], args := [d1, d2] }
  | _ => none }
def FnExactCoversCellWrongFalsely : Prop := fnExactCoversCellRow.holds Try.pinned (OpenSpec.ofChange fnExactCoversCellWrong)

/-- 'laws.FnExactBoundsOf': WHATEVER THE INPUT: true; the input reads as it did. -/
def fnExactBoundsOfSpec : ChangeSpec := { name := "fnExactBoundsOf", fn := fun _ => fun
  | [d1, d2] => { results := [.lit (.bool true)], args := [d1, d2] }
  | _ => none }
def fnExactBoundsOfRow : OpenClaim := { program := "ytkicjflhokckgaa", sum := "a437a07325dbf10fb35f13ec186535ad3019a39cae9b2fc1016346b8e9a3debc", func := "loop.example/g03413/laws.FnExactBoundsOf", spec := "fnExactBoundsOf", unfollowed := true, recurses := true, apart := false }
def FnExactBoundsOfSaid : Prop := fnExactBoundsOfRow.holds Try.pinned (OpenSpec.ofChange fnExactBoundsOfSpec)

/-- ITS FALSE NEIGHBOUR: 'it returns false'. Refute it at one input. -/
def fnExactBoundsOfWrong : ChangeSpec := { name := "fnExactBoundsOf", fn := fun _ => fun
  | [d1, d2] => { results := [.lit (.bool false)], args := [d1, d2] }
  | _ => none }
def FnExactBoundsOfWrongFalsely : Prop := fnExactBoundsOfRow.holds Try.pinned (OpenSpec.ofChange fnExactBoundsOfWrong)

/-- 'laws.FnExactMinimalCell': WHATEVER THE INPUT: true; the input reads as it did. -/
def fnExactMinimalCellSpec : ChangeSpec := { name := "fnExactMinimalCell", fn := fun _ => fun
  | [d] => { results := [.lit (.bool true)], args := [d] }
  | _ => none }
def fnExactMinimalCellRow : OpenClaim := { program := "ytkicjflhokckgaa", sum := "a437a07325dbf10fb35f13ec186535ad3019a39cae9b2fc1016346b8e9a3debc", func := "loop.example/g03413/laws.FnExactMinimalCell", spec := "fnExactMinimalCell", unfollowed := true, recurses := true, apart := false }
def FnExactMinimalCellSaid : Prop := fnExactMinimalCellRow.holds Try.pinned (OpenSpec.ofChange fnExactMinimalCellSpec)

/-- ITS FALSE NEIGHBOUR: 'it returns false'. Refute it at one input. -/
def fnExactMinimalCellWrong : ChangeSpec := { name := "fnExactMinimalCell", fn := fun _ => fun
  | [d] => { results := [.lit (.bool false)], args := [d] }
  | _ => none }
def FnExactMinimalCellWrongFalsely : Prop := fnExactMinimalCellRow.holds Try.pinned (OpenSpec.ofChange fnExactMinimalCellWrong)

/- THE SECOND FORM. 'bulk': how many values and letters a reading holds, each counted each time it is reached (what is shared counts as often as it is met; a slice's spare places count too). A statement '..UptoSaid' is the law's where the arguments, and the package variables that the reading takes, are together of bulk at most 1048576: NARROWER than '..Said'. Prove '..Said' where nothing that the law and all that it calls make is longer than what came in: it says more and counts as full. Else prove '..UptoSaid'. A law counts once. -/
mutual
def uptoBulk {H : Type} : DataW H → Nat
  | .lit (.string bytes) => bytes.length + 1
  | .lit _ => 1
  | .nil => 1
  | .ptr d => uptoBulk d + 1
  | .slice elems spare => uptoBulkAll elems + uptoBulkAll spare + 1
  | .agg parts => uptoBulkAll parts + 1
  | .iface _ d => uptoBulk d + 1
  | .map entries => uptoBulkEntries entries + 1
  | .held _ => 1
def uptoBulkAll {H : Type} : List (DataW H) → Nat
  | [] => 0
  | d :: r => uptoBulk d + uptoBulkAll r
def uptoBulkEntries {H : Type} : List (Lit × DataW H) → Nat
  | [] => 0
  | x :: r => uptoBulkEntry x + uptoBulkEntries r
def uptoBulkEntry {H : Type} : Lit × DataW H → Nat
  | (.string bytes, d) => bytes.length + uptoBulk d + 1
  | (_, d) => uptoBulk d + 1
 end
def uptoSmall : (H : Type) → List (DataW H) → Bool := fun _ ds => decide (uptoBulkAll ds ≤ 1048576)
def OpenSpec.upto (s : _root_.Go.ChangeSpec) : _root_.Go.OpenSpec := { _root_.Go.OpenSpec.ofChange s with cond := some uptoSmall }

/-- 'laws.FnExactNormalCell', WHERE WHAT IT READS IS OF BULK AT MOST 1048576: true; the input reads as it did. -/
def fnExactNormalCellUptoRow : OpenClaim := { program := "ytkicjflhokckgaa", sum := "a437a07325dbf10fb35f13ec186535ad3019a39cae9b2fc1016346b8e9a3debc", func := "loop.example/g03413/laws.FnExactNormalCell", spec := "fnExactNormalCell", unfollowed := true, recurses := true, apart := false, narrowed := true }
def FnExactNormalCellUptoSaid : Prop := fnExactNormalCellUptoRow.holds Try.pinned (OpenSpec.upto fnExactNormalCellSpec)

/-- 'laws.FnExactMeetCells', WHERE WHAT IT READS IS OF BULK AT MOST 1048576: true; the input reads as it did. -/
def fnExactMeetCellsUptoRow : OpenClaim := { program := "ytkicjflhokckgaa", sum := "a437a07325dbf10fb35f13ec186535ad3019a39cae9b2fc1016346b8e9a3debc", func := "loop.example/g03413/laws.FnExactMeetCells", spec := "fnExactMeetCells", unfollowed := true, recurses := true, apart := false, narrowed := true }
def FnExactMeetCellsUptoSaid : Prop := fnExactMeetCellsUptoRow.holds Try.pinned (OpenSpec.upto fnExactMeetCellsSpec)

/-- 'laws.FnExactIsEmptyCell', WHERE WHAT IT READS IS OF BULK AT MOST 1048576: true; the input reads as it did. -/
def fnExactIsEmptyCellUptoRow : OpenClaim := { program := "ytkicjflhokckgaa", sum := "a437a07325dbf10fb35f13ec186535ad3019a39cae9b2fc1016346b8e9a3debc", func := "loop.example/g03413/laws.FnExactIsEmptyCell", spec := "fnExactIsEmptyCell", unfollowed := true, recurses := true, apart := false, narrowed := true }
def FnExactIsEmptyCellUptoSaid : Prop := fnExactIsEmptyCellUptoRow.holds Try.pinned (OpenSpec.upto fnExactIsEmptyCellSpec)

/-- 'laws.FnExactSliceCell', WHERE WHAT IT READS IS OF BULK AT MOST 1048576: true; the input reads as it did. -/
def fnExactSliceCellUptoRow : OpenClaim := { program := "ytkicjflhokckgaa", sum := "a437a07325dbf10fb35f13ec186535ad3019a39cae9b2fc1016346b8e9a3debc", func := "loop.example/g03413/laws.FnExactSliceCell", spec := "fnExactSliceCell", unfollowed := true, recurses := true, apart := false, narrowed := true }
def FnExactSliceCellUptoSaid : Prop := fnExactSliceCellUptoRow.holds Try.pinned (OpenSpec.upto fnExactSliceCellSpec)

/-- 'laws.FnExactDropVariable', WHERE WHAT IT READS IS OF BULK AT MOST 1048576: true; the input reads as it did. -/
def fnExactDropVariableUptoRow : OpenClaim := { program := "ytkicjflhokckgaa", sum := "a437a07325dbf10fb35f13ec186535ad3019a39cae9b2fc1016346b8e9a3debc", func := "loop.example/g03413/laws.FnExactDropVariable", spec := "fnExactDropVariable", unfollowed := true, recurses := true, apart := false, narrowed := true }
def FnExactDropVariableUptoSaid : Prop := fnExactDropVariableUptoRow.holds Try.pinned (OpenSpec.upto fnExactDropVariableSpec)

/-- 'laws.FnExactImpliesAtom', WHERE WHAT IT READS IS OF BULK AT MOST 1048576: true; the input reads as it did. -/
def fnExactImpliesAtomUptoRow : OpenClaim := { program := "ytkicjflhokckgaa", sum := "a437a07325dbf10fb35f13ec186535ad3019a39cae9b2fc1016346b8e9a3debc", func := "loop.example/g03413/laws.FnExactImpliesAtom", spec := "fnExactImpliesAtom", unfollowed := true, recurses := true, apart := false, narrowed := true }
def FnExactImpliesAtomUptoSaid : Prop := fnExactImpliesAtomUptoRow.holds Try.pinned (OpenSpec.upto fnExactImpliesAtomSpec)

/-- 'laws.FnExactIsEmptyRegion', WHERE WHAT IT READS IS OF BULK AT MOST 1048576: true; the input reads as it did. -/
def fnExactIsEmptyRegionUptoRow : OpenClaim := { program := "ytkicjflhokckgaa", sum := "a437a07325dbf10fb35f13ec186535ad3019a39cae9b2fc1016346b8e9a3debc", func := "loop.example/g03413/laws.FnExactIsEmptyRegion", spec := "fnExactIsEmptyRegion", unfollowed := true, recurses := true, apart := false, narrowed := true }
def FnExactIsEmptyRegionUptoSaid : Prop := fnExactIsEmptyRegionUptoRow.holds Try.pinned (OpenSpec.upto fnExactIsEmptyRegionSpec)

/-- 'laws.FnExactClosureOfCell', WHERE WHAT IT READS IS OF BULK AT MOST 1048576: true; the input reads as it did. -/
def fnExactClosureOfCellUptoRow : OpenClaim := { program := "ytkicjflhokckgaa", sum := "a437a07325dbf10fb35f13ec186535ad3019a39cae9b2fc1016346b8e9a3debc", func := "loop.example/g03413/laws.FnExactClosureOfCell", spec := "fnExactClosureOfCell", unfollowed := true, recurses := true, apart := false, narrowed := true }
def FnExactClosureOfCellUptoSaid : Prop := fnExactClosureOfCellUptoRow.holds Try.pinned (OpenSpec.upto fnExactClosureOfCellSpec)

/-- 'laws.FnExactCoversCell', WHERE WHAT IT READS IS OF BULK AT MOST 1048576: true; the input reads as it did. -/
def fnExactCoversCellUptoRow : OpenClaim := { program := "ytkicjflhokckgaa", sum := "a437a07325dbf10fb35f13ec186535ad3019a39cae9b2fc1016346b8e9a3debc", func := "loop.example/g03413/laws.FnExactCoversCell", spec := "fnExactCoversCell", unfollowed := true, recurses := true, apart := false, narrowed := true }
def FnExactCoversCellUptoSaid : Prop := fnExactCoversCellUptoRow.holds Try.pinned (OpenSpec.upto fnExactCoversCellSpec)

/-- 'laws.FnExactBoundsOf', WHERE WHAT IT READS IS OF BULK AT MOST 1048576: true; the input reads as it did. -/
def fnExactBoundsOfUptoRow : OpenClaim := { program := "ytkicjflhokckgaa", sum := "a437a07325dbf10fb35f13ec186535ad3019a39cae9b2fc1016346b8e9a3debc", func := "loop.example/g03413/laws.FnExactBoundsOf", spec := "fnExactBoundsOf", unfollowed := true, recurses := true, apart := false, narrowed := true }
def FnExactBoundsOfUptoSaid : Prop := fnExactBoundsOfUptoRow.holds Try.pinned (OpenSpec.upto fnExactBoundsOfSpec)

/-- 'laws.FnExactMinimalCell', WHERE WHAT IT READS IS OF BULK AT MOST 1048576: true; the input reads as it did. -/
def fnExactMinimalCellUptoRow : OpenClaim := { program := "ytkicjflhokckgaa", sum := "a437a07325dbf10fb35f13ec186535ad3019a39cae9b2fc1016346b8e9a3debc", func := "loop.example/g03413/laws.FnExactMinimalCell", spec := "fnExactMinimalCell", unfollowed := true, recurses := true, apart := false, narrowed := true }
def FnExactMinimalCellUptoSaid : Prop := fnExactMinimalCellUptoRow.holds Try.pinned (OpenSpec.upto fnExactMinimalCellSpec)

end Rows
end Go.Proofs.Ytkicjflhokckgaa
