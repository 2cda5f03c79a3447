/-
  No cell of these rows narrows 'for every input' (looked for: loops, veiled, ifaces, maps, wideKeys, modest, calm, conditions, laid).
  DERIVED. THE GIVEN ROWS OF THIS SEAT. 9 by the template 'for every input the law returns true; each argument reads behind the call as it read before'; 0 by the template 'total and deterministic' (their statements: YtjknjekemolndaaGreatTotals.lean).
  GIVEN WITH THE SEED: the statements are not yours to turn. If you find one false, say at which input.
  Laid BY PROGRAM, IN A SANDBOX (cutbox-rows.mjs): the forced cells as the released guide's own fill.sh prints them over the translation 8f33d141532ae195… (all of the seat's roots in one cut). By AI agents, Wed Nov 11 2026. No macro, syntax, notation, axiom, sorry.
-/
import Derived.Test.YtjknjekemolndaaGreatChecked
import GoSem.Claim
import GoSem.ClaimJoined
import GoSem.ClaimMapViews
import Derived.JoinedTies
import Derived.KernelRfl
namespace Go.Proofs.YtjknjekemolndaaGreat
/- THE CELL 'sum', in the pinned program and in every row, IS THE sha256 OF THE DUMP (.gsa) THAT YtjknjekemolndaaGreatProg.lean LOADS. Nothing in Lean hashes anything: it is a label: what it is worth is what the hold of that sum in a sandbox is worth. -/
noncomputable def Tryz.pinned : Pinned := { name := "ytjknjekemolndaagreat", sum := "8f33d141532ae19572060bb90e0472fffbf48e21cf171ab57085c52e39c987d6", checked := Tryz.checked }
namespace Rows
def none {H : Type} : Left H := { results := [], args := [] }

/-- 'laws.FnDropped': WHATEVER THE INPUT: true; the input reads as it did. -/
def fnDroppedSpec : ChangeSpec := { name := "fnDropped", fn := fun _ => fun
  | [d] => { results := [.lit (.bool true)], args := [d] }
  | _ => none }
def fnDroppedRow : OpenClaim := { program := "ytjknjekemolndaagreat", sum := "8f33d141532ae19572060bb90e0472fffbf48e21cf171ab57085c52e39c987d6", func := "loop.example/g03413/laws.FnDropped", spec := "fnDropped", unfollowed := true, recurses := true, apart := false }
def FnDroppedSaid : Prop := fnDroppedRow.holds Tryz.pinned (OpenSpec.ofChange fnDroppedSpec)

/-- ITS FALSE NEIGHBOUR: 'it returns false'. Refute it at one input. -/
def fnDroppedWrong : ChangeSpec := { name := "fnDropped", fn := fun _ => fun
  | [d] => { results := [.lit (.bool false)], args := [d] }
  | _ => none }
def FnDroppedWrongFalsely : Prop := fnDroppedRow.holds Tryz.pinned (OpenSpec.ofChange fnDroppedWrong)

/-- 'laws.FnSplit': WHATEVER THE INPUT: true; the input reads as it did. -/
def fnSplitSpec : ChangeSpec := { name := "fnSplit", fn := fun _ => fun
  | [d] => { results := [.lit (.bool true)], args := [d] }
  | _ => none }
def fnSplitRow : OpenClaim := { program := "ytjknjekemolndaagreat", sum := "8f33d141532ae19572060bb90e0472fffbf48e21cf171ab57085c52e39c987d6", func := "loop.example/g03413/laws.FnSplit", spec := "fnSplit", unfollowed := true, recurses := true, apart := false }
def FnSplitSaid : Prop := fnSplitRow.holds Tryz.pinned (OpenSpec.ofChange fnSplitSpec)

/-- ITS FALSE NEIGHBOUR: 'it returns false'. Refute it at one input. -/
def fnSplitWrong : ChangeSpec := { name := "fnSplit", fn := fun _ => fun
  | [d] => { results := [.lit (.bool false)], args := [d] }
  | _ => none }
def FnSplitWrongFalsely : Prop := fnSplitRow.holds Tryz.pinned (OpenSpec.ofChange fnSplitWrong)

/-- 'laws.FnExactNeatRegion': WHATEVER THE INPUT: true; the input reads as it did. -/
def fnExactNeatRegionSpec : ChangeSpec := { name := "fnExactNeatRegion", fn := fun _ => fun
  | [d] => { results := [.lit (.bool true)], args := [d] }
  | _ => none }
def fnExactNeatRegionRow : OpenClaim := { program := "ytjknjekemolndaagreat", sum := "8f33d141532ae19572060bb90e0472fffbf48e21cf171ab57085c52e39c987d6", func := "loop.example/g03413/laws.FnExactNeatRegion", spec := "fnExactNeatRegion", unfollowed := true, recurses := true, apart := false }
def FnExactNeatRegionSaid : Prop := fnExactNeatRegionRow.holds Tryz.pinned (OpenSpec.ofChange fnExactNeatRegionSpec)

/-- ITS FALSE NEIGHBOUR: 'it returns false'. Refute it at one input. -/
def fnExactNeatRegionWrong : ChangeSpec := { name := "fnExactNeatRegion", fn := fun _ => fun
  | [d] => { results := [.lit (.bool false)], args := [d] }
  | _ => none }
def FnExactNeatRegionWrongFalsely : Prop := fnExactNeatRegionRow.holds Tryz.pinned (OpenSpec.ofChange fnExactNeatRegionWrong)

/-- 'laws.FnBounds': WHATEVER THE INPUT: true; the input reads as it did. -/
def fnBoundsSpec : ChangeSpec := { name := "fnBounds", fn := fun _ => fun
  | [d] => { results := [.lit (.bool true)], args := [d] }
  | _ => none }
def fnBoundsRow : OpenClaim := { program := "ytjknjekemolndaagreat", sum := "8f33d141532ae19572060bb90e0472fffbf48e21cf171ab57085c52e39c987d6", func := "loop.example/g03413/laws.FnBounds", spec := "fnBounds", unfollowed := true, recurses := true, apart := false }
def FnBoundsSaid : Prop := fnBoundsRow.holds Tryz.pinned (OpenSpec.ofChange fnBoundsSpec)

/-- ITS FALSE NEIGHBOUR: 'it returns false'. Refute it at one input. -/
def fnBoundsWrong : ChangeSpec := { name := "fnBounds", fn := fun _ => fun
  | [d] => { results := [.lit (.bool false)], args := [d] }
  | _ => none }
def FnBoundsWrongFalsely : Prop := fnBoundsRow.holds Tryz.pinned (OpenSpec.ofChange fnBoundsWrong)

/-- 'laws.FnExactMeetOf': WHATEVER THE INPUT: true; the input reads as it did. -/
def fnExactMeetOfSpec : ChangeSpec := { name := "fnExactMeetOf", fn := fun _ => fun
  | [d1, d2] => { results := [.lit (.bool true)], args := [d1, d2] }
  | _ => none }
def fnExactMeetOfRow : OpenClaim := { program := "ytjknjekemolndaagreat", sum := "8f33d141532ae19572060bb90e0472fffbf48e21cf171ab57085c52e39c987d6", func := "loop.example/g03413/laws.FnExactMeetOf", spec := "fnExactMeetOf", unfollowed := true, recurses := true, apart := false }
def FnExactMeetOfSaid : Prop := fnExactMeetOfRow.holds Tryz.pinned (OpenSpec.ofChange fnExactMeetOfSpec)

/-- ITS FALSE NEIGHBOUR: 'it returns false'. Refute it at one input. -/
def fnExactMeetOfWrong : ChangeSpec := { name := "fnExactMeetOf", fn := fun _ => fun
  | [d1, d2] => { results := [.lit (.bool false)], args := [d1, d2] }
  | _ => none }
def FnExactMeetOfWrongFalsely : Prop := fnExactMeetOfRow.holds Tryz.pinned (OpenSpec.ofChange fnExactMeetOfWrong)

/-- 'laws.FnExactCoversRegion': WHATEVER THE INPUT: true; the input reads as it did. -/
def fnExactCoversRegionSpec : ChangeSpec := { name := "fnExactCoversRegion", fn := fun _ => fun
  | [d1, d2] => { results := [.lit (.bool true)], args := [d1, d2] }
  | _ => none }
def fnExactCoversRegionRow : OpenClaim := { program := "ytjknjekemolndaagreat", sum := "8f33d141532ae19572060bb90e0472fffbf48e21cf171ab57085c52e39c987d6", func := "loop.example/g03413/laws.FnExactCoversRegion", spec := "fnExactCoversRegion", unfollowed := true, recurses := true, apart := false }
def FnExactCoversRegionSaid : Prop := fnExactCoversRegionRow.holds Tryz.pinned (OpenSpec.ofChange fnExactCoversRegionSpec)

/-- ITS FALSE NEIGHBOUR: 'it returns false'. Refute it at one input. -/
def fnExactCoversRegionWrong : ChangeSpec := { name := "fnExactCoversRegion", fn := fun _ => fun
  | [d1, d2] => { results := [.lit (.bool false)], args := [d1, d2] }
  | _ => none }
def FnExactCoversRegionWrongFalsely : Prop := fnExactCoversRegionRow.holds Tryz.pinned (OpenSpec.ofChange fnExactCoversRegionWrong)

/-- 'laws.FnExactDropFrom': WHATEVER THE INPUT: true; the input reads as it did. -/
def fnExactDropFromSpec : ChangeSpec := { name := "fnExactDropFrom", fn := fun _ => fun
  | [d1, d2] => { results := [.lit (.bool true)], args := [d1, d2] }
  | _ => none }
def fnExactDropFromRow : OpenClaim := { program := "ytjknjekemolndaagreat", sum := "8f33d141532ae19572060bb90e0472fffbf48e21cf171ab57085c52e39c987d6", func := "loop.example/g03413/laws.FnExactDropFrom", spec := "fnExactDropFrom", unfollowed := true, recurses := true, apart := false }
def FnExactDropFromSaid : Prop := fnExactDropFromRow.holds Tryz.pinned (OpenSpec.ofChange fnExactDropFromSpec)

/-- ITS FALSE NEIGHBOUR: 'it returns false'. Refute it at one input. -/
def fnExactDropFromWrong : ChangeSpec := { name := "fnExactDropFrom", fn := fun _ => fun
  | [d1, d2] => { results := [.lit (.bool false)], args := [d1, d2] }
  | _ => none }
def FnExactDropFromWrongFalsely : Prop := fnExactDropFromRow.holds Tryz.pinned (OpenSpec.ofChange fnExactDropFromWrong)

/-- 'laws.FnImplied': WHATEVER THE INPUT: true; the input reads as it did. -/
def fnImpliedSpec : ChangeSpec := { name := "fnImplied", fn := fun _ => fun
  | [d] => { results := [.lit (.bool true)], args := [d] }
  | _ => none }
def fnImpliedRow : OpenClaim := { program := "ytjknjekemolndaagreat", sum := "8f33d141532ae19572060bb90e0472fffbf48e21cf171ab57085c52e39c987d6", func := "loop.example/g03413/laws.FnImplied", spec := "fnImplied", unfollowed := true, recurses := true, apart := false }
def FnImpliedSaid : Prop := fnImpliedRow.holds Tryz.pinned (OpenSpec.ofChange fnImpliedSpec)

/-- ITS FALSE NEIGHBOUR: 'it returns false'. Refute it at one input. -/
def fnImpliedWrong : ChangeSpec := { name := "fnImplied", fn := fun _ => fun
  | [d] => { results := [.lit (.bool false)], args := [d] }
  | _ => none }
def FnImpliedWrongFalsely : Prop := fnImpliedRow.holds Tryz.pinned (OpenSpec.ofChange fnImpliedWrong)

/-- 'laws.FnExactUnionOf': WHATEVER THE INPUT: true; the input reads as it did. -/
def fnExactUnionOfSpec : ChangeSpec := { name := "fnExactUnionOf", fn := fun _ => fun
  | [d1, d2] => { results := [.lit (.bool true)], args := [d1, d2] }
  | _ => none }
def fnExactUnionOfRow : OpenClaim := { program := "ytjknjekemolndaagreat", sum := "8f33d141532ae19572060bb90e0472fffbf48e21cf171ab57085c52e39c987d6", func := "loop.example/g03413/laws.FnExactUnionOf", spec := "fnExactUnionOf", unfollowed := true, recurses := true, apart := false }
def FnExactUnionOfSaid : Prop := fnExactUnionOfRow.holds Tryz.pinned (OpenSpec.ofChange fnExactUnionOfSpec)

/-- ITS FALSE NEIGHBOUR: 'it returns false'. Refute it at one input. -/
def fnExactUnionOfWrong : ChangeSpec := { name := "fnExactUnionOf", fn := fun _ => fun
  | [d1, d2] => { results := [.lit (.bool false)], args := [d1, d2] }
  | _ => none }
def FnExactUnionOfWrongFalsely : Prop := fnExactUnionOfRow.holds Tryz.pinned (OpenSpec.ofChange fnExactUnionOfWrong)

/- THE SECOND FORM. 'bulk': how many values and letters a reading holds, each counted each time it is reached (what is shared counts as often as it is met; a slice's spare places count too). A statement '..UptoSaid' is the law's where the arguments, and the package variables that the reading takes, are together of bulk at most 1048576: NARROWER than '..Said'. Prove '..Said' where nothing that the law and all that it calls make is longer than what came in: it says more and counts as full. Else prove '..UptoSaid'. A law counts once. -/
mutual
def uptoBulk {H : Type} : DataW H → Nat
  | .lit (.string bytes) => bytes.length + 1
  | .lit _ => 1
  | .nil => 1
  | .ptr d => uptoBulk d + 1
  | .slice elems spare => uptoBulkAll elems + uptoBulkAll spare + 1
  | .agg parts => uptoBulkAll parts + 1
  | .iface _ d => uptoBulk d + 1
  | .map entries => uptoBulkEntries entries + 1
  | .held _ => 1
def uptoBulkAll {H : Type} : List (DataW H) → Nat
  | [] => 0
  | d :: r => uptoBulk d + uptoBulkAll r
def uptoBulkEntries {H : Type} : List (Lit × DataW H) → Nat
  | [] => 0
  | x :: r => uptoBulkEntry x + uptoBulkEntries r
def uptoBulkEntry {H : Type} : Lit × DataW H → Nat
  | (.string bytes, d) => bytes.length + uptoBulk d + 1
  | (_, d) => uptoBulk d + 1
 end
def uptoSmall : (H : Type) → List (DataW H) → Bool := fun _ ds => decide (uptoBulkAll ds ≤ 1048576)
def OpenSpec.upto (s : _root_.Go.ChangeSpec) : _root_.Go.OpenSpec := { _root_.Go.OpenSpec.ofChange s with cond := some uptoSmall }

/-- 'laws.FnDropped', WHERE WHAT IT READS IS OF BULK AT MOST 1048576: true; the input reads as it did. -/
def fnDroppedUptoRow : OpenClaim := { program := "ytjknjekemolndaagreat", sum := "8f33d141532ae19572060bb90e0472fffbf48e21cf171ab57085c52e39c987d6", func := "loop.example/g03413/laws.FnDropped", spec := "fnDropped", unfollowed := true, recurses := true, apart := false, narrowed := true }
def FnDroppedUptoSaid : Prop := fnDroppedUptoRow.holds Tryz.pinned (OpenSpec.upto fnDroppedSpec)

/-- 'laws.FnSplit', WHERE WHAT IT READS IS OF BULK AT MOST 1048576: true; the input reads as it did. -/
def fnSplitUptoRow : OpenClaim := { program := "ytjknjekemolndaagreat", sum := "8f33d141532ae19572060bb90e0472fffbf48e21cf171ab57085c52e39c987d6", func := "loop.example/g03413/laws.FnSplit", spec := "fnSplit", unfollowed := true, recurses := true, apart := false, narrowed := true }
def FnSplitUptoSaid : Prop := fnSplitUptoRow.holds Tryz.pinned (OpenSpec.upto fnSplitSpec)

/-- 'laws.FnExactNeatRegion', WHERE WHAT IT READS IS OF BULK AT MOST 1048576: true; the input reads as it did. -/
def fnExactNeatRegionUptoRow : OpenClaim := { program := "ytjknjekemolndaagreat", sum := "8f33d141532ae19572060bb90e0472fffbf48e21cf171ab57085c52e39c987d6", func := "loop.example/g03413/laws.FnExactNeatRegion", spec := "fnExactNeatRegion", unfollowed := true, recurses := true, apart := false, narrowed := true }
def FnExactNeatRegionUptoSaid : Prop := fnExactNeatRegionUptoRow.holds Tryz.pinned (OpenSpec.upto fnExactNeatRegionSpec)

/-- 'laws.FnBounds', WHERE WHAT IT READS IS OF BULK AT MOST 1048576: true; the input reads as it did. -/
def fnBoundsUptoRow : OpenClaim := { program := "ytjknjekemolndaagreat", sum := "8f33d141532ae19572060bb90e0472fffbf48e21cf171ab57085c52e39c987d6", func := "loop.example/g03413/laws.FnBounds", spec := "fnBounds", unfollowed := true, recurses := true, apart := false, narrowed := true }
def FnBoundsUptoSaid : Prop := fnBoundsUptoRow.holds Tryz.pinned (OpenSpec.upto fnBoundsSpec)

/-- 'laws.FnExactMeetOf', WHERE WHAT IT READS IS OF BULK AT MOST 1048576: true; the input reads as it did. -/
def fnExactMeetOfUptoRow : OpenClaim := { program := "ytjknjekemolndaagreat", sum := "8f33d141532ae19572060bb90e0472fffbf48e21cf171ab57085c52e39c987d6", func := "loop.example/g03413/laws.FnExactMeetOf", spec := "fnExactMeetOf", unfollowed := true, recurses := true, apart := false, narrowed := true }
def FnExactMeetOfUptoSaid : Prop := fnExactMeetOfUptoRow.holds Tryz.pinned (OpenSpec.upto fnExactMeetOfSpec)

/-- 'laws.FnExactCoversRegion', WHERE WHAT IT READS IS OF BULK AT MOST 1048576: true; the input reads as it did. -/
def fnExactCoversRegionUptoRow : OpenClaim := { program := "ytjknjekemolndaagreat", sum := "8f33d141532ae19572060bb90e0472fffbf48e21cf171ab57085c52e39c987d6", func := "loop.example/g03413/laws.FnExactCoversRegion", spec := "fnExactCoversRegion", unfollowed := true, recurses := true, apart := false, narrowed := true }
def FnExactCoversRegionUptoSaid : Prop := fnExactCoversRegionUptoRow.holds Tryz.pinned (OpenSpec.upto fnExactCoversRegionSpec)

/-- 'laws.FnExactDropFrom', WHERE WHAT IT READS IS OF BULK AT MOST 1048576: true; the input reads as it did. -/
def fnExactDropFromUptoRow : OpenClaim := { program := "ytjknjekemolndaagreat", sum := "8f33d141532ae19572060bb90e0472fffbf48e21cf171ab57085c52e39c987d6", func := "loop.example/g03413/laws.FnExactDropFrom", spec := "fnExactDropFrom", unfollowed := true, recurses := true, apart := false, narrowed := true }
def FnExactDropFromUptoSaid : Prop := fnExactDropFromUptoRow.holds Tryz.pinned (OpenSpec.upto fnExactDropFromSpec)

/-- 'laws.FnImplied', WHERE WHAT IT READS IS OF BULK AT MOST 1048576: true; the input reads as it did. -/
def fnImpliedUptoRow : OpenClaim := { program := "ytjknjekemolndaagreat", sum := "8f33d141532ae19572060bb90e0472fffbf48e21cf171ab57085c52e39c987d6", func := "loop.example/g03413/laws.FnImplied", spec := "fnImplied", unfollowed := true, recurses := true, apart := false, narrowed := true }
def FnImpliedUptoSaid : Prop := fnImpliedUptoRow.holds Tryz.pinned (OpenSpec.upto fnImpliedSpec)

/-- 'laws.FnExactUnionOf', WHERE WHAT IT READS IS OF BULK AT MOST 1048576: true; the input reads as it did. -/
def fnExactUnionOfUptoRow : OpenClaim := { program := "ytjknjekemolndaagreat", sum := "8f33d141532ae19572060bb90e0472fffbf48e21cf171ab57085c52e39c987d6", func := "loop.example/g03413/laws.FnExactUnionOf", spec := "fnExactUnionOf", unfollowed := true, recurses := true, apart := false, narrowed := true }
def FnExactUnionOfUptoSaid : Prop := fnExactUnionOfUptoRow.holds Tryz.pinned (OpenSpec.upto fnExactUnionOfSpec)

end Rows
end Go.Proofs.YtjknjekemolndaaGreat
