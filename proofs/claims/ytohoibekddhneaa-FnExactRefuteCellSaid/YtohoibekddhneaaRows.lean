/-
  No cell of these rows narrows 'for every input' (looked for: loops, veiled, ifaces, maps, wideKeys, modest, calm, conditions, laid).
  DERIVED. THE GIVEN ROWS OF THIS SEAT. 4 by the template 'for every input the law returns true; each argument reads behind the call as it read before'; 0 by the template 'total and deterministic' (their statements: YtohoibekddhneaaTotals.lean).
  GIVEN WITH THE SEED: the statements are not yours to turn. If you find one false, say at which input.
  Laid BY PROGRAM, IN A SANDBOX (cutbox-rows.mjs): the forced cells as the released guide's own fill.sh prints them over the translation 33d6c39de5164cc1… (all of the seat's roots in one cut). By AI agents, Wed Nov 11 2026. No macro, syntax, notation, axiom, sorry.
-/
import Derived.Test.YtohoibekddhneaaChecked
import GoSem.Claim
import GoSem.ClaimJoined
import GoSem.ClaimMapViews
import Derived.JoinedTies
import Derived.KernelRfl
namespace Go.Proofs.Ytohoibekddhneaa
/- THE CELL 'sum', in the pinned program and in every row, IS THE sha256 OF THE DUMP (.gsa) THAT YtohoibekddhneaaProg.lean LOADS. Nothing in Lean hashes anything: it is a label: what it is worth is what the hold of that sum in a sandbox is worth. -/
noncomputable def Try.pinned : Pinned := { name := "ytohoibekddhneaa", sum := "33d6c39de5164cc1bd6a25e430320b9645527777a1ef3998b4eaa79170616ce4", checked := Try.checked }
namespace Rows
def none {H : Type} : Left H := { results := [], args := [] }

/-- 'laws.FnMixed': WHATEVER THE INPUT: true; the input reads as it did. -/
def fnMixedSpec : ChangeSpec := { name := "fnMixed", fn := fun _ => fun
  | [d] => { results := [.lit (.bool true)], args := [d] }
  | _ => none }
def fnMixedRow : OpenClaim := { program := "ytohoibekddhneaa", sum := "33d6c39de5164cc1bd6a25e430320b9645527777a1ef3998b4eaa79170616ce4", func := "loop.example/g03413/laws.FnMixed", spec := "fnMixed", apart := false }
def FnMixedSaid : Prop := fnMixedRow.holds Try.pinned (OpenSpec.ofChange fnMixedSpec)

/-- ITS FALSE NEIGHBOUR: 'it returns false'. Refute it at one input. -/
def fnMixedWrong : ChangeSpec := { name := "fnMixed", fn := fun _ => fun
  | [d] => { results := [.lit (.bool false)], args := [d] }
  | _ => none }
def FnMixedWrongFalsely : Prop := fnMixedRow.holds Try.pinned (OpenSpec.ofChange fnMixedWrong)

/-- 'laws.FnExactRefuteCell': WHATEVER THE INPUT: true; the input reads as it did. -/
def fnExactRefuteCellSpec : ChangeSpec := { name := "fnExactRefuteCell", fn := fun _ => fun
  | [d] => { results := [.lit (.bool true)], args := [d] }
  | _ => none }
def fnExactRefuteCellRow : OpenClaim := { program := "ytohoibekddhneaa", sum := "33d6c39de5164cc1bd6a25e430320b9645527777a1ef3998b4eaa79170616ce4", func := "loop.example/g03413/laws.FnExactRefuteCell", spec := "fnExactRefuteCell", apart := false }
def FnExactRefuteCellSaid : Prop := fnExactRefuteCellRow.holds Try.pinned (OpenSpec.ofChange fnExactRefuteCellSpec)

/-- ITS FALSE NEIGHBOUR: 'it returns false'. Refute it at one input. -/
def fnExactRefuteCellWrong : ChangeSpec := { name := "fnExactRefuteCell", fn := fun _ => fun
  | [d] => { results := [.lit (.bool false)], args := [d] }
  | _ => none }
def FnExactRefuteCellWrongFalsely : Prop := fnExactRefuteCellRow.holds Try.pinned (OpenSpec.ofChange fnExactRefuteCellWrong)

/-- 'laws.FnExactInCell': WHATEVER THE INPUT: true; the input reads as it did. -/
def fnExactInCellSpec : ChangeSpec := { name := "fnExactInCell", fn := fun _ => fun
  | [d1, d2] => { results := [.lit (.bool true)], args := [d1, d2] }
  | _ => none }
def fnExactInCellRow : OpenClaim := { program := "ytohoibekddhneaa", sum := "33d6c39de5164cc1bd6a25e430320b9645527777a1ef3998b4eaa79170616ce4", func := "loop.example/g03413/laws.FnExactInCell", spec := "fnExactInCell", apart := false }
def FnExactInCellSaid : Prop := fnExactInCellRow.holds Try.pinned (OpenSpec.ofChange fnExactInCellSpec)

/-- ITS FALSE NEIGHBOUR: 'it returns false'. Refute it at one input. -/
def fnExactInCellWrong : ChangeSpec := { name := "fnExactInCell", fn := fun _ => fun
  | [d1, d2] => { results := [.lit (.bool false)], args := [d1, d2] }
  | _ => none }
def FnExactInCellWrongFalsely : Prop := fnExactInCellRow.holds Try.pinned (OpenSpec.ofChange fnExactInCellWrong)

/-- 'laws.FnExactInRegion': WHATEVER THE INPUT: true; the input reads as it did. -/
def fnExactInRegionSpec : ChangeSpec := { name := "fnExactInRegion", fn := fun _ => fun
  | [d1, d2] => { results := [.lit (.bool true)], args := [d1, d2] }
  | _ => none }
def fnExactInRegionRow : OpenClaim := { program := "ytohoibekddhneaa", sum := "33d6c39de5164cc1bd6a25e430320b9645527777a1ef3998b4eaa79170616ce4", func := "loop.example/g03413/laws.FnExactInRegion", spec := "fnExactInRegion", apart := false }
def FnExactInRegionSaid : Prop := fnExactInRegionRow.holds Try.pinned (OpenSpec.ofChange fnExactInRegionSpec)

/-- ITS FALSE NEIGHBOUR: 'it returns false'. Refute it at one input. -/
def fnExactInRegionWrong : ChangeSpec := { name := "fnExactInRegion", fn := fun _ => fun
  | [d1, d2] => { results := [.lit (.bool false)], args := [d1, d2] }
  | _ => none }
def FnExactInRegionWrongFalsely : Prop := fnExactInRegionRow.holds Try.pinned (OpenSpec.ofChange fnExactInRegionWrong)

/- THE SECOND FORM. 'bulk': how many values and letters a reading holds, each counted each time it is reached (what is shared counts as often as it is met; a slice's spare places count too). A statement '..UptoSaid' is the law's where the arguments, and the package variables that the reading takes, are together of bulk at most 1048576: NARROWER than '..Said'. Prove '..Said' where nothing that the law and all that it calls make is longer than what came in: it says more and counts as full. Else prove '..UptoSaid'. A law counts once. -/
mutual
def uptoBulk {H : Type} : DataW H → Nat
  | .lit (.string bytes) => bytes.length + 1
  | .lit _ => 1
  | .nil => 1
  | .ptr d => uptoBulk d + 1
  | .slice elems spare => uptoBulkAll elems + uptoBulkAll spare + 1
  | .agg parts => uptoBulkAll parts + 1
  | .iface _ d => uptoBulk d + 1
  | .map entries => uptoBulkEntries entries + 1
  | .held _ => 1
def uptoBulkAll {H : Type} : List (DataW H) → Nat
  | [] => 0
  | d :: r => uptoBulk d + uptoBulkAll r
def uptoBulkEntries {H : Type} : List (Lit × DataW H) → Nat
  | [] => 0
  | x :: r => uptoBulkEntry x + uptoBulkEntries r
def uptoBulkEntry {H : Type} : Lit × DataW H → Nat
  | (.string bytes, d) => bytes.length + uptoBulk d + 1
  | (_, d) => uptoBulk d + 1
 end
def uptoSmall : (H : Type) → List (DataW H) → Bool := fun _ ds => decide (uptoBulkAll ds ≤ 1048576)
def OpenSpec.upto (s : _root_.Go.ChangeSpec) : _root_.Go.OpenSpec := { _root_.Go.OpenSpec.ofChange s with cond := some uptoSmall }

/-- 'laws.FnMixed', WHERE WHAT IT READS IS OF BULK AT MOST 1048576: true; the input reads as it did. -/
def fnMixedUptoRow : OpenClaim := { program := "ytohoibekddhneaa", sum := "33d6c39de5164cc1bd6a25e430320b9645527777a1ef3998b4eaa79170616ce4", func := "loop.example/g03413/laws.FnMixed", spec := "fnMixed", apart := false, narrowed := true }
def FnMixedUptoSaid : Prop := fnMixedUptoRow.holds Try.pinned (OpenSpec.upto fnMixedSpec)

/-- 'laws.FnExactRefuteCell', WHERE WHAT IT READS IS OF BULK AT MOST 1048576: true; the input reads as it did. -/
def fnExactRefuteCellUptoRow : OpenClaim := { program := "ytohoibekddhneaa", sum := "33d6c39de5164cc1bd6a25e430320b9645527777a1ef3998b4eaa79170616ce4", func := "loop.example/g03413/laws.FnExactRefuteCell", spec := "fnExactRefuteCell", apart := false, narrowed := true }
def FnExactRefuteCellUptoSaid : Prop := fnExactRefuteCellUptoRow.holds Try.pinned (OpenSpec.upto fnExactRefuteCellSpec)

/-- 'laws.FnExactInCell', WHERE WHAT IT READS IS OF BULK AT MOST 1048576: true; the input reads as it did. -/
def fnExactInCellUptoRow : OpenClaim := { program := "ytohoibekddhneaa", sum := "33d6c39de5164cc1bd6a25e430320b9645527777a1ef3998b4eaa79170616ce4", func := "loop.example/g03413/laws.FnExactInCell", spec := "fnExactInCell", apart := false, narrowed := true }
def FnExactInCellUptoSaid : Prop := fnExactInCellUptoRow.holds Try.pinned (OpenSpec.upto fnExactInCellSpec)

/-- 'laws.FnExactInRegion', WHERE WHAT IT READS IS OF BULK AT MOST 1048576: true; the input reads as it did. -/
def fnExactInRegionUptoRow : OpenClaim := { program := "ytohoibekddhneaa", sum := "33d6c39de5164cc1bd6a25e430320b9645527777a1ef3998b4eaa79170616ce4", func := "loop.example/g03413/laws.FnExactInRegion", spec := "fnExactInRegion", apart := false, narrowed := true }
def FnExactInRegionUptoSaid : Prop := fnExactInRegionUptoRow.holds Try.pinned (OpenSpec.upto fnExactInRegionSpec)

end Rows
end Go.Proofs.Ytohoibekddhneaa
