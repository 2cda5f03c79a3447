/-
  No cell of these rows narrows 'for every input' (looked for: loops, veiled, ifaces, maps, wideKeys, modest, calm, conditions, laid).
  DERIVED. THE GIVEN ROWS OF THIS SEAT. 10 by the template 'for every input the law returns true; each argument reads behind the call as it read before'; 0 by the template 'total and deterministic' (their statements: YtaijkhabcidagaaTotals.lean).
  GIVEN WITH THE SEED: the statements are not yours to turn. If you find one false, say at which input.
  Laid BY PROGRAM, IN A SANDBOX (cutbox-rows.mjs): the forced cells as the released guide's own fill.sh prints them over the translation 256a14c24b52d104… (all of the seat's roots in one cut). By AI agents, Wed Nov 11 2026. No macro, syntax, notation, axiom, sorry.
-/
import Derived.Test.YtaijkhabcidagaaChecked
import GoSem.Claim
import GoSem.ClaimJoined
import GoSem.ClaimMapViews
import Derived.JoinedTies
import Derived.KernelRfl
namespace Go.Proofs.Ytaijkhabcidagaa
/- THE CELL 'sum', in the pinned program and in every row, IS THE sha256 OF THE DUMP (.gsa) THAT YtaijkhabcidagaaProg.lean LOADS. Nothing in Lean hashes anything: it is a label: what it is worth is what the hold of that sum in a sandbox is worth. -/
noncomputable def Try.pinned : Pinned := { name := "ytaijkhabcidagaa", sum := "256a14c24b52d104d8307218e38f7759d48d092fb112880baa474f91a551efbe", checked := Try.checked }
namespace Rows
def none {H : Type} : Left H := { results := [], args := [] }

/-- 'laws.FnExactNegateAtom': WHATEVER THE INPUT: true; the input reads as it did. -/
def fnExactNegateAtomSpec : ChangeSpec := { name := "fnExactNegateAtom", fn := fun _ => fun
  | [d] => { results := [.lit (.bool true)], args := [d] }
  | _ => none }
def fnExactNegateAtomRow : OpenClaim := { program := "ytaijkhabcidagaa", sum := "256a14c24b52d104d8307218e38f7759d48d092fb112880baa474f91a551efbe", func := "loop.example/g03413/laws.FnExactNegateAtom", spec := "fnExactNegateAtom", apart := false }
def FnExactNegateAtomSaid : Prop := fnExactNegateAtomRow.holds Try.pinned (OpenSpec.ofChange fnExactNegateAtomSpec)

/-- ITS FALSE NEIGHBOUR: 'it returns false'. Refute it at one input. -/
def fnExactNegateAtomWrong : ChangeSpec := { name := "fnExactNegateAtom", fn := fun _ => fun
  | [d] => { results := [.lit (.bool false)], args := [d] }
  | _ => none }
def FnExactNegateAtomWrongFalsely : Prop := fnExactNegateAtomRow.holds Try.pinned (OpenSpec.ofChange fnExactNegateAtomWrong)

/-- 'laws.FnExactMakeAtom': WHATEVER THE INPUT: true; the input reads as it did. -/
def fnExactMakeAtomSpec : ChangeSpec := { name := "fnExactMakeAtom", fn := fun _ => fun
  | [d1, d2, d3] => { results := [.lit (.bool true)], args := [d1, d2, d3] }
  | _ => none }
def fnExactMakeAtomRow : OpenClaim := { program := "ytaijkhabcidagaa", sum := "256a14c24b52d104d8307218e38f7759d48d092fb112880baa474f91a551efbe", func := "loop.example/g03413/laws.FnExactMakeAtom", spec := "fnExactMakeAtom", apart := false }
def FnExactMakeAtomSaid : Prop := fnExactMakeAtomRow.holds Try.pinned (OpenSpec.ofChange fnExactMakeAtomSpec)

/-- ITS FALSE NEIGHBOUR: 'it returns false'. Refute it at one input. -/
def fnExactMakeAtomWrong : ChangeSpec := { name := "fnExactMakeAtom", fn := fun _ => fun
  | [d1, d2, d3] => { results := [.lit (.bool false)], args := [d1, d2, d3] }
  | _ => none }
def FnExactMakeAtomWrongFalsely : Prop := fnExactMakeAtomRow.holds Try.pinned (OpenSpec.ofChange fnExactMakeAtomWrong)

/-- 'laws.FnExactIsCell': WHATEVER THE INPUT: true; the input reads as it did. -/
def fnExactIsCellSpec : ChangeSpec := { name := "fnExactIsCell", fn := fun _ => fun
  | [d] => { results := [.lit (.bool true)], args := [d] }
  | _ => none }
def fnExactIsCellRow : OpenClaim := { program := "ytaijkhabcidagaa", sum := "256a14c24b52d104d8307218e38f7759d48d092fb112880baa474f91a551efbe", func := "loop.example/g03413/laws.FnExactIsCell", spec := "fnExactIsCell", apart := false }
def FnExactIsCellSaid : Prop := fnExactIsCellRow.holds Try.pinned (OpenSpec.ofChange fnExactIsCellSpec)

/-- ITS FALSE NEIGHBOUR: 'it returns false'. Refute it at one input. -/
def fnExactIsCellWrong : ChangeSpec := { name := "fnExactIsCell", fn := fun _ => fun
  | [d] => { results := [.lit (.bool false)], args := [d] }
  | _ => none }
def FnExactIsCellWrongFalsely : Prop := fnExactIsCellRow.holds Try.pinned (OpenSpec.ofChange fnExactIsCellWrong)

/-- 'laws.FnExactMixAtoms': WHATEVER THE INPUT: true; the input reads as it did. -/
def fnExactMixAtomsSpec : ChangeSpec := { name := "fnExactMixAtoms", fn := fun _ => fun
  | [d1, d2, d3, d4] => { results := [.lit (.bool true)], args := [d1, d2, d3, d4] }
  | _ => none }
def fnExactMixAtomsRow : OpenClaim := { program := "ytaijkhabcidagaa", sum := "256a14c24b52d104d8307218e38f7759d48d092fb112880baa474f91a551efbe", func := "loop.example/g03413/laws.FnExactMixAtoms", spec := "fnExactMixAtoms", apart := false }
def FnExactMixAtomsSaid : Prop := fnExactMixAtomsRow.holds Try.pinned (OpenSpec.ofChange fnExactMixAtomsSpec)

/-- ITS FALSE NEIGHBOUR: 'it returns false'. Refute it at one input. -/
def fnExactMixAtomsWrong : ChangeSpec := { name := "fnExactMixAtoms", fn := fun _ => fun
  | [d1, d2, d3, d4] => { results := [.lit (.bool false)], args := [d1, d2, d3, d4] }
  | _ => none }
def FnExactMixAtomsWrongFalsely : Prop := fnExactMixAtomsRow.holds Try.pinned (OpenSpec.ofChange fnExactMixAtomsWrong)

/-- 'laws.FnExactCompareAtoms': WHATEVER THE INPUT: true; the input reads as it did. -/
def fnExactCompareAtomsSpec : ChangeSpec := { name := "fnExactCompareAtoms", fn := fun _ => fun
  | [d1, d2] => { results := [.lit (.bool true)], args := [d1, d2] }
  | _ => none }
def fnExactCompareAtomsRow : OpenClaim := { program := "ytaijkhabcidagaa", sum := "256a14c24b52d104d8307218e38f7759d48d092fb112880baa474f91a551efbe", func := "loop.example/g03413/laws.FnExactCompareAtoms", spec := "fnExactCompareAtoms", apart := false }
def FnExactCompareAtomsSaid : Prop := fnExactCompareAtomsRow.holds Try.pinned (OpenSpec.ofChange fnExactCompareAtomsSpec)

/-- ITS FALSE NEIGHBOUR: 'it returns false'. Refute it at one input. -/
def fnExactCompareAtomsWrong : ChangeSpec := { name := "fnExactCompareAtoms", fn := fun _ => fun
  | [d1, d2] => { results := [.lit (.bool false)], args := [d1, d2] }
  | _ => none }
def FnExactCompareAtomsWrongFalsely : Prop := fnExactCompareAtomsRow.holds Try.pinned (OpenSpec.ofChange fnExactCompareAtomsWrong)

/-- 'laws.FnExactFixVariable': WHATEVER THE INPUT: true; the input reads as it did. -/
def fnExactFixVariableSpec : ChangeSpec := { name := "fnExactFixVariable", fn := fun _ => fun
  | [d1, d2, d3] => { results := [.lit (.bool true)], args := [d1, d2, d3] }
  | _ => none }
def fnExactFixVariableRow : OpenClaim := { program := "ytaijkhabcidagaa", sum := "256a14c24b52d104d8307218e38f7759d48d092fb112880baa474f91a551efbe", func := "loop.example/g03413/laws.FnExactFixVariable", spec := "fnExactFixVariable", apart := false }
def FnExactFixVariableSaid : Prop := fnExactFixVariableRow.holds Try.pinned (OpenSpec.ofChange fnExactFixVariableSpec)

/-- ITS FALSE NEIGHBOUR: 'it returns false'. Refute it at one input. -/
def fnExactFixVariableWrong : ChangeSpec := { name := "fnExactFixVariable", fn := fun _ => fun
  | [d1, d2, d3] => { results := [.lit (.bool false)], args := [d1, d2, d3] }
  | _ => none }
def FnExactFixVariableWrongFalsely : Prop := fnExactFixVariableRow.holds Try.pinned (OpenSpec.ofChange fnExactFixVariableWrong)

/-- 'laws.FnExactIsRefuted': WHATEVER THE INPUT: true; the input reads as it did. -/
def fnExactIsRefutedSpec : ChangeSpec := { name := "fnExactIsRefuted", fn := fun _ => fun
  | [d1, d2] => { results := [.lit (.bool true)], args := [d1, d2] }
  | _ => none }
def fnExactIsRefutedRow : OpenClaim := { program := "ytaijkhabcidagaa", sum := "256a14c24b52d104d8307218e38f7759d48d092fb112880baa474f91a551efbe", func := "loop.example/g03413/laws.FnExactIsRefuted", spec := "fnExactIsRefuted", apart := false }
def FnExactIsRefutedSaid : Prop := fnExactIsRefutedRow.holds Try.pinned (OpenSpec.ofChange fnExactIsRefutedSpec)

/-- ITS FALSE NEIGHBOUR: 'it returns false'. Refute it at one input. -/
def fnExactIsRefutedWrong : ChangeSpec := { name := "fnExactIsRefuted", fn := fun _ => fun
  | [d1, d2] => { results := [.lit (.bool false)], args := [d1, d2] }
  | _ => none }
def FnExactIsRefutedWrongFalsely : Prop := fnExactIsRefutedRow.holds Try.pinned (OpenSpec.ofChange fnExactIsRefutedWrong)

/-- 'laws.FnExactIsRegion': WHATEVER THE INPUT: true; the input reads as it did. -/
def fnExactIsRegionSpec : ChangeSpec := { name := "fnExactIsRegion", fn := fun _ => fun
  | [d] => { results := [.lit (.bool true)], args := [d] }
  | _ => none }
def fnExactIsRegionRow : OpenClaim := { program := "ytaijkhabcidagaa", sum := "256a14c24b52d104d8307218e38f7759d48d092fb112880baa474f91a551efbe", func := "loop.example/g03413/laws.FnExactIsRegion", spec := "fnExactIsRegion", apart := false }
def FnExactIsRegionSaid : Prop := fnExactIsRegionRow.holds Try.pinned (OpenSpec.ofChange fnExactIsRegionSpec)

/-- ITS FALSE NEIGHBOUR: 'it returns false'. Refute it at one input. -/
def fnExactIsRegionWrong : ChangeSpec := { name := "fnExactIsRegion", fn := fun _ => fun
  | [d] => { results := [.lit (.bool false)], args := [d] }
  | _ => none }
def FnExactIsRegionWrongFalsely : Prop := fnExactIsRegionRow.holds Try.pinned (OpenSpec.ofChange fnExactIsRegionWrong)

/-- 'laws.FnExactValueOf': WHATEVER THE INPUT: true; the input reads as it did. -/
def fnExactValueOfSpec : ChangeSpec := { name := "fnExactValueOf", fn := fun _ => fun
  | [d1, d2] => { results := [.lit (.bool true)], args := [d1, d2] }
  | _ => none }
def fnExactValueOfRow : OpenClaim := { program := "ytaijkhabcidagaa", sum := "256a14c24b52d104d8307218e38f7759d48d092fb112880baa474f91a551efbe", func := "loop.example/g03413/laws.FnExactValueOf", spec := "fnExactValueOf", apart := false }
def FnExactValueOfSaid : Prop := fnExactValueOfRow.holds Try.pinned (OpenSpec.ofChange fnExactValueOfSpec)

/-- ITS FALSE NEIGHBOUR: 'it returns false'. Refute it at one input. -/
def fnExactValueOfWrong : ChangeSpec := { name := "fnExactValueOf", fn := fun _ => fun
  | [d1, d2] => { results := [.lit (.bool false)], args := [d1, d2] }
  | _ => none }
def FnExactValueOfWrongFalsely : Prop := fnExactValueOfRow.holds Try.pinned (OpenSpec.ofChange fnExactValueOfWrong)

/-- 'laws.FnExactHoldsAt': WHATEVER THE INPUT: true; the input reads as it did. -/
def fnExactHoldsAtSpec : ChangeSpec := { name := "fnExactHoldsAt", fn := fun _ => fun
  | [d1, d2] => { results := [.lit (.bool true)], args := [d1, d2] }
  | _ => none }
def fnExactHoldsAtRow : OpenClaim := { program := "ytaijkhabcidagaa", sum := "256a14c24b52d104d8307218e38f7759d48d092fb112880baa474f91a551efbe", func := "loop.example/g03413/laws.FnExactHoldsAt", spec := "fnExactHoldsAt", apart := false }
def FnExactHoldsAtSaid : Prop := fnExactHoldsAtRow.holds Try.pinned (OpenSpec.ofChange fnExactHoldsAtSpec)

/-- ITS FALSE NEIGHBOUR: 'it returns false'. Refute it at one input. -/
def fnExactHoldsAtWrong : ChangeSpec := { name := "fnExactHoldsAt", fn := fun _ => fun
  | [d1, d2] => { results := [.lit (.bool false)], args := [d1, d2] }
  | _ => none }
def FnExactHoldsAtWrongFalsely : Prop := fnExactHoldsAtRow.holds Try.pinned (OpenSpec.ofChange fnExactHoldsAtWrong)

/- THE SECOND FORM. 'bulk': how many values and letters a reading holds, each counted each time it is reached (what is shared counts as often as it is met; a slice's spare places count too). A statement '..UptoSaid' is the law's where the arguments, and the package variables that the reading takes, are together of bulk at most 1048576: NARROWER than '..Said'. Prove '..Said' where nothing that the law and all that it calls make is longer than what came in: it says more and counts as full. Else prove '..UptoSaid'. A law counts once. -/
mutual
def uptoBulk {H : Type} : DataW H → Nat
  | .lit (.string bytes) => bytes.length + 1
  | .lit _ => 1
  | .nil => 1
  | .ptr d => uptoBulk d + 1
  | .slice elems spare => uptoBulkAll elems + uptoBulkAll spare + 1
  | .agg parts => uptoBulkAll parts + 1
  | .iface _ d => uptoBulk d + 1
  | .map entries => uptoBulkEntries entries + 1
  | .held _ => 1
def uptoBulkAll {H : Type} : List (DataW H) → Nat
  | [] => 0
  | d :: r => uptoBulk d + uptoBulkAll r
def uptoBulkEntries {H : Type} : List (Lit × DataW H) → Nat
  | [] => 0
  | x :: r => uptoBulkEntry x + uptoBulkEntries r
def uptoBulkEntry {H : Type} : Lit × DataW H → Nat
  | (.string bytes, d) => bytes.length + uptoBulk d + 1
  | (_, d) => uptoBulk d + 1
 end
def uptoSmall : (H : Type) → List (DataW H) → Bool := fun _ ds => decide (uptoBulkAll ds ≤ 1048576)
def OpenSpec.upto (s : _root_.Go.ChangeSpec) : _root_.Go.OpenSpec := { _root_.Go.OpenSpec.ofChange s with cond := some uptoSmall }

/-- 'laws.FnExactNegateAtom', WHERE WHAT IT READS IS OF BULK AT MOST 1048576: true; the input reads as it did. -/
def fnExactNegateAtomUptoRow : OpenClaim := { program := "ytaijkhabcidagaa", sum := "256a14c24b52d104d8307218e38f7759d48d092fb112880baa474f91a551efbe", func := "loop.example/g03413/laws.FnExactNegateAtom", spec := "fnExactNegateAtom", apart := false, narrowed := true }
def FnExactNegateAtomUptoSaid : Prop := fnExactNegateAtomUptoRow.holds Try.pinned (OpenSpec.upto fnExactNegateAtomSpec)

/-- 'laws.FnExactMakeAtom', WHERE WHAT IT READS IS OF BULK AT MOST 1048576: true; the input reads as it did. -/
def fnExactMakeAtomUptoRow : OpenClaim := { program := "ytaijkhabcidagaa", sum := "256a14c24b52d104d8307218e38f7759d48d092fb112880baa474f91a551efbe", func := "loop.example/g03413/laws.FnExactMakeAtom", spec := "fnExactMakeAtom", apart := false, narrowed := true }
def FnExactMakeAtomUptoSaid : Prop := fnExactMakeAtomUptoRow.holds Try.pinned (OpenSpec.upto fnExactMakeAtomSpec)

/-- 'laws.FnExactIsCell', WHERE WHAT IT READS IS OF BULK AT MOST 1048576: true; the input reads as it did. -/
def fnExactIsCellUptoRow : OpenClaim := { program := "ytaijkhabcidagaa", sum := "256a14c24b52d104d8307218e38f7759d48d092fb112880baa474f91a551efbe", func := "loop.example/g03413/laws.FnExactIsCell", spec := "fnExactIsCell", apart := false, narrowed := true }
def FnExactIsCellUptoSaid : Prop := fnExactIsCellUptoRow.holds Try.pinned (OpenSpec.upto fnExactIsCellSpec)

/-- 'laws.FnExactMixAtoms', WHERE WHAT IT READS IS OF BULK AT MOST 1048576: true; the input reads as it did. -/
def fnExactMixAtomsUptoRow : OpenClaim := { program := "ytaijkhabcidagaa", sum := "256a14c24b52d104d8307218e38f7759d48d092fb112880baa474f91a551efbe", func := "loop.example/g03413/laws.FnExactMixAtoms", spec := "fnExactMixAtoms", apart := false, narrowed := true }
def FnExactMixAtomsUptoSaid : Prop := fnExactMixAtomsUptoRow.holds Try.pinned (OpenSpec.upto fnExactMixAtomsSpec)

/-- 'laws.FnExactCompareAtoms', WHERE WHAT IT READS IS OF BULK AT MOST 1048576: true; the input reads as it did. -/
def fnExactCompareAtomsUptoRow : OpenClaim := { program := "ytaijkhabcidagaa", sum := "256a14c24b52d104d8307218e38f7759d48d092fb112880baa474f91a551efbe", func := "loop.example/g03413/laws.FnExactCompareAtoms", spec := "fnExactCompareAtoms", apart := false, narrowed := true }
def FnExactCompareAtomsUptoSaid : Prop := fnExactCompareAtomsUptoRow.holds Try.pinned (OpenSpec.upto fnExactCompareAtomsSpec)

/-- 'laws.FnExactFixVariable', WHERE WHAT IT READS IS OF BULK AT MOST 1048576: true; the input reads as it did. -/
def fnExactFixVariableUptoRow : OpenClaim := { program := "ytaijkhabcidagaa", sum := "256a14c24b52d104d8307218e38f7759d48d092fb112880baa474f91a551efbe", func := "loop.example/g03413/laws.FnExactFixVariable", spec := "fnExactFixVariable", apart := false, narrowed := true }
def FnExactFixVariableUptoSaid : Prop := fnExactFixVariableUptoRow.holds Try.pinned (OpenSpec.upto fnExactFixVariableSpec)

/-- 'laws.FnExactIsRefuted', WHERE WHAT IT READS IS OF BULK AT MOST 1048576: true; the input reads as it did. -/
def fnExactIsRefutedUptoRow : OpenClaim := { program := "ytaijkhabcidagaa", sum := "256a14c24b52d104d8307218e38f7759d48d092fb112880baa474f91a551efbe", func := "loop.example/g03413/laws.FnExactIsRefuted", spec := "fnExactIsRefuted", apart := false, narrowed := true }
def FnExactIsRefutedUptoSaid : Prop := fnExactIsRefutedUptoRow.holds Try.pinned (OpenSpec.upto fnExactIsRefutedSpec)

/-- 'laws.FnExactIsRegion', WHERE WHAT IT READS IS OF BULK AT MOST 1048576: true; the input reads as it did. -/
def fnExactIsRegionUptoRow : OpenClaim := { program := "ytaijkhabcidagaa", sum := "256a14c24b52d104d8307218e38f7759d48d092fb112880baa474f91a551efbe", func := "loop.example/g03413/laws.FnExactIsRegion", spec := "fnExactIsRegion", apart := false, narrowed := true }
def FnExactIsRegionUptoSaid : Prop := fnExactIsRegionUptoRow.holds Try.pinned (OpenSpec.upto fnExactIsRegionSpec)

/-- 'laws.FnExactValueOf', WHERE WHAT IT READS IS OF BULK AT MOST 1048576: true; the input reads as it did. -/
def fnExactValueOfUptoRow : OpenClaim := { program := "ytaijkhabcidagaa", sum := "256a14c24b52d104d8307218e38f7759d48d092fb112880baa474f91a551efbe", func := "loop.example/g03413/laws.FnExactValueOf", spec := "fnExactValueOf", apart := false, narrowed := true }
def FnExactValueOfUptoSaid : Prop := fnExactValueOfUptoRow.holds Try.pinned (OpenSpec.upto fnExactValueOfSpec)

/-- 'laws.FnExactHoldsAt', WHERE WHAT IT READS IS OF BULK AT MOST 1048576: true; the input reads as it did. -/
def fnExactHoldsAtUptoRow : OpenClaim := { program := "ytaijkhabcidagaa", sum := "256a14c24b52d104d8307218e38f7759d48d092fb112880baa474f91a551efbe", func := "loop.example/g03413/laws.FnExactHoldsAt", spec := "fnExactHoldsAt", apart := false, narrowed := true }
def FnExactHoldsAtUptoSaid : Prop := fnExactHoldsAtUptoRow.holds Try.pinned (OpenSpec.upto fnExactHoldsAtSpec)

end Rows
end Go.Proofs.Ytaijkhabcidagaa
