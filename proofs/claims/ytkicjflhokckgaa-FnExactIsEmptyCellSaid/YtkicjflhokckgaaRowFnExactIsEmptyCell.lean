/- The row of the law FnExactIsEmptyCell: for every input the call returns true and its arguments read afterwards as before. No condition. -/
import Derived.Test.YtkicjflhokckgaaRows
import Derived.Test.YtkicjflhokckgaaQFnExactIsEmptyCellx
import Derived.Test.YtkicjflhokckgaaFinFnExactIsEmptyCell
import Derived.Test.YtkicjflhokckgaaOpenFnExactIsEmptyCell
import Derived.WalkKit
import Derived.ProofKit
import Derived.OpenShut
import Derived.ShutString
import Derived.ChangeOld
import Derived.Below
import Derived.SizedLaws
import Derived.Carry
namespace Go.Proofs.Ytkicjflhokckgaa.fnExactIsEmptyCell
open Go.ChangeShapes Go.WideShapes Go.ChangeAt Go.RowKit Go.Proofs.Ytkicjflhokckgaa.PFnExactIsEmptyCell Go.Proofs.Ytkicjflhokckgaa.Opn Go.Proofs.YtkicjflhokckgaaW.PrintWords Go.Proofs.YtkicjflhokckgaaW.PrintLast
open Go.ChangeMaps (open_string shut_string)
set_option linter.unusedVariables false
theorem own : ownKnob Try.prog.godebug = none := by kernel_rfl
theorem laidOut : laidOutB Try.prog = true := by kernel_rfl
theorem op49 : Opens Try.prog k49 (fun x : S49 => ((x.f0.length ≤ maxLen ∧ ∀ y0 ∈ x.f0, (Lit.int .i64 y0).wf = true) ∧ (Lit.int .i64 x.f1).wf = true ∧ True)) 49 :=
  opens_iso (fun x : S49 => (x.f0, x.f1, x.f2)) (fun p => ⟨p.1, p.2.1, p.2.2⟩) (fun _ => rfl) (opens_struct3 Try.underlying49 rfl rfl rfl (by kernel_rfl) (by kernel_rfl) (by kernel_rfl) (by kernel_rfl) (opens_slice Try.underlying47 (by kernel_rfl) (opens_int Try.underlying3)) (opens_int Try.underlying3) (opens_bool Try.underlying4))
set_option maxRecDepth 100000 in
theorem lifted (os : Os) (started : os.Started) (H : Type) (enc : TypeId × Value → H) :
    ReturnsInHanded {} Try.checked os 5 .any (Rows.fnExactIsEmptyCellSpec.pre6 enc Try.prog Try.f5 Rows.fnExactIsEmptyCellRow.domain false) (Rows.fnExactIsEmptyCellSpec.post enc Try.prog Try.f5 false true false false) := by
  refine returnsInHanded_of_change_sized (C := Try.checked) own started (by kernel_rfl) Try.func5
    (ChangeSpec.witness6 (enc := enc) (C := Try.checked) false ⟨#[], #[.agg #[.int .i64 0, .slice none 0 0]], []⟩ 8 (by kernel_rfl) (by kernel_rfl) (by kernel_rfl) (by kernel_rfl)) ?_
  intro W base args ds gs before hval0 hW hcnd hsz0 _
  have hval : ∀ (j : Nat) t v, Try.f5.params[j]? = some t → args[j]? = some v → Value.okWide Try.prog W .any base t v := hval0
  have hW' := hW
  obtain ⟨p, q, hA0, hV, rfl, hfz, hnd⟩ := hW
  have hA : DataW.TrodAll enc Try.prog W 0 (fun _ => true) true Try.f5.params.toList args.toList ds p := hA0
  rw [Try.params5] at hA hval
  obtain ⟨v0, vs0, d0, ds0, p0, q0, hargs, rfl, rfl, h0, r0⟩ := trodAll_cons hA
  obtain ⟨rfl, rfl, rfl⟩ := trodAll_nil r0
  obtain rfl : args = #[v0] := by cases args; simp_all
  obtain ⟨rfl, rfl⟩ := trodVars_none hV
  have k0 := h0
  have lt0 : ∀ x ∈ p0, x.block < W.heap.size := by obtain ⟨m, hm⟩ := k0; exact DataW.trod_lt m _ _ _ hm
  obtain ⟨x0, cs0, rfl, hK0, hw0⟩ := open_agg (k := (Kd.pair (Kd.int .i64) (Kd.slice 49 k49))) (wf := fun x => ((Lit.int .i64 x.1).wf = true ∧ (x.2.length ≤ maxLen ∧ ∀ y1 ∈ x.2, ((y1.f0.length ≤ maxLen ∧ ∀ y2 ∈ y1.f0, (Lit.int .i64 y2).wf = true) ∧ (Lit.int .i64 y1.f1).wf = true ∧ True)))) Try.underlying24 (opens_struct2 Try.underlying24 rfl rfl (by kernel_rfl) (by kernel_rfl) (by kernel_rfl) (opens_int Try.underlying3) (opens_slice Try.underlying22 (by kernel_rfl) op49)) (hval 0 24 v0 rfl rfl) h0
  obtain ⟨_, _, hcs0, e0_0, e0_1⟩ := hK0
  have he0_0 := e0_0; change _ = [Value.int .i64 x0.1] at he0_0; rw [he0_0] at hcs0
  obtain ⟨A0_1, c0_1, he0_1, hc0_1, hr0_1⟩ := e0_1
  rw [he0_1] at hcs0
  obtain rfl : cs0 = #[.int .i64 x0.1, .slice A0_1 x0.2.length c0_1] := by apply Array.ext'; rw [hcs0]; rfl
  clear hA0 hval0 hsz0
  obtain ⟨k, h⟩ : ∃ k : Nat, laws_FnExactIsEmptyCell.f k x0.1 x0.2 = some true := Go.Proofs.Ytkicjflhokckgaa.FinFnExactIsEmptyCell.fin x0.1 x0.2 hw0
  refine (laws_FnExactIsEmptyCell.calls k x0.1 A0_1 c0_1 x0.2 true W hr0_1 hc0_1 h).mono fun e W' ⟨he, bel0⟩ => ?_
  have bel : Below W.heap.size W W' := bel0
  subst he
  exact ⟨_, rfl, _, _, _, [], _, [], hW', trodAll_mk1 (shut_bool Try.underlying4 _), (trodAll_cons_mk (Below.trod laidOut (by kernel_rfl) (of_decide_eq_true (by kernel_rfl)) k0 bel lt0) trodAll_mk0), rfl, bel.frame _, fun h => by cases h⟩
theorem over : Rows.fnExactIsEmptyCellRow.holds Try.pinned (OpenSpec.ofChange Rows.fnExactIsEmptyCellSpec) :=
  OpenClaim.holds_of_wide 5 Try.f5 rfl rfl rfl rfl rfl rfl rfl ⟨rfl, rfl, rfl, rfl, rfl⟩ rfl rfl rfl rfl rfl (by kernel_rfl) Try.func5 (by kernel_rfl)
    (of_decide_eq_true (by kernel_rfl)) (by unfold Func.isWrapper; first | (rw [if_pos (by decide +kernel)]; kernel_rfl) | (rw [if_neg (by decide +kernel)]; exact ⟨rfl, rfl⟩))
    (fun os started H enc _ => lifted os started H enc)
theorem proved : Rows.FnExactIsEmptyCellSaid := over
#print axioms proved
end Go.Proofs.Ytkicjflhokckgaa.fnExactIsEmptyCell
namespace Go.Proofs.Ytkicjflhokckgaa
/-- The row, under a short name, for the claim. -/
theorem fnExactIsEmptyCell_holds : Rows.FnExactIsEmptyCellSaid := fnExactIsEmptyCell.proved
end Go.Proofs.Ytkicjflhokckgaa
