/- The row of the law FnExactMinimalCell: for every input the call returns true and its arguments read afterwards as before. No condition. -/
import Derived.Test.YtkicjflhokckgaaRows
import Derived.Test.YtkicjflhokckgaaG10FnExactMinimalCell
import Derived.WalkKit
import Derived.ProofKit
import Derived.OpenShut
import Derived.ShutString
import Derived.ChangeOld
import Derived.Below
import Derived.SizedLaws
import Derived.Carry
namespace Go.Proofs.Ytkicjflhokckgaa.fnExactMinimalCell
open Go Go.ChangeShapes Go.WideShapes Go.ChangeAt Go.RowKit Go.Proofs.Ytkicjflhokckgaa.Abs Go.Proofs
open Go.ChangeMaps (open_string shut_string)
set_option linter.unusedVariables false
theorem own : ownKnob Try.prog.godebug = none := by kernel_rfl
theorem laidOut : laidOutB Try.prog = true := by kernel_rfl
theorem op49 : OpD (α := List Int × Int × Bool) Try.prog (ZL.aD) (fun x => ((x.1.length ≤ maxLen ∧ ∀ y0 ∈ x.1, (Lit.int .i64 y0).wf = true) ∧ (Lit.int .i64 x.2.1).wf = true ∧ True)) 49 :=
  opD_struct3 (s0 := 1) (s1 := 1) (s2 := 1) Try.underlying49 rfl rfl rfl (by kernel_rfl) (by kernel_rfl) (by kernel_rfl) (by kernel_rfl) (opD_row Try.underlying47 (by kernel_rfl) (opD_int Try.underlying3)) (opD_int Try.underlying3) (opD_bool Try.underlying4)
theorem op24 : OpD (α := Int × List (List Int × Int × Bool)) Try.prog (ZL.cD) (fun x => ((Lit.int .i64 x.1).wf = true ∧ (x.2.length ≤ maxLen ∧ ∀ y1 ∈ x.2, ((y1.1.length ≤ maxLen ∧ ∀ y2 ∈ y1.1, (Lit.int .i64 y2).wf = true) ∧ (Lit.int .i64 y1.2.1).wf = true ∧ True)))) 24 :=
  opD_struct2 (s0 := 1) (s1 := 1) Try.underlying24 rfl rfl (by kernel_rfl) (by kernel_rfl) (by kernel_rfl) (opD_int Try.underlying3) (opD_slice 3 Try.underlying22 (by kernel_rfl) (by decide) (fun _ => rfl) op49)
set_option maxRecDepth 100000 in
theorem lifted (os : Os) (started : os.Started) (H : Type) (enc : TypeId × Value → H) :
    ReturnsInHanded {} Try.checked os 13 .any (Rows.fnExactMinimalCellSpec.pre6 enc Try.prog Try.f13 Rows.fnExactMinimalCellRow.domain false) (Rows.fnExactMinimalCellSpec.post enc Try.prog Try.f13 false true false false) := by
  refine returnsInHanded_of_change_sized (C := Try.checked) own started (by kernel_rfl) Try.func13
    (ChangeSpec.witness6 (enc := enc) (C := Try.checked) false ⟨#[], #[.agg #[.int .i64 0, .slice none 0 0]], []⟩ 8 (by kernel_rfl) (by kernel_rfl) (by kernel_rfl) (by kernel_rfl)) ?_
  intro W base args ds gs before hval0 hW hcnd hsz0 _
  have hval : ∀ (j : Nat) t v, Try.f13.params[j]? = some t → args[j]? = some v → Value.okWide Try.prog W .any base t v := hval0
  have hW' := hW
  obtain ⟨p, q, hA0, hV, rfl, hfz, hnd⟩ := hW
  have hA : DataW.TrodAll enc Try.prog W 0 (fun _ => true) true Try.f13.params.toList args.toList ds p := hA0
  rw [Try.params13] at hA hval
  obtain ⟨v0, vs0, d0, ds0, p0, q0, hargs, rfl, rfl, h0, r0⟩ := trodAll_cons hA
  obtain ⟨rfl, rfl, rfl⟩ := trodAll_nil r0
  obtain rfl : args = #[v0] := by cases args; simp_all
  obtain ⟨rfl, rfl⟩ := trodVars_none hV
  have k0 := h0
  have lt0 : ∀ x ∈ p0, x.block < W.heap.size := by obtain ⟨m, hm⟩ := k0; exact DataW.trod_lt m _ _ _ hm
  obtain ⟨x0, hd0, hw0⟩ := openD_agg Try.underlying24 op24 (hval 0 24 v0 rfl rfl) h0
  clear hA0 hval0 hsz0
  refine ((ZL.lawMinimalCell x0 ⟨hw0.2.1, fun a ha => (hw0.2.2 a ha).1.1⟩).run W (fun _ => False) _ (fun b h => h.elim) (DenVs.cons hd0 DenVs.nil)).mono fun e W' ⟨v, M', F', he, _, hv, _, hc, _⟩ => ?_
  have bel : Below W.heap.size W W' := hc.below
  have hb := hv.bool
  subst hb
  subst he
  exact ⟨_, rfl, _, _, _, [], _, [], hW', trodAll_mk1 (shut_bool Try.underlying4 _), (trodAll_cons_mk (Below.trod laidOut (by kernel_rfl) (of_decide_eq_true (by kernel_rfl)) k0 bel lt0) trodAll_mk0), rfl, bel.frame _, fun h => by cases h⟩
theorem over : Rows.fnExactMinimalCellRow.holds Try.pinned (OpenSpec.ofChange Rows.fnExactMinimalCellSpec) :=
  OpenClaim.holds_of_wide 13 Try.f13 rfl rfl rfl rfl rfl rfl rfl ⟨rfl, rfl, rfl, rfl, rfl⟩ rfl rfl rfl rfl rfl (by kernel_rfl) Try.func13 (by kernel_rfl)
    (of_decide_eq_true (by kernel_rfl)) (by unfold Func.isWrapper; first | (rw [if_pos (by decide +kernel)]; kernel_rfl) | (rw [if_neg (by decide +kernel)]; exact ⟨rfl, rfl⟩))
    (fun os started H enc _ => lifted os started H enc)
theorem proved : Rows.FnExactMinimalCellSaid := over
#print axioms proved
end Go.Proofs.Ytkicjflhokckgaa.fnExactMinimalCell
namespace Go.Proofs.Ytkicjflhokckgaa
/-- The row, under a short name, for the claim. -/
theorem fnExactMinimalCell_holds : Rows.FnExactMinimalCellSaid := fnExactMinimalCell.proved
end Go.Proofs.Ytkicjflhokckgaa
