/- The row of the law FnExactDivideRatios: for every input the call returns true and its arguments read afterwards as before. No condition. -/
import Derived.Test.YtcmghepjdfbdfaaRows
import Derived.Test.YtcmghepjdfbdfaaPFnExactDivideRatiosx
import Derived.Test.YtcmghepjdfbdfaaFinFnExactDivideRatios
import Derived.Test.YtcmghepjdfbdfaaOpen
import Derived.WalkKit
import Derived.ProofKit
import Derived.OpenShut
import Derived.ShutString
import Derived.ChangeOld
import Derived.Below
import Derived.SizedLaws
import Derived.Carry
namespace Go.Proofs.Ytcmghepjdfbdfaa.fnExactDivideRatios
open Go.ChangeShapes Go.WideShapes Go.ChangeAt Go.RowKit Go.Proofs.Ytcmghepjdfbdfaa.PFnExactDivideRatios Go.Proofs.Ytcmghepjdfbdfaa.Opn Go.Proofs.YtcmghepjdfbdfaaW.PrintWords Go.Proofs.YtcmghepjdfbdfaaW.PrintLast
open Go.ChangeMaps (open_string shut_string)
set_option linter.unusedVariables false
theorem own : ownKnob Try.prog.godebug = none := by kernel_rfl
theorem laidOut : laidOutB Try.prog = true := by kernel_rfl
set_option maxRecDepth 100000 in
theorem lifted (os : Os) (started : os.Started) (H : Type) (enc : TypeId × Value → H) :
    ReturnsInHanded {} Try.checked os 12 .any (Rows.fnExactDivideRatiosSpec.pre6 enc Try.prog Try.f12 Rows.fnExactDivideRatiosRow.domain false) (Rows.fnExactDivideRatiosSpec.post enc Try.prog Try.f12 false true false false) := by
  refine returnsInHanded_of_change_sized (C := Try.checked) own started (by kernel_rfl) Try.func12
    (ChangeSpec.witness6 (enc := enc) (C := Try.checked) false ⟨#[], #[.agg #[.int .i64 0, .int .i64 0], .agg #[.int .i64 0, .int .i64 0]], []⟩ 8 (by kernel_rfl) (by kernel_rfl) (by kernel_rfl) (by kernel_rfl)) ?_
  intro W base args ds gs before hval0 hW hcnd hsz0 _
  have hval : ∀ (j : Nat) t v, Try.f12.params[j]? = some t → args[j]? = some v → Value.okWide Try.prog W .any base t v := hval0
  have hW' := hW
  obtain ⟨p, q, hA0, hV, rfl, hfz, hnd⟩ := hW
  have hA : DataW.TrodAll enc Try.prog W 0 (fun _ => true) true Try.f12.params.toList args.toList ds p := hA0
  rw [Try.params12] at hA hval
  obtain ⟨v0, vs0, d0, ds0, p0, q0, hargs, rfl, rfl, h0, r0⟩ := trodAll_cons hA
  obtain ⟨v1, vs1, d1, ds1, p1, q1, rfl, rfl, rfl, h1, r1⟩ := trodAll_cons r0
  obtain ⟨rfl, rfl, rfl⟩ := trodAll_nil r1
  obtain rfl : args = #[v0, v1] := by cases args; simp_all
  obtain ⟨rfl, rfl⟩ := trodVars_none hV
  have k0 := h0
  have lt0 : ∀ x ∈ p0, x.block < W.heap.size := by obtain ⟨m, hm⟩ := k0; exact DataW.trod_lt m _ _ _ hm
  obtain ⟨x0, cs0, rfl, hK0, hw0⟩ := open_agg (k := (Kd.pair (Kd.int .i64) (Kd.int .i64))) (wf := fun x => ((Lit.int .i64 x.1).wf = true ∧ (Lit.int .i64 x.2).wf = true)) Try.underlying27 (opens_struct2 Try.underlying27 rfl rfl (by kernel_rfl) (by kernel_rfl) (by kernel_rfl) (opens_int Try.underlying3) (opens_int Try.underlying3)) (hval 0 27 v0 rfl rfl) h0
  obtain ⟨_, _, hcs0, e0_0, e0_1⟩ := hK0
  have he0_0 := e0_0; change _ = [Value.int .i64 x0.1] at he0_0; rw [he0_0] at hcs0
  have he0_1 := e0_1; change _ = [Value.int .i64 x0.2] at he0_1; rw [he0_1] at hcs0
  obtain rfl : cs0 = #[.int .i64 x0.1, .int .i64 x0.2] := by apply Array.ext'; rw [hcs0]; rfl
  have k1 := h1
  have lt1 : ∀ x ∈ p1, x.block < W.heap.size := by obtain ⟨m, hm⟩ := k1; exact DataW.trod_lt m _ _ _ hm
  obtain ⟨x1, cs1, rfl, hK1, hw1⟩ := open_agg (k := (Kd.pair (Kd.int .i64) (Kd.int .i64))) (wf := fun x => ((Lit.int .i64 x.1).wf = true ∧ (Lit.int .i64 x.2).wf = true)) Try.underlying27 (opens_struct2 Try.underlying27 rfl rfl (by kernel_rfl) (by kernel_rfl) (by kernel_rfl) (opens_int Try.underlying3) (opens_int Try.underlying3)) (hval 1 27 v1 rfl rfl) h1
  obtain ⟨_, _, hcs1, e1_0, e1_1⟩ := hK1
  have he1_0 := e1_0; change _ = [Value.int .i64 x1.1] at he1_0; rw [he1_0] at hcs1
  have he1_1 := e1_1; change _ = [Value.int .i64 x1.2] at he1_1; rw [he1_1] at hcs1
  obtain rfl : cs1 = #[.int .i64 x1.1, .int .i64 x1.2] := by apply Array.ext'; rw [hcs1]; rfl
  clear hA0 hval0 hsz0
  obtain ⟨k, h⟩ : ∃ k : Nat, laws_FnExactDivideRatios.f k x0.1 x0.2 x1.1 x1.2 = some true := Go.Proofs.Ytcmghepjdfbdfaa.FinFnExactDivideRatios.fin x0.1 x0.2 x1.1 x1.2 hw0 hw1
  refine (laws_FnExactDivideRatios.calls k x0.1 x0.2 x1.1 x1.2 true W  h).mono fun e W' ⟨he, bel0⟩ => ?_
  have bel : Below W.heap.size W W' := bel0
  subst he
  exact ⟨_, rfl, _, _, _, [], _, [], hW', trodAll_mk1 (shut_bool Try.underlying4 _), (trodAll_cons_mk (Below.trod laidOut (by kernel_rfl) (of_decide_eq_true (by kernel_rfl)) k0 bel lt0) (trodAll_cons_mk (Below.trod laidOut (by kernel_rfl) (of_decide_eq_true (by kernel_rfl)) k1 bel lt1) trodAll_mk0)), rfl, bel.frame _, fun h => by cases h⟩
theorem over : Rows.fnExactDivideRatiosRow.holds Try.pinned (OpenSpec.ofChange Rows.fnExactDivideRatiosSpec) :=
  OpenClaim.holds_of_wide 12 Try.f12 rfl rfl rfl rfl rfl rfl rfl ⟨rfl, rfl, rfl, rfl, rfl⟩ rfl rfl rfl rfl rfl (by kernel_rfl) Try.func12 (by kernel_rfl)
    (of_decide_eq_true (by kernel_rfl)) (by unfold Func.isWrapper; first | (rw [if_pos (by decide +kernel)]; kernel_rfl) | (rw [if_neg (by decide +kernel)]; exact ⟨rfl, rfl⟩))
    (fun os started H enc _ => lifted os started H enc)
theorem proved : Rows.FnExactDivideRatiosSaid := over
#print axioms proved
end Go.Proofs.Ytcmghepjdfbdfaa.fnExactDivideRatios
namespace Go.Proofs.Ytcmghepjdfbdfaa
/-- The row, under a short name, for the claim. -/
theorem fnExactDivideRatios_holds : Rows.FnExactDivideRatiosSaid := fnExactDivideRatios.proved
end Go.Proofs.Ytcmghepjdfbdfaa
