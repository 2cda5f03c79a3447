/- The row of the law FnExactMixAtoms: for every input the call returns true and its arguments read afterwards as before. No condition. -/
import Derived.Test.YtaijkhabcidagaaRows
import Derived.Test.YtaijkhabcidagaaQFnExactMixAtomsx
import Derived.Test.YtaijkhabcidagaaFinFnExactMixAtoms
import Derived.Test.YtaijkhabcidagaaOpenFnExactMixAtoms
import Derived.WalkKit
import Derived.ProofKit
import Derived.OpenShut
import Derived.ShutString
import Derived.ChangeOld
import Derived.Below
import Derived.SizedLaws
import Derived.Carry
namespace Go.Proofs.Ytaijkhabcidagaa.fnExactMixAtoms
open Go.ChangeShapes Go.WideShapes Go.ChangeAt Go.RowKit Go.Proofs.Ytaijkhabcidagaa.PFnExactMixAtoms Go.Proofs.Ytaijkhabcidagaa.Opn Go.Proofs.YtaijkhabcidagaaW.PrintWords Go.Proofs.YtaijkhabcidagaaW.PrintLast
open Go.ChangeMaps (open_string shut_string)
set_option linter.unusedVariables false
theorem own : ownKnob Try.prog.godebug = none := by kernel_rfl
theorem laidOut : laidOutB Try.prog = true := by kernel_rfl
set_option maxRecDepth 100000 in
theorem lifted (os : Os) (started : os.Started) (H : Type) (enc : TypeId × Value → H) :
    ReturnsInHanded {} Try.checked os 6 .any (Rows.fnExactMixAtomsSpec.pre6 enc Try.prog Try.f6 Rows.fnExactMixAtomsRow.domain false) (Rows.fnExactMixAtomsSpec.post enc Try.prog Try.f6 false true false false) := by
  refine returnsInHanded_of_change_sized (C := Try.checked) own started (by kernel_rfl) Try.func6
    (ChangeSpec.witness6 (enc := enc) (C := Try.checked) false ⟨#[], #[.agg #[.slice none 0 0, .int .i64 0, .bool false], .int .i64 0, .agg #[.slice none 0 0, .int .i64 0, .bool false], .int .i64 0], []⟩ 8 (by kernel_rfl) (by kernel_rfl) (by kernel_rfl) (by kernel_rfl)) ?_
  intro W base args ds gs before hval0 hW hcnd hsz0 _
  have hval : ∀ (j : Nat) t v, Try.f6.params[j]? = some t → args[j]? = some v → Value.okWide Try.prog W .any base t v := hval0
  have hW' := hW
  obtain ⟨p, q, hA0, hV, rfl, hfz, hnd⟩ := hW
  have hA : DataW.TrodAll enc Try.prog W 0 (fun _ => true) true Try.f6.params.toList args.toList ds p := hA0
  rw [Try.params6] at hA hval
  obtain ⟨v0, vs0, d0, ds0, p0, q0, hargs, rfl, rfl, h0, r0⟩ := trodAll_cons hA
  obtain ⟨v1, vs1, d1, ds1, p1, q1, rfl, rfl, rfl, h1, r1⟩ := trodAll_cons r0
  obtain ⟨v2, vs2, d2, ds2, p2, q2, rfl, rfl, rfl, h2, r2⟩ := trodAll_cons r1
  obtain ⟨v3, vs3, d3, ds3, p3, q3, rfl, rfl, rfl, h3, r3⟩ := trodAll_cons r2
  obtain ⟨rfl, rfl, rfl⟩ := trodAll_nil r3
  obtain rfl : args = #[v0, v1, v2, v3] := by cases args; simp_all
  obtain ⟨rfl, rfl⟩ := trodVars_none hV
  have k0 := h0
  have lt0 : ∀ x ∈ p0, x.block < W.heap.size := by obtain ⟨m, hm⟩ := k0; exact DataW.trod_lt m _ _ _ hm
  obtain ⟨x0, cs0, rfl, hK0, hw0⟩ := open_agg (k := (Kd.pair (Kd.slice 3 (Kd.int .i64)) (Kd.pair (Kd.int .i64) Kd.bool))) (wf := fun x => ((x.1.length ≤ maxLen ∧ ∀ y0 ∈ x.1, (Lit.int .i64 y0).wf = true) ∧ (Lit.int .i64 x.2.1).wf = true ∧ True)) Try.underlying24 (opens_struct3 Try.underlying24 rfl rfl rfl (by kernel_rfl) (by kernel_rfl) (by kernel_rfl) (by kernel_rfl) (opens_slice Try.underlying22 (by kernel_rfl) (opens_int Try.underlying3)) (opens_int Try.underlying3) (opens_bool Try.underlying4)) (hval 0 24 v0 rfl rfl) h0
  obtain ⟨_, _, hcs0, e0_0, _, _, rfl, e0_1, e0_2⟩ := hK0
  obtain ⟨A0_0, c0_0, he0_0, hc0_0, hr0_0⟩ := e0_0
  rw [he0_0] at hcs0
  have he0_1 := e0_1; change _ = [Value.int .i64 x0.2.1] at he0_1; rw [he0_1] at hcs0
  have he0_2 := e0_2; change _ = [Value.bool x0.2.2] at he0_2; rw [he0_2] at hcs0
  obtain rfl : cs0 = #[.slice A0_0 x0.1.length c0_0, .int .i64 x0.2.1, .bool x0.2.2] := by apply Array.ext'; rw [hcs0]; rfl
  obtain ⟨a1, rfl, rfl, rfl, w1⟩ := open_int Try.underlying3 (hval 1 3 v1 rfl rfl) h1
  have k2 := h2
  have lt2 : ∀ x ∈ p2, x.block < W.heap.size := by obtain ⟨m, hm⟩ := k2; exact DataW.trod_lt m _ _ _ hm
  obtain ⟨x2, cs2, rfl, hK2, hw2⟩ := open_agg (k := (Kd.pair (Kd.slice 3 (Kd.int .i64)) (Kd.pair (Kd.int .i64) Kd.bool))) (wf := fun x => ((x.1.length ≤ maxLen ∧ ∀ y1 ∈ x.1, (Lit.int .i64 y1).wf = true) ∧ (Lit.int .i64 x.2.1).wf = true ∧ True)) Try.underlying24 (opens_struct3 Try.underlying24 rfl rfl rfl (by kernel_rfl) (by kernel_rfl) (by kernel_rfl) (by kernel_rfl) (opens_slice Try.underlying22 (by kernel_rfl) (opens_int Try.underlying3)) (opens_int Try.underlying3) (opens_bool Try.underlying4)) (hval 2 24 v2 rfl rfl) h2
  obtain ⟨_, _, hcs2, e2_0, _, _, rfl, e2_1, e2_2⟩ := hK2
  obtain ⟨A2_0, c2_0, he2_0, hc2_0, hr2_0⟩ := e2_0
  rw [he2_0] at hcs2
  have he2_1 := e2_1; change _ = [Value.int .i64 x2.2.1] at he2_1; rw [he2_1] at hcs2
  have he2_2 := e2_2; change _ = [Value.bool x2.2.2] at he2_2; rw [he2_2] at hcs2
  obtain rfl : cs2 = #[.slice A2_0 x2.1.length c2_0, .int .i64 x2.2.1, .bool x2.2.2] := by apply Array.ext'; rw [hcs2]; rfl
  obtain ⟨a3, rfl, rfl, rfl, w3⟩ := open_int Try.underlying3 (hval 3 3 v3 rfl rfl) h3
  clear hA0 hval0 hsz0
  obtain ⟨k, h⟩ : ∃ k : Nat, laws_FnExactMixAtoms.f k x0.1 x0.2.1 x0.2.2 a1 x2.1 x2.2.1 x2.2.2 a3 = some true := Go.Proofs.Ytaijkhabcidagaa.FinFnExactMixAtoms.fin x0.1 x0.2.1 x0.2.2 a1 x2.1 x2.2.1 x2.2.2 a3 hw0 w1 hw2 w3
  refine (laws_FnExactMixAtoms.calls k A0_0 c0_0 x0.1 x0.2.1 x0.2.2 a1 A2_0 c2_0 x2.1 x2.2.1 x2.2.2 a3 true W hr0_0 hc0_0 hr2_0 hc2_0 h).mono fun e W' ⟨he, bel0⟩ => ?_
  have bel : Below W.heap.size W W' := bel0
  subst he
  exact ⟨_, rfl, _, _, _, [], _, [], hW', trodAll_mk1 (shut_bool Try.underlying4 _), (trodAll_cons_mk (Below.trod laidOut (by kernel_rfl) (of_decide_eq_true (by kernel_rfl)) k0 bel lt0) (trodAll_cons_mk (shut_int Try.underlying3 w1) (trodAll_cons_mk (Below.trod laidOut (by kernel_rfl) (of_decide_eq_true (by kernel_rfl)) k2 bel lt2) (trodAll_cons_mk (shut_int Try.underlying3 w3) trodAll_mk0)))), rfl, bel.frame _, fun h => by cases h⟩
theorem over : Rows.fnExactMixAtomsRow.holds Try.pinned (OpenSpec.ofChange Rows.fnExactMixAtomsSpec) :=
  OpenClaim.holds_of_wide 6 Try.f6 rfl rfl rfl rfl rfl rfl rfl ⟨rfl, rfl, rfl, rfl, rfl⟩ rfl rfl rfl rfl rfl (by kernel_rfl) Try.func6 (by kernel_rfl)
    (of_decide_eq_true (by kernel_rfl)) (by unfold Func.isWrapper; first | (rw [if_pos (by decide +kernel)]; kernel_rfl) | (rw [if_neg (by decide +kernel)]; exact ⟨rfl, rfl⟩))
    (fun os started H enc _ => lifted os started H enc)
theorem proved : Rows.FnExactMixAtomsSaid := over
#print axioms proved
end Go.Proofs.Ytaijkhabcidagaa.fnExactMixAtoms
namespace Go.Proofs.Ytaijkhabcidagaa
/-- The row, under a short name, for the claim. -/
theorem fnExactMixAtoms_holds : Rows.FnExactMixAtomsSaid := fnExactMixAtoms.proved
end Go.Proofs.Ytaijkhabcidagaa
