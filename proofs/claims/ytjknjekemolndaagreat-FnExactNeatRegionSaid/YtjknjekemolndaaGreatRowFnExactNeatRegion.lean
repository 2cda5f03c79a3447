/- The row of the law FnExactNeatRegion: for every input the call returns true and its arguments read afterwards as before. No condition. -/
import Derived.Test.YtjknjekemolndaaGreatRows
import Derived.Test.YtjknjekemolndaaGreatG11FnExactNeatRegion
import Derived.WalkKit
import Derived.ProofKit
import Derived.OpenShut
import Derived.ShutString
import Derived.ChangeOld
import Derived.Below
import Derived.SizedLaws
import Derived.Carry
namespace Go.Proofs.YtjknjekemolndaaGreat.fnExactNeatRegion
open Go Go.ChangeShapes Go.WideShapes Go.ChangeAt Go.RowKit Go.Proofs.YtjknjekemolndaaGreat.Abs Go.Proofs
open Go.ChangeMaps (open_string shut_string)
set_option linter.unusedVariables false
theorem own : ownKnob Tryz.prog.godebug = none := by kernel_rfl
theorem laidOut : laidOutB Tryz.prog = true := by kernel_rfl
theorem op171 : OpD (α := List Int × Int × Bool) Tryz.prog (ZL.aD) (fun x => ((x.1.length ≤ maxLen ∧ ∀ y0 ∈ x.1, (Lit.int .i64 y0).wf = true) ∧ (Lit.int .i64 x.2.1).wf = true ∧ True)) 171 :=
  opD_struct3 (s0 := 1) (s1 := 1) (s2 := 1) Tryz.underlying171 rfl rfl rfl (by kernel_rfl) (by kernel_rfl) (by kernel_rfl) (by kernel_rfl) (opD_row Tryz.underlying64 (by kernel_rfl) (opD_int Tryz.underlying3)) (opD_int Tryz.underlying3) (opD_bool Tryz.underlying4)
theorem op131 : OpD (α := Int × List (List Int × Int × Bool)) Tryz.prog (ZL.cD) (fun x => ((Lit.int .i64 x.1).wf = true ∧ (x.2.length ≤ maxLen ∧ ∀ y1 ∈ x.2, ((y1.1.length ≤ maxLen ∧ ∀ y2 ∈ y1.1, (Lit.int .i64 y2).wf = true) ∧ (Lit.int .i64 y1.2.1).wf = true ∧ True)))) 131 :=
  opD_struct2 (s0 := 1) (s1 := 1) Tryz.underlying131 rfl rfl (by kernel_rfl) (by kernel_rfl) (by kernel_rfl) (opD_int Tryz.underlying3) (opD_slice 3 Tryz.underlying129 (by kernel_rfl) (by decide) (fun _ => rfl) op171)
theorem op49 : OpD (α := Int × List (Int × List (List Int × Int × Bool))) Tryz.prog (fun r => [.int .i64 r.1, .sl r.2.length (ZL.csD r.2)]) (fun x => ((Lit.int .i64 x.1).wf = true ∧ (x.2.length ≤ maxLen ∧ ∀ y3 ∈ x.2, ((Lit.int .i64 y3.1).wf = true ∧ (y3.2.length ≤ maxLen ∧ ∀ y4 ∈ y3.2, ((y4.1.length ≤ maxLen ∧ ∀ y5 ∈ y4.1, (Lit.int .i64 y5).wf = true) ∧ (Lit.int .i64 y4.2.1).wf = true ∧ True)))))) 49 :=
  opD_struct2 (s0 := 1) (s1 := 1) Tryz.underlying49 rfl rfl (by kernel_rfl) (by kernel_rfl) (by kernel_rfl) (opD_int Tryz.underlying3) (opD_slice 2 Tryz.underlying47 (by kernel_rfl) (by decide) (fun _ => rfl) op131)
set_option maxRecDepth 100000 in
theorem lifted (os : Os) (started : os.Started) (H : Type) (enc : TypeId × Value → H) :
    ReturnsInHanded {} Tryz.checked os 5 .any (Rows.fnExactNeatRegionSpec.pre6 enc Tryz.prog Tryz.f5 Rows.fnExactNeatRegionRow.domain false) (Rows.fnExactNeatRegionSpec.post enc Tryz.prog Tryz.f5 false true false false) := by
  refine returnsInHanded_of_change_sized (C := Tryz.checked) own started (by kernel_rfl) Tryz.func5
    (ChangeSpec.witness6 (enc := enc) (C := Tryz.checked) false ⟨#[], #[.agg #[.int .i64 0, .slice none 0 0]], []⟩ 8 (by kernel_rfl) (by kernel_rfl) (by kernel_rfl) (by kernel_rfl)) ?_
  intro W base args ds gs before hval0 hW hcnd hsz0 _
  have hval : ∀ (j : Nat) t v, Tryz.f5.params[j]? = some t → args[j]? = some v → Value.okWide Tryz.prog W .any base t v := hval0
  have hW' := hW
  obtain ⟨p, q, hA0, hV, rfl, hfz, hnd⟩ := hW
  have hA : DataW.TrodAll enc Tryz.prog W 0 (fun _ => true) true Tryz.f5.params.toList args.toList ds p := hA0
  rw [Tryz.params5] at hA hval
  obtain ⟨v0, vs0, d0, ds0, p0, q0, hargs, rfl, rfl, h0, r0⟩ := trodAll_cons hA
  obtain ⟨rfl, rfl, rfl⟩ := trodAll_nil r0
  obtain rfl : args = #[v0] := by cases args; simp_all
  obtain ⟨rfl, rfl⟩ := trodVars_none hV
  have k0 := h0
  have lt0 : ∀ x ∈ p0, x.block < W.heap.size := by obtain ⟨m, hm⟩ := k0; exact DataW.trod_lt m _ _ _ hm
  obtain ⟨x0, hd0, hw0⟩ := openD_agg Tryz.underlying49 op49 (hval 0 49 v0 rfl rfl) h0
  clear hA0 hval0 hsz0
  refine ((ZL.lawNeatRegion x0.1 x0.2 ⟨hw0.2.1, fun c hc => ⟨(hw0.2.2 c hc).2.1, fun a ha => ((hw0.2.2 c hc).2.2 a ha).1.1⟩⟩).run W (fun _ => False) _ (fun b h => h.elim) (DenVs.cons hd0 DenVs.nil)).mono fun e W' ⟨v, M', F', he, _, hv, _, hc, _⟩ => ?_
  have bel : Below W.heap.size W W' := hc.below
  have hb := hv.bool
  subst hb
  subst he
  exact ⟨_, rfl, _, _, _, [], _, [], hW', trodAll_mk1 (shut_bool Tryz.underlying4 _), (trodAll_cons_mk (Below.trod laidOut (by kernel_rfl) (of_decide_eq_true (by kernel_rfl)) k0 bel lt0) trodAll_mk0), rfl, bel.frame _, fun h => by cases h⟩
theorem over : Rows.fnExactNeatRegionRow.holds Tryz.pinned (OpenSpec.ofChange Rows.fnExactNeatRegionSpec) :=
  OpenClaim.holds_of_wide 5 Tryz.f5 rfl rfl rfl rfl rfl rfl rfl ⟨rfl, rfl, rfl, rfl, rfl⟩ rfl rfl rfl rfl rfl (by kernel_rfl) Tryz.func5 (by kernel_rfl)
    (of_decide_eq_true (by kernel_rfl)) (by unfold Func.isWrapper; first | (rw [if_pos (by decide +kernel)]; kernel_rfl) | (rw [if_neg (by decide +kernel)]; exact ⟨rfl, rfl⟩))
    (fun os started H enc _ => lifted os started H enc)
theorem proved : Rows.FnExactNeatRegionSaid := over
#print axioms proved
end Go.Proofs.YtjknjekemolndaaGreat.fnExactNeatRegion
namespace Go.Proofs.YtjknjekemolndaaGreat
/-- The row, under a short name, for the claim. -/
theorem fnExactNeatRegion_holds : Rows.FnExactNeatRegionSaid := fnExactNeatRegion.proved
end Go.Proofs.YtjknjekemolndaaGreat
