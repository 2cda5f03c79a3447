/- The row of the law FnExactInCell: for every input the call returns true and its arguments read afterwards as before. No condition. -/
import Derived.Test.YtohoibekddhneaaRows
import Derived.Test.YtohoibekddhneaaQFnExactInCellx
import Derived.Test.YtohoibekddhneaaFinFnExactInCell
import Derived.Test.YtohoibekddhneaaOpenFnExactInCell
import Derived.WalkKit
import Derived.ProofKit
import Derived.OpenShut
import Derived.ShutString
import Derived.ChangeOld
import Derived.Below
import Derived.SizedLaws
import Derived.Carry
namespace Go.Proofs.Ytohoibekddhneaa.fnExactInCell
open Go.ChangeShapes Go.WideShapes Go.ChangeAt Go.RowKit Go.Proofs.Ytohoibekddhneaa.PFnExactInCell Go.Proofs.Ytohoibekddhneaa.Opn Go.Proofs.YtohoibekddhneaaW.PrintWords Go.Proofs.YtohoibekddhneaaW.PrintLast
open Go.ChangeMaps (open_string shut_string)
set_option linter.unusedVariables false
theorem own : ownKnob Try.prog.godebug = none := by kernel_rfl
theorem laidOut : laidOutB Try.prog = true := by kernel_rfl
theorem op115 : Opens Try.prog k115 (fun x : S115 => ((x.f0.length ≤ maxLen ∧ ∀ y0 ∈ x.f0, (Lit.int .i64 y0).wf = true) ∧ (Lit.int .i64 x.f1).wf = true ∧ True)) 115 :=
  opens_iso (fun x : S115 => (x.f0, x.f1, x.f2)) (fun p => ⟨p.1, p.2.1, p.2.2⟩) (fun _ => rfl) (opens_struct3 Try.underlying115 rfl rfl rfl (by kernel_rfl) (by kernel_rfl) (by kernel_rfl) (by kernel_rfl) (opens_slice Try.underlying24 (by kernel_rfl) (opens_int Try.underlying3)) (opens_int Try.underlying3) (opens_bool Try.underlying4))
theorem op100 : Opens Try.prog k100 (fun x : S100 => ((Lit.int .i64 x.f0).wf = true ∧ (Lit.int .i64 x.f1).wf = true)) 100 :=
  opens_iso (fun x : S100 => (x.f0, x.f1)) (fun p => ⟨p.1, p.2⟩) (fun _ => rfl) (opens_struct2 Try.underlying100 rfl rfl (by kernel_rfl) (by kernel_rfl) (by kernel_rfl) (opens_int Try.underlying3) (opens_int Try.underlying3))
set_option maxRecDepth 100000 in
theorem lifted (os : Os) (started : os.Started) (H : Type) (enc : TypeId × Value → H) :
    ReturnsInHanded {} Try.checked os 5 .any (Rows.fnExactInCellSpec.pre6 enc Try.prog Try.f5 Rows.fnExactInCellRow.domain false) (Rows.fnExactInCellSpec.post enc Try.prog Try.f5 false true false false) := by
  refine returnsInHanded_of_change_sized (C := Try.checked) own started (by kernel_rfl) Try.func5
    (ChangeSpec.witness6 (enc := enc) (C := Try.checked) false ⟨#[], #[.agg #[.int .i64 0, .slice none 0 0], .slice none 0 0], []⟩ 8 (by kernel_rfl) (by kernel_rfl) (by kernel_rfl) (by kernel_rfl)) ?_
  intro W base args ds gs before hval0 hW hcnd hsz0 _
  have hval : ∀ (j : Nat) t v, Try.f5.params[j]? = some t → args[j]? = some v → Value.okWide Try.prog W .any base t v := hval0
  have hW' := hW
  obtain ⟨p, q, hA0, hV, rfl, hfz, hnd⟩ := hW
  have hA : DataW.TrodAll enc Try.prog W 0 (fun _ => true) true Try.f5.params.toList args.toList ds p := hA0
  rw [Try.params5] at hA hval
  obtain ⟨v0, vs0, d0, ds0, p0, q0, hargs, rfl, rfl, h0, r0⟩ := trodAll_cons hA
  obtain ⟨v1, vs1, d1, ds1, p1, q1, rfl, rfl, rfl, h1, r1⟩ := trodAll_cons r0
  obtain ⟨rfl, rfl, rfl⟩ := trodAll_nil r1
  obtain rfl : args = #[v0, v1] := by cases args; simp_all
  obtain ⟨rfl, rfl⟩ := trodVars_none hV
  have k0 := h0
  have lt0 : ∀ x ∈ p0, x.block < W.heap.size := by obtain ⟨m, hm⟩ := k0; exact DataW.trod_lt m _ _ _ hm
  obtain ⟨x0, cs0, rfl, hK0, hw0⟩ := open_agg (k := (Kd.pair (Kd.int .i64) (Kd.slice 115 k115))) (wf := fun x => ((Lit.int .i64 x.1).wf = true ∧ (x.2.length ≤ maxLen ∧ ∀ y1 ∈ x.2, ((y1.f0.length ≤ maxLen ∧ ∀ y2 ∈ y1.f0, (Lit.int .i64 y2).wf = true) ∧ (Lit.int .i64 y1.f1).wf = true ∧ True)))) Try.underlying40 (opens_struct2 Try.underlying40 rfl rfl (by kernel_rfl) (by kernel_rfl) (by kernel_rfl) (opens_int Try.underlying3) (opens_slice Try.underlying38 (by kernel_rfl) op115)) (hval 0 40 v0 rfl rfl) h0
  obtain ⟨_, _, hcs0, e0_0, e0_1⟩ := hK0
  have he0_0 := e0_0; change _ = [Value.int .i64 x0.1] at he0_0; rw [he0_0] at hcs0
  obtain ⟨A0_1, c0_1, he0_1, hc0_1, hr0_1⟩ := e0_1
  rw [he0_1] at hcs0
  obtain rfl : cs0 = #[.int .i64 x0.1, .slice A0_1 x0.2.length c0_1] := by apply Array.ext'; rw [hcs0]; rfl
  have k1 := h1
  have lt1 : ∀ x ∈ p1, x.block < W.heap.size := by obtain ⟨m, hm⟩ := k1; exact DataW.trod_lt m _ _ _ hm
  obtain ⟨l1, A1, c1, rfl, hc1, hr1, hm1, hw1⟩ := open_row Try.underlying53 (by kernel_rfl) op100 (hval 1 53 v1 rfl rfl) h1
  clear hA0 hval0 hsz0
  obtain ⟨k, h⟩ : ∃ k : Nat, laws_FnExactInCell.f k x0.1 x0.2 l1 = some true := Go.Proofs.Ytohoibekddhneaa.FinFnExactInCell.fin x0.1 x0.2 l1 hw0 hm1 hw1
  refine (laws_FnExactInCell.calls k x0.1 A0_1 c0_1 x0.2 A1 c1 l1 true W hr0_1 hc0_1 hr1 hc1 h).mono fun e W' ⟨he, bel0⟩ => ?_
  have bel : Below W.heap.size W W' := bel0
  subst he
  exact ⟨_, rfl, _, _, _, [], _, [], hW', trodAll_mk1 (shut_bool Try.underlying4 _), (trodAll_cons_mk (Below.trod laidOut (by kernel_rfl) (of_decide_eq_true (by kernel_rfl)) k0 bel lt0) (trodAll_cons_mk (Below.trod laidOut (by kernel_rfl) (of_decide_eq_true (by kernel_rfl)) k1 bel lt1) trodAll_mk0)), rfl, bel.frame _, fun h => by cases h⟩
theorem over : Rows.fnExactInCellRow.holds Try.pinned (OpenSpec.ofChange Rows.fnExactInCellSpec) :=
  OpenClaim.holds_of_wide 5 Try.f5 rfl rfl rfl rfl rfl rfl rfl ⟨rfl, rfl, rfl, rfl, rfl⟩ rfl rfl rfl rfl rfl (by kernel_rfl) Try.func5 (by kernel_rfl)
    (of_decide_eq_true (by kernel_rfl)) (by unfold Func.isWrapper; first | (rw [if_pos (by decide +kernel)]; kernel_rfl) | (rw [if_neg (by decide +kernel)]; exact ⟨rfl, rfl⟩))
    (fun os started H enc _ => lifted os started H enc)
theorem proved : Rows.FnExactInCellSaid := over
#print axioms proved
end Go.Proofs.Ytohoibekddhneaa.fnExactInCell
namespace Go.Proofs.Ytohoibekddhneaa
/-- The row, under a short name, for the claim. -/
theorem fnExactInCell_holds : Rows.FnExactInCellSaid := fnExactInCell.proved
end Go.Proofs.Ytohoibekddhneaa
