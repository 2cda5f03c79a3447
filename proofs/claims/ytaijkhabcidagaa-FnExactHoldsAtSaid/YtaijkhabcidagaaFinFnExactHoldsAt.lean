/- The plain statement of the law FnExactHoldsAt, over numbers and lists alone: the call answers true. -/
import Derived.Test.YtaijkhabcidagaaLibFnExactHoldsAt
set_option linter.unusedVariables false
set_option linter.unusedSimpArgs false
namespace Go.Proofs.Ytaijkhabcidagaa.FinFnExactHoldsAt
open Go.RowKit Go.Proofs.Ytaijkhabcidagaa.PFnExactHoldsAt Go.Proofs.Ytaijkhabcidagaa.Pl Go.Proofs.Ytaijkhabcidagaa.LFnExactHoldsAt Go.Proofs.YtaijkhabcidagaaW.PrintWords Go.Proofs.YtaijkhabcidagaaW.PrintLast

theorem fin {P Q : Prop} (l : List Int) (c : Int) (s : Bool) (p : List S54) (hw : (l.length ≤ maxLen ∧ ∀ x ∈ l, (Lit.int .i64 x).wf = true) ∧ P) (hp : p.length ≤ maxLen) (_ : Q) : ∃ k, laws_FnExactHoldsAt.f k l c s p = some true := by
  refine Ev.rounds ?_
  unfold laws_FnExactHoldsAt.f
  rw [laws_szAtom_eq l c s _ hw.1.1 (by omega)]
  simp only [Option.bind_some]
  refine ev_ite (fun _ => Ev.now _) (fun h => ?_)
  have h1 := lft_nn h
  have hl : l.length ≤ 1048576 := by omega
  rw [laws_szRatioS_eq p _ hp (by omega)]
  simp only [Option.bind_some]
  refine ev_ite (fun _ => Ev.now _) (fun h' => ?_)
  have h2 := lft_nn h'
  have hp1 : p.length ≤ 1048576 := by omega
  have hp2 : (p.map fun x => (⟨x.f0, x.f1⟩ : S56)).length ≤ 1048576 := by simpa using hp1
  refine Ev.bind (laws_toAtom_ev l c s hl) (Ev.bind (laws_toRatioS_ev p hp1) (Ev.bind (spec_HoldsAt_ev l c s _ hl hp2) (Ev.bind (laws_toAtom_ev l c s hl) (Ev.bind (laws_toRatioS_ev p hp1) (Ev.bind (impl_HoldsAt_ev l c s _ hl hp2) ?_)))))
  refine ev_neg (by simp) ?_
  refine Ev.step (fun k => by rw [laws_FnExactHoldsAt.j0]) ?_
  exact ev_neg (by simp) (Ev.bind (laws_toAtom_ev l c s hl) (Ev.bind (laws_eqAtom_ev l c s hl) (ev_pos rfl (Ev.bind (laws_toRatioS_ev p hp1) (Ev.bind (laws_eqRatioS_ev _ hp2) (ev_pos rfl (Ev.now _)))))))

end Go.Proofs.Ytaijkhabcidagaa.FinFnExactHoldsAt
