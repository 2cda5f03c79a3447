/- The plain statement of the law FnExactFixVariable, over numbers and lists alone: the call answers true. -/
import Derived.Test.YtaijkhabcidagaaLibFnExactFixVariable
set_option linter.unusedVariables false
set_option linter.unusedSimpArgs false
namespace Go.Proofs.Ytaijkhabcidagaa.FinFnExactFixVariable
open Go.RowKit Go.Proofs.Ytaijkhabcidagaa.PFnExactFixVariable Go.Proofs.Ytaijkhabcidagaa.Pl Go.Proofs.Ytaijkhabcidagaa.LFnExactFixVariable Go.Proofs.YtaijkhabcidagaaW.PrintWords Go.Proofs.YtaijkhabcidagaaW.PrintLast

theorem fin {P Q U : Prop} (l : List Int) (c : Int) (s : Bool) (v n d : Int) (hw : (l.length ≤ maxLen ∧ ∀ x ∈ l, (Lit.int .i64 x).wf = true) ∧ P) (_ : U) (_ : Q) : ∃ k, laws_FnExactFixVariable.f k l c s v n d = some true := by
  refine Ev.rounds ?_
  unfold laws_FnExactFixVariable.f
  rw [laws_szAtom_eq l c s _ hw.1.1 (by omega)]
  simp only [Option.bind_some, laws_toRatio.f]
  refine ev_ite (fun _ => Ev.now _) (fun h => ?_)
  have hl : l.length ≤ 1048576 := by have := (lft_nn h).1; omega
  have h4 := fixAt_len l c s v n d
  refine Ev.bind (laws_toAtom_ev l c s hl) (Ev.bind (spec_FixVariable_ev l c s v n d hl) (Ev.bind (laws_toAtom_ev l c s hl) (Ev.bind (impl_FixVariable_ev l c s v n d hl) (Ev.bind (laws_eqAtom_ev _ _ _ (by omega)) (ev_pos rfl ?_)))))
  refine Ev.step (fun k => by rw [laws_FnExactFixVariable.j0]) ?_
  refine ev_neg (by simp) (Ev.bind (laws_toAtom_ev l c s hl) (Ev.bind (laws_eqAtom_ev l c s hl) (ev_pos rfl (Ev.bind (laws_markAtom_ev l _ _ 1 hl (by omega) (by omega)) (ev_neg (by omega) (Ev.bind (laws_eqAtom_ev _ _ _ (by omega)) (ev_pos rfl ?_)))))))
  refine Ev.step (fun k => by rw [laws_FnExactFixVariable.j1]) ?_
  simp only [Option.bind_some, laws_toRatio.f]
  refine ev_neg (by simp) (Ev.bind (laws_markAtom_ev _ _ _ 1 (by omega) (by omega) (by omega)) (Ev.bind (laws_heldAtom_ev _ _ _ 1 (by omega) (by omega) (by omega)) (ev_neg (by omega) (ev_pos rfl (Ev.bind (laws_toAtom_ev l c s hl) (Ev.bind (impl_FixVariable_ev l c s v n d hl) (Ev.bind (laws_eqAtom_ev _ _ _ (by omega)) (ev_pos rfl ?_))))))))
  refine Ev.step (fun k => by rw [laws_FnExactFixVariable.j2]) ?_
  exact ev_neg (by simp) (Ev.bind (laws_heldAtom_ev _ _ _ 1 (by omega) (by omega) (by omega)) (ev_neg (by omega) (ev_pos rfl (Ev.now _))))

end Go.Proofs.Ytaijkhabcidagaa.FinFnExactFixVariable
