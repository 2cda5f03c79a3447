/- The plain statement of the law FnExactNegateAtom, over numbers and lists alone: the call answers true. -/
import Derived.Test.YtaijkhabcidagaaLibFnExactNegateAtom
set_option linter.unusedVariables false
set_option linter.unusedSimpArgs false
namespace Go.Proofs.Ytaijkhabcidagaa.FinFnExactNegateAtom
open Go.RowKit Go.Proofs.Ytaijkhabcidagaa.PFnExactNegateAtom Go.Proofs.Ytaijkhabcidagaa.Pl Go.Proofs.Ytaijkhabcidagaa.LFnExactNegateAtom Go.Proofs.YtaijkhabcidagaaW.PrintWords Go.Proofs.YtaijkhabcidagaaW.PrintLast

theorem fin {P : Prop} (l : List Int) (c : Int) (s : Bool) (hw : (l.length ≤ maxLen ∧ ∀ x ∈ l, (Lit.int .i64 x).wf = true) ∧ P) : ∃ k, laws_FnExactNegateAtom.f k l c s = some true := by
  refine Ev.rounds ?_
  unfold laws_FnExactNegateAtom.f
  rw [laws_szAtom_eq l c s _ hw.1.1 (by omega)]
  simp only [Option.bind_some]
  refine ev_ite (fun _ => Ev.now _) (fun h => ?_)
  have hl : l.length ≤ 1048576 := by have := (lft_nn h).1; omega
  have h4 := negAt_len l c s
  refine Ev.bind (laws_toAtom_ev l c s hl) (Ev.bind (spec_NegateAtom_ev l c s hl) (Ev.bind (laws_toAtom_ev l c s hl) (Ev.bind (impl_NegateAtom_ev l c s hl) (Ev.bind (laws_eqAtom_ev _ _ _ (by omega)) (ev_pos rfl ?_)))))
  refine Ev.step (fun k => by rw [laws_FnExactNegateAtom.j0]) ?_
  refine ev_neg (by simp) (Ev.bind (laws_toAtom_ev l c s hl) (Ev.bind (laws_eqAtom_ev l c s hl) (ev_pos rfl (Ev.bind (laws_markAtom_ev l _ _ 1 hl (by omega) (by omega)) (ev_neg (by omega) (Ev.bind (laws_eqAtom_ev _ _ _ (by omega)) (ev_pos rfl ?_)))))))
  refine Ev.step (fun k => by rw [laws_FnExactNegateAtom.j1]) ?_
  refine ev_neg (by simp) (Ev.bind (laws_markAtom_ev _ _ _ 1 (by omega) (by omega) (by omega)) (Ev.bind (laws_heldAtom_ev _ _ _ 1 (by omega) (by omega) (by omega)) (ev_neg (by omega) (ev_pos rfl (Ev.bind (laws_toAtom_ev l c s hl) (Ev.bind (impl_NegateAtom_ev l c s hl) (Ev.bind (laws_eqAtom_ev _ _ _ (by omega)) (ev_pos rfl ?_))))))))
  refine Ev.step (fun k => by rw [laws_FnExactNegateAtom.j2]) ?_
  exact ev_neg (by simp) (Ev.bind (laws_heldAtom_ev _ _ _ 1 (by omega) (by omega) (by omega)) (ev_neg (by omega) (ev_pos rfl (Ev.now _))))

end Go.Proofs.Ytaijkhabcidagaa.FinFnExactNegateAtom
