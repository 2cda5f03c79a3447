/- The plain statement of the law FnExactMakeAtom, over numbers and lists alone: the call answers true. -/
import Derived.Test.YtaijkhabcidagaaLibFnExactMakeAtom
set_option linter.unusedVariables false
set_option linter.unusedSimpArgs false
namespace Go.Proofs.Ytaijkhabcidagaa.FinFnExactMakeAtom
open Go.RowKit Go.Proofs.Ytaijkhabcidagaa.PFnExactMakeAtom Go.Proofs.Ytaijkhabcidagaa.Pl Go.Proofs.Ytaijkhabcidagaa.LFnExactMakeAtom Go.Proofs.YtaijkhabcidagaaW.PrintWords Go.Proofs.YtaijkhabcidagaaW.PrintLast

theorem fin {P Q : Prop} (l : List Int) (c : Int) (s : Bool) (hm : l.length ≤ maxLen) (_ : P) (_ : Q) : ∃ k, laws_FnExactMakeAtom.f k l c s = some true := by
  refine Ev.rounds ?_
  unfold laws_FnExactMakeAtom.f
  refine ev_ite (fun _ => Ev.now _) (fun h => ?_)
  have hl : l.length ≤ 1048576 := by omega
  have h4 := makeAt_len l c s
  refine Ev.bind (laws_toIntS_ev l hl) (Ev.bind (spec_MakeAtom_ev l c s hl) (Ev.bind (laws_toIntS_ev l hl) (Ev.bind (impl_MakeAtom_ev l c s hl) (Ev.bind (laws_eqAtom_ev _ _ _ (by omega)) (ev_pos rfl ?_)))))
  refine Ev.step (fun k => by rw [laws_FnExactMakeAtom.j0]) ?_
  refine ev_neg (by simp) (Ev.bind (laws_toIntS_ev l hl) (Ev.bind (laws_eqIntS_ev l hl) (ev_pos rfl (Ev.bind (laws_markIntS_ev l 1 hl (by omega) (by omega)) (ev_neg (by omega) (Ev.bind (laws_eqAtom_ev _ _ _ (by omega)) (ev_pos rfl ?_)))))))
  refine Ev.step (fun k => by rw [laws_FnExactMakeAtom.j1]) ?_
  refine ev_neg (by simp) (Ev.bind (laws_markAtom_ev _ _ _ 1 (by omega) (by omega) (by omega)) (Ev.bind (laws_heldAtom_ev _ _ _ 1 (by omega) (by omega) (by omega)) (ev_neg (by omega) (ev_pos rfl (Ev.bind (laws_toIntS_ev l hl) (Ev.bind (impl_MakeAtom_ev l c s hl) (Ev.bind (laws_eqAtom_ev _ _ _ (by omega)) (ev_pos rfl ?_))))))))
  refine Ev.step (fun k => by rw [laws_FnExactMakeAtom.j2]) ?_
  exact ev_neg (by simp) (Ev.bind (laws_heldAtom_ev _ _ _ 1 (by omega) (by omega) (by omega)) (ev_neg (by omega) (ev_pos rfl (Ev.now _))))

end Go.Proofs.Ytaijkhabcidagaa.FinFnExactMakeAtom
