/- The plain statement of the law FnExactParseAtom, over numbers and lists alone: the call answers true. -/
import Derived.Test.YtohoibekddhneaaDoorLibFnExactParseAtom
set_option linter.unusedVariables false
set_option linter.unusedSimpArgs false
namespace Go.Proofs.YtohoibekddhneaaDoor.FinFnExactParseAtom
open Go.RowKit Go.Proofs.YtohoibekddhneaaDoor.PFnExactParseAtom Go.Proofs.YtohoibekddhneaaDoor.Pl Go.Proofs.YtohoibekddhneaaDoor.LFnExactParseAtom Go.Proofs.YtohoibekddhneaaDoorW.PrintWords Go.Proofs.YtohoibekddhneaaDoorW.PrintLast

theorem fin {P Q : Prop} (s : ByteArray) (d : Int) (_ : P) (_ : Q) : ∃ k, laws_FnExactParseAtom.f k s d = some true := by
  refine Ev.rounds ?_
  unfold laws_FnExactParseAtom.f
  refine ev_ite (fun _ => Ev.now _) (fun h => ?_)
  obtain ⟨T, rfl⟩ : ∃ l, s = bs l := ⟨s.data.toList, by unfold bs; apply ByteArray.ext; simp⟩
  obtain ⟨r, e1, e2, h4⟩ := parse_both T d
  refine Ev.bind e1 (Ev.bind e2 (Ev.bind (laws_eqAtom_ev _ _ _ (by omega)) (ev_pos rfl ?_)))
  refine Ev.step (fun k => by rw [laws_FnExactParseAtom.j0]) ?_
  refine ev_neg (by simp) (Ev.bind (laws_markAtom_ev _ _ _ 1 (by omega) (by omega) (by omega)) (Ev.bind (laws_heldAtom_ev _ _ _ 1 (by omega) (by omega) (by omega)) (ev_neg (by omega) (ev_pos rfl (Ev.bind e2 (Ev.bind (laws_eqAtom_ev _ _ _ (by omega)) (ev_pos rfl ?_)))))))
  refine Ev.step (fun k => by rw [laws_FnExactParseAtom.j1]) ?_
  exact ev_neg (by simp) (Ev.bind (laws_heldAtom_ev _ _ _ 1 (by omega) (by omega) (by omega)) (ev_neg (by omega) (ev_pos rfl (Ev.now _))))

end Go.Proofs.YtohoibekddhneaaDoor.FinFnExactParseAtom
