/- The plain statement of the law FnExactIsEmptyCell, over numbers and lists alone: the call answers true. -/
import Derived.Test.YtkicjflhokckgaaLibFnExactIsEmptyCell
set_option linter.unusedVariables false
set_option linter.unusedSimpArgs false
namespace Go.Proofs.Ytkicjflhokckgaa.FinFnExactIsEmptyCell
open Go.RowKit Go.Proofs.Ytkicjflhokckgaa.PFnExactIsEmptyCell Go.Proofs.Ytkicjflhokckgaa.Pl Go.Proofs.Ytkicjflhokckgaa.LFnExactIsEmptyCell Go.Proofs.YtkicjflhokckgaaW.PrintWords Go.Proofs.YtkicjflhokckgaaW.PrintLast

theorem fin {P : Prop} (d : Int) (l : List S49) (hw : P ∧ (l.length ≤ maxLen ∧ ∀ x ∈ l, ((x.f0.length ≤ maxLen ∧ ∀ y ∈ x.f0, (Lit.int .i64 y).wf = true) ∧ (Lit.int .i64 x.f1).wf = true ∧ True))) : ∃ k, laws_FnExactIsEmptyCell.f k d l = some true := by
  refine Ev.rounds ?_
  unfold laws_FnExactIsEmptyCell.f
  refine Ev.bind (laws_szCell_ev d l 1048576 hw.2.1 (fun x hx => (hw.2.2 x hx).1.1) (by omega) (by omega)) (ev_ite (fun _ => Ev.now _) (fun h => ?_))
  have hl : wAs l ≤ 1048576 := by have := (lft_nn h).1; omega
  have hs := cvA_small hl
  refine Ev.bind (laws_toCell_ev d l hl) (Ev.bind (spec_IsEmptyCell_ev d _ hs) (Ev.bind (laws_toCell_ev d l hl) (Ev.bind (impl_IsEmptyCell_ev d _ hs) ?_)))
  refine ev_neg (by simp) ?_
  refine Ev.step (fun k => by rw [laws_FnExactIsEmptyCell.j0]) ?_
  exact ev_neg (by simp) (Ev.bind (laws_toCell_ev d l hl) (Ev.bind (laws_eqCell_ev d _ hs) (ev_pos rfl (Ev.now _))))

end Go.Proofs.Ytkicjflhokckgaa.FinFnExactIsEmptyCell
