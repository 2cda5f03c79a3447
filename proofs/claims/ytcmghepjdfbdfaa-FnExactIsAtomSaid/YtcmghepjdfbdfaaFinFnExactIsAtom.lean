/- The plain statement of the law FnExactIsAtom, over numbers and lists alone: the call answers true. -/
import Derived.Test.YtcmghepjdfbdfaaLibFnExactIsAtom
set_option linter.unusedVariables false
set_option linter.unusedSimpArgs false
namespace Go.Proofs.Ytcmghepjdfbdfaa.FinFnExactIsAtom
open Go.RowKit Go.Proofs.Ytcmghepjdfbdfaa.PFnExactIsAtom Go.Proofs.Ytcmghepjdfbdfaa.Pl Go.Proofs.Ytcmghepjdfbdfaa.LFnExactIsAtom Go.Proofs.YtcmghepjdfbdfaaW.PrintWords Go.Proofs.YtcmghepjdfbdfaaW.PrintLast

theorem fin {P : Prop} (l : List Int) (c : Int) (s : Bool) (hw : (l.length ≤ maxLen ∧ ∀ x ∈ l, (Lit.int .i64 x).wf = true) ∧ P) : ∃ k, laws_FnExactIsAtom.f k l c s = some true := by
  refine Ev.rounds ?_
  unfold laws_FnExactIsAtom.f
  rw [laws_szAtom_eq l c s _ hw.1.1 (by omega)]
  simp only [Option.bind_some]
  refine ev_ite (fun _ => Ev.now _) (fun h => ?_)
  have hl : l.length ≤ 1048576 := by have := (lft_nn h).1; omega
  refine Ev.bind (laws_toAtom_ev l c s hl) (Ev.bind (spec_IsAtom_ev l c s hl) (Ev.bind (laws_toAtom_ev l c s hl) (Ev.bind (impl_IsAtom_ev l c s hl) ?_)))
  exact ev_neg (by simp) (Ev.bind (laws_toAtom_ev l c s hl) (Ev.bind (laws_eqAtom_ev l c s hl) (ev_pos rfl (Ev.now _))))

end Go.Proofs.Ytcmghepjdfbdfaa.FinFnExactIsAtom
