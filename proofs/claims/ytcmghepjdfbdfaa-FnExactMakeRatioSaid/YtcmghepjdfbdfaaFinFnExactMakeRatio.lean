/- The plain statement of the law FnExactMakeRatio, over numbers and lists alone: the call answers true. -/
import Derived.Test.YtcmghepjdfbdfaaLibFnExactMakeRatio
set_option linter.unusedVariables false
set_option linter.unusedSimpArgs false
namespace Go.Proofs.Ytcmghepjdfbdfaa.FinFnExactMakeRatio
open Go.RowKit Go.Proofs.Ytcmghepjdfbdfaa.PFnExactMakeRatio Go.Proofs.Ytcmghepjdfbdfaa.Pl Go.Proofs.Ytcmghepjdfbdfaa.LFnExactMakeRatio Go.Proofs.YtcmghepjdfbdfaaW.PrintWords Go.Proofs.YtcmghepjdfbdfaaW.PrintLast

theorem fin {P Q : Prop} (a b : Int) (_ : P) (_ : Q) : ∃ k, laws_FnExactMakeRatio.f k a b = some true := by
  refine Ev.rounds ?_
  unfold laws_FnExactMakeRatio.f
  refine Ev.bind (spec_MakeRatio_ev _ _) (Ev.bind (impl_MakeRatio_ev _ _) ?_)
  rw [laws_eqRatio_eq]
  simp
  exact Ev.now _

end Go.Proofs.Ytcmghepjdfbdfaa.FinFnExactMakeRatio
