/- The plain statement of the law FnExactIsRatio, over numbers and lists alone: the call answers true. -/
import Derived.Test.YtcmghepjdfbdfaaLibFnExactIsRatio
set_option linter.unusedVariables false
set_option linter.unusedSimpArgs false
namespace Go.Proofs.Ytcmghepjdfbdfaa.FinFnExactIsRatio
open Go.RowKit Go.Proofs.Ytcmghepjdfbdfaa.PFnExactIsRatio Go.Proofs.Ytcmghepjdfbdfaa.Pl Go.Proofs.Ytcmghepjdfbdfaa.LFnExactIsRatio Go.Proofs.YtcmghepjdfbdfaaW.PrintWords Go.Proofs.YtcmghepjdfbdfaaW.PrintLast

theorem fin {P : Prop} (a b : Int) (_ : P) : ∃ k, laws_FnExactIsRatio.f k a b = some true := by
  refine Ev.rounds ?_
  unfold laws_FnExactIsRatio.f laws_toRatio.f
  simp only [Option.bind_some]
  refine Ev.bind (spec_IsRatio_ev _ _) (Ev.bind (impl_IsRatio_ev _ _) ?_)
  simp
  exact Ev.now _

end Go.Proofs.Ytcmghepjdfbdfaa.FinFnExactIsRatio
