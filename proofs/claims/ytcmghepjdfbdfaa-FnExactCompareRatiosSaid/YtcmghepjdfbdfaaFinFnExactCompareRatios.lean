/- The plain statement of the law FnExactCompareRatios, over numbers and lists alone: the call answers true. -/
import Derived.Test.YtcmghepjdfbdfaaLibFnExactCompareRatios
set_option linter.unusedVariables false
set_option linter.unusedSimpArgs false
namespace Go.Proofs.Ytcmghepjdfbdfaa.FinFnExactCompareRatios
open Go.RowKit Go.Proofs.Ytcmghepjdfbdfaa.PFnExactCompareRatios Go.Proofs.Ytcmghepjdfbdfaa.Pl Go.Proofs.Ytcmghepjdfbdfaa.LFnExactCompareRatios Go.Proofs.YtcmghepjdfbdfaaW.PrintWords Go.Proofs.YtcmghepjdfbdfaaW.PrintLast

theorem fin {P Q : Prop} (a b c d : Int) (_ : P) (_ : Q) : ∃ k, laws_FnExactCompareRatios.f k a b c d = some true := by
  refine Ev.rounds ?_
  unfold laws_FnExactCompareRatios.f laws_toRatio.f
  simp only [Option.bind_some]
  refine Ev.bind (spec_CompareRatios_ev _ _ _ _) (Ev.bind (impl_CompareRatios_ev _ _ _ _) ?_)
  simp
  exact Ev.now _

end Go.Proofs.Ytcmghepjdfbdfaa.FinFnExactCompareRatios
