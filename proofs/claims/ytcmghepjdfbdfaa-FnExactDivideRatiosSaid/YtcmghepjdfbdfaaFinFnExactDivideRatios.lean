/- The plain statement of the law FnExactDivideRatios, over numbers and lists alone: the call answers true. -/
import Derived.Test.YtcmghepjdfbdfaaLibFnExactDivideRatios
set_option linter.unusedVariables false
set_option linter.unusedSimpArgs false
namespace Go.Proofs.Ytcmghepjdfbdfaa.FinFnExactDivideRatios
open Go.RowKit Go.Proofs.Ytcmghepjdfbdfaa.PFnExactDivideRatios Go.Proofs.Ytcmghepjdfbdfaa.Pl Go.Proofs.Ytcmghepjdfbdfaa.LFnExactDivideRatios Go.Proofs.YtcmghepjdfbdfaaW.PrintWords Go.Proofs.YtcmghepjdfbdfaaW.PrintLast

theorem fin {P Q : Prop} (a b c d : Int) (_ : P) (_ : Q) : ∃ k, laws_FnExactDivideRatios.f k a b c d = some true := by
  refine Ev.rounds ?_
  unfold laws_FnExactDivideRatios.f laws_toRatio.f
  simp only [Option.bind_some]
  refine Ev.bind (spec_DivideRatios_ev _ _ _ _) (Ev.bind (impl_DivideRatios_ev _ _ _ _) ?_)
  rw [laws_eqRatio_eq]
  simp
  exact Ev.now _

end Go.Proofs.Ytcmghepjdfbdfaa.FinFnExactDivideRatios
