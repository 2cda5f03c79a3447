/- The plain statement of the law FnExactMultiplyRatios, over numbers and lists alone: the call answers true. -/
import Derived.Test.YtcmghepjdfbdfaaLibFnExactMultiplyRatios
set_option linter.unusedVariables false
set_option linter.unusedSimpArgs false
namespace Go.Proofs.Ytcmghepjdfbdfaa.FinFnExactMultiplyRatios
open Go.RowKit Go.Proofs.Ytcmghepjdfbdfaa.PFnExactMultiplyRatios Go.Proofs.Ytcmghepjdfbdfaa.Pl Go.Proofs.Ytcmghepjdfbdfaa.LFnExactMultiplyRatios Go.Proofs.YtcmghepjdfbdfaaW.PrintWords Go.Proofs.YtcmghepjdfbdfaaW.PrintLast

theorem fin {P Q : Prop} (a b c d : Int) (_ : P) (_ : Q) : ∃ k, laws_FnExactMultiplyRatios.f k a b c d = some true := by
  refine Ev.rounds ?_
  unfold laws_FnExactMultiplyRatios.f laws_toRatio.f
  simp only [Option.bind_some]
  refine Ev.bind (spec_MultiplyRatios_ev _ _ _ _) (Ev.bind (impl_MultiplyRatios_ev _ _ _ _) ?_)
  rw [laws_eqRatio_eq]
  simp
  exact Ev.now _

end Go.Proofs.Ytcmghepjdfbdfaa.FinFnExactMultiplyRatios
