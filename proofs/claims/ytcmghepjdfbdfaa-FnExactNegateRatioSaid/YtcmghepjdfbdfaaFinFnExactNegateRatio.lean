/- The plain statement of the law FnExactNegateRatio, over numbers and lists alone: the call answers true. -/
import Derived.Test.YtcmghepjdfbdfaaLibFnExactNegateRatio
set_option linter.unusedVariables false
set_option linter.unusedSimpArgs false
namespace Go.Proofs.Ytcmghepjdfbdfaa.FinFnExactNegateRatio
open Go.RowKit Go.Proofs.Ytcmghepjdfbdfaa.PFnExactNegateRatio Go.Proofs.Ytcmghepjdfbdfaa.Pl Go.Proofs.Ytcmghepjdfbdfaa.LFnExactNegateRatio Go.Proofs.YtcmghepjdfbdfaaW.PrintWords Go.Proofs.YtcmghepjdfbdfaaW.PrintLast

theorem fin {P : Prop} (a b : Int) (_ : P) : ∃ k, laws_FnExactNegateRatio.f k a b = some true := by
  refine Ev.rounds ?_
  unfold laws_FnExactNegateRatio.f laws_toRatio.f
  simp only [Option.bind_some]
  refine Ev.bind (spec_NegateRatio_ev _ _) (Ev.bind (impl_NegateRatio_ev _ _) ?_)
  rw [laws_eqRatio_eq]
  simp
  exact Ev.now _

end Go.Proofs.Ytcmghepjdfbdfaa.FinFnExactNegateRatio
