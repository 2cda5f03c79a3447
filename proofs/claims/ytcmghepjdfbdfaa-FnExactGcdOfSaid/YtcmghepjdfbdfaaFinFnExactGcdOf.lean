/- The plain statement of the law FnExactGcdOf, over numbers and lists alone: the call answers true. -/
import Derived.Test.YtcmghepjdfbdfaaLibFnExactGcdOf
set_option linter.unusedVariables false
set_option linter.unusedSimpArgs false
namespace Go.Proofs.Ytcmghepjdfbdfaa.FinFnExactGcdOf
open Go.RowKit Go.Proofs.Ytcmghepjdfbdfaa.PFnExactGcdOf Go.Proofs.Ytcmghepjdfbdfaa.Pl Go.Proofs.Ytcmghepjdfbdfaa.LFnExactGcdOf Go.Proofs.YtcmghepjdfbdfaaW.PrintWords Go.Proofs.YtcmghepjdfbdfaaW.PrintLast

theorem fin {P Q : Prop} (a b : Int) (_ : P) (_ : Q) : ∃ k, laws_FnExactGcdOf.f k a b = some true := by
  refine Ev.rounds ?_
  unfold laws_FnExactGcdOf.f
  refine Ev.bind (spec_GcdOf_ev _ _) (Ev.bind (impl_GcdOf_ev _ _) ?_)
  simp
  exact Ev.now _

end Go.Proofs.Ytcmghepjdfbdfaa.FinFnExactGcdOf
