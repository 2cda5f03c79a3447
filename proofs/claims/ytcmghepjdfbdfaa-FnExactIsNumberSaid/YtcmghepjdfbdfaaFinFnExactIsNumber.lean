/- The plain statement of the law FnExactIsNumber, over numbers and lists alone: the call answers true. -/
import Derived.Test.YtcmghepjdfbdfaaLibFnExactIsNumber
set_option linter.unusedVariables false
set_option linter.unusedSimpArgs false
namespace Go.Proofs.Ytcmghepjdfbdfaa.FinFnExactIsNumber
open Go.RowKit Go.Proofs.Ytcmghepjdfbdfaa.PFnExactIsNumber Go.Proofs.Ytcmghepjdfbdfaa.Pl Go.Proofs.Ytcmghepjdfbdfaa.LFnExactIsNumber Go.Proofs.YtcmghepjdfbdfaaW.PrintWords Go.Proofs.YtcmghepjdfbdfaaW.PrintLast

theorem fin {P : Prop} (a : Int) (_ : P) : ∃ _k : Nat, laws_FnExactIsNumber.f a = some true := by
  refine ⟨0, ?_⟩
  unfold laws_FnExactIsNumber.f
  rw [spec_IsNumber_eq, impl_IsNumber_eq]
  simp

end Go.Proofs.Ytcmghepjdfbdfaa.FinFnExactIsNumber
