/- The plain statement of the law FnExactConstants, over numbers and lists alone: the call answers true. -/
import Derived.Test.YtcmghepjdfbdfaaLibFnExactConstants
set_option linter.unusedVariables false
set_option linter.unusedSimpArgs false
namespace Go.Proofs.Ytcmghepjdfbdfaa.FinFnExactConstants
open Go.RowKit Go.Proofs.Ytcmghepjdfbdfaa.PFnExactConstants Go.Proofs.Ytcmghepjdfbdfaa.Pl Go.Proofs.Ytcmghepjdfbdfaa.LFnExactConstants Go.Proofs.YtcmghepjdfbdfaaW.PrintWords Go.Proofs.YtcmghepjdfbdfaaW.PrintLast

theorem fin : ∃ _k : Nat, laws_FnExactConstants.f = some true := ⟨0, rfl⟩

end Go.Proofs.Ytcmghepjdfbdfaa.FinFnExactConstants
