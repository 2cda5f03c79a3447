/- What the printed functions of the law FnExactConstants compute, in plain words; each holds under the bounds that it names. -/
import Derived.Test.YtcmghepjdfbdfaaPFnExactConstantsx
import Derived.Test.YtcmghepjdfbdfaaPlain
set_option linter.unusedVariables false
set_option linter.unusedSimpArgs false
namespace Go.Proofs.Ytcmghepjdfbdfaa.LFnExactConstants
open Go.RowKit Go.Proofs.Ytcmghepjdfbdfaa.PFnExactConstants Go.Proofs.Ytcmghepjdfbdfaa.Pl Go.Proofs.YtcmghepjdfbdfaaW.PrintWords Go.Proofs.YtcmghepjdfbdfaaW.PrintLast


end Go.Proofs.Ytcmghepjdfbdfaa.LFnExactConstants
