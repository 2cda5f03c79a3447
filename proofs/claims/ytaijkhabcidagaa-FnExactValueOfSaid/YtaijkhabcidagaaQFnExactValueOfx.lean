/- The functions that the law FnExactValueOf reaches, each as a Lean function with the same answers, and the proof that the call comes to exactly these: turned by program out of the printed texts. No condition but those that each theorem names. -/
import Derived.Test.YtaijkhabcidagaaQFnExactValueOfx0
import Derived.Test.YtaijkhabcidagaaQFnExactValueOfx1
import Derived.Test.YtaijkhabcidagaaQFnExactValueOfx2
namespace Go.Proofs.Ytaijkhabcidagaa.PFnExactValueOf
end Go.Proofs.Ytaijkhabcidagaa.PFnExactValueOf
