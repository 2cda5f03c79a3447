/- The functions that the law FnExactFixVariable reaches, each as a Lean function with the same answers, and the proof that the call comes to exactly these: turned by program out of the printed texts. No condition but those that each theorem names. -/
import Derived.Test.YtaijkhabcidagaaQFnExactFixVariablex0
import Derived.Test.YtaijkhabcidagaaQFnExactFixVariablex1
import Derived.Test.YtaijkhabcidagaaQFnExactFixVariablex2
import Derived.Test.YtaijkhabcidagaaQFnExactFixVariablex3
namespace Go.Proofs.Ytaijkhabcidagaa.PFnExactFixVariable
end Go.Proofs.Ytaijkhabcidagaa.PFnExactFixVariable
