/- The functions that the law FnExactIsRefuted reaches, each as a Lean function with the same answers, and the proof that the call comes to exactly these: turned by program out of the printed texts. No condition but those that each theorem names. -/
import Derived.Test.YtaijkhabcidagaaQFnExactIsRefutedx0
import Derived.Test.YtaijkhabcidagaaQFnExactIsRefutedx1
import Derived.Test.YtaijkhabcidagaaQFnExactIsRefutedx2
import Derived.Test.YtaijkhabcidagaaQFnExactIsRefutedx3
namespace Go.Proofs.Ytaijkhabcidagaa.PFnExactIsRefuted
end Go.Proofs.Ytaijkhabcidagaa.PFnExactIsRefuted
