/- The functions that the law FnExactHoldsAt reaches, each as a Lean function with the same answers, and the proof that the call comes to exactly these: turned by program out of the printed texts. No condition but those that each theorem names. -/
import Derived.Test.YtaijkhabcidagaaQFnExactHoldsAtx0
import Derived.Test.YtaijkhabcidagaaQFnExactHoldsAtx1
import Derived.Test.YtaijkhabcidagaaQFnExactHoldsAtx2
namespace Go.Proofs.Ytaijkhabcidagaa.PFnExactHoldsAt
end Go.Proofs.Ytaijkhabcidagaa.PFnExactHoldsAt
