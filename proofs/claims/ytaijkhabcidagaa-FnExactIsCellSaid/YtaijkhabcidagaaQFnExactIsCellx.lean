/- The functions that the law FnExactIsCell reaches, each as a Lean function with the same answers, and the proof that the call comes to exactly these: turned by program out of the printed texts. No condition but those that each theorem names. -/
import Derived.Test.YtaijkhabcidagaaQFnExactIsCellx0
import Derived.Test.YtaijkhabcidagaaQFnExactIsCellx1
import Derived.Test.YtaijkhabcidagaaQFnExactIsCellx2
namespace Go.Proofs.Ytaijkhabcidagaa.PFnExactIsCell
end Go.Proofs.Ytaijkhabcidagaa.PFnExactIsCell
