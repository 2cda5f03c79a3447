/- The functions that the law FnExactFormatInt reaches, each as a Lean function with the same answers, and the proof that the call comes to exactly these: turned by program out of the printed texts. No condition but those that each theorem names. -/
import Derived.Test.YtaijkhabcidagaaDoorQFnExactFormatIntx0
import Derived.Test.YtaijkhabcidagaaDoorQFnExactFormatIntx1
namespace Go.Proofs.YtaijkhabcidagaaDoor.PFnExactFormatInt
end Go.Proofs.YtaijkhabcidagaaDoor.PFnExactFormatInt
