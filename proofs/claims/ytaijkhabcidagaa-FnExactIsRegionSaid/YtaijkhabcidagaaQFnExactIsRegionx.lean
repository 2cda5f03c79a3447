/- The functions that the law FnExactIsRegion reaches, each as a Lean function with the same answers, and the proof that the call comes to exactly these: turned by program out of the printed texts. No condition but those that each theorem names. -/
import Derived.Test.YtaijkhabcidagaaQFnExactIsRegionx0
import Derived.Test.YtaijkhabcidagaaQFnExactIsRegionx1
import Derived.Test.YtaijkhabcidagaaQFnExactIsRegionx2
namespace Go.Proofs.Ytaijkhabcidagaa.PFnExactIsRegion
end Go.Proofs.Ytaijkhabcidagaa.PFnExactIsRegion
