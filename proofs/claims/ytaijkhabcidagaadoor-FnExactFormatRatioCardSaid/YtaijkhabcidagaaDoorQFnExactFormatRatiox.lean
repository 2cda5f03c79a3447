/- The functions that the law FnExactFormatRatio reaches, each as a Lean function with the same answers, and the proof that the call comes to exactly these: turned by program out of the printed texts. No condition but those that each theorem names. -/
import Derived.Test.YtaijkhabcidagaaDoorQFnExactFormatRatiox0
import Derived.Test.YtaijkhabcidagaaDoorQFnExactFormatRatiox1
namespace Go.Proofs.YtaijkhabcidagaaDoor.PFnExactFormatRatio
end Go.Proofs.YtaijkhabcidagaaDoor.PFnExactFormatRatio
