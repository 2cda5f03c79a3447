/- The functions that the law FnExactParseRatio reaches, each as a Lean function with the same answers, and the proof that the call comes to exactly these: turned by program out of the printed texts. No condition but those that each theorem names. -/
import Derived.Test.YtohoibekddhneaaDoorQFnExactParseRatiox0
import Derived.Test.YtohoibekddhneaaDoorQFnExactParseRatiox1
namespace Go.Proofs.YtohoibekddhneaaDoor.PFnExactParseRatio
end Go.Proofs.YtohoibekddhneaaDoor.PFnExactParseRatio
