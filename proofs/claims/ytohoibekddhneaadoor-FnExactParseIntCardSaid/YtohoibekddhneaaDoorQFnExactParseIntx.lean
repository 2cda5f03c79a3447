/- The functions that the law FnExactParseInt reaches, each as a Lean function with the same answers, and the proof that the call comes to exactly these: turned by program out of the printed texts. No condition but those that each theorem names. -/
import Derived.Test.YtohoibekddhneaaDoorQFnExactParseIntx0
import Derived.Test.YtohoibekddhneaaDoorQFnExactParseIntx1
namespace Go.Proofs.YtohoibekddhneaaDoor.PFnExactParseInt
end Go.Proofs.YtohoibekddhneaaDoor.PFnExactParseInt
