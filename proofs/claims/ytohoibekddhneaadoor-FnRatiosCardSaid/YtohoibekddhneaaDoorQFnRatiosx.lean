/- The functions that the law FnRatios reaches, each as a Lean function with the same answers, and the proof that the call comes to exactly these: turned by program out of the printed texts. No condition but those that each theorem names. -/
import Derived.Test.YtohoibekddhneaaDoorQFnRatiosx0
import Derived.Test.YtohoibekddhneaaDoorQFnRatiosx1
import Derived.Test.YtohoibekddhneaaDoorQFnRatiosx2
namespace Go.Proofs.YtohoibekddhneaaDoor.PFnRatios
end Go.Proofs.YtohoibekddhneaaDoor.PFnRatios
