/- The functions that the law FnExactFormatRegion reaches, each as a Lean function with the same answers, and the proof that the call comes to exactly these: turned by program out of the printed texts. No condition but those that each theorem names. -/
import Derived.Test.YtohoibekddhneaaDoorQFnExactFormatRegionx0
import Derived.Test.YtohoibekddhneaaDoorQFnExactFormatRegionx1
import Derived.Test.YtohoibekddhneaaDoorQFnExactFormatRegionx2
namespace Go.Proofs.YtohoibekddhneaaDoor.PFnExactFormatRegion
end Go.Proofs.YtohoibekddhneaaDoor.PFnExactFormatRegion
