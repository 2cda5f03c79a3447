/- The functions that the law FnExactInRegion reaches, each as a Lean function with the same answers, and the proof that the call comes to exactly these: turned by program out of the printed texts. No condition but those that each theorem names. -/
import Derived.Test.YtohoibekddhneaaQFnExactInRegionx0
import Derived.Test.YtohoibekddhneaaQFnExactInRegionx1
import Derived.Test.YtohoibekddhneaaQFnExactInRegionx2
import Derived.Test.YtohoibekddhneaaQFnExactInRegionx3
import Derived.Test.YtohoibekddhneaaQFnExactInRegionx4
namespace Go.Proofs.Ytohoibekddhneaa.PFnExactInRegion
end Go.Proofs.Ytohoibekddhneaa.PFnExactInRegion
