/- The functions that the law FnExactInCell reaches, each as a Lean function with the same answers, and the proof that the call comes to exactly these: turned by program out of the printed texts. No condition but those that each theorem names. -/
import Derived.Test.YtohoibekddhneaaQFnExactInCellx0
import Derived.Test.YtohoibekddhneaaQFnExactInCellx1
import Derived.Test.YtohoibekddhneaaQFnExactInCellx2
import Derived.Test.YtohoibekddhneaaQFnExactInCellx3
namespace Go.Proofs.Ytohoibekddhneaa.PFnExactInCell
end Go.Proofs.Ytohoibekddhneaa.PFnExactInCell
