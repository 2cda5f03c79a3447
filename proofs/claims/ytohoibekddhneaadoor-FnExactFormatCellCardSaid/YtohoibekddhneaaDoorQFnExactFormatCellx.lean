/- The functions that the law FnExactFormatCell reaches, each as a Lean function with the same answers, and the proof that the call comes to exactly these: turned by program out of the printed texts. No condition but those that each theorem names. -/
import Derived.Test.YtohoibekddhneaaDoorQFnExactFormatCellx0
import Derived.Test.YtohoibekddhneaaDoorQFnExactFormatCellx1
import Derived.Test.YtohoibekddhneaaDoorQFnExactFormatCellx2
namespace Go.Proofs.YtohoibekddhneaaDoor.PFnExactFormatCell
end Go.Proofs.YtohoibekddhneaaDoor.PFnExactFormatCell
