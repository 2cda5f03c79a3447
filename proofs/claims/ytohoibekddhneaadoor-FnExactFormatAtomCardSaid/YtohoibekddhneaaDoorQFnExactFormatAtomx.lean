/- The functions that the law FnExactFormatAtom reaches, each as a Lean function with the same answers, and the proof that the call comes to exactly these: turned by program out of the printed texts. No condition but those that each theorem names. -/
import Derived.Test.YtohoibekddhneaaDoorQFnExactFormatAtomx0
import Derived.Test.YtohoibekddhneaaDoorQFnExactFormatAtomx1
namespace Go.Proofs.YtohoibekddhneaaDoor.PFnExactFormatAtom
end Go.Proofs.YtohoibekddhneaaDoor.PFnExactFormatAtom
