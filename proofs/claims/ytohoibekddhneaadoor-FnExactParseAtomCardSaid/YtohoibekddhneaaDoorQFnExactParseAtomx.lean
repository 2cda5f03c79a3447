/- The functions that the law FnExactParseAtom reaches, each as a Lean function with the same answers, and the proof that the call comes to exactly these: turned by program out of the printed texts. No condition but those that each theorem names. -/
import Derived.Test.YtohoibekddhneaaDoorQFnExactParseAtomx0
import Derived.Test.YtohoibekddhneaaDoorQFnExactParseAtomx1
import Derived.Test.YtohoibekddhneaaDoorQFnExactParseAtomx2
import Derived.Test.YtohoibekddhneaaDoorQFnExactParseAtomx3
namespace Go.Proofs.YtohoibekddhneaaDoor.PFnExactParseAtom
end Go.Proofs.YtohoibekddhneaaDoor.PFnExactParseAtom
