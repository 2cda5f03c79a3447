/- The functions that the law FnAtoms reaches, each as a Lean function with the same answers, and the proof that the call comes to exactly these: turned by program out of the printed texts. No condition but those that each theorem names. -/
import Derived.Test.YtohoibekddhneaaDoorQFnAtomsx0
import Derived.Test.YtohoibekddhneaaDoorQFnAtomsx1
import Derived.Test.YtohoibekddhneaaDoorQFnAtomsx2
import Derived.Test.YtohoibekddhneaaDoorQFnAtomsx3
import Derived.Test.YtohoibekddhneaaDoorQFnAtomsx4
namespace Go.Proofs.YtohoibekddhneaaDoor.PFnAtoms
end Go.Proofs.YtohoibekddhneaaDoor.PFnAtoms
