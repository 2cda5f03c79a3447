/- The functions that the law FnExactMixAtoms reaches, each as a Lean function with the same answers, and the proof that the call comes to exactly these: turned by program out of the printed texts. No condition but those that each theorem names. -/
import Derived.Test.YtaijkhabcidagaaQFnExactMixAtomsx0
import Derived.Test.YtaijkhabcidagaaQFnExactMixAtomsx1
import Derived.Test.YtaijkhabcidagaaQFnExactMixAtomsx2
import Derived.Test.YtaijkhabcidagaaQFnExactMixAtomsx3
namespace Go.Proofs.Ytaijkhabcidagaa.PFnExactMixAtoms
end Go.Proofs.Ytaijkhabcidagaa.PFnExactMixAtoms
