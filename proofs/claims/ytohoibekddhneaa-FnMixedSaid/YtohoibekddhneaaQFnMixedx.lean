/- The functions that the law FnMixed reaches, each as a Lean function with the same answers, and the proof that the call comes to exactly these: turned by program out of the printed texts. No condition but those that each theorem names. -/
import Derived.Test.YtohoibekddhneaaQFnMixedx0
import Derived.Test.YtohoibekddhneaaQFnMixedx1
import Derived.Test.YtohoibekddhneaaQFnMixedx2
import Derived.Test.YtohoibekddhneaaQFnMixedx3
import Derived.Test.YtohoibekddhneaaQFnMixedx4
namespace Go.Proofs.Ytohoibekddhneaa.PFnMixed
end Go.Proofs.Ytohoibekddhneaa.PFnMixed
