/- The functions that the law FnExactIsEmptyCell reaches, each as a Lean function with the same answers, and the proof that the call comes to exactly these: turned by program out of the printed texts. No condition but those that each theorem names. -/
import Derived.Test.YtkicjflhokckgaaQFnExactIsEmptyCellx0
import Derived.Test.YtkicjflhokckgaaQFnExactIsEmptyCellx1
import Derived.Test.YtkicjflhokckgaaQFnExactIsEmptyCellx2
import Derived.Test.YtkicjflhokckgaaQFnExactIsEmptyCellx3
import Derived.Test.YtkicjflhokckgaaQFnExactIsEmptyCellx4
import Derived.Test.YtkicjflhokckgaaQFnExactIsEmptyCellx5
namespace Go.Proofs.Ytkicjflhokckgaa.PFnExactIsEmptyCell
end Go.Proofs.Ytkicjflhokckgaa.PFnExactIsEmptyCell
