-- PRINTED BY print.sh 35421559b90ae4d0a3588c463048766b98c2df88dd9212a6774a882060cdf62d: not written by this session
import Derived.Test.YtaijkhabcidagaaPFnExactMakeAtomx0
import Derived.Test.YtaijkhabcidagaaPFnExactMakeAtomx1
import Derived.Test.YtaijkhabcidagaaPFnExactMakeAtomx2
import Derived.Test.YtaijkhabcidagaaPFnExactMakeAtomx3
import Derived.Test.YtaijkhabcidagaaPFnExactMakeAtomx4
import Derived.Test.YtaijkhabcidagaaPFnExactMakeAtomx5
namespace Go.Proofs.Ytaijkhabcidagaa.PFnExactMakeAtom
open Go.RowKit Go.Proofs.YtaijkhabcidagaaW.PrintWords Go.Proofs.YtaijkhabcidagaaW.PrintLast Go.Proofs.YtaijkhabcidagaaW.PrintMore
attribute [local go_sem] max2_int min2_int max_two min_two max_three min_three max_four min_four   -- for this text's walks alone
set_option linter.unusedVariables false
set_option linter.unusedSimpArgs false

end Go.Proofs.Ytaijkhabcidagaa.PFnExactMakeAtom
