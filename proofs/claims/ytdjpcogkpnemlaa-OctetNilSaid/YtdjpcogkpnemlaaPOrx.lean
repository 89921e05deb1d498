-- Printed by this session's own program (wip/xprint.py) out of the translation. Lean checks it.
import Derived.Test.YtdjpcogkpnemlaaPOrx0
import Derived.Test.YtdjpcogkpnemlaaPOrx1
import Derived.Test.YtdjpcogkpnemlaaPOrx2
import Derived.Test.YtdjpcogkpnemlaaPOrx3
import Derived.Test.YtdjpcogkpnemlaaPOrx4
import Derived.Test.YtdjpcogkpnemlaaPOrx5
import Derived.Test.YtdjpcogkpnemlaaPOrx6
import Derived.Test.YtdjpcogkpnemlaaPOrx7
namespace Go.Proofs.Ytdjpcogkpnemlaa.POr
open Go.RowKit Go.Proofs.YtdjpcogkpnemlaaW.PrintWords Go.Proofs.YtdjpcogkpnemlaaW.PrintLast Go.Proofs.YtdjpcogkpnemlaaW.PrintMore
attribute [local go_sem] max2_int min2_int max_two min_two max_three min_three max_four min_four   -- for this text's walks alone
set_option linter.unusedVariables false
set_option linter.unusedSimpArgs false

end Go.Proofs.Ytdjpcogkpnemlaa.POr
