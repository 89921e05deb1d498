-- Printed by this session's own program (wip/xprint.py) out of the translation. Lean checks it.
import Derived.Test.YtdjpcogkpnemlaaPInx0
import Derived.Test.YtdjpcogkpnemlaaPInx1
namespace Go.Proofs.Ytdjpcogkpnemlaa.PIn
open Go.RowKit Go.Proofs.YtdjpcogkpnemlaaW.PrintWords Go.Proofs.YtdjpcogkpnemlaaW.PrintLast Go.Proofs.YtdjpcogkpnemlaaW.PrintMore
attribute [local go_sem] max2_int min2_int max_two min_two max_three min_three max_four min_four   -- for this text's walks alone
set_option linter.unusedVariables false
set_option linter.unusedSimpArgs false

end Go.Proofs.Ytdjpcogkpnemlaa.PIn
