-- Printed by this session's own program (wip/xprint.py) out of the translation. Lean checks it.
import Derived.Test.YtdjpcogkpnemlaaProg
import Derived.Below
import Derived.Deep.Draws
import Derived.Deep.AppendLies
import Derived.Maps.AppendAt
import Derived.OwnWalk
import Derived.Laws.BytesArg
import Derived.Laws.MakeOwn
import Derived.Laws.OwnMore
import Derived.Deep.OwnRows
import Derived.Tactics
import Derived.Lib.ConvBytes
import Derived.Laws.Slices
import Derived.WalkKit
import Derived.KernelRfl
import Derived.RowKit3
import Derived.Deep.LoopGhost
import Derived.Deep.QuietTactic
import Derived.BigQuiet
import Derived.WideLaws
import Derived.Deep.DeepCutAuto
import Derived.Deep.CutBlock
import Derived.Deep.RegionHeld3
import Derived.Laws.Rows
import Derived.Lib.AppendStr
import Derived.ArgAppend
import Derived.Laws.IdiomCopy
import Derived.OrdersHeld
import Derived.Laws.BitsLemmas
import Derived.RowKit
import Derived.Test.YtdjpcogkpnemlaaGivO
import Derived.Test.YtdjpcogkpnemlaaInX
import Derived.Test.YtdjpcogkpnemlaaOrC
import Derived.Test.YtdjpcogkpnemlaaWWords
import Derived.Test.YtdjpcogkpnemlaaWLast
import Derived.Test.YtdjpcogkpnemlaaWTab
import Derived.Test.YtdjpcogkpnemlaaWFour
import Derived.Test.YtdjpcogkpnemlaaWQPut
import Derived.Test.YtdjpcogkpnemlaaWApart
import Derived.Test.YtdjpcogkpnemlaaWArr
import Derived.Test.YtdjpcogkpnemlaaWZeros
import Derived.Test.YtdjpcogkpnemlaaWFoot
import Derived.Test.YtdjpcogkpnemlaaWKept
import Derived.Test.YtdjpcogkpnemlaaWShare
import Derived.Test.YtdjpcogkpnemlaaWN
import Derived.Test.YtdjpcogkpnemlaaWFootNe
import Derived.Test.YtdjpcogkpnemlaaWAt
import Derived.Test.YtdjpcogkpnemlaaWEqStruct
import Derived.Test.YtdjpcogkpnemlaaWRepsOne
import Derived.Test.YtdjpcogkpnemlaaWInv
import Derived.Test.YtdjpcogkpnemlaaWInvWords
import Derived.Test.YtdjpcogkpnemlaaWGuard
import Derived.Test.YtdjpcogkpnemlaaWNEv
import Derived.Test.YtdjpcogkpnemlaaWMore
namespace Go.Proofs.Ytdjpcogkpnemlaa.PIn
open Go.RowKit Go.Proofs.YtdjpcogkpnemlaaW.PrintWords Go.Proofs.YtdjpcogkpnemlaaW.PrintLast Go.Proofs.YtdjpcogkpnemlaaW.PrintMore Go.Proofs.Ytdjpcogkpnemlaa.GivO Go.Proofs.Ytdjpcogkpnemlaa.Oct Go.Proofs.Ytdjpcogkpnemlaa.POr
attribute [local go_sem] max2_int min2_int max_two min_two max_three min_three max_four min_four   -- for this text's walks alone
set_option linter.unusedVariables false
set_option linter.unusedSimpArgs false



end Go.Proofs.Ytdjpcogkpnemlaa.PIn
