-- Printed by this session's own program (wip/xprint.py) out of the translation. Lean checks it.
import Derived.Test.YtobgcjfelegpkaaProg
import Derived.Below
import Derived.Deep.Draws
import Derived.Deep.AppendLies
import Derived.Maps.AppendAt
import Derived.OwnWalk
import Derived.Laws.BytesArg
import Derived.Laws.MakeOwn
import Derived.Laws.OwnMore
import Derived.Deep.OwnRows
import Derived.Tactics
import Derived.Lib.ConvBytes
import Derived.Laws.Slices
import Derived.WalkKit
import Derived.KernelRfl
import Derived.RowKit3
import Derived.Deep.LoopGhost
import Derived.Deep.QuietTactic
import Derived.BigQuiet
import Derived.WideLaws
import Derived.Deep.DeepCutAuto
import Derived.Deep.CutBlock
import Derived.Deep.RegionHeld3
import Derived.Laws.Rows
import Derived.Lib.AppendStr
import Derived.ArgAppend
import Derived.Laws.IdiomCopy
import Derived.OrdersHeld
import Derived.Laws.BitsLemmas
import Derived.RowKit
import Derived.Test.YtobgcjfelegpkaaWWords
import Derived.Test.YtobgcjfelegpkaaWLast
import Derived.Test.YtobgcjfelegpkaaWTab
import Derived.Test.YtobgcjfelegpkaaWFour
import Derived.Test.YtobgcjfelegpkaaWQPut
import Derived.Test.YtobgcjfelegpkaaWApart
import Derived.Test.YtobgcjfelegpkaaWArr
import Derived.Test.YtobgcjfelegpkaaWZeros
import Derived.Test.YtobgcjfelegpkaaWFoot
import Derived.Test.YtobgcjfelegpkaaWKept
import Derived.Test.YtobgcjfelegpkaaWShare
import Derived.Test.YtobgcjfelegpkaaWN
import Derived.Test.YtobgcjfelegpkaaWFootNe
import Derived.Test.YtobgcjfelegpkaaWAt
import Derived.Test.YtobgcjfelegpkaaWEqStruct
import Derived.Test.YtobgcjfelegpkaaWRepsOne
import Derived.Test.YtobgcjfelegpkaaWInv
import Derived.Test.YtobgcjfelegpkaaWInvWords
import Derived.Test.YtobgcjfelegpkaaWGuard
import Derived.Test.YtobgcjfelegpkaaWNEv
import Derived.Test.YtobgcjfelegpkaaWMore
namespace Go.Proofs.Ytobgcjfelegpkaa.PBw
open Go.RowKit Go.Proofs.YtobgcjfelegpkaaW.PrintWords Go.Proofs.YtobgcjfelegpkaaW.PrintLast Go.Proofs.YtobgcjfelegpkaaW.PrintMore
attribute [local go_sem] max2_int min2_int max_two min_two max_three min_three max_four min_four   -- for this text's walks alone
set_option linter.unusedVariables false
set_option linter.unusedSimpArgs false



def errW : Option Int → Value
  | none => .nilIface
  | some c => .iface 0 (.int .i64 c)
theorem errW_none : errW none = .nilIface := rfl
theorem errW_some (c : Int) : errW (some c) = .iface 0 (.int .i64 c) := rfl

theorem info29 : (Try.prog.info? 29).map (fun i => (i.zero, i.size, i.bytes)) = some (some (.int .u32 0), 1, 4) := by kernel_rfl
-- the values' own types

end Go.Proofs.Ytobgcjfelegpkaa.PBw
