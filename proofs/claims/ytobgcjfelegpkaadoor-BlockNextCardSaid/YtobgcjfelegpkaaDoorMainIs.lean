/- The harness that the cut's main is: a closed fact of the translation. -/
import Derived.Test.YtobgcjfelegpkaaDoorRows
import Derived.KernelRfl
namespace Go.Proofs.YtobgcjfelegpkaaDoor.Joined
open Go
set_option maxRecDepth 100000
theorem mainIs : Tryd.pinned.checked.prog.mainIs = some ((true, "9d164c48e5212571350473851ff744ae1dd98c8b496bb95ff743244017e0d20a").1, (true, "9d164c48e5212571350473851ff744ae1dd98c8b496bb95ff743244017e0d20a").2.toList) := by kernel_rfl
end Go.Proofs.YtobgcjfelegpkaaDoor.Joined
