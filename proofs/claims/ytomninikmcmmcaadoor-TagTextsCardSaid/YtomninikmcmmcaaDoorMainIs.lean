/- The harness that the cut's main is: a closed fact of the translation. -/
import Derived.Test.YtomninikmcmmcaaDoorRows
import Derived.KernelRfl
namespace Go.Proofs.YtomninikmcmmcaaDoor.Joined
open Go
set_option maxRecDepth 100000
theorem mainIs : Tryd.pinned.checked.prog.mainIs = some ((true, "7abea28027b2b745090f6c7fcc20f3681edb17c49dcc1c0793786ec3fddd6ba8").1, (true, "7abea28027b2b745090f6c7fcc20f3681edb17c49dcc1c0793786ec3fddd6ba8").2.toList) := by kernel_rfl
end Go.Proofs.YtomninikmcmmcaaDoor.Joined
