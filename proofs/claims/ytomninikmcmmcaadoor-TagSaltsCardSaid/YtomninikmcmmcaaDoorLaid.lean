/- The rows' condition on the rounds' constants: the door's heap meets it, and it gives the table in memory. -/
import Derived.Test.YtomninikmcmmcaaDoorRows
import Derived.Test.YtomninikmcmmcaaDoorGivA
import Derived.SevenTiedAt
import Derived.LaidMore
import Derived.Stop.Joined
import Derived.Lib.LaidTab
namespace Go.Proofs.YtomninikmcmmcaaDoor.Laid
open Go Go.Proofs.YtomninikmcmmcaaDoor.GivA
set_option maxRecDepth 100000
abbrev listC : List (String × DataW Unit) := [("paymaster/block.constants", Rows.laid_paymaster_block_constants)]
theorem door_met (os : Os) (args : Array Value) : laidMetH Tryd.prog listC ((World.doorLaid Tryd.prog 4000 os).forCall (fun _ _ => 0) ⟨#[], args, []⟩).memory :=
  laidMetH_of_parts3 (fuel := 8) (laidMet_of_run' 8 (by kernel_rfl) (by kernel_rfl)) (by kernel_rfl) (by kernel_rfl)
theorem gC : Tryd.prog.globalNamed "paymaster/block.constants" = some 3 := by kernel_rfl
theorem tC : (Tryd.prog.globals[3]?).map (·.type) = some 137 := by kernel_rfl
theorem cC : Tryd.prog.cellsOf 137 = 64 := by kernel_rfl
theorem cE : Tryd.prog.cellsOf 94 = 1 := by kernel_rfl
theorem datum : (Rows.laid_paymaster_block_constants : DataW Unit) = Lib.tabData .u32 kTab := rfl
theorem tab_of {W : World} (h : laidMetH Tryd.prog listC W) : Tab W := by
  rw [MakeChecks.laidMetH_plain _ _ _ (by kernel_rfl)] at h
  have h2 : laidMet Tryd.prog (("paymaster/block.constants", Lib.tabData .u32 kTab) :: []) W := h
  have hT := Lib.tabIs_of_head gC tC Tryd.underlying137 Tryd.underlying94 cE cC h2
  intro k hk
  exact hT.cell gC k hk
end Go.Proofs.YtomninikmcmmcaaDoor.Laid
