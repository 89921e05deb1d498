/- Texts of this session, put together: Laid, LaidU, LaidW. -/
import Derived.Test.YtomninikmcmmcaaDoorRows
import Derived.Test.YtomninikmcmmcaaDoorGivA
import Derived.SevenTiedAt
import Derived.LaidMore
import Derived.Stop.Joined
import Derived.Lib.LaidTab
import Derived.Test.YtomninikmcmmcaaDoorMi
import Derived.Lib.LaidU8T
import Derived.Lay
section
/- The rows' condition on the rounds' constants: the door's heap meets it, and it gives the table in memory. -/
namespace Go.Proofs.YtomninikmcmmcaaDoor.Laid
open Go Go.Proofs.YtomninikmcmmcaaDoor.GivA
set_option maxRecDepth 100000
abbrev listC : List (String × DataW Unit) := [("paymaster/block.constants", Rows.laid_paymaster_block_constants)]
theorem door_met (os : Os) (args : Array Value) : laidMetH Tryd.prog listC ((World.doorLaid Tryd.prog 4000 os).forCall (fun _ _ => 0) ⟨#[], args, []⟩).memory :=
  laidMetH_of_parts3 (fuel := 8) (laidMet_of_run' 8 (by kernel_rfl) (by kernel_rfl)) (by kernel_rfl) (by kernel_rfl)
theorem gC : Tryd.prog.globalNamed "paymaster/block.constants" = some 3 := by kernel_rfl
theorem tC : (Tryd.prog.globals[3]?).map (·.type) = some 137 := by kernel_rfl
theorem cC : Tryd.prog.cellsOf 137 = 64 := by kernel_rfl
theorem cE : Tryd.prog.cellsOf 94 = 1 := by kernel_rfl
theorem datum : (Rows.laid_paymaster_block_constants : DataW Unit) = Lib.tabData .u32 kTab := rfl
theorem tab_of {W : World} (h : laidMetH Tryd.prog listC W) : Tab W := by
  rw [MakeChecks.laidMetH_plain _ _ _ (by kernel_rfl)] at h
  have h2 : laidMet Tryd.prog (("paymaster/block.constants", Lib.tabData .u32 kTab) :: []) W := h
  have hT := Lib.tabIs_of_head gC tC Tryd.underlying137 Tryd.underlying94 cE cC h2
  intro k hk
  exact hT.cell gC k hk
end Go.Proofs.YtomninikmcmmcaaDoor.Laid
end
section
/- The rows' condition on unicode/utf8's tables: the door's heap meets it, and it gives the tables in memory. -/
namespace Go.Proofs.YtomninikmcmmcaaDoor.LaidU
open Go Go.Lib Go.Proofs.YtomninikmcmmcaaDoor.GivU
set_option maxRecDepth 100000
abbrev listU : List (String × DataW Unit) := [("unicode/utf8.acceptRanges", Rows.laid_unicode_utf8_acceptRanges), ("unicode/utf8.first", Rows.laid_unicode_utf8_first)]
theorem door_met (os : Os) (args : Array Value) : laidMetH Tryd.prog listU ((World.laidAll Tryd.prog os listU).forCall (fun _ _ => 0) ⟨#[], args, []⟩).memory :=
  laidMetH_of_parts3 (fuel := 8) (laidMet_laidAll args (by kernel_rfl) (by kernel_rfl)) (by kernel_rfl) (by kernel_rfl)
theorem isA : (Rows.laid_unicode_utf8_acceptRanges : DataW Unit) = Lib.acceptData := by rfl
theorem isF : (Rows.laid_unicode_utf8_first : DataW Unit) = Lib.firstData := by rfl
theorem tab_of {W : World} (h : laidMetH Tryd.prog listU W) : TabU W := by
  rw [MakeChecks.laidMetH_plain _ _ _ (by kernel_rfl)] at h
  have h2 : laidMet Tryd.prog [("unicode/utf8.acceptRanges", Lib.acceptData), ("unicode/utf8.first", Lib.firstData)] W := by
    rw [← isA, ← isF]
    exact h
  exact utf8Tabs_of_readsT (U8Types.of196 Tryd.lays196h) ⟨by kernel_rfl, by kernel_rfl, by kernel_rfl, by kernel_rfl, by kernel_rfl, by kernel_rfl, by kernel_rfl⟩ (Lib.laidMet.reads h2 (.tail _ (.head _))) (Lib.laidMet.reads h2 (.head _))
end Go.Proofs.YtomninikmcmmcaaDoor.LaidU
end
section
/- The rows' condition on the rounds' constants and on unicode/utf8's tables: the door's heap meets it, and it gives the tables in memory. -/
namespace Go.Proofs.YtomninikmcmmcaaDoor.LaidW
open Go Go.Lib Go.Proofs.YtomninikmcmmcaaDoor.GivA Go.Proofs.YtomninikmcmmcaaDoor.GivU Go.Proofs.YtomninikmcmmcaaDoor.GivW
set_option maxRecDepth 100000
abbrev listW : List (String × DataW Unit) := [("paymaster/block.constants", Rows.laid_paymaster_block_constants), ("unicode/utf8.acceptRanges", Rows.laid_unicode_utf8_acceptRanges), ("unicode/utf8.first", Rows.laid_unicode_utf8_first)]
theorem door_met (os : Os) (args : Array Value) : laidMetH Tryd.prog listW ((World.laidAll Tryd.prog os listW).forCall (fun _ _ => 0) ⟨#[], args, []⟩).memory :=
  laidMetH_of_parts3 (fuel := 8) (laidMet_laidAll args (by kernel_rfl) (by kernel_rfl)) (by kernel_rfl) (by kernel_rfl)
theorem tab_of {W : World} (h : laidMetH Tryd.prog listW W) : Tab2 W := by
  rw [MakeChecks.laidMetH_plain _ _ _ (by kernel_rfl)] at h
  have h2 : laidMet Tryd.prog (("paymaster/block.constants", Lib.tabData .u32 kTab) :: [("unicode/utf8.acceptRanges", Lib.acceptData), ("unicode/utf8.first", Lib.firstData)]) W := by
    rw [← LaidU.isA, ← LaidU.isF]
    exact h
  refine ⟨?_, utf8Tabs_of_readsT (U8Types.of196 Tryd.lays196h) ⟨by kernel_rfl, by kernel_rfl, by kernel_rfl, by kernel_rfl, by kernel_rfl, by kernel_rfl, by kernel_rfl⟩ (Lib.laidMet.reads h2 (.tail _ (.tail _ (.head _)))) (Lib.laidMet.reads h2 (.tail _ (.head _)))⟩
  have hT := Lib.tabIs_of_head Laid.gC Laid.tC Tryd.underlying137 Tryd.underlying94 Laid.cE Laid.cC h2
  intro k hk
  exact hT.cell Laid.gC k hk
end Go.Proofs.YtomninikmcmmcaaDoor.LaidW
end
