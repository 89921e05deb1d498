/- The law HmacSums: it answers true for every input. -/
import Derived.Test.YtomninikmcmmcaaDoorPureHmac
namespace Go.Proofs.YtomninikmcmmcaaDoor.Sha
open Go Go.RowKit Go.Proofs.YtomninikmcmmcaaDoor.GivA
set_option linter.unusedVariables false
theorem hmacSums_row (key : ByteArray) (hk : key.size ≤ 140737488351232) (m : ByteArray) (hm : m.size ≤ 140737488351232) (x : ByteArray) (hx : x.size ≤ 140737488351232) (n : Int) (hn : (Lit.int .i64 n).wf = true) (w : World) (hT : Tab w) :
    Calls Tryd.prog 6 #[.string key, .string m, .string x, .int .i64 n] w fun e w' => e = .returned (.bool true) ∧ Below w.heap.size w w' :=
  Go.Proofs.YtomninikmcmmcaaDoor.PHl.paymasterlaw06_HmacSums.calls 5000 key m x n true w hT (hmacSums_some key m x n 5000 (Nat.le_refl _))
end Go.Proofs.YtomninikmcmmcaaDoor.Sha
