/- The law TagUnlike as its row calls it. -/
import Derived.Test.YtomninikmcmmcaaDoorLawUnlike
import Derived.Test.YtomninikmcmmcaaDoorLaidN
namespace Go.Proofs.YtomninikmcmmcaaDoor.Tag
open Go Go.RowKit Go.Proofs.YtomninikmcmmcaaDoorW.PrintWords Go.Proofs.YtomninikmcmmcaaDoor.GivW Go.Proofs.YtomninikmcmmcaaDoor.Kds Go.Proofs.YtomninikmcmmcaaDoor.LaidN
theorem tagUnlike_row (a : S39) (ga : Good39 a) (b : S39) (gb : Good39 b) (z : N4) (n : Int) (_ : (Lit.int .i64 n).wf = true) (w : World) (hT : Tab2 w) :
    Calls Tryd.prog 15 #[.agg #[.bool a.f0, .string a.f1, .string a.f2, .int .u64 a.f3.f0, .int .u64 a.f3.f1], .agg #[.bool b.f0, .string b.f1, .string b.f2, .int .u64 b.f3.f0, .int .u64 b.f3.f1], z.v, .int .i64 n] w fun e w' => e = .returned (.bool true) ∧ Below w.heap.size w w' :=
  Unl.tagUnlike_go a.f0 a.f1 a.f2 a.f3.f0 a.f3.f1 (wf64 ga.2.2.2.1) (wf64 ga.2.2.2.2) b.f0 b.f1 b.f2 b.f3.f0 b.f3.f1 (wf64 gb.2.2.2.1) (wf64 gb.2.2.2.2) z.h z.x z.y z.gx z.gy n w hT
end Go.Proofs.YtomninikmcmmcaaDoor.Tag
