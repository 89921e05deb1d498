/- What the arguments of the law are: each number in its kind, each string and slice within the row's bound of size. -/
import Derived.Test.YtdjpcogkpnemlaaOrA
namespace Go.Proofs.Ytdjpcogkpnemlaa.POr
open Go.RowKit Go.Proofs.YtdjpcogkpnemlaaW.PrintWords
def Good29 (x : S29) : Prop := ((Lit.int .u64 x.f0).wf = true) ∧ ((Lit.int .u64 x.f1).wf = true)
def Good48 (x : S48) : Prop := ((Lit.int .u8 x.f0).wf = true) ∧ (Good29 x.f1) ∧ (x.f2.size ≤ 140737488351232) ∧ ((Lit.int .i64 x.f3).wf = true)
end Go.Proofs.Ytdjpcogkpnemlaa.POr
