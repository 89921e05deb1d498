/- What the arguments of the law are: each number in its kind, each string and slice within the row's bound of size. -/
import Derived.Test.YthgiglbomgbnbaaPPfx0
namespace Go.Proofs.Ythgiglbomgbnbaa.PPf
open Go.RowKit Go.Proofs.YthgiglbomgbnbaaW.PrintWords
def Good29 (x : S29) : Prop := ((Lit.int .u64 x.f0).wf = true) ∧ ((Lit.int .u64 x.f1).wf = true)
def Good31 (x : S31) : Prop := (x.f0.size ≤ 140737488351232) ∧ (Good29 x.f1) ∧ ((Lit.int .i64 x.f2).wf = true)
def Good33 (x : S33) : Prop := ((Lit.int .u8 x.f0).wf = true) ∧ ((Lit.int .i64 x.f1).wf = true) ∧ ((Lit.int .u64 x.f2).wf = true) ∧ ((Lit.int .u64 x.f3).wf = true)
def Good35 (x : S35) : Prop := ((Lit.int .u8 x.f0).wf = true) ∧ ((Lit.int .i64 x.f1).wf = true) ∧ (Good31 x.f2) ∧ (Good33 x.f3) ∧ ((Lit.int .i64 x.f4).wf = true) ∧ (x.f5.size ≤ 140737488351232)
end Go.Proofs.Ythgiglbomgbnbaa.PPf
