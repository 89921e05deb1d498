-- Printed by this session's own program (wip/xprint.py) out of the translation. Lean checks it.
import Derived.Test.YthgiglbomgbnbaaPPfx0
namespace Go.Proofs.Ythgiglbomgbnbaa.PPf
open Go.RowKit Go.Proofs.YthgiglbomgbnbaaW.PrintWords Go.Proofs.YthgiglbomgbnbaaW.PrintLast Go.Proofs.YthgiglbomgbnbaaW.PrintMore
attribute [local go_sem] max2_int min2_int max_two min_two max_three min_three max_four min_four   -- for this text's walks alone
set_option linter.unusedVariables false
set_option linter.unusedSimpArgs false

theorem eqA29 (d : Nat) (w : World) (x0 y0 : Int) (x1 y1 : Int) :
    (Op.equalIn (d + 2) 29 (.agg #[.int .u64 x0, .int .u64 x1]) (.agg #[.int .u64 y0, .int .u64 y1])).run Try.prog w = .ok (x0 == y0 && (x1 == y1)) w := by
  refine eqA_of Try.underlying29 (by kernel_rfl) ?_
  refine eqf_cons (by rfl) (by go_simp; rfl) (by go_simp; rfl) (by go_simp) ?_
  exact eqf_last (by rfl) (by go_simp; rfl) (by go_simp; rfl) (by go_simp)
theorem eqA31 (d : Nat) (w : World) (x0 y0 : ByteArray) (x1 y1 : Int) (x2 y2 : Int) (x3 y3 : Int) :
    (Op.equalIn (d + 3) 31 (.agg #[.string x0, .int .u64 x1, .int .u64 x2, .int .i64 x3]) (.agg #[.string y0, .int .u64 y1, .int .u64 y2, .int .i64 y3])).run Try.prog w = .ok (x0.toList == y0.toList && ((x1 == y1 && (x2 == y2)) && (x3 == y3))) w := by
  refine eqA_of Try.underlying31 (by kernel_rfl) ?_
  refine eqf_cons (by rfl) (by go_simp; rfl) (by go_simp; rfl) (by go_simp) ?_
  refine eqf_cons (by rfl) (by go_simp) (by go_simp) (eqA29 (d + 0) w _ _ _ _) ?_
  exact eqf_last (by rfl) (by go_simp; rfl) (by go_simp; rfl) (by go_simp)
theorem eqA33 (d : Nat) (w : World) (x0 y0 : Int) (x1 y1 : Int) (x2 y2 : Int) (x3 y3 : Int) :
    (Op.equalIn (d + 2) 33 (.agg #[.int .u8 x0, .int .i64 x1, .int .u64 x2, .int .u64 x3]) (.agg #[.int .u8 y0, .int .i64 y1, .int .u64 y2, .int .u64 y3])).run Try.prog w = .ok (x0 == y0 && (x1 == y1 && (x2 == y2 && (x3 == y3)))) w := by
  refine eqA_of Try.underlying33 (by kernel_rfl) ?_
  refine eqf_cons (by rfl) (by go_simp; rfl) (by go_simp; rfl) (by go_simp) ?_
  refine eqf_cons (by rfl) (by go_simp; rfl) (by go_simp; rfl) (by go_simp) ?_
  refine eqf_cons (by rfl) (by go_simp; rfl) (by go_simp; rfl) (by go_simp) ?_
  exact eqf_last (by rfl) (by go_simp; rfl) (by go_simp; rfl) (by go_simp)
theorem eqA35 (d : Nat) (w : World) (x0 y0 : Int) (x1 y1 : Int) (x2 y2 : ByteArray) (x3 y3 : Int) (x4 y4 : Int) (x5 y5 : Int) (x6 y6 : Int) (x7 y7 : Int) (x8 y8 : Int) (x9 y9 : Int) (x10 y10 : Int) (x11 y11 : ByteArray) :
    (Op.equalIn (d + 4) 35 (.agg #[.int .u8 x0, .int .i64 x1, .string x2, .int .u64 x3, .int .u64 x4, .int .i64 x5, .int .u8 x6, .int .i64 x7, .int .u64 x8, .int .u64 x9, .int .i64 x10, .string x11]) (.agg #[.int .u8 y0, .int .i64 y1, .string y2, .int .u64 y3, .int .u64 y4, .int .i64 y5, .int .u8 y6, .int .i64 y7, .int .u64 y8, .int .u64 y9, .int .i64 y10, .string y11])).run Try.prog w = .ok (x0 == y0 && (x1 == y1 && ((x2.toList == y2.toList && ((x3 == y3 && (x4 == y4)) && (x5 == y5))) && ((x6 == y6 && (x7 == y7 && (x8 == y8 && (x9 == y9)))) && (x10 == y10 && (x11.toList == y11.toList)))))) w := by
  refine eqA_of Try.underlying35 (by kernel_rfl) ?_
  refine eqf_cons (by rfl) (by go_simp; rfl) (by go_simp; rfl) (by go_simp) ?_
  refine eqf_cons (by rfl) (by go_simp; rfl) (by go_simp; rfl) (by go_simp) ?_
  refine eqf_cons (by rfl) (by go_simp) (by go_simp) (eqA31 (d + 0) w _ _ _ _ _ _ _ _) ?_
  refine eqf_cons (by rfl) (by go_simp) (by go_simp) (eqA33 (d + 1) w _ _ _ _ _ _ _ _) ?_
  refine eqf_cons (by rfl) (by go_simp; rfl) (by go_simp; rfl) (by go_simp) ?_
  exact eqf_last (by rfl) (by go_simp; rfl) (by go_simp; rfl) (by go_simp)
end Go.Proofs.Ythgiglbomgbnbaa.PPf
