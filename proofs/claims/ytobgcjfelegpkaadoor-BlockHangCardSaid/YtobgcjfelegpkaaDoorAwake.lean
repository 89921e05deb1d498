/- awake: the chapter's example holds of the program. -/
import Derived.Test.YtobgcjfelegpkaaDoorGivB
import Derived.Test.YtobgcjfelegpkaaDoorEval
import Derived.Test.YtobgcjfelegpkaaDoorTl
namespace Go.Proofs.YtobgcjfelegpkaaDoor.Blk
open Go.RowKit Go.Proofs.YtobgcjfelegpkaaDoor.PBw Go.Proofs.YtobgcjfelegpkaaDoor.GivA Go.Proofs.YtobgcjfelegpkaaDoorW.PrintWords Go.Proofs.YtobgcjfelegpkaaDoorW.PrintLast Go.Proofs.YtobgcjfelegpkaaDoorW.PrintMore Go.Proofs.Sp Go.Proofs.YtobgcjfelegpkaaDoor.Pure
set_option linter.unusedVariables false
set_option linter.unusedSimpArgs false
theorem first_calls (w : World) : Calls Tryd.prog 27 #[] w fun e w' => e = .returned (stv st0) ∧ Below w.heap.size w w' :=
  (block_First.calls _ _ _ _ _ _ _ _ w rfl).mono fun e w' ⟨he, hB⟩ => ⟨he, hB⟩
def abcB : ByteArray := ⟨abcBytes.toArray⟩
theorem abc_calls (w : World) : Calls Tryd.prog 86 #[] w fun e w' => e = .returned (.string abcB) ∧ Below w.heap.size w w' := by
  refine (paymasterlaw04_abc.calls abcB w ?_).mono fun e w' ⟨he, hB⟩ => ⟨he, hB⟩
  decide +kernel
theorem abcB_size : abcB.size = 64 := by decide
theorem next_abc_calls (w : World) (hT : Tab w) : Calls Tryd.prog 30 #[stv st0, .string abcB] w fun e w' => e = .returned (.tuple #[stv abcSt, .int .i64 0]) ∧ Below w.heap.size w w' := by
  have h := next_calls st0 abcB abcB_size w hT
  rw [show abcB.data.toList = abcBytes from rfl, next_abc] at h
  exact h
theorem constant_lit (a v : Int) (h : kAt a = v) (w : World) (hT : Tab w) : Calls Tryd.prog 25 #[.int .i64 a] w fun e w' => e = .returned (.int .u32 v) ∧ w = w' := h ▸ constant_same a w hT
theorem constK_calls (a : Int) (w : World) (hT : Tab w) : Calls Tryd.prog 25 #[.int .i64 a] w fun e w' => e = .returned (.int .u32 (wd (kw a))) ∧ Below w.heap.size w w' := by
  rw [wd_kw]
  exact (constant_same a w hT).mono fun e w' ⟨he, hw⟩ => ⟨he, hw ▸ Below.refl _ _⟩
theorem index_arr (x0 x1 x2 x3 x4 x5 x6 x7 : Int) (w : World) : (Instr.index 24 (.agg #[.int .u32 x0, .int .u32 x1, .int .u32 x2, .int .u32 x3, .int .u32 x4, .int .u32 x5, .int .u32 x6, .int .u32 x7]) (.int .i64 0)).run Tryd.prog w = .ok (.int .u32 x0) w := by
  unfold Instr.index
  go_simp
attribute [local go_sem high] EqA.eqSt index_arr
set_option maxHeartbeats 2000000 in
set_option maxRecDepth 100000 in
theorem awake_calls (w : World) (hT : Tab w) : Calls Tryd.prog 35 #[] w fun e w' => e = .returned (.bool true) ∧ Below w.heap.size w w' := by
  have HT := Aside0.mk hT
  clear hT
  have H1 := Aside0.mk first_calls
  have H2 := Aside0.mk abc_calls
  have H3 := Aside0.mk next_abc_calls
  have H4 := Aside0.mk next_none
  go_enter Tryd.func35, Tryd.ntmps35
  unfold stv at H1 H3 H4
  go_wp2_with fail
  refine (H1.out _).mono ?_
  rintro e w1 ⟨rfl, hb1⟩
  have B1 := Aside0.mk (hb1)
  have T1 := Aside0.mk (HT.out.keep B1.out)
  clear hb1
  go_wp2_with fail
  refine (H2.out _).mono ?_
  rintro e w2 ⟨rfl, hb2⟩
  have B2 := Aside0.mk (B1.out.trans (hb2.mono B1.out.size))
  have T2 := Aside0.mk (HT.out.keep B2.out)
  clear hb2
  go_wp2_with fail
  refine (H3.out _ T2.out).mono ?_
  rintro e w3 ⟨rfl, hb3⟩
  have B3 := Aside0.mk (B2.out.trans (hb3.mono B2.out.size))
  have T3 := Aside0.mk (HT.out.keep B3.out)
  clear hb3
  go_wp2_with fail
  refine (H1.out _).mono ?_
  rintro e w4 ⟨rfl, hb4⟩
  have B4 := Aside0.mk ((below_alloc B3.out _).trans (hb4.mono (below_alloc B3.out _).size))
  have G4 := Aside0.mk (blk_below (blk_new w3 _) hb4)
  clear hb4
  go_wp2_with fail
  refine (H4.out st0 _ (by decide) _).mono ?_
  rintro e w5 ⟨rfl, hb5⟩
  have B5 := Aside0.mk (B4.out.trans (hb5.mono B4.out.size))
  have T5 := Aside0.mk (HT.out.keep B5.out)
  have g5 := blk_below G4.out hb5
  have hc := stc_cell (s := abcSt) g5
  have hl5 := blk_lt g5
  clear hb5 g5
  go_wp2_with fail
  refine (constant_lit 0 1116352408 (by decide) _ (HT.out.keep (by (with_reducible repeat (first | exact B5.out | apply below_alloc | apply pw_below_drewN | apply below_drew))))).mono ?_
  rintro e w' ⟨rfl, rfl⟩
  go_wp2_with fail
  refine (constant_lit 63 3329325298 (by decide) _ (HT.out.keep (by (with_reducible repeat (first | exact B5.out | apply below_alloc | apply pw_below_drewN | apply below_drew))))).mono ?_
  rintro e w' ⟨rfl, rfl⟩
  go_wp2_with fail
  refine (constant_lit 64 0 (by decide) _ (HT.out.keep (by (with_reducible repeat (first | exact B5.out | apply below_alloc | apply pw_below_drewN | apply below_drew))))).mono ?_
  rintro e w' ⟨rfl, rfl⟩
  go_wp2_with fail
  refine (H1.out _).mono ?_
  rintro e w6 ⟨rfl, hb6⟩
  have B6 := Aside0.mk ((below_alloc B5.out _).trans (hb6.mono (below_alloc B5.out _).size))
  clear hb6
  go_wp2_with fail
  refine bodyPost_ret (v := .bool true) (by simp [results, Tryd.results35, go_sem]; decide) rfl ⟨rfl, B6.out⟩
end Go.Proofs.YtobgcjfelegpkaaDoor.Blk
