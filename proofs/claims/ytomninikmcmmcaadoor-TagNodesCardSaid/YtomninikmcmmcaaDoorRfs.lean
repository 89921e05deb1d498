/- Texts of this session, put together: PBrx0, PBrx1, PBrx, SBlkR, PRpx0, PRpx1, PRpx, RefP, RefS, GivHr. -/
import Derived.Test.YtomninikmcmmcaaDoorProg
import Derived.Below
import Derived.Deep.Draws
import Derived.Deep.AppendLies
import Derived.Maps.AppendAt
import Derived.OwnWalk
import Derived.Laws.BytesArg
import Derived.Laws.MakeOwn
import Derived.Laws.OwnMore
import Derived.Deep.OwnRows
import Derived.Tactics
import Derived.Lib.ConvBytes
import Derived.Laws.Slices
import Derived.WalkKit
import Derived.KernelRfl
import Derived.RowKit3
import Derived.Deep.LoopGhost
import Derived.Deep.QuietTactic
import Derived.BigQuiet
import Derived.WideLaws
import Derived.Deep.DeepCutAuto
import Derived.Deep.CutBlock
import Derived.Deep.RegionHeld3
import Derived.Laws.Rows
import Derived.Lib.AppendStr
import Derived.ArgAppend
import Derived.Laws.IdiomCopy
import Derived.OrdersHeld
import Derived.Laws.BitsLemmas
import Derived.RowKit
import Derived.Test.YtomninikmcmmcaaDoorPBwA
import Derived.Test.YtomninikmcmmcaaDoorWWords
import Derived.Test.YtomninikmcmmcaaDoorWLast
import Derived.Test.YtomninikmcmmcaaDoorWTab
import Derived.Test.YtomninikmcmmcaaDoorWQPut
import Derived.Test.YtomninikmcmmcaaDoorWApart
import Derived.Test.YtomninikmcmmcaaDoorWArr
import Derived.Test.YtomninikmcmmcaaDoorWZeros
import Derived.Test.YtomninikmcmmcaaDoorWFoot
import Derived.Test.YtomninikmcmmcaaDoorWKept
import Derived.Test.YtomninikmcmmcaaDoorWShare
import Derived.Test.YtomninikmcmmcaaDoorWN
import Derived.Test.YtomninikmcmmcaaDoorWEqStruct
import Derived.Test.YtomninikmcmmcaaDoorWRepsOne
import Derived.Test.YtomninikmcmmcaaDoorWGuard
import Derived.Test.YtomninikmcmmcaaDoorWNEv
import Derived.Test.YtomninikmcmmcaaDoorWMore
import Derived.Test.YtomninikmcmmcaaDoorSk
import Derived.Test.YtomninikmcmmcaaDoorSht
import Derived.Test.YtomninikmcmmcaaDoorHm
section
-- Printed by this session's own program (wip/xprint.py) out of the translation. Lean checks it.
namespace Go.Proofs.YtomninikmcmmcaaDoor.PBr
open Go.RowKit Go.Proofs.YtomninikmcmmcaaDoorW.PrintWords Go.Proofs.YtomninikmcmmcaaDoorW.PrintLast Go.Proofs.YtomninikmcmmcaaDoorW.PrintMore Go.Proofs.YtomninikmcmmcaaDoor.PBw
attribute [local go_sem] max2_int min2_int max_two min_two max_three min_three max_four min_four   -- for this text's walks alone
set_option linter.unusedVariables false
set_option linter.unusedSimpArgs false



end Go.Proofs.YtomninikmcmmcaaDoor.PBr
end
section
-- Printed by this session's own program (wip/xprint.py) out of the translation. Lean checks it.
namespace Go.Proofs.YtomninikmcmmcaaDoor.PBr
open Go.RowKit Go.Proofs.YtomninikmcmmcaaDoorW.PrintWords Go.Proofs.YtomninikmcmmcaaDoorW.PrintLast Go.Proofs.YtomninikmcmmcaaDoorW.PrintMore Go.Proofs.YtomninikmcmmcaaDoor.PBw
attribute [local go_sem] max2_int min2_int max_two min_two max_three min_three max_four min_four   -- for this text's walks alone
set_option linter.unusedVariables false
set_option linter.unusedSimpArgs false

/-! ### paymasterref04_Start: function 93 -/
def paymasterref04_Start.f  : Option (Int × Int × Int × Int × Int × Int × Int × Int) := some (1779033703, 3144134277, 1013904242, 2773480762, 1359893119, 2600822924, 528734635, 1541459225)
set_option maxHeartbeats 8000000 in
set_option maxRecDepth 100000 in
theorem paymasterref04_Start.calls  (r1 : Int) (r2 : Int) (r3 : Int) (r4 : Int) (r5 : Int) (r6 : Int) (r7 : Int) (r8 : Int) (w : World) (h : paymasterref04_Start.f  = some (r1, r2, r3, r4, r5, r6, r7, r8)) :
    Calls Tryd.prog 93 #[] w fun e w' => e = .returned (.agg #[.int .u32 r1, .int .u32 r2, .int .u32 r3, .int .u32 r4, .int .u32 r5, .int .u32 r6, .int .u32 r7, .int .u32 r8]) ∧ Below w.heap.size w w' := by
  have hu95 := Tryd.underlying95
  have HB := Aside0.mk (Below.refl w.heap.size w)
  have H : (some (1779033703, 3144134277, 1013904242, 2773480762, 1359893119, 2600822924, 528734635, 1541459225)) = some (r1, r2, r3, r4, r5, r6, r7, r8) := h
  clear h
  simp only [Option.some.injEq, Prod.mk.injEq] at H
  obtain ⟨rfl, rfl, rfl, rfl, rfl, rfl, rfl, rfl⟩ := H
  go_enter Tryd.func93, Tryd.ntmps93
  go_wp2_with (first | ((with_reducible refine gate_dst (N := 0) rfl ?_); refine box_event ?hg (N := 0) ?hd (cs := #[.int .u32 0, .int .u32 0, .int .u32 0, .int .u32 0, .int .u32 0, .int .u32 0, .int .u32 0, .int .u32 0]) (t := 95) ?hr ?_; (case hd => rfl); (case hg => rfl); (case hr => first | (go_simp; done) | (go_simp; rfl)); intro gb101 hg w1 hbox hb; have n0_ := Aside0.mk (below_step (by repeat (first | (with_reducible first | exact HB.out | apply below_alloc | apply pw_below_drewN | apply below_drew1) | exact HB.out)) hb); have n1_ := Aside0.mk (hbox); have n2_ := Aside0.mk ((by rw [hg]; exact (below_size (by repeat (first | (with_reducible first | exact HB.out | apply below_alloc | apply pw_below_drewN | apply below_drew1) | exact HB.out))) : w.heap.size ≤ gb101)); have n3_ := Aside0.mk ((by rw [hg]; exact (below_size (by repeat (first | (with_reducible first | exact HB.out | apply below_alloc | apply pw_below_drewN | apply below_drew1) | exact HB.out))) : w.heap.size ≤ gb101)); clear HB; have HB := n0_; have BK101 := n1_; have GW101 := n2_; have GE101 := n3_; clear n0_ n1_ n2_ n3_; clear hb hbox hg; have hcz2_0 : w1.cell? ⟨gb101, 0, none⟩ = some (.int .u32 0) := (blk_cell BK101.out 0).trans rfl; have hcz2_1 : w1.cell? ⟨gb101, 1, none⟩ = some (.int .u32 0) := (blk_cell BK101.out 1).trans rfl; have hcz2_2 : w1.cell? ⟨gb101, 2, none⟩ = some (.int .u32 0) := (blk_cell BK101.out 2).trans rfl; have hcz2_3 : w1.cell? ⟨gb101, 3, none⟩ = some (.int .u32 0) := (blk_cell BK101.out 3).trans rfl; have hcz2_4 : w1.cell? ⟨gb101, 4, none⟩ = some (.int .u32 0) := (blk_cell BK101.out 4).trans rfl; have hcz2_5 : w1.cell? ⟨gb101, 5, none⟩ = some (.int .u32 0) := (blk_cell BK101.out 5).trans rfl; have hcz2_6 : w1.cell? ⟨gb101, 6, none⟩ = some (.int .u32 0) := (blk_cell BK101.out 6).trans rfl; have hcz2_7 : w1.cell? ⟨gb101, 7, none⟩ = some (.int .u32 0) := (blk_cell BK101.out 7).trans rfl; have hfz2_0 := blk_frozen BK101.out 0; have hfz2_1 := blk_frozen BK101.out 1; have hfz2_2 := blk_frozen BK101.out 2; have hfz2_3 := blk_frozen BK101.out 3; have hfz2_4 := blk_frozen BK101.out 4; have hfz2_5 := blk_frozen BK101.out 5; have hfz2_6 := blk_frozen BK101.out 6; have hfz2_7 := blk_frozen BK101.out 7))
  refine bodyPost_ret (results_cell_row rfl _ _ gb101 95 #[.int .u32 1779033703, .int .u32 3144134277, .int .u32 1013904242, .int .u32 2773480762, .int .u32 1359893119, .int .u32 2600822924, .int .u32 528734635, .int .u32 1541459225] (0, 0) _ rfl (by (with_reducible repeat (first | refine blk_drewN ?_ _ | refine blk_drew ?_ | refine blk_alloc ?_ _)); refine blk_put (cs := #[.int .u32 1779033703, .int .u32 3144134277, .int .u32 1013904242, .int .u32 2773480762, .int .u32 1359893119, .int .u32 2600822924, .int .u32 528734635, .int .u32 0]) ?_ 7 _ rfl; (with_reducible repeat (first | refine blk_drewN ?_ _ | refine blk_drew ?_ | refine blk_alloc ?_ _)); refine blk_put (cs := #[.int .u32 1779033703, .int .u32 3144134277, .int .u32 1013904242, .int .u32 2773480762, .int .u32 1359893119, .int .u32 2600822924, .int .u32 0, .int .u32 0]) ?_ 6 _ rfl; (with_reducible repeat (first | refine blk_drewN ?_ _ | refine blk_drew ?_ | refine blk_alloc ?_ _)); refine blk_put (cs := #[.int .u32 1779033703, .int .u32 3144134277, .int .u32 1013904242, .int .u32 2773480762, .int .u32 1359893119, .int .u32 0, .int .u32 0, .int .u32 0]) ?_ 5 _ rfl; (with_reducible repeat (first | refine blk_drewN ?_ _ | refine blk_drew ?_ | refine blk_alloc ?_ _)); refine blk_put (cs := #[.int .u32 1779033703, .int .u32 3144134277, .int .u32 1013904242, .int .u32 2773480762, .int .u32 0, .int .u32 0, .int .u32 0, .int .u32 0]) ?_ 4 _ rfl; (with_reducible repeat (first | refine blk_drewN ?_ _ | refine blk_drew ?_ | refine blk_alloc ?_ _)); refine blk_put (cs := #[.int .u32 1779033703, .int .u32 3144134277, .int .u32 1013904242, .int .u32 0, .int .u32 0, .int .u32 0, .int .u32 0, .int .u32 0]) ?_ 3 _ rfl; (with_reducible repeat (first | refine blk_drewN ?_ _ | refine blk_drew ?_ | refine blk_alloc ?_ _)); refine blk_put (cs := #[.int .u32 1779033703, .int .u32 3144134277, .int .u32 0, .int .u32 0, .int .u32 0, .int .u32 0, .int .u32 0, .int .u32 0]) ?_ 2 _ rfl; (with_reducible repeat (first | refine blk_drewN ?_ _ | refine blk_drew ?_ | refine blk_alloc ?_ _)); refine blk_put (cs := #[.int .u32 1779033703, .int .u32 0, .int .u32 0, .int .u32 0, .int .u32 0, .int .u32 0, .int .u32 0, .int .u32 0]) ?_ 1 _ rfl; (with_reducible repeat (first | refine blk_drewN ?_ _ | refine blk_drew ?_ | refine blk_alloc ?_ _)); refine blk_put (cs := #[.int .u32 0, .int .u32 0, .int .u32 0, .int .u32 0, .int .u32 0, .int .u32 0, .int .u32 0, .int .u32 0]) ?_ 0 _ rfl; (with_reducible repeat (first | refine blk_drewN ?_ _ | refine blk_drew ?_ | refine blk_alloc ?_ _)); exact BK101.out) Tryd.underlying95 rfl (by kernel_rfl)) rfl ?_
  exact ⟨by first | rfl | (simp [errW_none, errW_some] <;> rfl) | (simp [*, errW_none, errW_some] <;> rfl), by repeat (first | (with_reducible first | exact HB.out | apply below_alloc | apply pw_below_drewN | apply below_drew1 | refine below_set ?_ GE101.out) | exact HB.out)⟩

/-! ### paymasterref04_Table: function 92 -/
def paymasterref04_Table.f  : Option (List Int) := some (([1116352408, 1899447441, 3049323471, 3921009573, 961987163, 1508970993, 2453635748, 2870763221, 3624381080, 310598401, 607225278, 1426881987, 1925078388, 2162078206, 2614888103, 3248222580, 3835390401, 4022224774, 264347078, 604807628, 770255983, 1249150122, 1555081692, 1996064986, 2554220882, 2821834349, 2952996808, 3210313671, 3336571891, 3584528711, 113926993, 338241895, 666307205, 773529912, 1294757372, 1396182291, 1695183700, 1986661051, 2177026350, 2456956037, 2730485921, 2820302411, 3259730800, 3345764771, 3516065817, 3600352804, 4094571909, 275423344, 430227734, 506948616, 659060556, 883997877, 958139571, 1322822218, 1537002063, 1747873779, 1955562222, 2024104815, 2227730452, 2361852424, 2428436474, 2756734187, 3204031479, 3329325298] : List Int))
set_option maxHeartbeats 8000000 in
set_option maxRecDepth 100000 in
theorem paymasterref04_Table.calls  (r : List Int) (w : World) (h : paymasterref04_Table.f  = some r) :
    Calls Tryd.prog 92 #[] w fun e w' => ∃ v0_ : Value, e = .returned (v0_) ∧ Kd.R (Kd.int .u32) 94 w' w.heap.size (fun _ => True) v0_ r ∧ Below w.heap.size w w' := by
  have HB := Aside0.mk (Below.refl w.heap.size w)
  have H : (some (([1116352408, 1899447441, 3049323471, 3921009573, 961987163, 1508970993, 2453635748, 2870763221, 3624381080, 310598401, 607225278, 1426881987, 1925078388, 2162078206, 2614888103, 3248222580, 3835390401, 4022224774, 264347078, 604807628, 770255983, 1249150122, 1555081692, 1996064986, 2554220882, 2821834349, 2952996808, 3210313671, 3336571891, 3584528711, 113926993, 338241895, 666307205, 773529912, 1294757372, 1396182291, 1695183700, 1986661051, 2177026350, 2456956037, 2730485921, 2820302411, 3259730800, 3345764771, 3516065817, 3600352804, 4094571909, 275423344, 430227734, 506948616, 659060556, 883997877, 958139571, 1322822218, 1537002063, 1747873779, 1955562222, 2024104815, 2227730452, 2361852424, 2428436474, 2756734187, 3204031479, 3329325298] : List Int))) = some r := h
  clear h
  obtain ⟨y102, hy102⟩ : ∃ y_ : List Int, y_ = (([1116352408, 1899447441, 3049323471, 3921009573, 961987163, 1508970993, 2453635748, 2870763221, 3624381080, 310598401, 607225278, 1426881987, 1925078388, 2162078206, 2614888103, 3248222580, 3835390401, 4022224774, 264347078, 604807628, 770255983, 1249150122, 1555081692, 1996064986, 2554220882, 2821834349, 2952996808, 3210313671, 3336571891, 3584528711, 113926993, 338241895, 666307205, 773529912, 1294757372, 1396182291, 1695183700, 1986661051, 2177026350, 2456956037, 2730485921, 2820302411, 3259730800, 3345764771, 3516065817, 3600352804, 4094571909, 275423344, 430227734, 506948616, 659060556, 883997877, 958139571, 1322822218, 1537002063, 1747873779, 1955562222, 2024104815, 2227730452, 2361852424, 2428436474, 2756734187, 3204031479, 3329325298] : List Int)) := ⟨_, rfl⟩
  replace H : (some y102) = some r := by first | (rw [hy102]; with_reducible exact H) | (have H2_ := (Option.bind_some _ _).symm.trans H; rw [hy102]; with_reducible exact H2_) | (have H2_ := (Option.bind_some _ _).symm.trans H; with_reducible exact H2_) | with_reducible exact H | (rw [hy102]; exact H) | exact H
  have Ny102 := Aside0.mk hy102
  clear hy102
  obtain rfl := Option.some.inj H
  go_enter Tryd.func92, Tryd.ntmps92
  go_wp2_with (first | ((with_reducible refine gate_dst (N := 1) rfl ?_); refine Kd.R_lit (Kd.int .u32) _ 94 ?hg (N := 1) ?hd (xs := ([1116352408, 1899447441, 3049323471, 3921009573, 961987163, 1508970993, 2453635748, 2870763221, 3624381080, 310598401, 607225278, 1426881987, 1925078388, 2162078206, 2614888103, 3248222580, 3835390401, 4022224774, 264347078, 604807628, 770255983, 1249150122, 1555081692, 1996064986, 2554220882, 2821834349, 2952996808, 3210313671, 3336571891, 3584528711, 113926993, 338241895, 666307205, 773529912, 1294757372, 1396182291, 1695183700, 1986661051, 2177026350, 2456956037, 2730485921, 2820302411, 3259730800, 3345764771, 3516065817, 3600352804, 4094571909, 275423344, 430227734, 506948616, 659060556, 883997877, 958139571, 1322822218, 1537002063, 1747873779, 1955562222, 2024104815, 2227730452, 2361852424, 2428436474, 2756734187, 3204031479, 3329325298] : List Int)) (inner := [.int .u32 1116352408, .int .u32 1899447441, .int .u32 3049323471, .int .u32 3921009573, .int .u32 961987163, .int .u32 1508970993, .int .u32 2453635748, .int .u32 2870763221, .int .u32 3624381080, .int .u32 310598401, .int .u32 607225278, .int .u32 1426881987, .int .u32 1925078388, .int .u32 2162078206, .int .u32 2614888103, .int .u32 3248222580, .int .u32 3835390401, .int .u32 4022224774, .int .u32 264347078, .int .u32 604807628, .int .u32 770255983, .int .u32 1249150122, .int .u32 1555081692, .int .u32 1996064986, .int .u32 2554220882, .int .u32 2821834349, .int .u32 2952996808, .int .u32 3210313671, .int .u32 3336571891, .int .u32 3584528711, .int .u32 113926993, .int .u32 338241895, .int .u32 666307205, .int .u32 773529912, .int .u32 1294757372, .int .u32 1396182291, .int .u32 1695183700, .int .u32 1986661051, .int .u32 2177026350, .int .u32 2456956037, .int .u32 2730485921, .int .u32 2820302411, .int .u32 3259730800, .int .u32 3345764771, .int .u32 3516065817, .int .u32 3600352804, .int .u32 4094571909, .int .u32 275423344, .int .u32 430227734, .int .u32 506948616, .int .u32 659060556, .int .u32 883997877, .int .u32 958139571, .int .u32 1322822218, .int .u32 1537002063, .int .u32 1747873779, .int .u32 1955562222, .int .u32 2024104815, .int .u32 2227730452, .int .u32 2361852424, .int .u32 2428436474, .int .u32 2756734187, .int .u32 3204031479, .int .u32 3329325298]) (ok := fun _ => True) (okp := fun _ => True) ?hr ?hp (fun _ hk => hk) trivial (Below.refl _ _) (Nat.le_refl _) (by simp) ?_; (case hd => rfl); (case hg => rfl); (case hr => first | (go_simp; done) | (go_simp; rfl)); (case hp => exact (Reps.one (show Kd.M (Kd.int .u32) _ _ _ 1116352408 [.int .u32 1116352408] from rfl) (Reps.one (show Kd.M (Kd.int .u32) _ _ _ 1899447441 [.int .u32 1899447441] from rfl) (Reps.one (show Kd.M (Kd.int .u32) _ _ _ 3049323471 [.int .u32 3049323471] from rfl) (Reps.one (show Kd.M (Kd.int .u32) _ _ _ 3921009573 [.int .u32 3921009573] from rfl) (Reps.one (show Kd.M (Kd.int .u32) _ _ _ 961987163 [.int .u32 961987163] from rfl) (Reps.one (show Kd.M (Kd.int .u32) _ _ _ 1508970993 [.int .u32 1508970993] from rfl) (Reps.one (show Kd.M (Kd.int .u32) _ _ _ 2453635748 [.int .u32 2453635748] from rfl) (Reps.one (show Kd.M (Kd.int .u32) _ _ _ 2870763221 [.int .u32 2870763221] from rfl) (Reps.one (show Kd.M (Kd.int .u32) _ _ _ 3624381080 [.int .u32 3624381080] from rfl) (Reps.one (show Kd.M (Kd.int .u32) _ _ _ 310598401 [.int .u32 310598401] from rfl) (Reps.one (show Kd.M (Kd.int .u32) _ _ _ 607225278 [.int .u32 607225278] from rfl) (Reps.one (show Kd.M (Kd.int .u32) _ _ _ 1426881987 [.int .u32 1426881987] from rfl) (Reps.one (show Kd.M (Kd.int .u32) _ _ _ 1925078388 [.int .u32 1925078388] from rfl) (Reps.one (show Kd.M (Kd.int .u32) _ _ _ 2162078206 [.int .u32 2162078206] from rfl) (Reps.one (show Kd.M (Kd.int .u32) _ _ _ 2614888103 [.int .u32 2614888103] from rfl) (Reps.one (show Kd.M (Kd.int .u32) _ _ _ 3248222580 [.int .u32 3248222580] from rfl) (Reps.one (show Kd.M (Kd.int .u32) _ _ _ 3835390401 [.int .u32 3835390401] from rfl) (Reps.one (show Kd.M (Kd.int .u32) _ _ _ 4022224774 [.int .u32 4022224774] from rfl) (Reps.one (show Kd.M (Kd.int .u32) _ _ _ 264347078 [.int .u32 264347078] from rfl) (Reps.one (show Kd.M (Kd.int .u32) _ _ _ 604807628 [.int .u32 604807628] from rfl) (Reps.one (show Kd.M (Kd.int .u32) _ _ _ 770255983 [.int .u32 770255983] from rfl) (Reps.one (show Kd.M (Kd.int .u32) _ _ _ 1249150122 [.int .u32 1249150122] from rfl) (Reps.one (show Kd.M (Kd.int .u32) _ _ _ 1555081692 [.int .u32 1555081692] from rfl) (Reps.one (show Kd.M (Kd.int .u32) _ _ _ 1996064986 [.int .u32 1996064986] from rfl) (Reps.one (show Kd.M (Kd.int .u32) _ _ _ 2554220882 [.int .u32 2554220882] from rfl) (Reps.one (show Kd.M (Kd.int .u32) _ _ _ 2821834349 [.int .u32 2821834349] from rfl) (Reps.one (show Kd.M (Kd.int .u32) _ _ _ 2952996808 [.int .u32 2952996808] from rfl) (Reps.one (show Kd.M (Kd.int .u32) _ _ _ 3210313671 [.int .u32 3210313671] from rfl) (Reps.one (show Kd.M (Kd.int .u32) _ _ _ 3336571891 [.int .u32 3336571891] from rfl) (Reps.one (show Kd.M (Kd.int .u32) _ _ _ 3584528711 [.int .u32 3584528711] from rfl) (Reps.one (show Kd.M (Kd.int .u32) _ _ _ 113926993 [.int .u32 113926993] from rfl) (Reps.one (show Kd.M (Kd.int .u32) _ _ _ 338241895 [.int .u32 338241895] from rfl) (Reps.one (show Kd.M (Kd.int .u32) _ _ _ 666307205 [.int .u32 666307205] from rfl) (Reps.one (show Kd.M (Kd.int .u32) _ _ _ 773529912 [.int .u32 773529912] from rfl) (Reps.one (show Kd.M (Kd.int .u32) _ _ _ 1294757372 [.int .u32 1294757372] from rfl) (Reps.one (show Kd.M (Kd.int .u32) _ _ _ 1396182291 [.int .u32 1396182291] from rfl) (Reps.one (show Kd.M (Kd.int .u32) _ _ _ 1695183700 [.int .u32 1695183700] from rfl) (Reps.one (show Kd.M (Kd.int .u32) _ _ _ 1986661051 [.int .u32 1986661051] from rfl) (Reps.one (show Kd.M (Kd.int .u32) _ _ _ 2177026350 [.int .u32 2177026350] from rfl) (Reps.one (show Kd.M (Kd.int .u32) _ _ _ 2456956037 [.int .u32 2456956037] from rfl) (Reps.one (show Kd.M (Kd.int .u32) _ _ _ 2730485921 [.int .u32 2730485921] from rfl) (Reps.one (show Kd.M (Kd.int .u32) _ _ _ 2820302411 [.int .u32 2820302411] from rfl) (Reps.one (show Kd.M (Kd.int .u32) _ _ _ 3259730800 [.int .u32 3259730800] from rfl) (Reps.one (show Kd.M (Kd.int .u32) _ _ _ 3345764771 [.int .u32 3345764771] from rfl) (Reps.one (show Kd.M (Kd.int .u32) _ _ _ 3516065817 [.int .u32 3516065817] from rfl) (Reps.one (show Kd.M (Kd.int .u32) _ _ _ 3600352804 [.int .u32 3600352804] from rfl) (Reps.one (show Kd.M (Kd.int .u32) _ _ _ 4094571909 [.int .u32 4094571909] from rfl) (Reps.one (show Kd.M (Kd.int .u32) _ _ _ 275423344 [.int .u32 275423344] from rfl) (Reps.one (show Kd.M (Kd.int .u32) _ _ _ 430227734 [.int .u32 430227734] from rfl) (Reps.one (show Kd.M (Kd.int .u32) _ _ _ 506948616 [.int .u32 506948616] from rfl) (Reps.one (show Kd.M (Kd.int .u32) _ _ _ 659060556 [.int .u32 659060556] from rfl) (Reps.one (show Kd.M (Kd.int .u32) _ _ _ 883997877 [.int .u32 883997877] from rfl) (Reps.one (show Kd.M (Kd.int .u32) _ _ _ 958139571 [.int .u32 958139571] from rfl) (Reps.one (show Kd.M (Kd.int .u32) _ _ _ 1322822218 [.int .u32 1322822218] from rfl) (Reps.one (show Kd.M (Kd.int .u32) _ _ _ 1537002063 [.int .u32 1537002063] from rfl) (Reps.one (show Kd.M (Kd.int .u32) _ _ _ 1747873779 [.int .u32 1747873779] from rfl) (Reps.one (show Kd.M (Kd.int .u32) _ _ _ 1955562222 [.int .u32 1955562222] from rfl) (Reps.one (show Kd.M (Kd.int .u32) _ _ _ 2024104815 [.int .u32 2024104815] from rfl) (Reps.one (show Kd.M (Kd.int .u32) _ _ _ 2227730452 [.int .u32 2227730452] from rfl) (Reps.one (show Kd.M (Kd.int .u32) _ _ _ 2361852424 [.int .u32 2361852424] from rfl) (Reps.one (show Kd.M (Kd.int .u32) _ _ _ 2428436474 [.int .u32 2428436474] from rfl) (Reps.one (show Kd.M (Kd.int .u32) _ _ _ 2756734187 [.int .u32 2756734187] from rfl) (Reps.one (show Kd.M (Kd.int .u32) _ _ _ 3204031479 [.int .u32 3204031479] from rfl) (Reps.one (show Kd.M (Kd.int .u32) _ _ _ 3329325298 [.int .u32 3329325298] from rfl) (Reps.none _ _)))))))))))))))))))))))))))))))))))))))))))))))))))))))))))))))))); intro v103 w1 ho2 hb hg_ hnew_; clear hg_ hnew_; (first | rw [← Ny102.out] at ho2 | (simp only [Int.reduceToNat] at ho2; rw [← Ny102.out] at ho2)); have n0_ := Aside0.mk (Kd.R_lower ho2 (below_size (by repeat (first | (with_reducible first | exact HB.out | apply below_alloc | apply pw_below_drewN | apply below_drew1) | exact HB.out)))); have n1_ := Aside0.mk (below_step (by repeat (first | (with_reducible first | exact HB.out | apply below_alloc | apply pw_below_drewN | apply below_drew1) | exact HB.out)) hb); clear HB; have HO104 := n0_; have HB := n1_; clear n0_ n1_; clear hb ho2))
  go_ret
  exact ⟨_, by first | rfl | (simp [errW_none, errW_some] <;> rfl) | (simp [*, errW_none, errW_some] <;> rfl), by (with_reducible repeat (first | apply Kd.R_alloc | apply Kd.R_drewN | apply Kd.R_drew)); exact HO104.out, by repeat (first | (with_reducible first | exact HB.out | apply below_alloc | apply pw_below_drewN | apply below_drew1) | exact HB.out)⟩

/-! ### paymasterref04_right: function 107 -/
def paymasterref04_right.f (a0 : Int) (a1 : Int) : Option (Int) := if 0 ≤ a1 then (if 0 ≤ (IntKind.u64.wrap (32 - a1)) then (some (Go.bits .or .u32 (shr .u32 a0 a1) (shl .u32 a0 (IntKind.u64.wrap (32 - a1))))) else (none)) else (none)
set_option maxHeartbeats 8000000 in
set_option maxRecDepth 100000 in
theorem paymasterref04_right.calls (a0 : Int) (a1 : Int) (r : Int) (w : World) (h : paymasterref04_right.f a0 a1 = some r) :
    Calls Tryd.prog 107 #[.int .u32 a0, .int .u64 a1] w fun e w' => e = .returned (.int .u32 r) ∧ Drawn0 w w' := by
  have H : (if 0 ≤ a1 then (if 0 ≤ (IntKind.u64.wrap (32 - a1)) then (some (Go.bits .or .u32 (shr .u32 a0 a1) (shl .u32 a0 (IntKind.u64.wrap (32 - a1))))) else (none)) else (none)) = some r := h
  clear h
  by_cases c3 : 0 ≤ a1
  · rw [if_pos c3] at H
    have c3b0 := eq_true c3
    have c3b1 : decide (0 ≤ a1) = true := decide_eq_true c3
    clear c3
    obtain ⟨ji4, hji4⟩ : ∃ j_ : Int, (shr .u32 a0 a1) = j_ := ⟨_, rfl⟩
    replace H : (if 0 ≤ (IntKind.u64.wrap (32 - a1)) then (some (Go.bits .or .u32 (ji4) (shl .u32 a0 (IntKind.u64.wrap (32 - a1))))) else (none)) = some r := by first | (rw [hji4] at H; exact H) | (simp only [hji4] at H ⊢; exact H)
    have hji4_ : (a0 / 2 ^ min a1.toNat 32) = ji4 := hji4
    have hji4z : a1 ≤ 32 → (a0 / 2 ^ a1.toNat) = ji4 := shr_small hji4
    obtain ⟨ji5, hji5⟩ : ∃ j_ : Int, (IntKind.u64.wrap (32 - a1)) = j_ := ⟨_, rfl⟩
    replace H : (if 0 ≤ (ji5) then (some (Go.bits .or .u32 (ji4) (shl .u32 a0 (ji5)))) else (none)) = some r := by first | (rw [hji5] at H; exact H) | (simp only [hji5] at H ⊢; exact H)
    by_cases c6 : 0 ≤ (ji5)
    · rw [if_pos c6] at H
      have c6b0 := eq_true c6
      have c6b1 : decide (0 ≤ (ji5)) = true := decide_eq_true c6
      clear c6
      obtain ⟨ji7, hji7⟩ : ∃ j_ : Int, (shl .u32 a0 (ji5)) = j_ := ⟨_, rfl⟩
      replace H : (some (Go.bits .or .u32 (ji4) (ji7))) = some r := by first | (rw [hji7] at H; exact H) | (simp only [hji7] at H ⊢; exact H)
      have hji7_ : (IntKind.u32.wrap (a0 * 2 ^ min (ji5).toNat 32)) = ji7 := hji7
      have hji7z : (ji5) ≤ 32 → (IntKind.u32.wrap (a0 * 2 ^ (ji5).toNat)) = ji7 := shl_small hji7
      obtain rfl := Option.some.inj H
      go_enter Tryd.func107, Tryd.ntmps107
      go_wp2
      go_ret
      exact ⟨by first | rfl | (simp; done) | (simp only [← hji4, ← hji5, ← hji7] <;> (first | rfl | simp)) | (simp [*]; done), by repeat (first | exact Drawn0.refl _ | apply Drawn0.step)⟩
    · rw [if_neg c6] at H
      exact absurd H (by simp)
  · rw [if_neg c3] at H
    exact absurd H (by simp)

end Go.Proofs.YtomninikmcmmcaaDoor.PBr
end
section
-- Printed by this session's own program (wip/xprint.py) out of the translation. Lean checks it.
namespace Go.Proofs.YtomninikmcmmcaaDoor.PBr
open Go.RowKit Go.Proofs.YtomninikmcmmcaaDoorW.PrintWords Go.Proofs.YtomninikmcmmcaaDoorW.PrintLast Go.Proofs.YtomninikmcmmcaaDoorW.PrintMore
attribute [local go_sem] max2_int min2_int max_two min_two max_three min_three max_four min_four   -- for this text's walks alone
set_option linter.unusedVariables false
set_option linter.unusedSimpArgs false

end Go.Proofs.YtomninikmcmmcaaDoor.PBr
end
section
/- The reference's rounds of a block: start, table, Quick. -/
namespace Go.Proofs.YtomninikmcmmcaaDoor.Blk
open Go.RowKit Go.Proofs.YtomninikmcmmcaaDoor.PBw Go.Proofs.YtomninikmcmmcaaDoor.PBr Go.Proofs.YtomninikmcmmcaaDoor.GivA Go.Proofs.YtomninikmcmmcaaDoorW.PrintWords Go.Proofs.YtomninikmcmmcaaDoorW.PrintLast Go.Proofs.YtomninikmcmmcaaDoorW.PrintMore Go.Proofs.Sp Go.Proofs.YtomninikmcmmcaaDoor.Pure
set_option linter.unusedVariables false
set_option linter.unusedSimpArgs false

theorem stcT_cell {W : World} {B T : Nat} {s : St} (h : W.heap[B]? = some (.cells (stc s) T (0, 0))) :
    ∀ j, W.cell? ⟨B, j, none⟩ = #[Value.int .u32 (wd s.a), .int .u32 (wd s.b), .int .u32 (wd s.c), .int .u32 (wd s.d), .int .u32 (wd s.e), .int .u32 (wd s.f), .int .u32 (wd s.g), .int .u32 (wd s.h)][j]? := fun j => blk_cell h j
theorem stcT_free {W : World} {B T : Nat} {s : St} (h : W.heap[B]? = some (.cells (stc s) T (0, 0))) : ∀ j, W.frozen? ⟨B, j, none⟩ = false := fun j => blk_frozen h j
theorem below8g {w W : World} {N B : Nat} (v0 v1 v2 v3 v4 v5 v6 v7 : Value) (h : Below N w W) (hB : N ≤ B) : Below N w ((((((((W.setCell ⟨B, 0, none⟩ v0).setCell ⟨B, 1, none⟩ v1).setCell ⟨B, 2, none⟩ v2).setCell ⟨B, 3, none⟩ v3).setCell ⟨B, 4, none⟩ v4).setCell ⟨B, 5, none⟩ v5).setCell ⟨B, 6, none⟩ v6).setCell ⟨B, 7, none⟩ v7) :=
  (((((((h.setCell (p := ⟨B, 0, none⟩) hB _).setCell (p := ⟨B, 1, none⟩) hB _).setCell (p := ⟨B, 2, none⟩) hB _).setCell (p := ⟨B, 3, none⟩) hB _).setCell (p := ⟨B, 4, none⟩) hB _).setCell (p := ⟨B, 5, none⟩) hB _).setCell (p := ⟨B, 6, none⟩) hB _).setCell (p := ⟨B, 7, none⟩) hB _
end Go.Proofs.YtomninikmcmmcaaDoor.Blk

namespace Go.Proofs.YtomninikmcmmcaaDoor.Blk
open Go.RowKit Go.Proofs.YtomninikmcmmcaaDoor.PBw Go.Proofs.YtomninikmcmmcaaDoor.PBr Go.Proofs.YtomninikmcmmcaaDoor.GivA Go.Proofs.YtomninikmcmmcaaDoorW.PrintWords Go.Proofs.YtomninikmcmmcaaDoorW.PrintLast Go.Proofs.YtomninikmcmmcaaDoorW.PrintMore Go.Proofs.Sp Go.Proofs.YtomninikmcmmcaaDoor.Pure
set_option linter.unusedVariables false
set_option linter.unusedSimpArgs false

theorem start_calls (w : World) : Calls Tryd.prog 93 #[] w fun e w' => e = .returned (stv st0) ∧ Below w.heap.size w w' :=
  (paymasterref04_Start.calls _ _ _ _ _ _ _ _ w rfl).mono fun e w' ⟨he, hB⟩ => ⟨he, hB⟩
theorem stcT_at {W : World} {B T : Nat} {s : St} (h : W.heap[B]? = some (.cells (stc s) T (0, 0))) (t : Nat) (ht : t < 8) : W.cell? ⟨B, t, none⟩ = some (.int .u32 (wd (St.at s t))) := by
  rw [blk_cell h t]
  match t, ht with
  | 0, _ => rfl
  | 1, _ => rfl
  | 2, _ => rfl
  | 3, _ => rfl
  | 4, _ => rfl
  | 5, _ => rfl
  | 6, _ => rfl
  | 7, _ => rfl
end Go.Proofs.YtomninikmcmmcaaDoor.Blk

namespace Go.Proofs.YtomninikmcmmcaaDoor.Blk
open Go.RowKit Go.Proofs.YtomninikmcmmcaaDoor.PBw Go.Proofs.YtomninikmcmmcaaDoor.PBr Go.Proofs.YtomninikmcmmcaaDoor.GivA Go.Proofs.YtomninikmcmmcaaDoorW.PrintWords Go.Proofs.YtomninikmcmmcaaDoorW.PrintLast Go.Proofs.YtomninikmcmmcaaDoorW.PrintMore Go.Proofs.Sp Go.Proofs.YtomninikmcmmcaaDoor.Pure
set_option linter.unusedVariables false
set_option linter.unusedSimpArgs false
/-- A row of 64 words in memory, by what each is. -/
theorem row_of_R {w w' : World} {v : Value} {l : List Int} {base : Nat} {ok : Nat → Prop} (hl : l.length = 64) (hR : Kd.R (Kd.int .u32) 94 w' base ok v l) : ∃ B o c, v = .slice (some ⟨B, o, none⟩) 64 c ∧ 64 ≤ c ∧ B < w'.heap.size ∧ (∀ (t : Nat), t < 64 → w'.cell? ⟨B, o + t, none⟩ = some (.int .u32 (l.getD t 0))) := by
  obtain ⟨A, c, rfl, hcap, hC⟩ := Kd.R_reads hR
  rw [hl] at hC hcap ⊢
  obtain ⟨ad, rfl, h0⟩ := Kd.at_int hC 0 (by decide) (by decide)
  have hspot : ad.spot = none := World.cell?_spot (by simpa [Addr.add] using h0)
  obtain ⟨B, o, sp⟩ := ad
  obtain rfl : sp = none := hspot
  refine ⟨B, o, c, rfl, hcap, World.block_lt_of_cell? w' _ (by simpa [Addr.add] using h0), fun t ht => ?_⟩
  obtain ⟨ad2, e2, h2⟩ := Kd.at_int hC (t : Int) (by omega) (by omega)
  obtain rfl := Option.some.inj e2
  rw [Int.toNat_natCast] at h2
  have e : rd l (t : Int) = l.getD t 0 := by unfold rd; rw [Int.toNat_natCast]
  rw [← e, ← h2]
  congr 1
  unfold Addr.add
  split <;> simp_all
theorem getD_map (l : List W32) (t : Nat) : (l.map wd).getD t 0 = wd (l.getD t 0) := by
  have := rd_map l t
  unfold rd at this
  rw [Int.toNat_natCast] at this
  exact this
theorem kTab_length : kTab.length = 64 := rfl
theorem kTab_kws (t : Nat) (h : t < 64) : kTab.getD t 0 = wd (kws t) := by
  unfold kws
  rw [wd_kw]
  unfold kAt
  rw [if_neg (by omega), if_neg (by omega), Int.toNat_natCast]
theorem table_calls (w : World) : Calls Tryd.prog 92 #[] w fun e w' => ∃ B o c, e = .returned (.slice (some ⟨B, o, none⟩) 64 c) ∧ 64 ≤ c ∧ B < w'.heap.size ∧
    (∀ (t : Nat), t < 64 → w'.cell? ⟨B, o + t, none⟩ = some (.int .u32 (wd (kws t)))) ∧ Below w.heap.size w w' := by
  refine (paymasterref04_Table.calls kTab w rfl).mono ?_
  rintro e w' ⟨v, rfl, hR, hB⟩
  obtain ⟨B, o, c, rfl, h1, h2, h3⟩ := row_of_R (w := w) kTab_length hR
  refine ⟨B, o, c, rfl, h1, h2, fun t ht => ?_, hB⟩
  rw [h3 t ht, kTab_kws t ht]
def put8V (W : World) (B : Nat) (s : St) : World := ((((((((W.setCell ⟨B, 0, none⟩ (.int .u32 (wd s.a))).setCell ⟨B, 1, none⟩ (.int .u32 (wd s.b))).setCell ⟨B, 2, none⟩ (.int .u32 (wd s.c))).setCell ⟨B, 3, none⟩ (.int .u32 (wd s.d))).setCell ⟨B, 4, none⟩ (.int .u32 (wd s.e))).setCell ⟨B, 5, none⟩ (.int .u32 (wd s.f))).setCell ⟨B, 6, none⟩ (.int .u32 (wd s.g))).setCell ⟨B, 7, none⟩ (.int .u32 (wd s.h)))
theorem put8V_self {W : World} {B T : Nat} (s : St) {u0 u1 u2 u3 u4 u5 u6 u7 : Value} (h : W.heap[B]? = some (.cells #[u0, u1, u2, u3, u4, u5, u6, u7] T (0, 0))) : (put8V W B s).heap[B]? = some (.cells (stc s) T (0, 0)) :=
  put8g _ _ _ _ _ _ _ _ _ _ _ _ _ _ _ _ h
theorem put8V_below {w W : World} {N B : Nat} (s : St) (h : Below N w W) (hB : N ≤ B) : Below N w (put8V W B s) := below8g _ _ _ _ _ _ _ _ h hB
theorem below_two {w w1 : World} {o1 o2 : Obj} (h : Below ((w.alloc o1).alloc o2).heap.size ((w.alloc o1).alloc o2) w1) : Below w.heap.size w w1 :=
  (below_alloc (below_alloc (Below.refl _ w) o1) o2).trans (h.mono (by simp; omega))
end Go.Proofs.YtomninikmcmmcaaDoor.Blk

namespace Go.Proofs.YtomninikmcmmcaaDoor.Blk
open Go.RowKit Go.Proofs.YtomninikmcmmcaaDoor.PBw Go.Proofs.YtomninikmcmmcaaDoor.PBr Go.Proofs.YtomninikmcmmcaaDoor.GivA Go.Proofs.YtomninikmcmmcaaDoorW.PrintWords Go.Proofs.YtomninikmcmmcaaDoorW.PrintLast Go.Proofs.YtomninikmcmmcaaDoorW.PrintMore Go.Proofs.Sp Go.Proofs.YtomninikmcmmcaaDoor.Pure
set_option linter.unusedVariables false
set_option linter.unusedSimpArgs false
theorem refright_some (x : W32) (n : Nat) (m : Int) (hm : m = (n : Int)) (hn : n < 32) (h0 : 0 < n) : paymasterref04_right.f (wd x) m = some (wd (x.rotateRight n)) := by
  subst hm
  unfold paymasterref04_right.f
  have e2 : IntKind.u64.wrap (32 - (n : Int)) = ((32 - n : Nat) : Int) := by simp [IntKind.wrap, IntKind.bits, IntKind.signed]; omega
  rw [e2, if_pos (by omega), if_pos (by omega)]
  congr 1
  unfold shl shr
  have e3 : min ((32 - n : Nat) : Int).toNat IntKind.u32.bits = 32 - n := by show min _ 32 = _; omega
  have e4 : min (n : Int).toNat IntKind.u32.bits = n := by show min _ 32 = _; omega
  rw [e3, e4, shl_wd, shr_wd, bits_or]
  congr 1
  apply BitVec.eq_of_getLsbD_eq
  intro i hi
  simp only [BitVec.getLsbD_or, BitVec.getLsbD_ushiftRight, BitVec.getLsbD_shiftLeft, BitVec.getLsbD_rotateRight, Nat.mod_eq_of_lt hn, Bool.cond_decide]
  by_cases a : i < 32 - n
  · simp [a, hi]
  · rw [if_neg a]
    have : x.getLsbD (n + i) = false := BitVec.getLsbD_of_ge _ _ (by omega)
    simp [a, this]
theorem refright_calls (x : W32) (m : Int) (h0 : 0 < m) (h1 : m < 32) (w : World) : Calls Tryd.prog 107 #[.int .u32 (wd x), .int .u64 m] w fun e w' => e = .returned (.int .u32 (wd (x.rotateRight m.toNat))) ∧ ∃ n, w' = w.drewN n := by
  refine (paymasterref04_right.calls (wd x) m _ w (refright_some x m.toNat m (by omega) (by omega) (by omega))).mono ?_
  rintro e w' ⟨rfl, hd⟩
  exact ⟨rfl, hd.out⟩
def rowC (b : List UInt8) (t : Nat) : Array Value := ((Pure.rowAt b t).map (Value.int .u32)).toArray
theorem rowC_set (b : List UInt8) (t : Nat) (h : t < 64) : (rowC b t).setIfInBounds t (.int .u32 (wd (nextWord b (sched b t)))) = rowC b (t + 1) := by
  unfold rowC
  rw [← rowAt_set b t h, List.map_set]
  simp
theorem rowC_at (b : List UInt8) (t i : Nat) (hi : i < t) (ht : t ≤ 64) {W : World} {B T : Nat} (h : W.heap[B]? = some (.cells (rowC b t) T (0, 0))) : W.cell? ⟨B, i, none⟩ = some (.int .u32 (wd ((sched b t).getD i 0))) := by
  rw [blk_cell h i]
  have hl := rowAt_length b t ht
  have hr := rd_rowAt b t i hi
  unfold rd at hr
  rw [Int.toNat_natCast, List.getD_eq_getElem?_getD, List.getElem?_eq_getElem (by omega)] at hr
  unfold rowC
  rw [List.getElem?_toArray, List.getElem?_map, List.getElem?_eq_getElem (by omega)]
  simp only [Option.map_some, Option.getD_some] at hr ⊢
  rw [hr]
theorem rowC_some (b : List UInt8) (t i : Nat) (hi : i < 64) (ht : t ≤ 64) {W : World} {B T : Nat} (h : W.heap[B]? = some (.cells (rowC b t) T (0, 0))) : ∃ x, W.cell? ⟨B, i, none⟩ = some (.int .u32 x) := by
  have hl := rowAt_length b t ht
  refine ⟨(Pure.rowAt b t)[i]'(by omega), ?_⟩
  rw [blk_cell h i]
  unfold rowC
  rw [List.getElem?_toArray, List.getElem?_map, List.getElem?_eq_getElem (by omega)]
  rfl
theorem byte_get (b : ByteArray) (t : Nat) (h : t < b.size) : ((b[t]'h).toNat : Int) = ((b.data.toList.getD t 0).toNat : Int) := by
  have h' : t < b.data.size := h
  rw [List.getD_eq_getElem?_getD, Array.getElem?_toList, Array.getElem?_eq_getElem h']
  rfl
theorem word_first (b : ByteArray) (t : Nat) (h : t < 16) (n0 : 4 * t < b.size) (n1 : 4 * t + 1 < b.size) (n2 : 4 * t + 2 < b.size) (n3 : 4 * t + 3 < b.size) :
    Go.bits .or .u32 (Go.bits .or .u32 (Go.bits .or .u32 (((b[4 * t]'n0).toNat : Int) % 4294967296 * 16777216 % 4294967296) (((b[4 * t + 1]'n1).toNat : Int) % 4294967296 * 65536 % 4294967296)) (((b[4 * t + 2]'n2).toNat : Int) % 4294967296 * 256 % 4294967296)) (((b[4 * t + 3]'n3).toNat : Int) % 4294967296) = wd (nextWord b.data.toList (sched b.data.toList t)) := by
  rw [byte_get b _ n0, byte_get b _ n1, byte_get b _ n2, byte_get b _ n3, nextWord, sched_length, if_pos h, be4_wd]
  exact or4 _ _ _ _ (byte_lt _ _) (byte_lt _ _) (byte_lt _ _) (byte_lt _ _)
theorem quick_word (x16 x15 x7 x2 : W32) : (wd x16 + Go.bits .xor .u32 (Go.bits .xor .u32 (wd (x15.rotateRight 7)) (wd (x15.rotateRight 18))) (wd x15 / 8) + wd x7 + Go.bits .xor .u32 (Go.bits .xor .u32 (wd (x2.rotateRight 17)) (wd (x2.rotateRight 19))) (wd x2 / 1024)) % 4294967296 = wd (x16 + ss0 x15 + x7 + ss1 x2) := by
  have e3 : wd x15 / 8 = wd (x15 >>> (3 : Nat)) := shr_wd x15 3
  have e10 : wd x2 / 1024 = wd (x2 >>> (10 : Nat)) := shr_wd x2 10
  rw [e3, e10, bits_xor, bits_xor, bits_xor, bits_xor]
  simp only [← wd_add, Int.emod_add_emod, ss0, ss1]
theorem next_tail (b : List UInt8) (t : Nat) (h : 16 ≤ t) : nextWord b (sched b t) = (sched b t).getD (t - 16) 0 + ss0 ((sched b t).getD (t - 15) 0) + (sched b t).getD (t - 7) 0 + ss1 ((sched b t).getD (t - 2) 0) := by
  rw [nextWord, sched_length, if_neg (by omega)]
theorem not_wd (x : W32) : (4294967295 - wd x) % 4294967296 = wd (~~~x) := by
  unfold wd
  rw [BitVec.toNat_not]
  have := x.isLt
  omega
theorem sum7 (h x y k w b m : W32) : (wd h + wd x + wd y + wd k + wd w + (wd b + wd m)) % 4294967296 = wd (h + x + y + k + w + (b + m)) := by
  simp only [← wd_add, Int.emod_add_emod, Int.add_emod_emod]
theorem sum6 (d h x y k w : W32) : (wd d + (wd h + wd x + wd y + wd k + wd w)) % 4294967296 = wd (d + (h + x + y + k + w)) := by
  simp only [← wd_add, Int.emod_add_emod, Int.add_emod_emod]
theorem quick_a (cur : St) (k x : W32) : (wd cur.h + Go.bits .xor .u32 (Go.bits .xor .u32 (wd (cur.e.rotateRight 6)) (wd (cur.e.rotateRight 11))) (wd (cur.e.rotateRight 25)) + Go.bits .xor .u32 (Go.bits .and .u32 (wd cur.e) (wd cur.f)) (Go.bits .and .u32 ((4294967295 - wd cur.e) % 4294967296) (wd cur.g)) + wd k + wd x +
    (Go.bits .xor .u32 (Go.bits .xor .u32 (wd (cur.a.rotateRight 2)) (wd (cur.a.rotateRight 13))) (wd (cur.a.rotateRight 22)) + Go.bits .xor .u32 (Go.bits .xor .u32 (Go.bits .and .u32 (wd cur.a) (wd cur.b)) (Go.bits .and .u32 (wd cur.a) (wd cur.c))) (Go.bits .and .u32 (wd cur.b) (wd cur.c)))) % 4294967296 = wd (rnd cur k x).a := by
  rw [not_wd]
  simp only [bits_xor, bits_and]
  rw [sum7]
  congr 1
  show _ = tOf cur k x + (bs0 cur.a + maj cur.a cur.b cur.c)
  unfold tOf
  show cur.h + bs1 cur.e + ch cur.e cur.f cur.g + k + x + (bs0 cur.a + maj cur.a cur.b cur.c) = _
  ac_rfl
theorem quick_e (cur : St) (k x : W32) : (wd cur.d + (wd cur.h + Go.bits .xor .u32 (Go.bits .xor .u32 (wd (cur.e.rotateRight 6)) (wd (cur.e.rotateRight 11))) (wd (cur.e.rotateRight 25)) + Go.bits .xor .u32 (Go.bits .and .u32 (wd cur.e) (wd cur.f)) (Go.bits .and .u32 ((4294967295 - wd cur.e) % 4294967296) (wd cur.g)) + wd k + wd x)) % 4294967296 = wd (rnd cur k x).e := by
  rw [not_wd]
  simp only [bits_xor, bits_and]
  rw [sum6]
  congr 1
  show _ = cur.d + tOf cur k x
  unfold tOf
  show cur.d + (cur.h + bs1 cur.e + ch cur.e cur.f cur.g + k + x) = _
  ac_rfl
theorem heap3 (w : World) (o0 o1 o2 : Obj) : (((w.alloc o0).alloc o1).alloc o2).heap[w.heap.size]? = some o0 ∧ (((w.alloc o0).alloc o1).alloc o2).heap[w.heap.size + 1]? = some o1 ∧ (((w.alloc o0).alloc o1).alloc o2).heap[w.heap.size + 2]? = some o2 := by
  refine ⟨blk_alloc (blk_alloc (blk_new w _) _) _, blk_alloc ?_ _, ?_⟩
  · have := blk_new (w.alloc o0) o1
    rw [World.size_alloc] at this
    exact this
  · have := blk_new ((w.alloc o0).alloc o1) o2
    rw [World.size_alloc, World.size_alloc] at this
    exact this
set_option maxHeartbeats 8000000 in
set_option maxRecDepth 100000 in
theorem quick_calls (s : St) (b : ByteArray) (h64 : b.size = 64) (w : World) (BT oT cT : Nat) (hcT : 64 ≤ cT) (hBT : BT < w.heap.size) (hcell : ∀ (t : Nat), t < 64 → w.cell? ⟨BT, oT + t, none⟩ = some (.int .u32 (wd (kws t)))) :
    Calls Tryd.prog 94 #[stv s, .string b, .slice (some ⟨BT, oT, none⟩) 64 cT] w fun e w' => e = .returned (stv (next s b.data.toList)) ∧ Below w.heap.size w w' := by
  have HT := Aside0.mk hcell
  have H64 := Aside0.mk h64
  have hsz : (b.size : Int) ≤ 64 := by omega
  have hsz2 : (64 : Int) ≤ b.size := by omega
  clear hcell h64
  have HNE := Aside0.mk (show next s b.data.toList = addSt (runs (words b.data.toList) s 64) s from rfl)
  generalize next s b.data.toList = nx at *
  unfold stv
  go_enter Tryd.func94, Tryd.ntmps94
  go_wp2_with fail
  have hd := Aside0.mk (heap3 w (.cells (stc s) 95) (.cells (stc zeroSt) 95) (.cells (rowC b.data.toList 0) 137))
  have hx0 := Aside0.mk (below_alloc (below_alloc (below_alloc (Below.refl _ w) (.cells (stc s) 95)) (.cells (stc zeroSt) 95)) (.cells (rowC b.data.toList 0) 137))
  go_loopg [8] 16 (fun k i wr => ∃ t : Nat, t + k = 16 ∧ i = .int .i64 t ∧ wr.heap[w.heap.size]? = some (.cells (stc s) 95 (0, 0)) ∧ wr.heap[w.heap.size + 1]? = some (.cells (stc zeroSt) 95 (0, 0)) ∧ wr.heap[w.heap.size + 2]? = some (.cells (rowC b.data.toList t) 137 (0, 0)) ∧ Below w.heap.size w wr)
  case atStart => exact ⟨0, rfl, rfl, hd.out.1, hd.out.2.1, hd.out.2.2, hx0.out⟩
  case round =>
    obtain ⟨t, ht, rfl, hb0, hb1, hb2, hx⟩ := hrel
    have H0 := Aside0.mk hb0
    have H1 := Aside0.mk hb1
    have H2 := Aside0.mk hb2
    have HX := Aside0.mk hx
    clear hd hx0
    by_cases hlt : t < 16
    · have l1 : (t : Int) < 16 := by omega
      have m0 : 4 * (t : Int) < b.size := by omega
      have m1 : 4 * (t : Int) + 1 < b.size := by omega
      have m2 : 4 * (t : Int) + 2 < b.size := by omega
      have m3 : 4 * (t : Int) + 3 < b.size := by omega
      have q0 : 0 ≤ 4 * (t : Int) := by omega
      have q1 : 0 ≤ 4 * (t : Int) + 1 := by omega
      have q2 : 0 ≤ 4 * (t : Int) + 2 := by omega
      have q3 : 0 ≤ 4 * (t : Int) + 3 := by omega
      have n0 : 4 * t < b.size := by omega
      have n1 : 4 * t + 1 < b.size := by omega
      have n2 : 4 * t + 2 < b.size := by omega
      have n3 : 4 * t + 3 < b.size := by omega
      have LZ := Aside0.mk (fun z : Made.Later wr.heap.size wr => And.intro (Made.Later.blk hb0 (blk_lt hb0) z) (And.intro (Made.Later.blk hb1 (blk_lt hb1) z) (Made.Later.blk hb2 (blk_lt hb2) z)))
      clear hb0 hb1 hb2 hx
      go_wp2_with fail
      refine Made.region_made_tail wr.heap.size 31 (by kernel_rfl) (by kernel_rfl) ?_
      simp only [List.take_succ_cons, List.take_zero, List.drop_succ_cons, List.drop_zero]
      iterate 31 (go_big_quiet_step (fail))
      refine wpQuiet_nil ?_
      rintro _ ⟨z, rfl⟩
      obtain ⟨g0, g1, g2⟩ := LZ.out z
      have GX := Aside0.mk (HX.out.trans (z.below.mono HX.out.size))
      clear LZ
      generalize z.world = w6 at *
      obtain ⟨x0, cb⟩ := rowC_some b.data.toList t t (by omega) (by omega) g2
      have fb := blk_frozen g2 t
      have G0 := Aside0.mk g0
      have G1 := Aside0.mk g1
      have G2 := Aside0.mk g2
      clear g0 g1 g2
      go_wp2_with fail
      go_roundg (gk - 1)
      case measure => omega
      case rel =>
        refine ⟨t + 1, by omega, by go_num, blk_far G0.out (p := ⟨w.heap.size + 1 + 1, t, none⟩) (by simp; omega) _, blk_far G1.out (p := ⟨w.heap.size + 1 + 1, t, none⟩) (by simp) _, ?_, GX.out.setCell (p := ⟨w.heap.size + 1 + 1, t, none⟩) (by simp; omega) _⟩
        rw [word_first b t hlt n0 n1 n2 n3]
        exact blk_put G2.out t _ (rowC_set _ _ (by omega))
    · obtain rfl : t = 16 := by omega
      clear hb0 hb1 hb2 hx hlt ht
      go_wp2_with fail
      go_loopg [9] 48 (fun k i wr => ∃ t : Nat, 16 ≤ t ∧ t + k = 64 ∧ i = .int .i64 t ∧ wr.heap[w.heap.size]? = some (.cells (stc s) 95 (0, 0)) ∧ wr.heap[w.heap.size + 1]? = some (.cells (stc zeroSt) 95 (0, 0)) ∧ wr.heap[w.heap.size + 2]? = some (.cells (rowC b.data.toList t) 137 (0, 0)) ∧ Below w.heap.size w wr)
      case atStart => exact ⟨16, Nat.le_refl _, rfl, rfl, H0.out, H1.out, H2.out, HX.out⟩
      case round =>
        clear H0 H1 H2 HX
        obtain ⟨t, h16, ht, rfl, hb0, hb1, hb2, hx⟩ := hrel
        have H0 := Aside0.mk hb0
        have H1 := Aside0.mk hb1
        have H2 := Aside0.mk hb2
        have HX := Aside0.mk hx
        by_cases hlt : t < 64
        · have l1 : (t : Int) < 64 := by omega
          have l2 : (16 : Int) ≤ (t : Int) := by omega
          have z15 := rowC_at b.data.toList t (t - 15) (by omega) (by omega) hb2
          have z2 := rowC_at b.data.toList t (t - 2) (by omega) (by omega) hb2
          have z16 := rowC_at b.data.toList t (t - 16) (by omega) (by omega) hb2
          have z7 := rowC_at b.data.toList t (t - 7) (by omega) (by omega) hb2
          have HNW := Aside0.mk (next_tail b.data.toList t h16)
          generalize (sched b.data.toList t).getD (t - 15) 0 = x15 at *
          generalize (sched b.data.toList t).getD (t - 2) 0 = x2 at *
          generalize (sched b.data.toList t).getD (t - 16) 0 = x16 at *
          generalize (sched b.data.toList t).getD (t - 7) 0 = x7 at *
          have Z16 := Aside0.mk z16
          have Z7 := Aside0.mk z7
          clear hb0 hb1 hb2 hx z16 z7
          go_wp2_with fail
          go_quiet (fail)
          have Y16 := Aside0.mk (show (wr.drewN nq).cell? ⟨w.heap.size + 2, t - 16, none⟩ = some (.int .u32 (wd x16)) from Z16.out)
          have Y7 := Aside0.mk (show (wr.drewN nq).cell? ⟨w.heap.size + 2, t - 7, none⟩ = some (.int .u32 (wd x7)) from Z7.out)
          have G0 := Aside0.mk (blk_drewN H0.out nq)
          have G1 := Aside0.mk (blk_drewN H1.out nq)
          have G2 := Aside0.mk (blk_drewN H2.out nq)
          have GX := Aside0.mk (pw_below_drewN HX.out nq)
          clear H0 H1 H2 HX z15 z2 Z16 Z7
          generalize wr.drewN nq = w5 at *
          have LZ := Aside0.mk (fun z : Made.Later w5.heap.size w5 => And.intro (Made.Later.blk G0.out (blk_lt G0.out) z) (And.intro (Made.Later.blk G1.out (blk_lt G1.out) z) (Made.Later.blk G2.out (blk_lt G2.out) z)))
          have c16 : ∀ z : Made.Later w5.heap.size w5, z.world.cell? ⟨w.heap.size + 2, t - 16, none⟩ = some (.int .u32 (wd x16)) := Made.Later.cell Y16.out (World.block_lt_of_cell? w5 _ Y16.out)
          have c7 : ∀ z : Made.Later w5.heap.size w5, z.world.cell? ⟨w.heap.size + 2, t - 7, none⟩ = some (.int .u32 (wd x7)) := Made.Later.cell Y7.out (World.block_lt_of_cell? w5 _ Y7.out)
          go_wp2_with fail
          refine Made.region_made_tail w5.heap.size 29 (by kernel_rfl) (by kernel_rfl) ?_
          simp only [List.take_succ_cons, List.take_zero, List.drop_succ_cons, List.drop_zero]
          repeat (go_big_quiet_step ((go_at_call 107; exact Made.of_drawn (refright_calls _ _ (by decide) (by decide) _))))
          refine wpQuiet_nil ?_
          rintro _ ⟨z, rfl⟩
          obtain ⟨g0, g1, g2⟩ := LZ.out z
          have GX2 := Aside0.mk (GX.out.trans (z.below.mono GX.out.size))
          clear LZ c16 c7 G0 G1 G2 Y16 Y7
          generalize z.world = w6 at *
          obtain ⟨x0, cb⟩ := rowC_some b.data.toList t t (by omega) (by omega) g2
          have fb := blk_frozen g2 t
          have G0 := Aside0.mk g0
          have G1 := Aside0.mk g1
          have G2 := Aside0.mk g2
          clear g0 g1 g2
          go_wp2_with fail
          go_roundg (gk - 1)
          case measure => omega
          case rel =>
            refine ⟨t + 1, by omega, by omega, by go_num, blk_far G0.out (p := ⟨w.heap.size + 1 + 1, t, none⟩) (by simp; omega) _, blk_far G1.out (p := ⟨w.heap.size + 1 + 1, t, none⟩) (by simp) _, ?_, GX2.out.setCell (p := ⟨w.heap.size + 1 + 1, t, none⟩) (by simp; omega) _⟩
            rw [quick_word, ← HNW.out]
            exact blk_put G2.out t _ (rowC_set _ _ (by omega))
        · obtain rfl : t = 64 := by omega
          have c0 := stcT_cell hb0
          have hltT := Nat.lt_of_lt_of_le hBT hx.size
          have HRow := Aside0.mk (fun t (h : t < 64) => rowC_at b.data.toList 64 t h (Nat.le_refl _) hb2)
          have HTab := Aside0.mk (fun t (h : t < 64) => (hx.cell (p := ⟨BT, oT + t, none⟩) hBT).trans (HT.out t h))
          have lb2 := blk_lt hb2
          have lb0 := blk_lt hb0
          have lb1 := blk_lt hb1
          clear hb0 hb1 hb2 hx hlt ht h16
          go_wp2_with fail
          have HR2 := Aside0.mk (show ∀ t : Nat, t < 64 → wr.cell? ⟨w.heap.size + 2, t, none⟩ = some (.int .u32 (wd ((words b.data.toList).getD t 0))) from HRow.out)
          clear HRow
          generalize words b.data.toList = ws at *
          have GN := Aside0.mk (show (wr.alloc (.cells (stc s) 95)).heap[wr.heap.size]? = some (.cells (stc (runs ws s 0)) 95 (0, 0)) from blk_new wr _)
          clear c0
          obtain ⟨wo, rfl⟩ : ∃ wo : World, wo = wr := ⟨wr, rfl⟩
          go_loopg [13] 64 (fun k i wr => ∃ t : Nat, t + k = 64 ∧ i = .int .i64 t ∧ wr.heap[wo.heap.size]? = some (.cells (stc (runs ws s t)) 95 (0, 0)) ∧ Below wo.heap.size wo wr)
          case atStart => exact ⟨0, rfl, rfl, GN.out, (Below.refl _ _).alloc (Nat.le_refl _) _⟩
          case round =>
            clear GN
            obtain ⟨t, ht, rfl, hb, hx2⟩ := hrel
            have HN := Aside0.mk hb
            have HX2 := Aside0.mk hx2
            by_cases hlt : t < 64
            · have l1 : (t : Int) < 64 := by omega
              have cw := (hx2.cell (p := ⟨w.heap.size + 2, t, none⟩) lb2).trans (HR2.out t hlt)
              have ck := (hx2.cell (p := ⟨BT, oT + t, none⟩) hltT).trans (HTab.out t hlt)
              have cN := stcT_cell hb
              have e1 := Aside0.mk (show rnd (runs ws s t) (kws t) (ws.getD t 0) = runs ws s (t + 1) from rfl)
              generalize runs ws s t = cur at *
              generalize hnxt : runs ws s (t + 1) = nxt at *
              have HNX := Aside0.mk hnxt
              clear hnxt
              generalize ws.getD t 0 = xw at *
              generalize kws t = kk at *
              have CW := Aside0.mk cw
              have CK := Aside0.mk ck
              clear hb hx2
              go_wp2_with fail
              go_quiet (fail)
              have HN_A := Aside0.mk (blk_drewN HN.out nq)
              have HX_A := Aside0.mk (pw_below_drewN HX2.out nq)
              have CW_A := Aside0.mk (show (wr.drewN nq).cell? ⟨w.heap.size + 2, t, none⟩ = some (.int .u32 (wd xw)) from CW.out)
              have CK_A := Aside0.mk (show (wr.drewN nq).cell? ⟨BT, oT + t, none⟩ = some (.int .u32 (wd kk)) from CK.out)
              clear HN HX2 CW CK cw ck cN
              have HN := HN_A
              have HX2 := HX_A
              have CW := CW_A
              have CK := CK_A
              clear HN_A HX_A CW_A CK_A
              generalize wr.drewN nq = wr at *
              have cN := stcT_cell HN.out
              have cw := CW.out
              have ck := CK.out
              go_wp2_with fail
              go_quiet (fail)
              have HN_A := Aside0.mk (blk_drewN HN.out nq)
              have HX_A := Aside0.mk (pw_below_drewN HX2.out nq)
              have CW_A := Aside0.mk (show (wr.drewN nq).cell? ⟨w.heap.size + 2, t, none⟩ = some (.int .u32 (wd xw)) from CW.out)
              have CK_A := Aside0.mk (show (wr.drewN nq).cell? ⟨BT, oT + t, none⟩ = some (.int .u32 (wd kk)) from CK.out)
              clear HN HX2 CW CK cw ck cN
              have HN := HN_A
              have HX2 := HX_A
              have CW := CW_A
              have CK := CK_A
              clear HN_A HX_A CW_A CK_A
              generalize wr.drewN nq = wr at *
              have cN := stcT_cell HN.out
              have cw := CW.out
              have ck := CK.out
              go_wp2_with fail
              go_quiet ((go_at_call 107; exact Calls.quiet_of (refright_calls _ _ (by decide) (by decide) _)))
              have HN_A := Aside0.mk (blk_drewN HN.out nq)
              have HX_A := Aside0.mk (pw_below_drewN HX2.out nq)
              have CW_A := Aside0.mk (show (wr.drewN nq).cell? ⟨w.heap.size + 2, t, none⟩ = some (.int .u32 (wd xw)) from CW.out)
              have CK_A := Aside0.mk (show (wr.drewN nq).cell? ⟨BT, oT + t, none⟩ = some (.int .u32 (wd kk)) from CK.out)
              clear HN HX2 CW CK cw ck cN
              have HN := HN_A
              have HX2 := HX_A
              have CW := CW_A
              have CK := CK_A
              clear HN_A HX_A CW_A CK_A
              generalize wr.drewN nq = wr at *
              have cN := stcT_cell HN.out
              have cw := CW.out
              have ck := CK.out
              go_wp2_with fail
              refine (refright_calls _ _ (by decide) (by decide) _).mono ?_
              rintro e w' ⟨rfl, n1, rfl⟩
              go_wp2_with fail
              refine (refright_calls _ _ (by decide) (by decide) _).mono ?_
              rintro e w' ⟨rfl, n2, rfl⟩
              go_wp2_with fail
              refine (refright_calls _ _ (by decide) (by decide) _).mono ?_
              rintro e w' ⟨rfl, n3, rfl⟩
              have fN := stcT_free HN.out
              go_wp2_with fail
              go_roundg (gk - 1)
              case measure => omega
              case rel =>
                refine ⟨t + 1, by omega, by go_num, ?_, below8g _ _ _ _ _ _ _ _ (pw_below_drewN HX2.out _) (Nat.le_refl _)⟩
                rw [quick_a, quick_e, HNX.out, ← e1.out]
                exact put8g _ _ _ _ _ _ _ _ _ _ _ _ _ _ _ _ (blk_drewN HN.out _)
            · obtain rfl : t = 64 := by omega
              have b0' := Aside0.mk (blk_below H0.out hx2)
              have b1' := Aside0.mk (blk_below H1.out hx2)
              clear hb hx2 hlt ht
              generalize runs ws s 64 = cur at *
              have G1 := Aside0.mk (show wr.heap[wo.heap.size]? = some (.cells (stc (mixSt cur s 0)) 95 (0, 0)) from HN.out)
              go_wp2_with fail
              go_loopg [22] 8 (fun k i wq => ∃ t : Nat, t + k = 8 ∧ i = .int .i64 t ∧ wq.heap[wo.heap.size]? = some (.cells (stc (mixSt cur s t)) 95 (0, 0)) ∧ Below wo.heap.size wo wq)
              case atStart => exact ⟨0, rfl, rfl, G1.out, HX2.out⟩
              case round =>
                obtain ⟨t, ht, rfl, hb, hx3⟩ := hrel
                have HX3 := Aside0.mk hx3
                have HE2 := Aside0.mk hb
                have bs := blk_below H0.out hx3
                have br := blk_below H1.out hx3
                by_cases hlt : t < 8
                · have c1 := stcT_at hb t hlt
                  rw [mixSt_at _ _ _ hlt] at c1
                  have c2 := stcT_at bs t hlt
                  have f1 := stcT_free hb t
                  generalize hp : St.at cur t = p at *
                  generalize hq : St.at s t = q at *
                  have Hp := Aside0.mk hp
                  have Hq := Aside0.mk hq
                  have l1 : (t : Int) < 8 := by omega
                  clear hb hx3 bs br hp hq
                  go_wp2_with fail
                  go_region
                  all_goals
                    go_wp2_with fail
                    go_roundg (gk - 1)
                    case measure => omega
                    case rel =>
                      refine ⟨t + 1, by omega, by go_num, ?_, ?_⟩
                      · refine blk_drew ?_
                        rw [wd_add, ← Hp.out, ← Hq.out]
                        exact blk_put HE2.out t _ (mixSt_set _ _ _ hlt)
                      · exact (HX3.out.setCell (p := ⟨wo.heap.size, t, none⟩) (Nat.le_refl _) _).drew
                · obtain rfl : t = 8 := by omega
                  have e8 : mixSt cur s 8 = nx := by rw [HNE.out]; rfl
                  rw [e8] at hb
                  have c1 := stcT_cell hb
                  have c2 := stcT_cell br
                  have f2 := stcT_free br
                  clear hb hx3 bs hlt e8 HNE
                  go_wp2_with fail
                  refine bodyPost_ret (v := stv nx) (by unfold stv; simp [results, Tryd.results94, go_sem, c2]) rfl ⟨rfl, ?_⟩
                  exact put8V_below nx (HX.out.trans (HX3.out.mono HX.out.size)) (by omega)
end Go.Proofs.YtomninikmcmmcaaDoor.Blk
end
section
-- Printed by this session's own program (wip/xprint.py) out of the translation. Lean checks it.
namespace Go.Proofs.YtomninikmcmmcaaDoor.PRp
open Go.RowKit Go.Proofs.YtomninikmcmmcaaDoorW.PrintWords Go.Proofs.YtomninikmcmmcaaDoorW.PrintLast Go.Proofs.YtomninikmcmmcaaDoorW.PrintMore Go.Proofs.YtomninikmcmmcaaDoor.PBw
attribute [local go_sem] max2_int min2_int max_two min_two max_three min_three max_four min_four   -- for this text's walks alone
set_option linter.unusedVariables false
set_option linter.unusedSimpArgs false



theorem info5 : (Tryd.prog.info? 5).map (fun i => (i.zero, i.size, i.bytes)) = some (some (.int .u8 0), 1, 1) := by kernel_rfl
-- the values' own types

end Go.Proofs.YtomninikmcmmcaaDoor.PRp
end
section
-- Printed by this session's own program (wip/xprint.py) out of the translation. Lean checks it.
namespace Go.Proofs.YtomninikmcmmcaaDoor.PRp
open Go.RowKit Go.Proofs.YtomninikmcmmcaaDoorW.PrintWords Go.Proofs.YtomninikmcmmcaaDoorW.PrintLast Go.Proofs.YtomninikmcmmcaaDoorW.PrintMore Go.Proofs.YtomninikmcmmcaaDoor.PBw
attribute [local go_sem] max2_int min2_int max_two min_two max_three min_three max_four min_four   -- for this text's walks alone
set_option linter.unusedVariables false
set_option linter.unusedSimpArgs false

/-! ### paymasterref05_Padding: function 91 -/
mutual
def paymasterref05_Padding.l0 : Nat → Int → List Int → Option (ByteArray)
  | 0, _, _ => none
  | k + 1, x0, x3 => if (Int.tmod (IntKind.u64.wrap (x0 + (IntKind.u64.wrap ((x3.length : Int))))) 64) = 56 then (paymasterref05_Padding.l1 k x3 (IntKind.u64.wrap (x0 * 8)) ([] : List Int) 0) else (if x3.length < 140737488355328 then (paymasterref05_Padding.l0 k x0 (x3 ++ [0])) else (none))
def paymasterref05_Padding.l1 : Nat → List Int → Int → List Int → Int → Option (ByteArray)
  | 0, _, _, _, _ => none
  | k + 1, x3, x4, x5, x6 => if x6 < 8 then ((some (([(Int.tmod x4 256) % 256] : List Int) : List Int)).bind fun y107 => (if y107.length + x5.length < 140737488355328 then (paymasterref05_Padding.l1 k x3 (IntKind.u64.wrap (Int.tdiv x4 256)) (y107 ++ x5) (wrap64 (x6 + 1))) else (none))) else (if x3.length + x5.length < 140737488355328 then (some (strOfNums (x3 ++ x5))) else (none))
end
def paymasterref05_Padding.f (k : Nat) (a0 : Int) : Option (ByteArray) := paymasterref05_Padding.l0 k a0 (([128] : List Int))
theorem paymasterref05_Padding.mono_l : ∀ k, (∀ y0 y1, LeO (paymasterref05_Padding.l0 k y0 y1) (paymasterref05_Padding.l0 (k + 1) y0 y1)) ∧ (∀ y0 y1 y2 y3, LeO (paymasterref05_Padding.l1 k y0 y1 y2 y3) (paymasterref05_Padding.l1 (k + 1) y0 y1 y2 y3))
  | 0 => ⟨fun _ _ r h => by simp [paymasterref05_Padding.l0] at h, fun _ _ _ _ r h => by simp [paymasterref05_Padding.l1] at h⟩
  | k + 1 => by
    obtain ⟨ih0, ih1⟩ := paymasterref05_Padding.mono_l k
    refine ⟨?_, ?_⟩
    · intro y0 y1
      unfold paymasterref05_Padding.l0
      repeat' first
      | (with_reducible exact ih0 _ _)
      | (with_reducible exact ih1 _ _ _ _)
      | (with_reducible exact LeO.refl _)
      | (with_reducible exact LeO.none _)
      | (with_reducible refine LeO.ite ?_ ?_)
      | (with_reducible refine LeO.bind ?_ (fun _ => ?_))
      | exact ih0 _ _
      | exact ih1 _ _ _ _
      | exact LeO.none _
      | refine LeO.ite ?_ ?_
      | refine LeO.bind ?_ (fun _ => ?_)
    · intro y0 y1 y2 y3
      unfold paymasterref05_Padding.l1
      repeat' first
      | (with_reducible exact ih0 _ _)
      | (with_reducible exact ih1 _ _ _ _)
      | (with_reducible exact LeO.refl _)
      | (with_reducible exact LeO.none _)
      | (with_reducible refine LeO.ite ?_ ?_)
      | (with_reducible refine LeO.bind ?_ (fun _ => ?_))
      | exact ih0 _ _
      | exact ih1 _ _ _ _
      | exact LeO.none _
      | refine LeO.ite ?_ ?_
      | refine LeO.bind ?_ (fun _ => ?_)
theorem paymasterref05_Padding.mono : ∀ a0 k, LeO (paymasterref05_Padding.f k a0) (paymasterref05_Padding.f (k + 1) a0) := by
  intro a0 k
  obtain ⟨ih0, ih1⟩ := paymasterref05_Padding.mono_l k
  unfold paymasterref05_Padding.f
  repeat' first
      | (with_reducible exact ih0 _ _)
      | (with_reducible exact ih1 _ _ _ _)
      | (with_reducible exact LeO.refl _)
      | (with_reducible exact LeO.none _)
      | (with_reducible refine LeO.ite ?_ ?_)
      | (with_reducible refine LeO.bind ?_ (fun _ => ?_))
      | exact ih0 _ _
      | exact ih1 _ _ _ _
      | exact LeO.none _
      | refine LeO.ite ?_ ?_
      | refine LeO.bind ?_ (fun _ => ?_)
set_option maxHeartbeats 8000000 in
set_option maxRecDepth 100000 in
theorem paymasterref05_Padding.calls (k : Nat) (a0 : Int) (r : ByteArray) (w : World) (h : paymasterref05_Padding.f k a0 = some r) :
    Calls Tryd.prog 91 #[.int .u64 a0] w fun e w' => e = .returned (.string r) ∧ Below w.heap.size w w' := by
  have HB := Aside0.mk (Below.refl w.heap.size w)
  have H : (paymasterref05_Padding.l0 k a0 (([128] : List Int))) = some r := h
  clear h
  obtain ⟨y101, hy101⟩ : ∃ y_ : List Int, y_ = (([128] : List Int)) := ⟨_, rfl⟩
  replace H : (paymasterref05_Padding.l0 k a0 y101) = some r := by first | (rw [hy101]; with_reducible exact H) | (have H2_ := (Option.bind_some _ _).symm.trans H; rw [hy101]; with_reducible exact H2_) | (have H2_ := (Option.bind_some _ _).symm.trans H; with_reducible exact H2_) | with_reducible exact H | (rw [hy101]; exact H) | exact H
  have Ny101 := Aside0.mk hy101
  clear hy101
  have H' := Aside0.mk H
  clear H
  go_enter Tryd.func91, Tryd.ntmps91
  go_wp2_with (first | ((with_reducible refine gate_dst (N := 7) rfl ?_); refine Kd.R_lit (Kd.int .u8) _ 5 ?hg (N := 7) ?hd (xs := ([128] : List Int)) (inner := [.int .u8 128]) (ok := fun _ => True) (okp := fun _ => True) ?hr ?hp (fun _ hk => hk) trivial (Below.refl _ _) (Nat.le_refl _) (by simp) ?_; (case hd => rfl); (case hg => rfl); (case hr => first | (go_simp; done) | (go_simp; rfl)); (case hp => exact (Reps.one (show Kd.M (Kd.int .u8) _ _ _ 128 [.int .u8 128] from rfl) (Reps.none _ _))); intro v102 w2 ho3 hb hg_ hnew_; clear hg_ hnew_; (first | rw [← Ny101.out] at ho3 | (simp only [Int.reduceToNat] at ho3; rw [← Ny101.out] at ho3)); have n0_ := Aside0.mk (Kd.R_lower ho3 (below_size (by repeat (first | (with_reducible first | exact HB.out | apply below_alloc | apply pw_below_drewN | apply below_drew1) | exact HB.out)))); have n1_ := Aside0.mk (below_step (by repeat (first | (with_reducible first | exact HB.out | apply below_alloc | apply pw_below_drewN | apply below_drew1) | exact HB.out)) hb); clear HB; have HO103 := n0_; have HB := n1_; clear n0_ n1_; clear hb ho3))
  go_loopg [3] k (fun kq v3 w' => ∃ (x3_1 : List Int), Aside0 (paymasterref05_Padding.l0 kq a0 x3_1 = some r) ∧ Aside0 (kq ≤ k) ∧ Aside0 (Kd.R (Kd.int .u8) 5 w' w.heap.size (fun _ => True) v3 x3_1) ∧ Aside0 (Below w.heap.size w w'))
  case atStart => exact ⟨(y101), H', ⟨Nat.le_refl _⟩, ⟨by (with_reducible repeat (first | apply Kd.R_alloc | apply Kd.R_drewN | apply Kd.R_drew)); exact HO103.out⟩, ⟨by repeat (first | (with_reducible first | exact HB.out | apply below_alloc | apply pw_below_drewN | apply below_drew1) | exact HB.out)⟩⟩
  case round =>
    clear H'
    try clear p2
    obtain ⟨x3_1, HA, HK1, HO_3, HB⟩ := hrel
    cases gk with
    | zero => exact absurd HA.out (by simp [paymasterref05_Padding.l0])
    | succ k1 =>
      have H := HA.out
      clear HA
      simp only [paymasterref05_Padding.l0] at H
      by_cases c4 : (Int.tmod (IntKind.u64.wrap (a0 + (IntKind.u64.wrap ((x3_1.length : Int))))) 64) = 56
      · rw [if_pos c4] at H
        have c4b0 : ((Int.tmod (IntKind.u64.wrap (a0 + (IntKind.u64.wrap ((x3_1.length : Int))))) 64) == 56) = true := beq_iff_eq.mpr c4
        have c4b1 : ((Int.tmod (IntKind.u64.wrap (a0 + (IntKind.u64.wrap ((x3_1.length : Int))))) 64) != 56) = false := bne_eq_false_iff_eq.mpr c4
        clear c4
        have H' := Aside0.mk H
        clear H
        obtain ⟨Ao5, co5, eo5⟩ := Kd.R_slice HO_3.out
        subst eo5
        go_wp2
        go_loopg [4, 5, 6] k1 (fun kq v4 v5 v6 w' => ∃ (x4_2 : Int) (x5_2 : List Int) (x6_2 : Int), v4 = .int .u64 x4_2 ∧ v6 = .int .i64 x6_2 ∧ Aside0 (paymasterref05_Padding.l1 kq x3_1 x4_2 x5_2 x6_2 = some r) ∧ Aside0 (kq ≤ k1) ∧ Aside0 (Kd.R (Kd.int .u8) 5 w' w.heap.size (fun k_ => some k_ ≠ (v5 : Value).ownBlock) (.slice Ao5 x3_1.length co5) x3_1) ∧ Aside0 (Kd.R (Kd.int .u8) 5 w' w.heap.size (fun k_ => some k_ ≠ ((.slice Ao5 x3_1.length co5) : Value).ownBlock) v5 x5_2) ∧ Aside0 (Below w.heap.size w w'))
        case atStart => exact ⟨(IntKind.u64.wrap (a0 * 8)), (([] : List Int)), (0), (by first | rfl | (simp; done) | (simp [*]; done)), (by first | rfl | (simp; done) | (simp [*]; done)), H', ⟨Nat.le_refl _⟩, ⟨by (with_reducible repeat (first | apply Kd.R_alloc | apply Kd.R_drewN | apply Kd.R_drew)); exact Kd.R_mono HO_3.out (fun _ hk => (by simp [Value.ownBlock]))⟩, ⟨by first | exact Kd.R_nil _ _ _ _ _ | exact Kd.N_nil _ _ _ _ _ | exact Kd.V_nil _ _ _ _ _ | exact Kd.Q_nil _ _ _ _ _ | exact Kd.S_nil _ _ _ _ _⟩, ⟨by repeat (first | (with_reducible first | exact HB.out | apply below_alloc | apply pw_below_drewN | apply below_drew1) | exact HB.out)⟩⟩
        case round =>
          clear H'
          try clear p2
          try clear c4
          try clear c4b0
          try clear c4b1
          try clear p2
          obtain ⟨x4_2, x5_2, x6_2, rfl, rfl, HA, HK2, HO_3, HO_5, HB⟩ := hrel
          cases gk with
          | zero => exact absurd HA.out (by simp [paymasterref05_Padding.l1])
          | succ k2 =>
            have H := HA.out
            clear HA
            simp only [paymasterref05_Padding.l1] at H
            by_cases c6 : x6_2 < 8
            · rw [if_pos c6] at H
              have c6b0 : decide (x6_2 < 8) = true := decide_eq_true c6
              clear c6
              obtain ⟨y107, hy107⟩ : ∃ y_ : List Int, y_ = (([(Int.tmod x4_2 256) % 256] : List Int)) := ⟨_, rfl⟩
              replace H : (if y107.length + x5_2.length < 140737488355328 then (paymasterref05_Padding.l1 k2 x3_1 (IntKind.u64.wrap (Int.tdiv x4_2 256)) (y107 ++ x5_2) (wrap64 (x6_2 + 1))) else (none)) = some r := by first | (rw [hy107]; with_reducible exact H) | (have H2_ := (Option.bind_some _ _).symm.trans H; rw [hy107]; with_reducible exact H2_) | (have H2_ := (Option.bind_some _ _).symm.trans H; with_reducible exact H2_) | with_reducible exact H | (rw [hy107]; exact H) | exact H
              have Ny107 := Aside0.mk hy107
              clear hy107
              by_cases c7 : y107.length + x5_2.length < 140737488355328
              · rw [if_pos c7] at H
                have LMc7 := Aside0.mk c7
                clear c7
                obtain ⟨y110, hy110⟩ : ∃ y_ : List Int, y_ = (y107 ++ x5_2) := ⟨_, rfl⟩
                replace H : (paymasterref05_Padding.l1 k2 x3_1 (IntKind.u64.wrap (Int.tdiv x4_2 256)) y110 (wrap64 (x6_2 + 1))) = some r := by first | (rw [hy110]; with_reducible exact H) | (have H2_ := (Option.bind_some _ _).symm.trans H; rw [hy110]; with_reducible exact H2_) | (have H2_ := (Option.bind_some _ _).symm.trans H; with_reducible exact H2_) | with_reducible exact H | (rw [hy110]; exact H) | exact H
                have Ny110 := Aside0.mk hy110
                clear hy110
                have H' := Aside0.mk H
                clear H
                go_wp2_with (first | ((with_reducible refine gate_dst (N := 27) rfl ?_); refine Kd.R_lit (Kd.int .u8) _ 5 ?hg (N := 27) ?hd (xs := ([(Int.tmod x4_2 256) % 256] : List Int)) (inner := [.int .u8 ((Int.tmod x4_2 256) % 256)]) (ok := fun _ => True) (okp := fun _ => True) ?hr ?hp (fun _ hk => hk) trivial (Below.refl _ _) (Nat.le_refl _) (by simp) ?_; (case hd => rfl); (case hg => rfl); (case hr => first | (go_simp; done) | (go_simp; rfl)); (case hp => exact (Reps.one (show Kd.M (Kd.int .u8) _ _ _ ((Int.tmod x4_2 256) % 256) [.int .u8 ((Int.tmod x4_2 256) % 256)] from rfl) (Reps.none _ _))); intro v108 w8 ho9 hb hg_ hnew_; clear hg_ hnew_; (first | rw [← Ny107.out] at ho9 | (simp only [Int.reduceToNat] at ho9; rw [← Ny107.out] at ho9)); have n0_ := Aside0.mk (Kd.R_elder' (by (with_reducible repeat (first | apply Kd.R_alloc | apply Kd.R_drewN | apply Kd.R_drew)); exact HO_3.out) (Kd.R_base ho9) hb); have n1_ := Aside0.mk (Kd.R_elder' (by (with_reducible repeat (first | apply Kd.R_alloc | apply Kd.R_drewN | apply Kd.R_drew)); exact HO_5.out) (Kd.R_base ho9) hb); have n2_ := Aside0.mk (Kd.R_lower (Kd.R_new' (Kd.R_new' ho9 (Kd.R_lt (by (with_reducible repeat (first | apply Kd.R_alloc | apply Kd.R_drewN | apply Kd.R_drew)); exact HO_3.out))) (Kd.R_lt (by (with_reducible repeat (first | apply Kd.R_alloc | apply Kd.R_drewN | apply Kd.R_drew)); exact HO_5.out))) (below_size (by repeat (first | (with_reducible first | exact HB.out | apply below_alloc | apply pw_below_drewN | apply below_drew1) | exact HB.out)))); have n3_ := Aside0.mk (below_step (by repeat (first | (with_reducible first | exact HB.out | apply below_alloc | apply pw_below_drewN | apply below_drew1) | exact HB.out)) hb); clear HO_3; clear HO_5; clear HB; have HO_3 := n0_; have HO_5 := n1_; have HO109 := n2_; have HB := n3_; clear n0_ n1_ n2_ n3_; clear hb ho9; obtain ⟨Ao11, co11, eo11⟩ := Kd.R_slice HO_5.out; subst eo11) | ((with_reducible refine gate_builtin (b := .append) (xs := #[.tmp 27, .tmp 28]) rfl ?_); at_builtin; refine Kd.R_append_rows (Kd.int .u8) (w0 := w) w.heap.size rfl (.tmp 27) (.tmp 28) 65 5 (.int .u8 0) 1 rfl Tryd.underlying65 info5 rfl (by decide) (by omega) v108 y107 x5_2 _ _ _ (fun k_ => some k_ ≠ (.slice Ao5 x3_1.length co5 : Value).ownBlock ∧ some k_ ≠ (.slice Ao11 x5_2.length co11 : Value).ownBlock) (fun _ => False) rfl rfl ?aO ?aR (fun _ _ h => h) (fun _ h => h.elim) ?aF ?aB ?aS ?aL ?_; (case aR => repeat (first | exact (Kd.R_reads' HO_5.out).2.2 | (with_reducible refine Kd.C_alloc ?_ _) | (with_reducible refine Kd.C_drewN ?_ _) | (with_reducible refine Kd.C_drew ?_))); (case aB => exact (by repeat (first | (with_reducible first | exact HB.out | apply below_alloc | apply pw_below_drewN | apply below_drew1) | exact HB.out))); (case aF => exact (fun k_ hk => ⟨Kd.fresh' (Kd.R_lt (by (with_reducible repeat (first | apply Kd.R_alloc | apply Kd.R_drewN | apply Kd.R_drew)); exact HO_3.out)) k_ hk, Kd.fresh' (Kd.R_lt (by (with_reducible repeat (first | apply Kd.R_alloc | apply Kd.R_drewN | apply Kd.R_drew)); exact HO_5.out)) k_ hk⟩)); (case aO => exact (by (with_reducible repeat (first | apply Kd.R_alloc | apply Kd.R_drewN | apply Kd.R_drew)); exact Kd.R_mono HO109.out (fun _ hk => ⟨hk.1.2, hk.2⟩))); (case aS => exact (below_size (by repeat (first | (with_reducible first | exact HB.out | apply below_alloc | apply pw_below_drewN | apply below_drew1) | exact HB.out)))); (case aL => have := LMc7.out; omega); intro v111 w10 ho hb hg hat; rw [← Ny110.out] at ho; have n0_ := Aside0.mk (Kd.R_after (ok := (fun k_ => some k_ ≠ (.slice Ao11 x5_2.length co11 : Value).ownBlock)) (by (with_reducible repeat (first | apply Kd.R_alloc | apply Kd.R_drewN | apply Kd.R_drew)); exact HO_3.out) hg hat); have n1_ := Aside0.mk (Kd.R_after (ok := (fun k_ => some k_ ≠ (.slice Ao5 x3_1.length co5 : Value).ownBlock)) (by (with_reducible repeat (first | apply Kd.R_alloc | apply Kd.R_drewN | apply Kd.R_drew)); exact HO_5.out) hg hat); have n2_ := Aside0.mk (hb); have n3_ := Aside0.mk (ho); clear HO_3; clear HO_5; clear HB; clear HO109; have HO_3 := n0_; have HO_5 := n1_; have HB := n2_; have HO112 := n3_; clear n0_ n1_ n2_ n3_; clear ho hb hg hat))
                go_roundg k2
                case measure => have := HK1.out; have := HK2.out; omega
                case rel => exact ⟨(IntKind.u64.wrap (Int.tdiv x4_2 256)), (y110), (wrap64 (x6_2 + 1)), (by first | rfl | (simp; done) | (simp [*]; done)), (by first | rfl | (simp; done) | (simp [*]; done)), H', ⟨by have := HK1.out; have := HK2.out; omega⟩, ⟨by (with_reducible repeat (first | apply Kd.R_alloc | apply Kd.R_drewN | apply Kd.R_drew)); exact Kd.R_mono HO_3.out (fun _ hk => hk.2)⟩, ⟨by (with_reducible repeat (first | apply Kd.R_alloc | apply Kd.R_drewN | apply Kd.R_drew)); exact Kd.R_mono HO112.out (fun _ hk => hk.1)⟩, ⟨by repeat (first | (with_reducible first | exact HB.out | apply below_alloc | apply pw_below_drewN | apply below_drew1) | exact HB.out)⟩⟩
              · rw [if_neg c7] at H
                exact absurd H (by simp)
            · rw [if_neg c6] at H
              have c6b0 : decide (x6_2 < 8) = false := decide_eq_false c6
              clear c6
              by_cases c12 : x3_1.length + x5_2.length < 140737488355328
              · rw [if_pos c12] at H
                have LMc12 := Aside0.mk c12
                clear c12
                obtain ⟨y113, hy113⟩ : ∃ y_ : List Int, y_ = (x3_1 ++ x5_2) := ⟨_, rfl⟩
                replace H : (some (strOfNums y113)) = some r := by first | (rw [hy113]; with_reducible exact H) | (have H2_ := (Option.bind_some _ _).symm.trans H; rw [hy113]; with_reducible exact H2_) | (have H2_ := (Option.bind_some _ _).symm.trans H; with_reducible exact H2_) | with_reducible exact H | (rw [hy113]; exact H) | exact H
                have Ny113 := Aside0.mk hy113
                clear hy113
                obtain rfl := Option.some.inj H
                obtain ⟨Ao14, co14, eo14⟩ := Kd.R_slice HO_5.out
                subst eo14
                go_wp2_with (first | ((with_reducible refine gate_builtin (b := .append) (xs := #[.tmp 32, .tmp 33]) rfl ?_); at_builtin; refine Kd.R_append_rows (Kd.int .u8) (w0 := w) w.heap.size rfl (.tmp 32) (.tmp 33) 65 5 (.int .u8 0) 1 rfl Tryd.underlying65 info5 rfl (by decide) (by omega) (.slice Ao5 x3_1.length co5) x3_1 x5_2 _ _ _ (fun k_ => some k_ ≠ (.slice Ao14 x5_2.length co14 : Value).ownBlock) (fun _ => False) rfl rfl ?aO ?aR (fun _ _ h => h) (fun _ h => h.elim) ?aF ?aB ?aS ?aL ?_; (case aR => repeat (first | exact (Kd.R_reads' HO_5.out).2.2 | (with_reducible refine Kd.C_alloc ?_ _) | (with_reducible refine Kd.C_drewN ?_ _) | (with_reducible refine Kd.C_drew ?_))); (case aB => exact (by repeat (first | (with_reducible first | exact HB.out | apply below_alloc | apply pw_below_drewN | apply below_drew1) | exact HB.out))); (case aF => exact (fun k_ hk => Kd.fresh' (Kd.R_lt (by (with_reducible repeat (first | apply Kd.R_alloc | apply Kd.R_drewN | apply Kd.R_drew)); exact HO_5.out)) k_ hk)); (case aO => exact (by (with_reducible repeat (first | apply Kd.R_alloc | apply Kd.R_drewN | apply Kd.R_drew)); exact HO_3.out)); (case aS => exact (below_size (by repeat (first | (with_reducible first | exact HB.out | apply below_alloc | apply pw_below_drewN | apply below_drew1) | exact HB.out)))); (case aL => have := LMc12.out; omega); intro v114 w13 ho hb hg hat; rw [← Ny113.out] at ho; have n0_ := Aside0.mk (Kd.R_after (ok := (fun _ => True)) (by (with_reducible repeat (first | apply Kd.R_alloc | apply Kd.R_drewN | apply Kd.R_drew)); exact Kd.R_mono HO_5.out (fun _ hk => ⟨trivial, hk⟩)) hg hat); have n1_ := Aside0.mk (hb); have n2_ := Aside0.mk (ho); clear HO_5; clear HB; clear HO_3; have HO_5 := n0_; have HB := n1_; have HO115 := n2_; clear n0_ n1_ n2_; clear ho hb hg hat; have hcv15 := own_string (P := Tryd.prog) Tryd.underlying65 Tryd.underlying5 Tryd.underlying9 (Kd.own_of_R HO115.out)))
                go_ret
                exact ⟨by first | rfl | (simp [errW_none, errW_some] <;> rfl) | (simp [*, errW_none, errW_some] <;> rfl), by repeat (first | (with_reducible first | exact HB.out | apply below_alloc | apply pw_below_drewN | apply below_drew1) | exact HB.out)⟩
              · rw [if_neg c12] at H
                exact absurd H (by simp)
      · rw [if_neg c4] at H
        have c4b0 : ((Int.tmod (IntKind.u64.wrap (a0 + (IntKind.u64.wrap ((x3_1.length : Int))))) 64) == 56) = false := beq_eq_false_iff_ne.mpr c4
        have c4b1 : ((Int.tmod (IntKind.u64.wrap (a0 + (IntKind.u64.wrap ((x3_1.length : Int))))) 64) != 56) = true := bne_iff_ne.mpr c4
        by_cases c16 : x3_1.length < 140737488355328
        · rw [if_pos c16] at H
          have LMc16 := Aside0.mk c16
          clear c16
          obtain ⟨y104, hy104⟩ : ∃ y_ : List Int, y_ = (x3_1 ++ [0]) := ⟨_, rfl⟩
          replace H : (paymasterref05_Padding.l0 k1 a0 y104) = some r := by first | (rw [hy104]; with_reducible exact H) | (have H2_ := (Option.bind_some _ _).symm.trans H; rw [hy104]; with_reducible exact H2_) | (have H2_ := (Option.bind_some _ _).symm.trans H; with_reducible exact H2_) | with_reducible exact H | (rw [hy104]; exact H) | exact H
          have Ny104 := Aside0.mk hy104
          clear hy104
          have H' := Aside0.mk H
          clear H
          obtain ⟨Ao17, co17, eo17⟩ := Kd.R_slice HO_3.out
          subst eo17
          go_wp2_with (first | ((with_reducible refine gate_builtin (b := .append) (xs := #[.tmp 15, .tmp 16]) rfl ?_); at_builtin; refine Kd.R_append (Kd.int .u8) (w0 := w) w.heap.size rfl (.tmp 15) (.tmp 16) 65 5 (.int .u8 0) 1 rfl Tryd.underlying65 info5 rfl (by decide) (by omega) (.slice Ao17 x3_1.length co17) x3_1 0 [.int .u8 0] (fun _ => True) (fun _ => False) rfl rfl ?aP (fun _ hk => hk.elim) ?aF ?aO ?aB ?aS ?aL ?_; (case aP => exact rfl); (case aB => exact (by repeat (first | (with_reducible first | exact HB.out | apply below_alloc | apply pw_below_drewN | apply below_drew1) | exact HB.out))); (case aF => exact (fun _ _ => trivial)); (case aO => exact (by (with_reducible repeat (first | apply Kd.R_alloc | apply Kd.R_drewN | apply Kd.R_drew)); exact HO_3.out)); (case aS => exact (below_size (by repeat (first | (with_reducible first | exact HB.out | apply below_alloc | apply pw_below_drewN | apply below_drew1) | exact HB.out)))); (case aL => have := LMc16.out; omega); intro v105 w18 ho hb hg hat; rw [← Ny104.out] at ho; have n0_ := Aside0.mk (hb); have n1_ := Aside0.mk (ho); clear HB; clear HO_3; have HB := n0_; have HO106 := n1_; clear n0_ n1_; clear ho hb hg hat))
          go_roundg k1
          case measure => have := HK1.out; omega
          case rel => exact ⟨(y104), H', ⟨by have := HK1.out; omega⟩, ⟨by (with_reducible repeat (first | apply Kd.R_alloc | apply Kd.R_drewN | apply Kd.R_drew)); exact HO106.out⟩, ⟨by repeat (first | (with_reducible first | exact HB.out | apply below_alloc | apply pw_below_drewN | apply below_drew1) | exact HB.out)⟩⟩
        · rw [if_neg c16] at H
          exact absurd H (by simp)

/-! ### paymasterref06_with: function 78 -/
mutual
def paymasterref06_with.l0 : Nat → ByteArray → Int → List Int → Int → Option (ByteArray)
  | 0, _, _, _, _ => none
  | k + 1, x0, x1, x5, x6 => if x6 < (x0.size : Int) then (paymasterref06_with.l1 k x0 x1 x5 x6 0 1 0) else (some (strOfNums x5))
def paymasterref06_with.l1 : Nat → ByteArray → Int → List Int → Int → Int → Int → Int → Option (ByteArray)
  | 0, _, _, _, _, _, _, _ => none
  | k + 1, x0, x1, x5, x6, x7, x8, x9 => if x9 < 8 then (if 0 ≤ x6 then (if x6 < (x0.size : Int) then (if x8 = 0 then (none) else (if (((Int.tdiv (bt x0 x6) x8) % 256) % 2) = (((Int.tdiv x1 x8) % 256) % 2) then (paymasterref06_with.l1 k x0 x1 x5 x6 x7 ((x8 * 2) % 256) (wrap64 (x9 + 1))) else (paymasterref06_with.l1 k x0 x1 x5 x6 ((x7 + x8) % 256) ((x8 * 2) % 256) (wrap64 (x9 + 1))))) else (none)) else (none)) else (if x5.length < 140737488355328 then (paymasterref06_with.l0 k x0 x1 (x5 ++ [x7]) (wrap64 (x6 + 1))) else (none))
end
def paymasterref06_with.f (k : Nat) (a0 : ByteArray) (a1 : Int) : Option (ByteArray) := paymasterref06_with.l0 k a0 a1 ([] : List Int) 0
theorem paymasterref06_with.mono_l : ∀ k, (∀ y0 y1 y2 y3, LeO (paymasterref06_with.l0 k y0 y1 y2 y3) (paymasterref06_with.l0 (k + 1) y0 y1 y2 y3)) ∧ (∀ y0 y1 y2 y3 y4 y5 y6, LeO (paymasterref06_with.l1 k y0 y1 y2 y3 y4 y5 y6) (paymasterref06_with.l1 (k + 1) y0 y1 y2 y3 y4 y5 y6))
  | 0 => ⟨fun _ _ _ _ r h => by simp [paymasterref06_with.l0] at h, fun _ _ _ _ _ _ _ r h => by simp [paymasterref06_with.l1] at h⟩
  | k + 1 => by
    obtain ⟨ih0, ih1⟩ := paymasterref06_with.mono_l k
    refine ⟨?_, ?_⟩
    · intro y0 y1 y2 y3
      unfold paymasterref06_with.l0
      repeat' first
      | (with_reducible exact ih0 _ _ _ _)
      | (with_reducible exact ih1 _ _ _ _ _ _ _)
      | (with_reducible exact LeO.refl _)
      | (with_reducible exact LeO.none _)
      | (with_reducible refine LeO.ite ?_ ?_)
      | (with_reducible refine LeO.bind ?_ (fun _ => ?_))
      | exact ih0 _ _ _ _
      | exact ih1 _ _ _ _ _ _ _
      | exact LeO.none _
      | refine LeO.ite ?_ ?_
      | refine LeO.bind ?_ (fun _ => ?_)
    · intro y0 y1 y2 y3 y4 y5 y6
      unfold paymasterref06_with.l1
      repeat' first
      | (with_reducible exact ih0 _ _ _ _)
      | (with_reducible exact ih1 _ _ _ _ _ _ _)
      | (with_reducible exact LeO.refl _)
      | (with_reducible exact LeO.none _)
      | (with_reducible refine LeO.ite ?_ ?_)
      | (with_reducible refine LeO.bind ?_ (fun _ => ?_))
      | exact ih0 _ _ _ _
      | exact ih1 _ _ _ _ _ _ _
      | exact LeO.none _
      | refine LeO.ite ?_ ?_
      | refine LeO.bind ?_ (fun _ => ?_)
theorem paymasterref06_with.mono : ∀ a0 a1 k, LeO (paymasterref06_with.f k a0 a1) (paymasterref06_with.f (k + 1) a0 a1) := by
  intro a0 a1 k
  obtain ⟨ih0, ih1⟩ := paymasterref06_with.mono_l k
  unfold paymasterref06_with.f
  repeat' first
      | (with_reducible exact ih0 _ _ _ _)
      | (with_reducible exact ih1 _ _ _ _ _ _ _)
      | (with_reducible exact LeO.refl _)
      | (with_reducible exact LeO.none _)
      | (with_reducible refine LeO.ite ?_ ?_)
      | (with_reducible refine LeO.bind ?_ (fun _ => ?_))
      | exact ih0 _ _ _ _
      | exact ih1 _ _ _ _ _ _ _
      | exact LeO.none _
      | refine LeO.ite ?_ ?_
      | refine LeO.bind ?_ (fun _ => ?_)
set_option maxHeartbeats 8000000 in
set_option maxRecDepth 100000 in
theorem paymasterref06_with.calls (k : Nat) (a0 : ByteArray) (a1 : Int) (r : ByteArray) (w : World) (h : paymasterref06_with.f k a0 a1 = some r) :
    Calls Tryd.prog 78 #[.string a0, .int .u8 a1] w fun e w' => e = .returned (.string r) ∧ Below w.heap.size w w' := by
  have HB := Aside0.mk (Below.refl w.heap.size w)
  have H : (paymasterref06_with.l0 k a0 a1 ([] : List Int) 0) = some r := h
  clear h
  have H' := Aside0.mk H
  clear H
  go_enter Tryd.func78, Tryd.ntmps78
  go_wp2
  repeat (go_quiet (fail); try go_wp2)
  go_loopg [5, 6] k (fun kq v5 v6 w' => ∃ (x5_1 : List Int) (x6_1 : Int), v6 = .int .i64 x6_1 ∧ Aside0 (paymasterref06_with.l0 kq a0 a1 x5_1 x6_1 = some r) ∧ Aside0 (kq ≤ k) ∧ Aside0 (Kd.R (Kd.int .u8) 5 w' w.heap.size (fun _ => True) v5 x5_1) ∧ Aside0 (Below w.heap.size w w'))
  case atStart => exact ⟨(([] : List Int)), (0), (by first | rfl | (simp; done) | (simp [*]; done)), H', ⟨Nat.le_refl _⟩, ⟨by first | exact Kd.R_nil _ _ _ _ _ | exact Kd.N_nil _ _ _ _ _ | exact Kd.V_nil _ _ _ _ _ | exact Kd.Q_nil _ _ _ _ _ | exact Kd.S_nil _ _ _ _ _⟩, ⟨by repeat (first | (with_reducible first | exact HB.out | apply below_alloc | apply pw_below_drewN | apply below_drew1) | exact HB.out)⟩⟩
  case round =>
    clear H'
    try clear p2
    obtain ⟨x5_1, x6_1, rfl, HA, HK1, HO_5, HB⟩ := hrel
    cases gk with
    | zero => exact absurd HA.out (by simp [paymasterref06_with.l0])
    | succ k1 =>
      have H := HA.out
      clear HA
      simp only [paymasterref06_with.l0] at H
      by_cases c3 : x6_1 < (a0.size : Int)
      · rw [if_pos c3] at H
        have c3b0 : decide (x6_1 < (a0.size : Int)) = true := decide_eq_true c3
        clear c3
        have H' := Aside0.mk H
        clear H
        go_wp2
        repeat (go_quiet (fail); try go_wp2)
        go_loopg [7, 8, 9] k1 (fun kq v7 v8 v9 w' => ∃ (x7_2 : Int) (x8_2 : Int) (x9_2 : Int), v7 = .int .u8 x7_2 ∧ v8 = .int .u8 x8_2 ∧ v9 = .int .i64 x9_2 ∧ Aside0 (paymasterref06_with.l1 kq a0 a1 x5_1 x6_1 x7_2 x8_2 x9_2 = some r) ∧ Aside0 (kq ≤ k1) ∧ Aside0 (Kd.R (Kd.int .u8) 5 w' w.heap.size (fun _ => True) u5 x5_1) ∧ Aside0 (Below w.heap.size w w'))
        case atStart => exact ⟨(0), (1), (0), (by first | rfl | (simp; done) | (simp [*]; done)), (by first | rfl | (simp; done) | (simp [*]; done)), (by first | rfl | (simp; done) | (simp [*]; done)), H', ⟨Nat.le_refl _⟩, ⟨by (with_reducible repeat (first | apply Kd.R_alloc | apply Kd.R_drewN | apply Kd.R_drew)); exact HO_5.out⟩, ⟨by repeat (first | (with_reducible first | exact HB.out | apply below_alloc | apply pw_below_drewN | apply below_drew1) | exact HB.out)⟩⟩
        case round =>
          clear H'
          try clear p2
          try clear c3
          try clear c3b0
          try clear p2
          obtain ⟨x7_2, x8_2, x9_2, rfl, rfl, rfl, HA, HK2, HO_5, HB⟩ := hrel
          cases gk with
          | zero => exact absurd HA.out (by simp [paymasterref06_with.l1])
          | succ k2 =>
            have H := HA.out
            clear HA
            simp only [paymasterref06_with.l1] at H
            by_cases c4 : x9_2 < 8
            · rw [if_pos c4] at H
              have c4b0 : decide (x9_2 < 8) = true := decide_eq_true c4
              clear c4
              by_cases c5 : 0 ≤ x6_1
              · rw [if_pos c5] at H
                have c5b0 : decide (0 ≤ x6_1) = true := decide_eq_true c5
                clear c5
                by_cases c6 : x6_1 < (a0.size : Int)
                · rw [if_pos c6] at H
                  have c6b0 : decide (x6_1 < (a0.size : Int)) = true := decide_eq_true c6
                  clear c6
                  by_cases c8 : x8_2 = 0
                  · rw [if_pos c8] at H
                    exact absurd H (by simp)
                  · rw [if_neg c8] at H
                    have c8b0 : (x8_2 == 0) = false := beq_eq_false_iff_ne.mpr c8
                    have c8b1 : (x8_2 != 0) = true := bne_iff_ne.mpr c8
                    by_cases c9 : (((Int.tdiv (bt a0 x6_1) x8_2) % 256) % 2) = (((Int.tdiv a1 x8_2) % 256) % 2)
                    · rw [if_pos c9] at H
                      have c9b0 : ((((Int.tdiv (bt a0 x6_1) x8_2) % 256) % 2) == (((Int.tdiv a1 x8_2) % 256) % 2)) = true := beq_iff_eq.mpr c9
                      have c9b1 : ((((Int.tdiv (bt a0 x6_1) x8_2) % 256) % 2) != (((Int.tdiv a1 x8_2) % 256) % 2)) = false := bne_eq_false_iff_eq.mpr c9
                      clear c9
                      have H' := Aside0.mk H
                      clear H
                      have p7 : 0 ≤ (x6_1 : Int) := of_decide_eq_true (by first | (with_reducible assumption) | assumption)
                      have q7 : x6_1 < (a0.size : Int) := of_decide_eq_true (by first | (with_reducible assumption) | assumption)
                      have hx7 := bt_at a0 x6_1
                      replace p7 := eq_true p7
                      replace q7 := eq_true q7
                      go_wp2
                      repeat (go_quiet (fail); try go_wp2)
                      go_roundg k2
                      case measure => have := HK1.out; have := HK2.out; omega
                      case rel => exact ⟨(x7_2), ((x8_2 * 2) % 256), (wrap64 (x9_2 + 1)), (by first | rfl | (simp; done) | (simp [*]; done)), (by first | rfl | (simp; done) | (simp [*]; done)), (by first | rfl | (simp; done) | (simp [*]; done)), H', ⟨by have := HK1.out; have := HK2.out; omega⟩, ⟨by (with_reducible repeat (first | apply Kd.R_alloc | apply Kd.R_drewN | apply Kd.R_drew)); exact HO_5.out⟩, ⟨by repeat (first | (with_reducible first | exact HB.out | apply below_alloc | apply pw_below_drewN | apply below_drew1) | exact HB.out)⟩⟩
                    · rw [if_neg c9] at H
                      have c9b0 : ((((Int.tdiv (bt a0 x6_1) x8_2) % 256) % 2) == (((Int.tdiv a1 x8_2) % 256) % 2)) = false := beq_eq_false_iff_ne.mpr c9
                      have c9b1 : ((((Int.tdiv (bt a0 x6_1) x8_2) % 256) % 2) != (((Int.tdiv a1 x8_2) % 256) % 2)) = true := bne_iff_ne.mpr c9
                      have H' := Aside0.mk H
                      clear H
                      have p7 : 0 ≤ (x6_1 : Int) := of_decide_eq_true (by first | (with_reducible assumption) | assumption)
                      have q7 : x6_1 < (a0.size : Int) := of_decide_eq_true (by first | (with_reducible assumption) | assumption)
                      have hx7 := bt_at a0 x6_1
                      replace p7 := eq_true p7
                      replace q7 := eq_true q7
                      go_wp2
                      repeat (go_quiet (fail); try go_wp2)
                      go_roundg k2
                      case measure => have := HK1.out; have := HK2.out; omega
                      case rel => exact ⟨((x7_2 + x8_2) % 256), ((x8_2 * 2) % 256), (wrap64 (x9_2 + 1)), (by first | rfl | (simp; done) | (simp [*]; done)), (by first | rfl | (simp; done) | (simp [*]; done)), (by first | rfl | (simp; done) | (simp [*]; done)), H', ⟨by have := HK1.out; have := HK2.out; omega⟩, ⟨by (with_reducible repeat (first | apply Kd.R_alloc | apply Kd.R_drewN | apply Kd.R_drew)); exact HO_5.out⟩, ⟨by repeat (first | (with_reducible first | exact HB.out | apply below_alloc | apply pw_below_drewN | apply below_drew1) | exact HB.out)⟩⟩
                · rw [if_neg c6] at H
                  exact absurd H (by simp)
              · rw [if_neg c5] at H
                exact absurd H (by simp)
            · rw [if_neg c4] at H
              have c4b0 : decide (x9_2 < 8) = false := decide_eq_false c4
              clear c4
              by_cases c10 : x5_1.length < 140737488355328
              · rw [if_pos c10] at H
                have LMc10 := Aside0.mk c10
                clear c10
                obtain ⟨y116, hy116⟩ : ∃ y_ : List Int, y_ = (x5_1 ++ [x7_2]) := ⟨_, rfl⟩
                replace H : (paymasterref06_with.l0 k2 a0 a1 y116 (wrap64 (x6_1 + 1))) = some r := by first | (rw [hy116]; with_reducible exact H) | (have H2_ := (Option.bind_some _ _).symm.trans H; rw [hy116]; with_reducible exact H2_) | (have H2_ := (Option.bind_some _ _).symm.trans H; with_reducible exact H2_) | with_reducible exact H | (rw [hy116]; exact H) | exact H
                have Ny116 := Aside0.mk hy116
                clear hy116
                have H' := Aside0.mk H
                clear H
                go_wp2_with (first | ((with_reducible refine gate_builtin (b := .append) (xs := #[.tmp 36, .tmp 38]) rfl ?_); at_builtin; refine Kd.R_append (Kd.int .u8) (w0 := w) w.heap.size rfl (.tmp 36) (.tmp 38) 65 5 (.int .u8 0) 1 rfl Tryd.underlying65 info5 rfl (by decide) (by omega) u5 x5_1 x7_2 [.int .u8 x7_2] (fun _ => True) (fun _ => False) rfl rfl ?aP (fun _ hk => hk.elim) ?aF ?aO ?aB ?aS ?aL ?_; (case aP => exact rfl); (case aB => exact (by repeat (first | (with_reducible first | exact HB.out | apply below_alloc | apply pw_below_drewN | apply below_drew1) | exact HB.out))); (case aF => exact (fun _ _ => trivial)); (case aO => exact (by (with_reducible repeat (first | apply Kd.R_alloc | apply Kd.R_drewN | apply Kd.R_drew)); exact HO_5.out)); (case aS => exact (below_size (by repeat (first | (with_reducible first | exact HB.out | apply below_alloc | apply pw_below_drewN | apply below_drew1) | exact HB.out)))); (case aL => have := LMc10.out; omega); intro v117 w11 ho hb hg hat; rw [← Ny116.out] at ho; have n0_ := Aside0.mk (hb); have n1_ := Aside0.mk (ho); clear HB; clear HO_5; have HB := n0_; have HO118 := n1_; clear n0_ n1_; clear ho hb hg hat))
                repeat (go_quiet (first | ((with_reducible refine gate_builtin (b := .append) (xs := #[.tmp 36, .tmp 38]) rfl ?_); at_builtin; refine Kd.R_append (Kd.int .u8) (w0 := w) w.heap.size rfl (.tmp 36) (.tmp 38) 65 5 (.int .u8 0) 1 rfl Tryd.underlying65 info5 rfl (by decide) (by omega) u5 x5_1 x7_2 [.int .u8 x7_2] (fun _ => True) (fun _ => False) rfl rfl ?aP (fun _ hk => hk.elim) ?aF ?aO ?aB ?aS ?aL ?_; (case aP => exact rfl); (case aB => exact (by repeat (first | (with_reducible first | exact HB.out | apply below_alloc | apply pw_below_drewN | apply below_drew1) | exact HB.out))); (case aF => exact (fun _ _ => trivial)); (case aO => exact (by (with_reducible repeat (first | apply Kd.R_alloc | apply Kd.R_drewN | apply Kd.R_drew)); exact HO_5.out)); (case aS => exact (below_size (by repeat (first | (with_reducible first | exact HB.out | apply below_alloc | apply pw_below_drewN | apply below_drew1) | exact HB.out)))); (case aL => have := LMc10.out; omega); intro v117 w11 ho hb hg hat; rw [← Ny116.out] at ho; have n0_ := Aside0.mk (hb); have n1_ := Aside0.mk (ho); clear HB; clear HO_5; have HB := n0_; have HO118 := n1_; clear n0_ n1_; clear ho hb hg hat)); try go_wp2_with (first | ((with_reducible refine gate_builtin (b := .append) (xs := #[.tmp 36, .tmp 38]) rfl ?_); at_builtin; refine Kd.R_append (Kd.int .u8) (w0 := w) w.heap.size rfl (.tmp 36) (.tmp 38) 65 5 (.int .u8 0) 1 rfl Tryd.underlying65 info5 rfl (by decide) (by omega) u5 x5_1 x7_2 [.int .u8 x7_2] (fun _ => True) (fun _ => False) rfl rfl ?aP (fun _ hk => hk.elim) ?aF ?aO ?aB ?aS ?aL ?_; (case aP => exact rfl); (case aB => exact (by repeat (first | (with_reducible first | exact HB.out | apply below_alloc | apply pw_below_drewN | apply below_drew1) | exact HB.out))); (case aF => exact (fun _ _ => trivial)); (case aO => exact (by (with_reducible repeat (first | apply Kd.R_alloc | apply Kd.R_drewN | apply Kd.R_drew)); exact HO_5.out)); (case aS => exact (below_size (by repeat (first | (with_reducible first | exact HB.out | apply below_alloc | apply pw_below_drewN | apply below_drew1) | exact HB.out)))); (case aL => have := LMc10.out; omega); intro v117 w11 ho hb hg hat; rw [← Ny116.out] at ho; have n0_ := Aside0.mk (hb); have n1_ := Aside0.mk (ho); clear HB; clear HO_5; have HB := n0_; have HO118 := n1_; clear n0_ n1_; clear ho hb hg hat)))
                go_roundg k2
                case measure => have := HK1.out; have := HK2.out; omega
                case rel => exact ⟨(y116), (wrap64 (x6_1 + 1)), (by first | rfl | (simp; done) | (simp [*]; done)), H', ⟨by have := HK1.out; have := HK2.out; omega⟩, ⟨by (with_reducible repeat (first | apply Kd.R_alloc | apply Kd.R_drewN | apply Kd.R_drew)); exact HO118.out⟩, ⟨by repeat (first | (with_reducible first | exact HB.out | apply below_alloc | apply pw_below_drewN | apply below_drew1) | exact HB.out)⟩⟩
              · rw [if_neg c10] at H
                exact absurd H (by simp)
      · rw [if_neg c3] at H
        have c3b0 : decide (x6_1 < (a0.size : Int)) = false := decide_eq_false c3
        clear c3
        obtain rfl := Option.some.inj H
        have hcv12 := own_string (P := Tryd.prog) Tryd.underlying65 Tryd.underlying5 Tryd.underlying9 (Kd.own_of_R HO_5.out)
        go_wp2
        repeat (go_quiet (fail); try go_wp2)
        go_ret
        exact ⟨by first | rfl | (simp [errW_none, errW_some] <;> rfl) | (simp [*, errW_none, errW_some] <;> rfl), by repeat (first | (with_reducible first | exact HB.out | apply below_alloc | apply pw_below_drewN | apply below_drew1) | exact HB.out)⟩

/-! ### paymasterlaw05_Long: function 31 -/
def paymasterlaw05_Long.l0 : Nat → List ByteArray → Int → Int → Option (Bool)
  | 0, _, _, _ => none
  | k + 1, x0, x3, x4 => if x4 < (x0.length : Int) then (if 0 ≤ x4 then (paymasterlaw05_Long.l0 k x0 (wrap64 (x3 + ((rdOf ByteArray.empty x0 x4).size : Int))) (wrap64 (x4 + 1))) else (none)) else (if (x0.length : Int) > 40 then (some true) else (some (decide (x3 > 2000))))
def paymasterlaw05_Long.f (k : Nat) (l0 : List ByteArray) : Option (Bool) := paymasterlaw05_Long.l0 k l0 0 0
theorem paymasterlaw05_Long.mono_l : ∀ k, (∀ y0 y1 y2, LeO (paymasterlaw05_Long.l0 k y0 y1 y2) (paymasterlaw05_Long.l0 (k + 1) y0 y1 y2))
  | 0 => fun _ _ _ r h => by simp [paymasterlaw05_Long.l0] at h
  | k + 1 => by
    have ih0 := paymasterlaw05_Long.mono_l k
    · intro y0 y1 y2
      unfold paymasterlaw05_Long.l0
      repeat' first
      | (with_reducible exact ih0 _ _ _)
      | (with_reducible exact LeO.refl _)
      | (with_reducible exact LeO.none _)
      | (with_reducible refine LeO.ite ?_ ?_)
      | (with_reducible refine LeO.bind ?_ (fun _ => ?_))
      | exact ih0 _ _ _
      | exact LeO.none _
      | refine LeO.ite ?_ ?_
      | refine LeO.bind ?_ (fun _ => ?_)
theorem paymasterlaw05_Long.mono : ∀ a0 k, LeO (paymasterlaw05_Long.f k a0) (paymasterlaw05_Long.f (k + 1) a0) := by
  intro a0 k
  have ih0 := paymasterlaw05_Long.mono_l k
  unfold paymasterlaw05_Long.f
  repeat' first
      | (with_reducible exact ih0 _ _ _)
      | (with_reducible exact LeO.refl _)
      | (with_reducible exact LeO.none _)
      | (with_reducible refine LeO.ite ?_ ?_)
      | (with_reducible refine LeO.bind ?_ (fun _ => ?_))
      | exact ih0 _ _ _
      | exact LeO.none _
      | refine LeO.ite ?_ ?_
      | refine LeO.bind ?_ (fun _ => ?_)
set_option maxHeartbeats 8000000 in
set_option maxRecDepth 100000 in
theorem paymasterlaw05_Long.calls (k : Nat) (A0 : Option Addr) (c0 : Nat) (l0 : List ByteArray) (r : Bool) (w : World) (hr0 : Kd.C Kd.string w A0 l0.length l0) (hc0 : l0.length ≤ c0) (h : paymasterlaw05_Long.f k l0 = some r) :
    Calls Tryd.prog 31 #[.slice A0 l0.length c0] w fun e w' => e = .returned (.bool r) ∧ Drawn0 w w' := by
  have HR0 := Aside0.mk hr0
  have HC0 := Aside0.mk hc0
  clear hr0 hc0
  have H : (paymasterlaw05_Long.l0 k l0 0 0) = some r := h
  clear h
  have H' := Aside0.mk H
  clear H
  go_enter Tryd.func31, Tryd.ntmps31
  go_wp2
  go_loopg [3, 4] k (fun kq v3 v4 w' => ∃ (x3_1 : Int) (x4_1 : Int), v3 = .int .i64 x3_1 ∧ v4 = .int .i64 x4_1 ∧ Aside0 (paymasterlaw05_Long.l0 kq l0 x3_1 x4_1 = some r) ∧ Aside0 (kq ≤ k) ∧ Drawn0 w w')
  case atStart => exact ⟨(0), (0), (by first | rfl | (simp; done) | (simp [*]; done)), (by first | rfl | (simp; done) | (simp [*]; done)), H', ⟨Nat.le_refl _⟩, by repeat (first | exact Drawn0.refl _ | apply Drawn0.step)⟩
  case round =>
    clear H'
    obtain ⟨x3_1, x4_1, rfl, rfl, HA, HK1, ⟨m1, rfl⟩⟩ := hrel
    cases gk with
    | zero => exact absurd HA.out (by simp [paymasterlaw05_Long.l0])
    | succ k1 =>
      have H := HA.out
      clear HA
      simp only [paymasterlaw05_Long.l0] at H
      by_cases c2 : x4_1 < (l0.length : Int)
      · rw [if_pos c2] at H
        have c2b0 : decide (x4_1 < (l0.length : Int)) = true := decide_eq_true c2
        clear c2
        by_cases c3 : 0 ≤ x4_1
        · rw [if_pos c3] at H
          have c3b0 : decide (0 ≤ x4_1) = true := decide_eq_true c3
          clear c3
          have H' := Aside0.mk H
          clear H
          have p119 : 0 ≤ (x4_1 : Int) := of_decide_eq_true (by first | (with_reducible assumption) | assumption)
          have q119 : x4_1 < (l0.length : Int) := of_decide_eq_true (by first | (with_reducible assumption) | assumption)
          obtain ⟨ad119, e119, hx119_0⟩ := Kd.at_string HR0.out x4_1 p119 q119
          cases e119
          replace p119 := eq_true p119
          replace q119 := eq_true q119
          go_wp2
          go_roundg k1
          case measure => have := HK1.out; omega
          case rel => exact ⟨(wrap64 (x3_1 + ((rdOf ByteArray.empty l0 x4_1).size : Int))), (wrap64 (x4_1 + 1)), (by first | rfl | (simp; done) | (simp [*]; done)), (by first | rfl | (simp; done) | (simp [*]; done)), H', ⟨by have := HK1.out; omega⟩, by repeat (first | exact Drawn0.refl _ | apply Drawn0.step)⟩
        · rw [if_neg c3] at H
          exact absurd H (by simp)
      · rw [if_neg c2] at H
        have c2b0 : decide (x4_1 < (l0.length : Int)) = false := decide_eq_false c2
        clear c2
        by_cases c4 : (l0.length : Int) > 40
        · rw [if_pos c4] at H
          have c4b0 : decide (40 < (l0.length : Int)) = true := decide_eq_true c4
          have c4b1 : decide (40 < l0.length) = true := decide_eq_true (by omega)
          clear c4
          obtain rfl := Option.some.inj H
          go_wp2
          go_ret
          exact ⟨by first | rfl | (simp; done) | (simp [*]; done), by repeat (first | exact Drawn0.refl _ | apply Drawn0.step)⟩
        · rw [if_neg c4] at H
          have c4b0 : decide (40 < (l0.length : Int)) = false := decide_eq_false c4
          have c4b1 : decide (40 < l0.length) = false := decide_eq_false (by omega)
          clear c4
          obtain rfl := Option.some.inj H
          go_wp2
          go_ret
          exact ⟨by first | rfl | (simp; done) | (simp [*]; done), by repeat (first | exact Drawn0.refl _ | apply Drawn0.step)⟩

end Go.Proofs.YtomninikmcmmcaaDoor.PRp
end
section
-- Printed by this session's own program (wip/xprint.py) out of the translation. Lean checks it.
namespace Go.Proofs.YtomninikmcmmcaaDoor.PRp
open Go.RowKit Go.Proofs.YtomninikmcmmcaaDoorW.PrintWords Go.Proofs.YtomninikmcmmcaaDoorW.PrintLast Go.Proofs.YtomninikmcmmcaaDoorW.PrintMore
attribute [local go_sem] max2_int min2_int max_two min_two max_three min_three max_four min_four   -- for this text's walks alone
set_option linter.unusedVariables false
set_option linter.unusedSimpArgs false

end Go.Proofs.YtomninikmcmmcaaDoor.PRp
end
section
/- The reference's padding is the program's (plain Lean over the printed function). -/
namespace Go.Proofs.YtomninikmcmmcaaDoor.Sha
open Go Go.RowKit Go.Proofs.YtomninikmcmmcaaDoor.PRp Go.Proofs.YtomninikmcmmcaaDoorW.PrintWords
set_option linter.unusedVariables false
def padAi (j : Nat) : List Int := 128 :: List.replicate j 0
def tl (N : Nat) : Nat → List Int
  | 0 => []
  | i + 1 => ((N / 256 ^ i % 256 : Nat) : Int) :: tl N i
theorem tl_length (N : Nat) : ∀ i, (tl N i).length = i
  | 0 => rfl
  | i + 1 => by simp [tl, tl_length N i]
theorem tl_end (N : Nat) : tl N 8 = (be8L N).map fun c => (c.toNat : Int) := by
  simp only [tl, be8L, List.range, List.range.loop, List.map_cons, List.map_nil, UInt8.toNat_ofNat']
  simp only [Nat.reducePow, Nat.reduceSub, Nat.reduceMul, Nat.mod_mod, Nat.div_one]
theorem refpad_tail (x3 : List Int) (hx : x3.length < 1000) (N : Nat) (hN : N < 18446744073709551616) (d : Nat) : ∀ (k i : Nat), i + d = 8 → d < k →
    paymasterref05_Padding.l1 k x3 ((N / 256 ^ i : Nat) : Int) (tl N i) (i : Int) = some (strOfNums (x3 ++ tl N 8)) := by
  induction d with
  | zero =>
    intro k i hi hk
    obtain ⟨k, rfl⟩ : ∃ m, k = m + 1 := ⟨k - 1, by omega⟩
    obtain rfl : i = 8 := by omega
    rw [paymasterref05_Padding.l1, if_neg (by decide), if_pos (by rw [tl_length]; omega)]
  | succ d ih =>
    intro k i hi hk
    obtain ⟨k, rfl⟩ : ∃ m, k = m + 1 := ⟨k - 1, by omega⟩
    have hq : N / 256 ^ i < 18446744073709551616 := Nat.lt_of_le_of_lt (Nat.div_le_self _ _) hN
    have e1 : wrap64 ((i : Int) + 1) = ((i + 1 : Nat) : Int) := by unfold wrap64; omega
    have e2 : (Int.tmod ((N / 256 ^ i : Nat) : Int) 256) % 256 = ((N / 256 ^ i % 256 : Nat) : Int) := by
      rw [Int.tmod_eq_emod_of_nonneg (Int.natCast_nonneg _)]; omega
    have e3 : IntKind.u64.wrap (Int.tdiv ((N / 256 ^ i : Nat) : Int) 256) = ((N / 256 ^ (i + 1) : Nat) : Int) := by
      rw [Int.tdiv_eq_ediv_of_nonneg (Int.natCast_nonneg _), Nat.pow_succ, ← Nat.div_div_eq_div_mul]
      simp only [IntKind.wrap, IntKind.bits, IntKind.signed]
      generalize N / 256 ^ i = q at *
      have : ((q : Int) / 256) = ((q / 256 : Nat) : Int) := by omega
      rw [this]
      show ((q / 256 : Nat) : Int) % (2 ^ 64) = _
      omega
    rw [paymasterref05_Padding.l1, if_pos (by omega), e1, e2, e3, Option.bind_some, if_pos (by simp [tl_length]; omega)]
    exact ih k (i + 1) (by omega) (by omega)
theorem strOf_bytes (l : List UInt8) : strOfNums (l.map fun b => (b.toNat : Int)) = ⟨l.toArray⟩ := by
  unfold strOfNums
  congr 1
  rw [List.map_map]
  congr 1
  conv => rhs; rw [← List.map_id l]
  apply List.map_congr_left
  intro b _
  simp
theorem padAi_map (j : Nat) : padAi j = (padA j).map fun c => (c.toNat : Int) := by simp [padAi, padA]
theorem refpad_head (n : Nat) (hn : n < 1099511627776) (d : Nat) : ∀ (k j : Nat), j + d = padZ n → d + 20 < k → paymasterref05_Padding.l0 k (n : Int) (padAi j) = some (pad n) := by
  have hz2 : padZ n < 64 := by unfold padZ; omega
  have hl : ∀ j : Nat, (padAi j).length = j + 1 := fun j => by simp [padAi]
  have hw : ∀ j : Nat, j < 1000 → Int.tmod (IntKind.u64.wrap ((n : Int) + IntKind.u64.wrap ((padAi j).length : Int))) 64 = ((n + j + 1) % 64 : Nat) := fun j hj => by
    rw [hl]
    have a1 : IntKind.u64.wrap ((j + 1 : Nat) : Int) = ((j + 1 : Nat) : Int) := by simp only [IntKind.wrap, IntKind.bits, IntKind.signed]; show ((j + 1 : Nat) : Int) % (2 ^ 64) = _; omega
    have a2 : IntKind.u64.wrap ((n : Int) + ((j + 1 : Nat) : Int)) = ((n + j + 1 : Nat) : Int) := by simp only [IntKind.wrap, IntKind.bits, IntKind.signed]; show ((n : Int) + ((j + 1 : Nat) : Int)) % (2 ^ 64) = _; omega
    rw [a1, a2, Int.tmod_eq_emod_of_nonneg (by omega)]
    omega
  induction d with
  | zero =>
    intro k j hj hk
    obtain ⟨k, rfl⟩ : ∃ m, k = m + 1 := ⟨k - 1, by omega⟩
    obtain rfl : j = padZ n := by omega
    have e0 : (n + padZ n + 1) % 64 = 56 := by unfold padZ; omega
    have e8 : IntKind.u64.wrap ((n : Int) * 8) = ((n * 8 / 256 ^ 0 : Nat) : Int) := by simp only [IntKind.wrap, IntKind.bits, IntKind.signed]; show ((n : Int) * 8) % (2 ^ 64) = _; rw [Nat.pow_zero, Nat.div_one]; omega
    rw [paymasterref05_Padding.l0, if_pos (by rw [hw _ (by omega), e0]; rfl), e8]
    have h := refpad_tail (padAi (padZ n)) (by rw [hl]; omega) (n * 8) (by omega) 8 k 0 rfl (by omega)
    rw [show ((0 : Nat) : Int) = 0 from rfl, show tl (n * 8) 0 = [] from rfl] at h
    rw [h, tl_end, padAi_map, ← List.map_append, strOf_bytes]
    have e9 : padA (padZ n) ++ be8L (n * 8) = padL n := by
      rw [← padB_end n (by omega)]
      unfold padB
      rw [List.take_of_length_le (by rw [be8L_length]; exact Nat.le_refl _)]
    rw [e9]
    rfl
  | succ d ih =>
    intro k j hj hk
    obtain ⟨k, rfl⟩ : ∃ m, k = m + 1 := ⟨k - 1, by omega⟩
    have e0 : (n + j + 1) % 64 ≠ 56 := by unfold padZ at hj; omega
    rw [paymasterref05_Padding.l0, if_neg (by rw [hw _ (by omega)]; omega), if_pos (by rw [hl]; omega)]
    have e1 : padAi j ++ [0] = padAi (j + 1) := by unfold padAi; rw [List.cons_append, ← List.replicate_succ']
    rw [e1]
    exact ih k (j + 1) (by omega) (by omega)
theorem refpad_some (n : Nat) (hn : n < 1099511627776) (k : Nat) (hk : 100 < k) : paymasterref05_Padding.f k (n : Int) = some (pad n) := by
  have : padZ n < 64 := by unfold padZ; omega
  exact refpad_head n hn (padZ n) k 0 (by omega) (by omega)
end Go.Proofs.YtomninikmcmmcaaDoor.Sha
end
section
/- The reference's digest: contract. -/
namespace Go.Proofs.YtomninikmcmmcaaDoor.Sha
open Go Go.RowKit Go.Proofs.YtomninikmcmmcaaDoor.PRp Go.Proofs.YtomninikmcmmcaaDoor.PBw Go.Proofs.YtomninikmcmmcaaDoorW.PrintWords Go.Proofs.Sp Go.Proofs.YtomninikmcmmcaaDoor.Blk Go.Proofs.YtomninikmcmmcaaDoor.GivA
set_option linter.unusedVariables false
set_option linter.unusedSimpArgs false
theorem refpad_calls (n : Nat) (hn : n < 1099511627776) (w : World) : Calls Tryd.prog 91 #[.int .u64 (n : Int)] w fun e w' => e = .returned (.string (pad n)) ∧ Below w.heap.size w w' :=
  paymasterref05_Padding.calls 101 n _ w (refpad_some n hn 101 (by decide))
theorem quick_ext (s : St) (b : ByteArray) (h64 : b.size = 64) (w : World) (BT oT cT : Nat) (hcT : 64 ≤ cT) (hBT : BT < w.heap.size) (hcell : ∀ (t : Nat), t < 64 → w.cell? ⟨BT, oT + t, none⟩ = some (.int .u32 (wd (kws t)))) :
    Calls Tryd.prog 94 #[.agg #[.int .u32 (wd s.a), .int .u32 (wd s.b), .int .u32 (wd s.c), .int .u32 (wd s.d), .int .u32 (wd s.e), .int .u32 (wd s.f), .int .u32 (wd s.g), .int .u32 (wd s.h)], .string b, .slice (some ⟨BT, oT, none⟩) 64 cT] w
      fun e w' => e = .returned (.agg #[.int .u32 (wd (next s b.data.toList).a), .int .u32 (wd (next s b.data.toList).b), .int .u32 (wd (next s b.data.toList).c), .int .u32 (wd (next s b.data.toList).d), .int .u32 (wd (next s b.data.toList).e), .int .u32 (wd (next s b.data.toList).f), .int .u32 (wd (next s b.data.toList).g), .int .u32 (wd (next s b.data.toList).h)]) ∧ Below w.heap.size w w' :=
  quick_calls s b h64 w BT oT cT hcT hBT hcell
def v8 (s s2 : St) (all : ByteArray) (i BT oT cT : Nat) : Nat → Value
  | 0 => .agg #[.int .u32 (wd s.a), .int .u32 (wd s.b), .int .u32 (wd s.c), .int .u32 (wd s.d), .int .u32 (wd s.e), .int .u32 (wd s.f), .int .u32 (wd s.g), .int .u32 (wd s.h)]
  | 1 => .string all
  | 2 => .int .i64 (64 * (i : Int))
  | 3 => .int .i64 (64 * (i : Int))
  | 4 => .int .i64 (64 * (i : Int) + 64)
  | 5 => .string (all.extract (64 * i) (64 * i + 64))
  | 6 => .slice (some ⟨BT, oT, none⟩) 64 cT
  | 7 => .agg #[.int .u32 (wd s2.a), .int .u32 (wd s2.b), .int .u32 (wd s2.c), .int .u32 (wd s2.d), .int .u32 (wd s2.e), .int .u32 (wd s2.f), .int .u32 (wd s2.g), .int .u32 (wd s2.h)]
  | _ => undef
set_option maxHeartbeats 4000000 in
set_option maxRecDepth 100000 in
theorem refsum_calls (m : ByteArray) (w : World) (hs : m.size ≤ 549755813888) :
    Calls Tryd.prog 77 #[.string m] w fun e w' => e = .returned (.string (sha m)) ∧ Below w.heap.size w w' := by
  have HP := Aside0.mk (fun w => refpad_calls m.size (by omega) w)
  have hps := pad_size m.size
  have HS := Aside0.mk (fun w => start_calls w)
  have HSH := Aside0.mk (show sha m = dg (eat st0 (m ++ pad m.size).data.toList ((m ++ pad m.size).size / 64)) from rfl)
  have HE0 := Aside0.mk (show eat st0 (m ++ pad m.size).data.toList 0 = st0 from rfl)
  have has : (m ++ pad m.size).size = m.size + (pad m.size).size := ByteArray.size_append
  generalize sha m = res at *
  generalize hal : m ++ pad m.size = all at *
  unfold stv at HS
  generalize hst : st0 = s0 at *
  have HAL := Aside0.mk hal
  have hall : all.size ≤ 1099511627776 := by omega
  have hps2 : m.size + (pad m.size).size ≤ 1099511627776 := by omega
  clear hal hst has hps
  go_enter Tryd.func77, Tryd.ntmps77
  go_wp2_with fail
  refine (HP.out _).mono ?_
  rintro e w1 ⟨rfl, hb1⟩
  have HB1 := Aside0.mk hb1
  clear hb1
  go_wp2_with fail
  rw [HAL.out]
  refine (table_calls _).mono ?_
  rintro e w2 ⟨BT, oT, cT, rfl, h1, h2, h3, hb2⟩
  have HBT := Aside0.mk h2
  have HCT := Aside0.mk h1
  have HC := Aside0.mk h3
  have HB2 := Aside0.mk (HB1.out.trans (hb2.mono HB1.out.size))
  clear h1 h2 h3 hb2
  go_wp2_with fail
  refine (HS.out _).mono ?_
  rintro e w3 ⟨rfl, hb3⟩
  have HB3 := Aside0.mk (HB2.out.trans (hb3.mono HB2.out.size))
  have HC3 := Aside0.mk (fun t ht => (hb3.cell (p := ⟨BT, oT + t, none⟩) HBT.out).trans (HC.out t ht))
  have HBT3 := Aside0.mk (Nat.lt_of_lt_of_le HBT.out hb3.size)
  clear hb3
  go_wp2_with fail
  have g0 : (w3.alloc (.cells (stc s0) 95)).heap[w3.heap.size]? = some (.cells (stc (eat s0 all.data.toList 0)) 95 (0, 0)) := by rw [HE0.out]; exact blk_new w3 _
  have G0 := Aside0.mk g0
  have hb4 : Below w3.heap.size w3 (w3.alloc (.cells (stc s0) 95)) := (Below.refl _ _).alloc (Nat.le_refl _) _
  have HB4 := Aside0.mk hb4
  clear g0 hb4
  go_loopg [6] (all.size / 64) (fun k v wr => ∃ i : Nat, i + k = all.size / 64 ∧ v = .int .i64 (64 * (i : Int)) ∧ wr.heap[w3.heap.size]? = some (.cells (stc (eat s0 all.data.toList i)) 95 (0, 0)) ∧ Below w3.heap.size w3 wr)
  case atStart => exact ⟨0, by omega, rfl, G0.out, HB4.out⟩
  case round =>
    obtain ⟨i, hi, rfl, hst, hB⟩ := hrel
    have H3 := Aside0.mk hst
    have HBr := Aside0.mk hB
    have hrs := hB.size
    clear hst hB
    by_cases hlt : i < all.size / 64
    · have b1 : 64 * (i : Int) + 64 ≤ all.size := by omega
      have b2 : 64 * i + 64 ≤ all.size := by omega
      have hxs : (all.extract (64 * i) (64 * i + 64)).size = 64 := by rw [ByteArray.size_extract]; omega
      have HN := Aside0.mk (show eat s0 all.data.toList (i + 1) = next (eat s0 all.data.toList i) (all.extract (64 * i) (64 * i + 64)).data.toList by
        rw [eat, extract_list]; congr 2; omega)
      generalize eat s0 all.data.toList i = s at *
      have HQ := Aside0.mk (fun W h1 h2 => quick_ext s (all.extract (64 * i) (64 * i + 64)) hxs W BT oT cT HCT.out h1 h2)
      rw [← HN.out] at HQ
      generalize hs2 : eat s0 all.data.toList (i + 1) = s2 at *
      have HS2 := Aside0.mk hs2
      clear hs2 hxs
      have HBT := Aside0.mk (Nat.lt_of_lt_of_le HBT3.out HBr.out.size)
      have HC3 := Aside0.mk (fun t ht => (HBr.out.cell (p := ⟨BT, oT + t, none⟩) HBT3.out).trans (HC3.out t ht))
      go_wp2_with fail
      refine Rel.region_rel [] (fun _ => .cells #[] 0 (0, 0)) (fun j v _ => v = v8 s s2 all i BT oT cT j) 8 [] (by kernel_rfl) (by kernel_rfl) (by decide) (fun i hi => by cases hi) (fun _ _ _ _ h _ => h) (fun i hi => by cases hi) ?_ ?_
      · simp only [List.take_succ_cons, List.take_zero]
        refine ⟨?_, ?_, ?_, ?_, ?_, ?_, ?_, ?_, trivial⟩
        · refine Rel.Upon.of [] (by kernel_rfl) ?_
          intro vals z hb hN hd
          have hz := stcT_cell (blk_below H3.out hb)
          simp only [Rel.rp]
          go_wp2_with fail
          exact ⟨Below.refl _ _, rfl⟩
        · refine Rel.Upon.of [] (by kernel_rfl) ?_
          intro vals z hb hN hd
          simp only [Rel.rp]
          go_wp2_with fail
          exact ⟨Below.refl _ _, rfl⟩
        · refine Rel.Upon.of [] (by kernel_rfl) ?_
          intro vals z hb hN hd
          simp only [Rel.rp]
          go_wp2_with fail
          exact ⟨Below.refl _ _, rfl⟩
        · refine Rel.Upon.of [] (by kernel_rfl) ?_
          intro vals z hb hN hd
          simp only [Rel.rp]
          go_wp2_with fail
          exact ⟨Below.refl _ _, rfl⟩
        · refine Rel.Upon.of [3] (by kernel_rfl) ?_
          intro vals z hb hN hd
          simp only [Rel.ra] at hd
          have d3 := hd
          replace d3 : vals 3 = .int .i64 (64 * (i : Int)) := d3
          have b1 : 64 * (i : Int) + 64 ≤ all.size := by omega
          simp only [Rel.rp, d3]
          go_wp2_with fail
          exact ⟨Below.refl _ _, rfl⟩
        · refine Rel.Upon.of [1, 2, 4] (by kernel_rfl) ?_
          intro vals z hb hN hd
          simp only [Rel.ra] at hd
          obtain ⟨d1, d2, d4⟩ := hd
          replace d1 : vals 1 = .string all := d1
          replace d2 : vals 2 = .int .i64 (64 * (i : Int)) := d2
          replace d4 : vals 4 = .int .i64 (64 * (i : Int) + 64) := d4
          have b1 : 64 * (i : Int) + 64 ≤ all.size := by omega
          have b2 : 64 * i + 64 ≤ all.size := by omega
          have b3 : 0 ≤ 64 * (i : Int) := by omega
          have b5 : 0 ≤ 64 * (i : Int) + 64 := by omega
          have b6 : 64 * (i : Int) ≤ 64 * (i : Int) + 64 := by omega
          have b7 : (64 * (i : Int)).toNat = 64 * i := by omega
          have b8 : (64 * (i : Int) + 64).toNat = 64 * i + 64 := by omega
          simp only [Rel.rp, d1, d2, d4]
          go_wp2_with fail
          exact ⟨Below.refl _ _, rfl⟩
        · refine Rel.Upon.of [] (by kernel_rfl) ?_
          intro vals z hb hN hd
          simp only [Rel.rp]
          go_wp2_with fail
          exact ⟨Below.refl _ _, rfl⟩
        · refine Rel.Upon.of [0, 5, 6] (by kernel_rfl) ?_
          intro vals z hb hN hd
          simp only [Rel.ra] at hd
          obtain ⟨d0, d5, d6⟩ := hd
          replace d0 : vals 0 = .agg #[.int .u32 (wd s.a), .int .u32 (wd s.b), .int .u32 (wd s.c), .int .u32 (wd s.d), .int .u32 (wd s.e), .int .u32 (wd s.f), .int .u32 (wd s.g), .int .u32 (wd s.h)] := d0
          replace d5 : vals 5 = .string (all.extract (64 * i) (64 * i + 64)) := d5
          replace d6 : vals 6 = .slice (some ⟨BT, oT, none⟩) 64 cT := d6
          simp only [Rel.rp, d0, d5, d6]
          go_wp2_with fail
          refine (HQ.out z (Nat.lt_of_lt_of_le HBT.out hb.size) (fun t ht => (hb.cell (p := ⟨BT, oT + t, none⟩) HBT.out).trans (HC3.out t ht))).mono ?_
          rintro e z2 ⟨rfl, hb2⟩
          go_wp2_with fail
          first | exact ⟨hb2, rfl⟩ | rfl
      · intro vals w6 hb6 hN hrel _
        have d7 : vals 7 = .agg #[.int .u32 (wd s2.a), .int .u32 (wd s2.b), .int .u32 (wd s2.c), .int .u32 (wd s2.d), .int .u32 (wd s2.e), .int .u32 (wd s2.f), .int .u32 (wd s2.g), .int .u32 (wd s2.h)] := hrel 7 (by decide)
        simp only [List.drop_succ_cons, List.drop_zero]
        rw [show List.range 8 = [0, 1, 2, 3, 4, 5, 6, 7] from rfl]
        generalize e0 : vals 0 = u0
        generalize e1 : vals 1 = u1
        generalize e2 : vals 2 = u2
        generalize e3 : vals 3 = u3
        generalize e4 : vals 4 = u4
        generalize e5 : vals 5 = u5
        generalize e6 : vals 6 = u6
        simp only [Rel.rp, d7, e0, e1, e2, e3, e4, e5, e6]
        have k1 := blk_below H3.out hb6
        have f6 := stcT_free k1
        have hc6 := stcT_cell k1
        clear hrel
        go_wp2_with fail
        go_roundg (gk - 1)
        case measure => omega
        case rel => 
          refine ⟨i + 1, by omega, by go_num, ?_, ?_⟩
          · rw [HS2.out]
            exact put8V_self s2 k1
          · exact put8V_below s2 (HBr.out.trans (hb6.mono HBr.out.size)) (Nat.le_refl _)
    · obtain rfl : i = all.size / 64 := by omega
      obtain ⟨i0, hi0, hz0, hz1, hz2⟩ := info_parts (P := Tryd.prog) (e := 5) (z := .int .u8 0) (size := 1) (bytes := 1) (by kernel_rfl)
      have HSH2 := Aside0.mk HSH.out
      generalize eat s0 all.data.toList (all.size / 64) = s at *
      obtain ⟨wo, hwo⟩ : ∃ wo : World, wo = wr := ⟨_, rfl⟩
      subst hwo
      have hSB : w3.heap.size < wo.heap.size := blk_lt H3.out
      have HSB := Aside0.mk hSB
      clear hrs
      go_wp2_with fail
      go_loopg [7, 8] 8 (fun k v i wr => ∃ t : Nat, t + k = 8 ∧ i = .int .i64 (t : Int) ∧ wr.ownsRow wo.heap.size 5 1 v (dgT s t).length (Lib.byteCells (dgT s t)) ∧ Below wo.heap.size wo wr)
      case atStart => exact ⟨0, rfl, rfl, World.ownsRow_nil _ _ _ _, Below.refl _ _⟩
      case round =>
        obtain ⟨t, ht, rfl, hown, hB⟩ := hrel
        have HB := Aside0.mk hB
        have hlen := Aside0.mk (dgT_length s t)
        have hsz := hB.size
        by_cases hlt : t < 8
        · have l1 : (t : Int) < 8 := by omega
          have hct := stcT_at (blk_below H3.out hB) t hlt
          have HX := Aside0.mk (show dgT s (t + 1) = dgT s t ++ b4 (St.at s t) from rfl)
          generalize St.at s t = x at *
          have HC := Aside0.mk (b4_cells x)
          have x0 := wd_nonneg x
          have x1 := wd_lt x
          clear hB
          go_wp2_with (at_builtin; refine wpList_append_own _ rfl _ _ 65 rfl wo.heap.size 5 i0 (.int .u8 0) 1 1 Tryd.underlying65 hi0 hz0 hz1 hz2 rfl (by decide) _ _ _ rfl (hown.alloc _) ⟨wr.heap.size, 0, none⟩ 4 4 [.int .u8 (wd x / 16777216), .int .u8 (wd x / 65536 % 256), .int .u8 (wd x / 256 % 256), .int .u8 (wd x % 256)] rfl rfl ?c1 ?c2 ?c3 ?c4 ?c5 ?_)
          case c1 =>
            intro j u hj
            match j, hj with
            | 0, hj => simp at hj; subst hj; simp [Addr.add]
            | 1, hj => simp at hj; subst hj; simp [Addr.add]
            | 2, hj => simp at hj; subst hj; simp [Addr.add]
            | 3, hj => simp at hj; subst hj; simp [Addr.add]
          case c2 => intro u hu; simp at hu; rcases hu with rfl | rfl | rfl | rfl <;> rfl
          case c3 => unfold maxLen; rw [hlen.out]; omega
          case c4 => rw [hlen.out]; omega
          case c5 => simp; omega
          intro v' w1 hown' hgrow _
          obtain ⟨ao, n', cap', rfl⟩ : ∃ ao n' cap, v' = .slice ao n' cap := by
            rcases hown'.2 with ⟨hv, _⟩ | ⟨k, cap, cur, hv, _⟩
            · exact ⟨_, _, _, hv⟩
            · exact ⟨_, _, _, hv⟩
          have HO := Aside0.mk hown'
          have HG := Aside0.mk hgrow
          have HW := Aside0.mk hown
          clear hown' hgrow hown
          go_wp2_with fail
          go_roundg (gk - 1)
          case measure => omega
          case rel =>
            refine ⟨t + 1, by omega, by go_num, ?_, ?_⟩
            · have h1 := HO.out
              rw [← HC.out] at h1
              rw [HX.out, List.length_append, show (b4 x).length = 4 from rfl, show Lib.byteCells (dgT s t ++ b4 x) = Lib.byteCells (dgT s t) ++ Lib.byteCells (b4 x) by simp [Lib.byteCells]]
              exact h1
            · exact (HB.out.alloc hsz _).grown HG.out (by simp; omega) (fun k hk => (HW.out.lt k hk).1)
        · obtain rfl : t = 8 := by omega
          have hconv := own_conv (l := dgT s 8) hown
          rw [dgT_end] at hconv
          have HF := Aside0.mk (HB3.out.trans ((HBr.out.trans (HB.out.mono HBr.out.size)).mono HB3.out.size))
          clear hB
          go_wp2_with fail
          go_ret
          exact ⟨by rw [HSH2.out]; rfl, HF.out⟩
end Go.Proofs.YtomninikmcmmcaaDoor.Sha
end
section
/- The reference's digest as a given function. -/
namespace Go.Proofs.YtomninikmcmmcaaDoor.GivHr
open Go Go.RowKit Go.Proofs.YtomninikmcmmcaaDoor.Sha Go.Proofs.YtomninikmcmmcaaDoor.GivA Go.Proofs.YtomninikmcmmcaaDoor.GivH
def paymasterref05_Sum.f (a0 : ByteArray) : Option ByteArray := if big a0 = true then some (sha a0) else none
theorem paymasterref05_Sum.calls (a0 : ByteArray) (r : ByteArray) (w : World) (h : paymasterref05_Sum.f a0 = some r) :
    Calls Tryd.prog 77 #[.string a0] w fun e w' => e = .returned (.string r) ∧ Below w.heap.size w w' := by
  unfold paymasterref05_Sum.f big at h
  split at h
  · rename_i hc
    obtain rfl := Option.some.inj h
    exact refsum_calls a0 w (by have := of_decide_eq_true hc; omega)
  · cases h
end Go.Proofs.YtomninikmcmmcaaDoor.GivHr
end
