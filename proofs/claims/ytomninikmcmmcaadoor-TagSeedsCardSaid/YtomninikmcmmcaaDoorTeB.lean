/- Texts of this session, put together: PTdx0, PTdx1, PTdx, PureTs7, PTex0, PTex1, PTex2, PTex3, PTex, PureTe, RowsE. -/
import Derived.Test.YtomninikmcmmcaaDoorProg
import Derived.Below
import Derived.Deep.Draws
import Derived.Deep.AppendLies
import Derived.Maps.AppendAt
import Derived.OwnWalk
import Derived.Laws.BytesArg
import Derived.Laws.MakeOwn
import Derived.Laws.OwnMore
import Derived.Deep.OwnRows
import Derived.Tactics
import Derived.Lib.ConvBytes
import Derived.Laws.Slices
import Derived.WalkKit
import Derived.KernelRfl
import Derived.RowKit3
import Derived.Deep.LoopGhost
import Derived.Deep.QuietTactic
import Derived.BigQuiet
import Derived.WideLaws
import Derived.Deep.DeepCutAuto
import Derived.Deep.CutBlock
import Derived.Deep.RegionHeld3
import Derived.Laws.Rows
import Derived.Lib.AppendStr
import Derived.ArgAppend
import Derived.Laws.IdiomCopy
import Derived.OrdersHeld
import Derived.Laws.BitsLemmas
import Derived.RowKit
import Derived.Test.YtomninikmcmmcaaDoorGivA
import Derived.Test.YtomninikmcmmcaaDoorHm
import Derived.Test.YtomninikmcmmcaaDoorTa
import Derived.Test.YtomninikmcmmcaaDoorHq
import Derived.Test.YtomninikmcmmcaaDoorPBwA
import Derived.Test.YtomninikmcmmcaaDoorTcc
import Derived.Test.YtomninikmcmmcaaDoorWWords
import Derived.Test.YtomninikmcmmcaaDoorWLast
import Derived.Test.YtomninikmcmmcaaDoorWTab
import Derived.Test.YtomninikmcmmcaaDoorWQPut
import Derived.Test.YtomninikmcmmcaaDoorWApart
import Derived.Test.YtomninikmcmmcaaDoorWArr
import Derived.Test.YtomninikmcmmcaaDoorWZeros
import Derived.Test.YtomninikmcmmcaaDoorWFoot
import Derived.Test.YtomninikmcmmcaaDoorWKept
import Derived.Test.YtomninikmcmmcaaDoorWShare
import Derived.Test.YtomninikmcmmcaaDoorWN
import Derived.Test.YtomninikmcmmcaaDoorWEqStruct
import Derived.Test.YtomninikmcmmcaaDoorWRepsOne
import Derived.Test.YtomninikmcmmcaaDoorWGuard
import Derived.Test.YtomninikmcmmcaaDoorWNEv
import Derived.Test.YtomninikmcmmcaaDoorWMore
import Derived.Test.YtomninikmcmmcaaDoorAwake7
import Derived.Test.YtomninikmcmmcaaDoorMg
import Derived.Test.YtomninikmcmmcaaDoorMi
import Derived.Test.YtomninikmcmmcaaDoorPTgA
import Derived.Test.YtomninikmcmmcaaDoorDg
import Derived.Test.YtomninikmcmmcaaDoorMk
import Derived.Test.YtomninikmcmmcaaDoorKd
section
-- Printed by this session's own program (wip/xprint.py) out of the translation. Lean checks it.
namespace Go.Proofs.YtomninikmcmmcaaDoor.PTd
open Go.RowKit Go.Proofs.YtomninikmcmmcaaDoorW.PrintWords Go.Proofs.YtomninikmcmmcaaDoorW.PrintLast Go.Proofs.YtomninikmcmmcaaDoorW.PrintMore Go.Proofs.YtomninikmcmmcaaDoor.GivH Go.Proofs.YtomninikmcmmcaaDoor.GivN Go.Proofs.YtomninikmcmmcaaDoor.GivT Go.Proofs.YtomninikmcmmcaaDoor.PBw Go.Proofs.YtomninikmcmmcaaDoor.PHs Go.Proofs.YtomninikmcmmcaaDoor.PTc
attribute [local go_sem] max2_int min2_int max_two min_two max_three min_three max_four min_four   -- for this text's walks alone
set_option linter.unusedVariables false
set_option linter.unusedSimpArgs false



end Go.Proofs.YtomninikmcmmcaaDoor.PTd
end
section
-- Printed by this session's own program (wip/xprint.py) out of the translation. Lean checks it.
namespace Go.Proofs.YtomninikmcmmcaaDoor.PTd
open Go.RowKit Go.Proofs.YtomninikmcmmcaaDoorW.PrintWords Go.Proofs.YtomninikmcmmcaaDoorW.PrintLast Go.Proofs.YtomninikmcmmcaaDoorW.PrintMore Go.Proofs.YtomninikmcmmcaaDoor.GivH Go.Proofs.YtomninikmcmmcaaDoor.GivN Go.Proofs.YtomninikmcmmcaaDoor.GivT Go.Proofs.YtomninikmcmmcaaDoor.PBw Go.Proofs.YtomninikmcmmcaaDoor.PHs Go.Proofs.YtomninikmcmmcaaDoor.PTc
attribute [local go_sem] max2_int min2_int max_two min_two max_three min_three max_four min_four   -- for this text's walks alone
set_option linter.unusedVariables false
set_option linter.unusedSimpArgs false

-- GIVEN: function 37 (hmac_First)

/-! ### tag_Salt: function 50 -/
def tag_Salt.f (a0 : ByteArray) (a1 : ByteArray) : Option (ByteArray) := (some (([3] : List Int) : List Int)).bind fun y101 => (if (strOfNums y101).size + a1.size ≤ 9223372036854775807 then ((hmac_First.f a0 ((strOfNums y101) ++ a1) 16).bind fun t104 => (some t104)) else (none))
set_option maxHeartbeats 8000000 in
set_option maxRecDepth 100000 in
theorem tag_Salt.calls (a0 : ByteArray) (a1 : ByteArray) (r : ByteArray) (w : World) (hT : GivA.Tab w) (h : tag_Salt.f a0 a1 = some r) :
    Calls Tryd.prog 50 #[.string a0, .string a1] w fun e w' => e = .returned (.string r) ∧ Below w.heap.size w w' := by
  have HT := Aside0.mk hT
  clear hT
  have HB := Aside0.mk (Below.refl w.heap.size w)
  have H : ((some (([3] : List Int) : List Int)).bind fun y101 => (if (strOfNums y101).size + a1.size ≤ 9223372036854775807 then ((hmac_First.f a0 ((strOfNums y101) ++ a1) 16).bind fun t104 => (some t104)) else (none))) = some r := h
  clear h
  obtain ⟨y101, hy101⟩ : ∃ y_ : List Int, y_ = (([3] : List Int)) := ⟨_, rfl⟩
  replace H : (if (strOfNums y101).size + a1.size ≤ 9223372036854775807 then ((hmac_First.f a0 ((strOfNums y101) ++ a1) 16).bind fun t104 => (some t104)) else (none)) = some r := by first | (rw [hy101]; with_reducible exact H) | (have H2_ := (Option.bind_some _ _).symm.trans H; rw [hy101]; with_reducible exact H2_) | (have H2_ := (Option.bind_some _ _).symm.trans H; with_reducible exact H2_) | with_reducible exact H | (rw [hy101]; exact H) | exact H
  have Ny101 := Aside0.mk hy101
  clear hy101
  by_cases c3 : (strOfNums y101).size + a1.size ≤ 9223372036854775807
  · rw [if_pos c3] at H
    have c3b0 := eq_true c3
    have c3b1 : decide ((strOfNums y101).size + a1.size ≤ 9223372036854775807) = true := decide_eq_true c3
    try have c3b2 : (9223372036854775807 < (strOfNums y101).size + a1.size) = False := eq_false (Nat.not_lt.2 c3)
    replace H := Option.bind_eq_some_iff.mp H
    obtain ⟨t104, A40, H⟩ := H
    replace H : (some t104) = some r := H
    have A4 := Aside0.mk A40
    clear A40
    obtain rfl := Option.some.inj H
    go_enter Tryd.func50, Tryd.ntmps50
    go_wp2_with (first | ((with_reducible refine gate_dst (N := 6) rfl ?_); refine Kd.R_lit (Kd.int .u8) _ 5 ?hg (N := 6) ?hd (xs := ([3] : List Int)) (inner := [.int .u8 3]) (ok := fun _ => True) (okp := fun _ => True) ?hr ?hp (fun _ hk => hk) trivial (Below.refl _ _) (Nat.le_refl _) (by simp) ?_; (case hd => rfl); (case hg => rfl); (case hr => first | (go_simp; done) | (go_simp; rfl)); (case hp => exact (Reps.one (show Kd.M (Kd.int .u8) _ _ _ 3 [.int .u8 3] from rfl) (Reps.none _ _))); intro v102 w5 ho6 hb hg_ hnew_; clear hg_ hnew_; (first | rw [← Ny101.out] at ho6 | (simp only [Int.reduceToNat] at ho6; rw [← Ny101.out] at ho6)); have n0_ := Aside0.mk (Kd.R_lower ho6 (below_size (by repeat (first | (with_reducible first | exact HB.out | apply below_alloc | apply pw_below_drewN | apply below_drew1) | exact HB.out)))); have n1_ := Aside0.mk (below_step (by repeat (first | (with_reducible first | exact HB.out | apply below_alloc | apply pw_below_drewN | apply below_drew1) | exact HB.out)) hb); clear HB; have HO103 := n0_; have HB := n1_; clear n0_ n1_; clear hb ho6; have hcv7 := own_string (P := Tryd.prog) Tryd.underlying65 Tryd.underlying5 Tryd.underlying9 (Kd.own_of_R HO103.out)) | ((with_reducible refine gate_callee (f := 37) rfl ?_); refine goesL_ (some 10) rfl rfl Tryd.func37 (by kernel_rfl) rfl #[.string a0, .string ((strOfNums y101) ++ a1), .int .i64 16] rfl (by (try simp only [List.map_toArray, List.map_cons, List.map_nil]); first | done | rfl | (simp only [List.length_drop, List.length_take]; rfl)) ?_; (with_reducible refine (hmac_First.calls a0 ((strOfNums y101) ++ a1) 16 t104 _ ?side1 A4.out).mono ?_); (case side1 => exact (GivA.Tab.keep HT.out (by repeat (first | (with_reducible first | exact HB.out | apply below_alloc | apply pw_below_drewN | apply below_drew1) | exact HB.out)))); rintro e w8 ⟨rfl, hb⟩; refine ⟨_, rfl, ?_⟩; have n0_ := Aside0.mk (Kd.R_below (by (with_reducible repeat (first | apply Kd.R_alloc | apply Kd.R_drewN | apply Kd.R_drew)); exact HO103.out) hb); have n1_ := Aside0.mk (below_step (by repeat (first | (with_reducible first | exact HB.out | apply below_alloc | apply pw_below_drewN | apply below_drew1) | exact HB.out)) hb); clear HO103; clear HB; have HO103 := n0_; have HB := n1_; clear n0_ n1_; (try clear hb); (try clear hb2); (try clear hk); (try clear hi)))
    go_ret
    exact ⟨by first | rfl | (simp [errW_none, errW_some] <;> rfl) | (simp [*, errW_none, errW_some] <;> rfl), by repeat (first | (with_reducible first | exact HB.out | apply below_alloc | apply pw_below_drewN | apply below_drew1) | exact HB.out)⟩
  · rw [if_neg c3] at H
    exact absurd H (by simp)

-- GIVEN: function 73 (u128_Bytes)

/-! ### u128_Of: function 105 -/
def u128_Of.f (a0 : Int) : Option (Int × Int) := some (0, a0)
set_option maxHeartbeats 8000000 in
set_option maxRecDepth 100000 in
theorem u128_Of.calls (a0 : Int) (r1 : Int) (r2 : Int) (w : World) (h : u128_Of.f a0 = some (r1, r2)) :
    Calls Tryd.prog 105 #[.int .u64 a0] w fun e w' => e = .returned (.agg #[.int .u64 r1, .int .u64 r2]) ∧ Below w.heap.size w w' := by
  have hu37 := Tryd.underlying37
  have HB := Aside0.mk (Below.refl w.heap.size w)
  have H : (some (0, a0)) = some (r1, r2) := h
  clear h
  simp only [Option.some.injEq, Prod.mk.injEq] at H
  obtain ⟨rfl, rfl⟩ := H
  go_enter Tryd.func105, Tryd.ntmps105
  go_wp2_with (first | ((with_reducible refine gate_dst (N := 2) rfl ?_); refine box_event ?hg (N := 2) ?hd (cs := #[.int .u64 0, .int .u64 0]) (t := 37) ?hr ?_; (case hd => rfl); (case hg => rfl); (case hr => first | (go_simp; done) | (go_simp; rfl)); intro gb105 hg w2 hbox hb; have n0_ := Aside0.mk (below_step (by repeat (first | (with_reducible first | exact HB.out | apply below_alloc | apply pw_below_drewN | apply below_drew1) | exact HB.out)) hb); have n1_ := Aside0.mk (hbox); have n2_ := Aside0.mk ((by rw [hg]; exact (below_size (by repeat (first | (with_reducible first | exact HB.out | apply below_alloc | apply pw_below_drewN | apply below_drew1) | exact HB.out))) : w.heap.size ≤ gb105)); have n3_ := Aside0.mk ((by rw [hg]; exact (below_size (by repeat (first | (with_reducible first | exact HB.out | apply below_alloc | apply pw_below_drewN | apply below_drew1) | exact HB.out))) : w.heap.size ≤ gb105)); clear HB; have HB := n0_; have BK105 := n1_; have GW105 := n2_; have GE105 := n3_; clear n0_ n1_ n2_ n3_; clear hb hbox hg; have hcz3_0 : w2.cell? ⟨gb105, 0, none⟩ = some (.int .u64 0) := (blk_cell BK105.out 0).trans rfl; have hcz3_1 : w2.cell? ⟨gb105, 1, none⟩ = some (.int .u64 0) := (blk_cell BK105.out 1).trans rfl; have hfz3_0 := blk_frozen BK105.out 0; have hfz3_1 := blk_frozen BK105.out 1))
  refine bodyPost_ret (results_cell_row rfl _ _ gb105 37 #[.int .u64 0, .int .u64 a0] (0, 0) _ rfl (by (with_reducible repeat (first | refine blk_drewN ?_ _ | refine blk_drew ?_ | refine blk_alloc ?_ _)); refine blk_put (cs := #[.int .u64 0, .int .u64 0]) ?_ 1 _ rfl; (with_reducible repeat (first | refine blk_drewN ?_ _ | refine blk_drew ?_ | refine blk_alloc ?_ _)); refine blk_put (cs := #[.int .u64 0, .int .u64 0]) ?_ 0 _ rfl; (with_reducible repeat (first | refine blk_drewN ?_ _ | refine blk_drew ?_ | refine blk_alloc ?_ _)); exact BK105.out) Tryd.underlying37 rfl (by kernel_rfl)) rfl ?_
  exact ⟨by first | rfl | (simp [errW_none, errW_some] <;> rfl) | (simp [*, errW_none, errW_some] <;> rfl), by repeat (first | (with_reducible first | exact HB.out | apply below_alloc | apply pw_below_drewN | apply below_drew1 | refine below_set ?_ GE105.out) | exact HB.out)⟩

/-! ### tag_eight: function 82 -/
def tag_eight.f (a0 : Int) : Option (ByteArray) := (u128_Of.f a0).bind fun bt106 => ((u128_Bytes.f bt106.1 bt106.2).bind fun t108 => (if 8 ≤ (t108.size : Int) then (some (t108.extract 8 t108.size)) else (none)))
set_option maxHeartbeats 8000000 in
set_option maxRecDepth 100000 in
theorem tag_eight.calls (a0 : Int) (r : ByteArray) (w : World) (h : tag_eight.f a0 = some r) :
    Calls Tryd.prog 82 #[.int .u64 a0] w fun e w' => e = .returned (.string r) ∧ Below w.heap.size w w' := by
  have HB := Aside0.mk (Below.refl w.heap.size w)
  have H : ((u128_Of.f a0).bind fun bt106 => ((u128_Bytes.f bt106.1 bt106.2).bind fun t108 => (if 8 ≤ (t108.size : Int) then (some (t108.extract 8 t108.size)) else (none)))) = some r := h
  clear h
  replace H := Option.bind_eq_some_iff.mp H
  obtain ⟨⟨t106, t107⟩, A20, H⟩ := H
  replace H : ((u128_Bytes.f t106 t107).bind fun t108 => (if 8 ≤ (t108.size : Int) then (some (t108.extract 8 t108.size)) else (none))) = some r := H
  have A2 := Aside0.mk A20
  clear A20
  replace H := Option.bind_eq_some_iff.mp H
  obtain ⟨t108, A30, H⟩ := H
  replace H : (if 8 ≤ (t108.size : Int) then (some (t108.extract 8 t108.size)) else (none)) = some r := H
  have A3 := Aside0.mk A30
  clear A30
  by_cases c4 : 8 ≤ (t108.size : Int)
  · rw [if_pos c4] at H
    have c4b0 := eq_true c4
    have c4b1 : decide (8 ≤ (t108.size : Int)) = true := decide_eq_true c4
    clear c4
    obtain rfl := Option.some.inj H
    go_enter Tryd.func82, Tryd.ntmps82
    go_wp2_with (first | ((with_reducible refine gate_callee (f := 105) rfl ?_); refine goesL_ (some 4) rfl rfl Tryd.func105 (by kernel_rfl) rfl #[.int .u64 a0] rfl (by (try simp only [List.map_toArray, List.map_cons, List.map_nil]); first | done | rfl | (simp only [List.length_drop, List.length_take]; rfl)) ?_; (with_reducible refine (u128_Of.calls a0 t106 t107 _ A2.out).mono ?_); rintro e w5 ⟨rfl, hb⟩; refine ⟨_, rfl, ?_⟩; have n0_ := Aside0.mk (below_step (by repeat (first | (with_reducible first | exact HB.out | apply below_alloc | apply pw_below_drewN | apply below_drew1) | exact HB.out)) hb); clear HB; have HB := n0_; clear n0_; (try clear hb); (try clear hb2); (try clear hk); (try clear hi)) | ((with_reducible refine gate_callee (f := 73) rfl ?_); refine goesL_ (some 5) rfl rfl Tryd.func73 (by kernel_rfl) rfl #[.agg #[.int .u64 t106, .int .u64 t107]] rfl (by (try simp only [List.map_toArray, List.map_cons, List.map_nil]); first | done | rfl | (simp only [List.length_drop, List.length_take]; rfl)) ?_; (with_reducible refine (u128_Bytes.calls t106 t107 t108 _ A3.out).mono ?_); rintro e w6 ⟨rfl, hb⟩; refine ⟨_, rfl, ?_⟩; have n0_ := Aside0.mk (below_step (by repeat (first | (with_reducible first | exact HB.out | apply below_alloc | apply pw_below_drewN | apply below_drew1) | exact HB.out)) hb); clear HB; have HB := n0_; clear n0_; (try clear hb); (try clear hb2); (try clear hk); (try clear hi)))
    go_ret
    exact ⟨by first | rfl | (simp [errW_none, errW_some] <;> rfl) | (simp [*, errW_none, errW_some] <;> rfl), by repeat (first | (with_reducible first | exact HB.out | apply below_alloc | apply pw_below_drewN | apply below_drew1) | exact HB.out)⟩
  · rw [if_neg c4] at H
    exact absurd H (by simp)

/-! ### tag_PadSalt: function 52 -/
def tag_PadSalt.f (a0 : ByteArray) (a1 : Int) : Option (ByteArray) := (some (([4] : List Int) : List Int)).bind fun y109 => ((tag_eight.f a1).bind fun t112 => (if (strOfNums y109).size + t112.size ≤ 9223372036854775807 then ((hmac_First.f a0 ((strOfNums y109) ++ t112) 16).bind fun t113 => (some t113)) else (none)))
def tag_PadSalt.T1 : Bool × List (List Nat × List Nat) := (true, [([], []), ([], []), ([1], [1]), ([], []), ([3], [3]), ([2, 4], [2, 4]), ([0, 5, 4], [0, 5]), ([6, 6, 0, 1, 2, 3, 4, 5, 6], [6])])
def tag_PadSalt.B1 : List Nat := [0, 0, 2, 0, 8, 30, 63, 127]
theorem tag_PadSalt.tab1 : rtab .any (opsOf Tryd.f52 1) = tag_PadSalt.T1 := by kernel_rfl
theorem tag_PadSalt.bits1 : waitsOk tag_PadSalt.T1.2 tag_PadSalt.B1 = true := by kernel_rfl
set_option maxHeartbeats 8000000 in
set_option maxRecDepth 100000 in
theorem tag_PadSalt.calls (a0 : ByteArray) (a1 : Int) (r : ByteArray) (w : World) (hT : GivA.Tab w) (h : tag_PadSalt.f a0 a1 = some r) :
    Calls Tryd.prog 52 #[.string a0, .int .u64 a1] w fun e w' => e = .returned (.string r) ∧ Below w.heap.size w w' := by
  have HT := Aside0.mk hT
  clear hT
  have HB := Aside0.mk (Below.refl w.heap.size w)
  have H : ((some (([4] : List Int) : List Int)).bind fun y109 => ((tag_eight.f a1).bind fun t112 => (if (strOfNums y109).size + t112.size ≤ 9223372036854775807 then ((hmac_First.f a0 ((strOfNums y109) ++ t112) 16).bind fun t113 => (some t113)) else (none)))) = some r := h
  clear h
  obtain ⟨y109, hy109⟩ : ∃ y_ : List Int, y_ = (([4] : List Int)) := ⟨_, rfl⟩
  replace H : ((tag_eight.f a1).bind fun t112 => (if (strOfNums y109).size + t112.size ≤ 9223372036854775807 then ((hmac_First.f a0 ((strOfNums y109) ++ t112) 16).bind fun t113 => (some t113)) else (none))) = some r := by first | (rw [hy109]; with_reducible exact H) | (have H2_ := (Option.bind_some _ _).symm.trans H; rw [hy109]; with_reducible exact H2_) | (have H2_ := (Option.bind_some _ _).symm.trans H; with_reducible exact H2_) | with_reducible exact H | (rw [hy109]; exact H) | exact H
  have Ny109 := Aside0.mk hy109
  clear hy109
  replace H := Option.bind_eq_some_iff.mp H
  obtain ⟨t112, A30, H⟩ := H
  replace H : (if (strOfNums y109).size + t112.size ≤ 9223372036854775807 then ((hmac_First.f a0 ((strOfNums y109) ++ t112) 16).bind fun t113 => (some t113)) else (none)) = some r := H
  have A3 := Aside0.mk A30
  clear A30
  by_cases c4 : (strOfNums y109).size + t112.size ≤ 9223372036854775807
  · rw [if_pos c4] at H
    have c4b0 := eq_true c4
    have c4b1 : decide ((strOfNums y109).size + t112.size ≤ 9223372036854775807) = true := decide_eq_true c4
    try have c4b2 : (9223372036854775807 < (strOfNums y109).size + t112.size) = False := eq_false (Nat.not_lt.2 c4)
    replace H := Option.bind_eq_some_iff.mp H
    obtain ⟨t113, A50, H⟩ := H
    replace H : (some t113) = some r := H
    have A5 := Aside0.mk A50
    clear A50
    obtain rfl := Option.some.inj H
    go_enter Tryd.func52, Tryd.ntmps52
    try go_wp2
    have n0_ := Aside0.mk (below_drew1 HB.out)
    clear HB
    have HB := n0_
    clear n0_
    refine start_ (n := 8) (S := fun w' => True) (ds := []) #[false, false, false, false, false, false, false, false] (by kernel_rfl) rfl rfl trivial (fun hHeld => ?_); refine with_tabW tag_PadSalt.tab1 tag_PadSalt.bits1 (fun HT_ HW_ => ?_)
    generalize w.drew = w6 at HB hHeld ⊢
    refine pure_ (i := 0) (N := some 5) (v := ?_) (a' := ?_) #[true, false, false, false, false, false, false, false] rfl rfl (any_of HT_.out (by kernel_rfl)) (fun _ _ _ h => h) (Or.inl ⟨by rfl, ?_⟩) ?_ ?_
    rotate_left
    · intro w'
      go_simp
      with_reducible rfl
    rotate_left
    · simp only [Act.put, List.setIfInBounds_toArray, List.set_cons_zero, List.set_cons_succ, i64_w, i32_w]
      rfl
    refine pure_ (i := 3) (N := some 8) (v := ?_) (a' := ?_) #[true, false, false, true, false, false, false, false] rfl rfl (any_of HT_.out (by kernel_rfl)) (fun _ _ _ h => h) (Or.inl ⟨by rfl, ?_⟩) ?_ ?_
    rotate_left
    · intro w'
      go_simp
      with_reducible rfl
    rotate_left
    · simp only [Act.put, List.setIfInBounds_toArray, List.set_cons_zero, List.set_cons_succ, i64_w, i32_w]
      rfl
    refine join_ (σ := Value) 3 #[true, true, true, true, true, false, false, false] (fun s_ => [(6, s_), (7, .string (strOfNums y109)), (9, .string t112)]) (fun s_ w' => (Kd.R (Kd.int .u8) 5 w' w.heap.size (fun _ => True) s_ y109) ∧ (Below w.heap.size w w')) ?_ ?_
    rotate_left
    · intro hCont
      refine two_ (i := 1) (j := 4) (Ni := some 6) (Nj := some 9) #[true, true, false, true, false, false, false, false] #[true, false, false, true, true, false, false, false] rfl rfl rfl rfl (two_of HT_.out (by kernel_rfl)) (by decide) (by decide) (fun K hK => ?_) (fun K hK => ?_)
      · skip
        refine Kd.R_lit_step (Kd.int .u8) _ 5 ?hg (N := 6) ?hd (xs := ([4] : List Int)) (inner := [.int .u8 4]) (ok := fun _ => True) (okp := fun _ => True) ?hr ?hp (fun _ hk => hk) trivial (Below.refl _ _) (Nat.le_refl _) (by simp) ?_; (case hd => rfl); (case hg => rfl); (case hr => first | (go_simp; done) | (go_simp; rfl)); (case hp => exact (Reps.one (show Kd.M (Kd.int .u8) _ _ _ 4 [.int .u8 4] from rfl) (Reps.none _ _)))
        intro v110 w7 ho8 hb hg_ hnew_
        clear hg_ hnew_
        (first | rw [← Ny109.out] at ho8 | (simp only [Int.reduceToNat] at ho8; rw [← Ny109.out] at ho8))
        have n0_ := Aside0.mk (Kd.R_lower ho8 (below_size (by repeat (first | (with_reducible first | exact HB.out | apply below_alloc | apply pw_below_drewN | apply below_drew1) | exact HB.out))))
        have n1_ := Aside0.mk (below_step (by repeat (first | (with_reducible first | exact HB.out | apply below_alloc | apply pw_below_drewN | apply below_drew1) | exact HB.out)) hb)
        clear HB
        have HO111 := n0_
        have HB := n1_
        clear n0_ n1_
        clear hb ho8
        refine hK.out _ _ trivial (fun hHeld => ?_)
        clear hK K
        refine norm_ (a' := ?_) ?_ ?_
        rotate_left
        · show Act.put _ (some 6) _ = _
          simp only [Act.put, List.setIfInBounds_toArray, List.set_cons_zero, List.set_cons_succ, i64_w, i32_w]
          rfl
        refine two_ (i := 2) (j := 4) (Ni := some 7) (Nj := some 9) #[true, true, true, true, false, false, false, false] #[true, true, false, true, true, false, false, false] rfl rfl rfl rfl (two_of HT_.out (by kernel_rfl)) (by decide) (by decide) (fun K hK => ?_) (fun K hK => ?_)
        · skip
          have hcv9 := own_string (P := Tryd.prog) Tryd.underlying65 Tryd.underlying5 Tryd.underlying9 (Kd.own_of_R HO111.out)
          refine value_ (w1 := ?_) (v := ?_) (by rfl) rfl ?_ ?_
          rotate_left 2
          · go_simp
            constructor
            · rfl
            · rfl
          clear hcv9
          refine hK.out _ _ trivial (fun hHeld => ?_)
          clear hK K
          refine norm_ (a' := ?_) ?_ ?_
          rotate_left
          · show Act.put _ (some 7) _ = _
            simp only [Act.put, List.setIfInBounds_toArray, List.set_cons_zero, List.set_cons_succ, i64_w, i32_w]
            rfl
          refine one_ (i := 4) (N := some 9) #[true, true, true, true, true, false, false, false] rfl rfl (one_of HT_.out (by kernel_rfl)) (by decide) (fun K hK => ?_)
          refine goes_ Tryd.func82 (by kernel_rfl) rfl #[.int .u64 a1] (by rfl) rfl rfl (by (try simp only [List.map_toArray, List.map_cons, List.map_nil]); first | done | rfl | (simp only [List.length_drop, List.length_take]; rfl)) ?_
          with_reducible refine (tag_eight.calls a1 t112 _ A3.out).mono ?_
          rintro e w10 ⟨rfl, hb⟩
          refine ⟨_, rfl, ?_⟩
          have n0_ := Aside0.mk (Kd.R_below (by (with_reducible repeat (first | apply Kd.R_alloc | apply Kd.R_drewN | apply Kd.R_drew)); exact HO111.out) hb)
          have n1_ := Aside0.mk (below_step (by repeat (first | (with_reducible first | exact HB.out | apply below_alloc | apply pw_below_drewN | apply below_drew1) | exact HB.out)) hb)
          clear HO111
          clear HB
          have HO111 := n0_
          have HB := n1_
          clear n0_ n1_
          (try clear hb)
          (try clear hb2)
          (try clear hk)
          (try clear hi)
          refine hK.out _ _ trivial (fun hHeld => ?_)
          clear hK K
          refine norm_ (a' := ?_) ?_ ?_
          rotate_left
          · show Act.put _ (some 9) _ = _
            simp only [Act.put, List.setIfInBounds_toArray, List.set_cons_zero, List.set_cons_succ, i64_w, i32_w]
            rfl
          exact norm_ (by simp only [putAll, Act.put, List.setIfInBounds_toArray, List.set_cons_zero, List.set_cons_succ]) (hCont (v110) _ ⟨(by (with_reducible repeat (first | apply Kd.R_alloc | apply Kd.R_drewN | apply Kd.R_drew)); exact HO111.out), (by repeat (first | (with_reducible first | exact HB.out | apply below_alloc | apply pw_below_drewN | apply below_drew1) | exact HB.out))⟩)
        · skip
          refine goes_ Tryd.func82 (by kernel_rfl) rfl #[.int .u64 a1] (by rfl) rfl rfl (by (try simp only [List.map_toArray, List.map_cons, List.map_nil]); first | done | rfl | (simp only [List.length_drop, List.length_take]; rfl)) ?_
          with_reducible refine (tag_eight.calls a1 t112 _ A3.out).mono ?_
          rintro e w9 ⟨rfl, hb⟩
          refine ⟨_, rfl, ?_⟩
          have n0_ := Aside0.mk (Kd.R_below (by (with_reducible repeat (first | apply Kd.R_alloc | apply Kd.R_drewN | apply Kd.R_drew)); exact HO111.out) hb)
          have n1_ := Aside0.mk (below_step (by repeat (first | (with_reducible first | exact HB.out | apply below_alloc | apply pw_below_drewN | apply below_drew1) | exact HB.out)) hb)
          clear HO111
          clear HB
          have HO111 := n0_
          have HB := n1_
          clear n0_ n1_
          (try clear hb)
          (try clear hb2)
          (try clear hk)
          (try clear hi)
          refine hK.out _ _ trivial (fun hHeld => ?_)
          clear hK K
          refine norm_ (a' := ?_) ?_ ?_
          rotate_left
          · show Act.put _ (some 9) _ = _
            simp only [Act.put, List.setIfInBounds_toArray, List.set_cons_zero, List.set_cons_succ, i64_w, i32_w]
            rfl
          refine one_ (i := 2) (N := some 7) #[true, true, true, true, true, false, false, false] rfl rfl (one_of HT_.out (by kernel_rfl)) (by decide) (fun K hK => ?_)
          have hcv10 := own_string (P := Tryd.prog) Tryd.underlying65 Tryd.underlying5 Tryd.underlying9 (Kd.own_of_R HO111.out)
          refine value_ (w1 := ?_) (v := ?_) (by rfl) rfl ?_ ?_
          rotate_left 2
          · go_simp
            constructor
            · rfl
            · rfl
          clear hcv10
          refine hK.out _ _ trivial (fun hHeld => ?_)
          clear hK K
          refine norm_ (a' := ?_) ?_ ?_
          rotate_left
          · show Act.put _ (some 7) _ = _
            simp only [Act.put, List.setIfInBounds_toArray, List.set_cons_zero, List.set_cons_succ, i64_w, i32_w]
            rfl
          exact norm_ (by simp only [putAll, Act.put, List.setIfInBounds_toArray, List.set_cons_zero, List.set_cons_succ]) (hCont (v110) _ ⟨(by (with_reducible repeat (first | apply Kd.R_alloc | apply Kd.R_drewN | apply Kd.R_drew)); exact HO111.out), (by repeat (first | (with_reducible first | exact HB.out | apply below_alloc | apply pw_below_drewN | apply below_drew1) | exact HB.out))⟩)
      · skip
        refine goes_ Tryd.func82 (by kernel_rfl) rfl #[.int .u64 a1] (by rfl) rfl rfl (by (try simp only [List.map_toArray, List.map_cons, List.map_nil]); first | done | rfl | (simp only [List.length_drop, List.length_take]; rfl)) ?_
        with_reducible refine (tag_eight.calls a1 t112 _ A3.out).mono ?_
        rintro e w7 ⟨rfl, hb⟩
        refine ⟨_, rfl, ?_⟩
        have n0_ := Aside0.mk (below_step (by repeat (first | (with_reducible first | exact HB.out | apply below_alloc | apply pw_below_drewN | apply below_drew1) | exact HB.out)) hb)
        clear HB
        have HB := n0_
        clear n0_
        (try clear hb)
        (try clear hb2)
        (try clear hk)
        (try clear hi)
        refine hK.out _ _ trivial (fun hHeld => ?_)
        clear hK K
        refine norm_ (a' := ?_) ?_ ?_
        rotate_left
        · show Act.put _ (some 9) _ = _
          simp only [Act.put, List.setIfInBounds_toArray, List.set_cons_zero, List.set_cons_succ, i64_w, i32_w]
          rfl
        refine one_ (i := 1) (N := some 6) #[true, true, false, true, true, false, false, false] rfl rfl (one_of HT_.out (by kernel_rfl)) (by decide) (fun K hK => ?_)
        refine Kd.R_lit_step (Kd.int .u8) _ 5 ?hg (N := 6) ?hd (xs := ([4] : List Int)) (inner := [.int .u8 4]) (ok := fun _ => True) (okp := fun _ => True) ?hr ?hp (fun _ hk => hk) trivial (Below.refl _ _) (Nat.le_refl _) (by simp) ?_; (case hd => rfl); (case hg => rfl); (case hr => first | (go_simp; done) | (go_simp; rfl)); (case hp => exact (Reps.one (show Kd.M (Kd.int .u8) _ _ _ 4 [.int .u8 4] from rfl) (Reps.none _ _)))
        intro v110 w8 ho9 hb hg_ hnew_
        clear hg_ hnew_
        (first | rw [← Ny109.out] at ho9 | (simp only [Int.reduceToNat] at ho9; rw [← Ny109.out] at ho9))
        have n0_ := Aside0.mk (Kd.R_lower ho9 (below_size (by repeat (first | (with_reducible first | exact HB.out | apply below_alloc | apply pw_below_drewN | apply below_drew1) | exact HB.out))))
        have n1_ := Aside0.mk (below_step (by repeat (first | (with_reducible first | exact HB.out | apply below_alloc | apply pw_below_drewN | apply below_drew1) | exact HB.out)) hb)
        clear HB
        have HO111 := n0_
        have HB := n1_
        clear n0_ n1_
        clear hb ho9
        refine hK.out _ _ trivial (fun hHeld => ?_)
        clear hK K
        refine norm_ (a' := ?_) ?_ ?_
        rotate_left
        · show Act.put _ (some 6) _ = _
          simp only [Act.put, List.setIfInBounds_toArray, List.set_cons_zero, List.set_cons_succ, i64_w, i32_w]
          rfl
        refine one_ (i := 2) (N := some 7) #[true, true, true, true, true, false, false, false] rfl rfl (one_of HT_.out (by kernel_rfl)) (by decide) (fun K hK => ?_)
        have hcv10 := own_string (P := Tryd.prog) Tryd.underlying65 Tryd.underlying5 Tryd.underlying9 (Kd.own_of_R HO111.out)
        refine value_ (w1 := ?_) (v := ?_) (by rfl) rfl ?_ ?_
        rotate_left 2
        · go_simp
          constructor
          · rfl
          · rfl
        clear hcv10
        refine hK.out _ _ trivial (fun hHeld => ?_)
        clear hK K
        refine norm_ (a' := ?_) ?_ ?_
        rotate_left
        · show Act.put _ (some 7) _ = _
          simp only [Act.put, List.setIfInBounds_toArray, List.set_cons_zero, List.set_cons_succ, i64_w, i32_w]
          rfl
        exact norm_ (by simp only [putAll, Act.put, List.setIfInBounds_toArray, List.set_cons_zero, List.set_cons_succ]) (hCont (v110) _ ⟨(by (with_reducible repeat (first | apply Kd.R_alloc | apply Kd.R_drewN | apply Kd.R_drew)); exact HO111.out), (by repeat (first | (with_reducible first | exact HB.out | apply below_alloc | apply pw_below_drewN | apply below_drew1) | exact HB.out))⟩)
    rintro v110 w11 ⟨h0_, h1_⟩
    have n0_ : Aside0 (Kd.R (Kd.int .u8) 5 w11 w.heap.size (fun _ => True) v110 y109) := ⟨h0_⟩
    have n1_ : Aside0 (Below w.heap.size w w11) := ⟨h1_⟩
    clear HB
    clear h0_ h1_
    have HO111 := n0_
    have HB := n1_
    clear n0_ n1_
    have hHeld := trivial
    refine norm_ (a' := ?_) ?_ ?_
    rotate_left
    · simp only [putAll, Act.put, List.setIfInBounds_toArray, List.set_cons_zero, List.set_cons_succ]
      rfl
    refine pure_ (i := 5) (N := some 10) (v := ?_) (a' := ?_) #[true, true, true, true, true, true, false, false] rfl rfl (any_of HT_.out (by kernel_rfl)) (fun _ _ _ h => h) (Or.inl ⟨by rfl, ?_⟩) ?_ ?_
    rotate_left
    · intro w'
      go_simp
      with_reducible rfl
    rotate_left
    · simp only [Act.put, List.setIfInBounds_toArray, List.set_cons_zero, List.set_cons_succ, i64_w, i32_w]
      rfl
    refine one_ (i := 6) (N := some 11) #[true, true, true, true, true, true, true, false] rfl rfl (one_of HT_.out (by kernel_rfl)) (by decide) (fun K hK => ?_)
    refine goes_ Tryd.func37 (by kernel_rfl) rfl #[.string a0, .string ((strOfNums y109) ++ t112), .int .i64 16] (by rfl) rfl rfl (by (try simp only [List.map_toArray, List.map_cons, List.map_nil]); first | done | rfl | (simp only [List.length_drop, List.length_take]; rfl)) ?_
    with_reducible refine (hmac_First.calls a0 ((strOfNums y109) ++ t112) 16 t113 _ ?side1 A5.out).mono ?_
    (case side1 => exact (GivA.Tab.keep HT.out (by repeat (first | (with_reducible first | exact HB.out | apply below_alloc | apply pw_below_drewN | apply below_drew1) | exact HB.out))))
    rintro e w12 ⟨rfl, hb⟩
    refine ⟨_, rfl, ?_⟩
    have n0_ := Aside0.mk (Kd.R_below (by (with_reducible repeat (first | apply Kd.R_alloc | apply Kd.R_drewN | apply Kd.R_drew)); exact HO111.out) hb)
    have n1_ := Aside0.mk (below_step (by repeat (first | (with_reducible first | exact HB.out | apply below_alloc | apply pw_below_drewN | apply below_drew1) | exact HB.out)) hb)
    clear HO111
    clear HB
    have HO111 := n0_
    have HB := n1_
    clear n0_ n1_
    (try clear hb)
    (try clear hb2)
    (try clear hk)
    (try clear hi)
    refine hK.out _ _ trivial (fun hHeld => ?_)
    clear hK K
    refine norm_ (a' := ?_) ?_ ?_
    rotate_left
    · show Act.put _ (some 11) _ = _
      simp only [Act.put, List.setIfInBounds_toArray, List.set_cons_zero, List.set_cons_succ, i64_w, i32_w]
      rfl
    refine pure_ (i := 7) (N := some 4) (v := ?_) (a' := ?_) #[true, true, true, true, true, true, true, true] rfl rfl (any_of HT_.out (by kernel_rfl)) (fun _ _ _ h => h) (Or.inl ⟨by rfl, ?_⟩) ?_ ?_
    rotate_left
    · intro w'
      go_simp
      with_reducible rfl
    rotate_left
    · simp only [Act.put, List.setIfInBounds_toArray, List.set_cons_zero, List.set_cons_succ, i64_w, i32_w]
      rfl
    refine done_ (done_of HT_.out (by kernel_rfl)) ?_
    try go_wp2
    go_ret
    exact ⟨by first | rfl | (simp [errW_none, errW_some] <;> rfl) | (simp [*, errW_none, errW_some] <;> rfl), by repeat (first | (with_reducible first | exact HB.out | apply below_alloc | apply pw_below_drewN | apply below_drew1) | exact HB.out)⟩
  · rw [if_neg c4] at H
    exact absurd H (by simp)

/-! ### tag_Pad: function 54 -/
def tag_Pad.f (a0 : ByteArray) (a1 : Int) : Option (Bool × ByteArray × ByteArray × Int × Int) := (tag_PadSalt.f a0 a1).bind fun t115 => (some (true, (⟨#[]⟩ : ByteArray), t115, 0, 0))
set_option maxHeartbeats 8000000 in
set_option maxRecDepth 100000 in
theorem tag_Pad.calls (a0 : ByteArray) (a1 : Int) (r1 : Bool) (r2 : ByteArray) (r3 : ByteArray) (r4 : Int) (r5 : Int) (w : World) (hT : GivA.Tab w) (h : tag_Pad.f a0 a1 = some (r1, r2, r3, r4, r5)) :
    Calls Tryd.prog 54 #[.string a0, .int .u64 a1] w fun e w' => e = .returned (.agg #[.bool r1, .string r2, .string r3, .int .u64 r4, .int .u64 r5]) ∧ Below w.heap.size w w' := by
  have HT := Aside0.mk hT
  clear hT
  have hu39 := Tryd.underlying39
  have HB := Aside0.mk (Below.refl w.heap.size w)
  have H : ((tag_PadSalt.f a0 a1).bind fun t115 => (some (true, (⟨#[]⟩ : ByteArray), t115, 0, 0))) = some (r1, r2, r3, r4, r5) := h
  clear h
  replace H := Option.bind_eq_some_iff.mp H
  obtain ⟨t115, A30, H⟩ := H
  replace H : (some (true, (⟨#[]⟩ : ByteArray), t115, 0, 0)) = some (r1, r2, r3, r4, r5) := H
  have A3 := Aside0.mk A30
  clear A30
  simp only [Option.some.injEq, Prod.mk.injEq] at H
  obtain ⟨rfl, rfl, rfl, rfl, rfl⟩ := H
  go_enter Tryd.func54, Tryd.ntmps54
  go_wp2_with (first | ((with_reducible refine gate_dst (N := 4) rfl ?_); refine box_event ?hg (N := 4) ?hd (cs := #[.bool false, .string (⟨#[]⟩ : ByteArray), .string (⟨#[]⟩ : ByteArray), .int .u64 0, .int .u64 0]) (t := 39) ?hr ?_; (case hd => rfl); (case hg => rfl); (case hr => first | (go_simp; done) | (go_simp; rfl)); intro gb114 hg w4 hbox hb; have n0_ := Aside0.mk (below_step (by repeat (first | (with_reducible first | exact HB.out | apply below_alloc | apply pw_below_drewN | apply below_drew1) | exact HB.out)) hb); have n1_ := Aside0.mk (hbox); have n2_ := Aside0.mk ((by rw [hg]; exact (below_size (by repeat (first | (with_reducible first | exact HB.out | apply below_alloc | apply pw_below_drewN | apply below_drew1) | exact HB.out))) : w.heap.size ≤ gb114)); have n3_ := Aside0.mk ((by rw [hg]; exact (below_size (by repeat (first | (with_reducible first | exact HB.out | apply below_alloc | apply pw_below_drewN | apply below_drew1) | exact HB.out))) : w.heap.size ≤ gb114)); clear HB; have HB := n0_; have BK114 := n1_; have GW114 := n2_; have GE114 := n3_; clear n0_ n1_ n2_ n3_; clear hb hbox hg) | ((with_reducible refine gate_callee (f := 52) rfl ?_); refine goesL_ (some 7) rfl rfl Tryd.func52 (by kernel_rfl) rfl #[.string a0, .int .u64 a1] rfl (by (try simp only [List.map_toArray, List.map_cons, List.map_nil]); first | done | rfl | (simp only [List.length_drop, List.length_take]; rfl)) ?_; (with_reducible refine (tag_PadSalt.calls a0 a1 t115 _ ?side1 A3.out).mono ?_); (case side1 => exact (GivA.Tab.keep HT.out (by repeat (first | (with_reducible first | exact HB.out | apply below_alloc | apply pw_below_drewN | apply below_drew1 | refine below_set ?_ GE114.out) | exact HB.out)))); rintro e w5 ⟨rfl, hb⟩; refine ⟨_, rfl, ?_⟩; have n0_ := Aside0.mk (blk_below (g := gb114) (o := .cells #[.bool false, .string (⟨#[]⟩ : ByteArray), .string (⟨#[]⟩ : ByteArray), .int .u64 0, .int .u64 0] 39 (0, 0)) (by (with_reducible repeat (first | refine blk_drewN ?_ _ | refine blk_drew ?_ | refine blk_alloc ?_ _)); exact BK114.out) hb); have n1_ := Aside0.mk (below_step (by repeat (first | (with_reducible first | exact HB.out | apply below_alloc | apply pw_below_drewN | apply below_drew1 | refine below_set ?_ GE114.out) | exact HB.out)) hb); clear BK114; clear HB; have BK114 := n0_; have HB := n1_; clear n0_ n1_; (try clear hb); (try clear hb2); (try clear hk); (try clear hi); have hcz6_0 : w5.cell? ⟨gb114, 0, none⟩ = some (.bool false) := (blk_cell BK114.out 0).trans rfl; have hcz6_1 : w5.cell? ⟨gb114, 1, none⟩ = some (.string (⟨#[]⟩ : ByteArray)) := (blk_cell BK114.out 1).trans rfl; have hcz6_2 : w5.cell? ⟨gb114, 2, none⟩ = some (.string (⟨#[]⟩ : ByteArray)) := (blk_cell BK114.out 2).trans rfl; have hcz6_3 : w5.cell? ⟨gb114, 3, none⟩ = some (.int .u64 0) := (blk_cell BK114.out 3).trans rfl; have hcz6_4 : w5.cell? ⟨gb114, 4, none⟩ = some (.int .u64 0) := (blk_cell BK114.out 4).trans rfl; have hfz6_0 := blk_frozen BK114.out 0; have hfz6_1 := blk_frozen BK114.out 1; have hfz6_2 := blk_frozen BK114.out 2; have hfz6_3 := blk_frozen BK114.out 3; have hfz6_4 := blk_frozen BK114.out 4))
  refine bodyPost_ret (results_cell_row rfl _ _ gb114 39 #[.bool true, .string (⟨#[]⟩ : ByteArray), .string t115, .int .u64 0, .int .u64 0] (0, 0) _ rfl (by (with_reducible repeat (first | refine blk_drewN ?_ _ | refine blk_drew ?_ | refine blk_alloc ?_ _)); refine blk_put (cs := #[.bool true, .string (⟨#[]⟩ : ByteArray), .string t115, .int .u64 0, .int .u64 0]) ?_ 4 _ rfl; (with_reducible repeat (first | refine blk_drewN ?_ _ | refine blk_drew ?_ | refine blk_alloc ?_ _)); refine blk_put (cs := #[.bool true, .string (⟨#[]⟩ : ByteArray), .string t115, .int .u64 0, .int .u64 0]) ?_ 3 _ rfl; (with_reducible repeat (first | refine blk_drewN ?_ _ | refine blk_drew ?_ | refine blk_alloc ?_ _)); refine blk_put (cs := #[.bool true, .string (⟨#[]⟩ : ByteArray), .string (⟨#[]⟩ : ByteArray), .int .u64 0, .int .u64 0]) ?_ 2 _ rfl; (with_reducible repeat (first | refine blk_drewN ?_ _ | refine blk_drew ?_ | refine blk_alloc ?_ _)); refine blk_put (cs := #[.bool true, .string (⟨#[]⟩ : ByteArray), .string (⟨#[]⟩ : ByteArray), .int .u64 0, .int .u64 0]) ?_ 1 _ rfl; (with_reducible repeat (first | refine blk_drewN ?_ _ | refine blk_drew ?_ | refine blk_alloc ?_ _)); refine blk_put (cs := #[.bool false, .string (⟨#[]⟩ : ByteArray), .string (⟨#[]⟩ : ByteArray), .int .u64 0, .int .u64 0]) ?_ 0 _ rfl; (with_reducible repeat (first | refine blk_drewN ?_ _ | refine blk_drew ?_ | refine blk_alloc ?_ _)); exact BK114.out) Tryd.underlying39 rfl (by kernel_rfl)) rfl ?_
  exact ⟨by first | rfl | (simp [errW_none, errW_some] <;> rfl) | (simp [*, errW_none, errW_some] <;> rfl), by repeat (first | (with_reducible first | exact HB.out | apply below_alloc | apply pw_below_drewN | apply below_drew1 | refine below_set ?_ GE114.out) | exact HB.out)⟩

end Go.Proofs.YtomninikmcmmcaaDoor.PTd
end
section
-- Printed by this session's own program (wip/xprint.py) out of the translation. Lean checks it.
namespace Go.Proofs.YtomninikmcmmcaaDoor.PTd
open Go.RowKit Go.Proofs.YtomninikmcmmcaaDoorW.PrintWords Go.Proofs.YtomninikmcmmcaaDoorW.PrintLast Go.Proofs.YtomninikmcmmcaaDoorW.PrintMore
attribute [local go_sem] max2_int min2_int max_two min_two max_three min_three max_four min_four   -- for this text's walks alone
set_option linter.unusedVariables false
set_option linter.unusedSimpArgs false

end Go.Proofs.YtomninikmcmmcaaDoor.PTd
end
section
/- The salts of the program alone: plain laws. -/
namespace Go.Proofs.YtomninikmcmmcaaDoor.Sha
open Go Go.RowKit Go.Proofs.YtomninikmcmmcaaDoorW.PrintWords Go.Proofs.YtomninikmcmmcaaDoor.PTc Go.Proofs.YtomninikmcmmcaaDoor.PTd Go.Proofs.YtomninikmcmmcaaDoor.Oct Go.Proofs.YtomninikmcmmcaaDoor.GivT Go.Proofs.YtomninikmcmmcaaDoor.GivH Go.Proofs.YtomninikmcmmcaaDoor.GivN Go.Proofs.YtomninikmcmmcaaDoor.PHs
set_option linter.unusedVariables false
set_option linter.unusedSimpArgs false
theorem be16_size (hi lo : Nat) : (be16 hi lo).size = 16 := rfl
theorem eight_some (p : Nat) (h : p < 18446744073709551616) : tag_eight.f (p : Int) = some ((be16 0 p).extract 8 16) := by
  unfold tag_eight.f u128_Of.f
  rw [Option.bind_some]
  unfold u128_Bytes.f in64
  rw [if_pos (decide_eq_true ⟨by show (0 : Int) ≤ 0; decide, by show (0 : Int) < 18446744073709551616; decide⟩), if_pos (decide_eq_true ⟨by show (0 : Int) ≤ (p : Int); omega, by show (p : Int) < 18446744073709551616; omega⟩), Option.bind_some]
  rw [if_pos (by rw [be16_size]; decide), be16_size]
  rfl
theorem salt_some (a b : ByteArray) (ha : a.size ≤ 300) (hb : b.size ≤ 300) : tag_Salt.f a b = some (firstB a (⟨#[3]⟩ ++ b) 16) := by
  unfold tag_Salt.f
  have e : strOfNums [3] = ⟨#[3]⟩ := by rfl
  have hz : ((⟨#[3]⟩ : ByteArray) ++ b).size = 1 + b.size := ByteArray.size_append ..
  rw [Option.bind_some, e, if_pos (by show 1 + b.size ≤ _; omega), first_some _ _ _ (by omega) (by omega), Option.bind_some]
theorem tail8_size (p : Nat) : ((be16 0 p).extract 8 16).size = 8 := by rw [ByteArray.size_extract, be16_size]; rfl
theorem padsalt_some (a : ByteArray) (p : Nat) (ha : a.size ≤ 300) (h : p < 18446744073709551616) : tag_PadSalt.f a (p : Int) = some (firstB a (⟨#[4]⟩ ++ (be16 0 p).extract 8 16) 16) := by
  unfold tag_PadSalt.f
  have e : strOfNums [4] = ⟨#[4]⟩ := by rfl
  have hz : ((⟨#[4]⟩ : ByteArray) ++ (be16 0 p).extract 8 16).size = 1 + 8 := by rw [ByteArray.size_append, tail8_size]; rfl
  rw [Option.bind_some, eight_some p h, Option.bind_some, e, if_pos (by rw [tail8_size]; decide), first_some _ _ _ (by omega) (by omega), Option.bind_some]
theorem tpad_some (a : ByteArray) (p : Nat) (ha : a.size ≤ 300) (h : p < 18446744073709551616) : tag_Pad.f a (p : Int) = some (true, ⟨#[]⟩, firstB a (⟨#[4]⟩ ++ (be16 0 p).extract 8 16) 16, 0, 0) := by
  unfold tag_Pad.f
  rw [padsalt_some a p ha h, Option.bind_some]
end Go.Proofs.YtomninikmcmmcaaDoor.Sha
end
section
-- Printed by this session's own program (wip/xprint.py) out of the translation. Lean checks it.
namespace Go.Proofs.YtomninikmcmmcaaDoor.PTe
open Go.RowKit Go.Proofs.YtomninikmcmmcaaDoorW.PrintWords Go.Proofs.YtomninikmcmmcaaDoorW.PrintLast Go.Proofs.YtomninikmcmmcaaDoorW.PrintMore Go.Proofs.YtomninikmcmmcaaDoor.Awake7 Go.Proofs.YtomninikmcmmcaaDoor.GivH Go.Proofs.YtomninikmcmmcaaDoor.GivL Go.Proofs.YtomninikmcmmcaaDoor.GivN Go.Proofs.YtomninikmcmmcaaDoor.GivT Go.Proofs.YtomninikmcmmcaaDoor.GivU Go.Proofs.YtomninikmcmmcaaDoor.PHs Go.Proofs.YtomninikmcmmcaaDoor.PTc Go.Proofs.YtomninikmcmmcaaDoor.PTd Go.Proofs.YtomninikmcmmcaaDoor.PTg Go.Proofs.YtomninikmcmmcaaDoor.PTh Go.Proofs.YtomninikmcmmcaaDoor.PTk
attribute [local go_sem] max2_int min2_int max_two min_two max_three min_three max_four min_four   -- for this text's walks alone
set_option linter.unusedVariables false
set_option linter.unusedSimpArgs false



end Go.Proofs.YtomninikmcmmcaaDoor.PTe
end
section
-- Printed by this session's own program (wip/xprint.py) out of the translation. Lean checks it.
namespace Go.Proofs.YtomninikmcmmcaaDoor.PTe
open Go.RowKit Go.Proofs.YtomninikmcmmcaaDoorW.PrintWords Go.Proofs.YtomninikmcmmcaaDoorW.PrintLast Go.Proofs.YtomninikmcmmcaaDoorW.PrintMore Go.Proofs.YtomninikmcmmcaaDoor.Awake7 Go.Proofs.YtomninikmcmmcaaDoor.GivH Go.Proofs.YtomninikmcmmcaaDoor.GivL Go.Proofs.YtomninikmcmmcaaDoor.GivN Go.Proofs.YtomninikmcmmcaaDoor.GivT Go.Proofs.YtomninikmcmmcaaDoor.GivU Go.Proofs.YtomninikmcmmcaaDoor.PHs Go.Proofs.YtomninikmcmmcaaDoor.PTc Go.Proofs.YtomninikmcmmcaaDoor.PTd Go.Proofs.YtomninikmcmmcaaDoor.PTg Go.Proofs.YtomninikmcmmcaaDoor.PTh Go.Proofs.YtomninikmcmmcaaDoor.PTk
attribute [local go_sem] max2_int min2_int max_two min_two max_three min_three max_four min_four   -- for this text's walks alone
set_option linter.unusedVariables false
set_option linter.unusedSimpArgs false

theorem eqA39 (d : Nat) (w : World) (x0 y0 : Bool) (x1 y1 : ByteArray) (x2 y2 : ByteArray) (x3 y3 : Int) (x4 y4 : Int) :
    (Op.equalIn (d + 3) 39 (.agg #[.bool x0, .string x1, .string x2, .int .u64 x3, .int .u64 x4]) (.agg #[.bool y0, .string y1, .string y2, .int .u64 y3, .int .u64 y4])).run Tryd.prog w = .ok (x0 == y0 && (x1.toList == y1.toList && (x2.toList == y2.toList && ((x3 == y3 && (x4 == y4)))))) w := by
  first
  | (refine eqA_of Tryd.underlying39 (by kernel_rfl) ?_; refine eqf_cons (by rfl) (by go_simp; rfl) (by go_simp; rfl) (by go_simp) ?_; refine eqf_cons (by rfl) (by go_simp; rfl) (by go_simp; rfl) (by go_simp) ?_; refine eqf_cons (by rfl) (by go_simp; rfl) (by go_simp; rfl) (by go_simp) ?_; exact eqf_last (by rfl) (by go_simp) (by go_simp) (eqA37 (d + 0) w _ _ _ _))
  | (rw [Op.equalIn]; go_simp; (simp only [show List.range' 0 5 = [0, 1, 2, 3, 4] from rfl, List.forIn_cons, List.forIn_nil]); cases h0 : (x0 == y0); go_simp; go_simp; ((repeat' split) <;> simp [*]))
end Go.Proofs.YtomninikmcmmcaaDoor.PTe
end
section
-- Printed by this session's own program (wip/xprint.py) out of the translation. Lean checks it.
namespace Go.Proofs.YtomninikmcmmcaaDoor.PTe
open Go.RowKit Go.Proofs.YtomninikmcmmcaaDoorW.PrintWords Go.Proofs.YtomninikmcmmcaaDoorW.PrintLast Go.Proofs.YtomninikmcmmcaaDoorW.PrintMore Go.Proofs.YtomninikmcmmcaaDoor.Awake7 Go.Proofs.YtomninikmcmmcaaDoor.GivH Go.Proofs.YtomninikmcmmcaaDoor.GivL Go.Proofs.YtomninikmcmmcaaDoor.GivN Go.Proofs.YtomninikmcmmcaaDoor.GivT Go.Proofs.YtomninikmcmmcaaDoor.GivU Go.Proofs.YtomninikmcmmcaaDoor.PHs Go.Proofs.YtomninikmcmmcaaDoor.PTc Go.Proofs.YtomninikmcmmcaaDoor.PTd Go.Proofs.YtomninikmcmmcaaDoor.PTg Go.Proofs.YtomninikmcmmcaaDoor.PTh Go.Proofs.YtomninikmcmmcaaDoor.PTk
attribute [local go_sem] max2_int min2_int max_two min_two max_three min_three max_four min_four   -- for this text's walks alone
set_option linter.unusedVariables false
set_option linter.unusedSimpArgs false

-- GIVEN: function 27 (tag_MayLeaf)

-- GIVEN: function 37 (hmac_First)

-- GIVEN: function 39 (hmac_Number)

-- GIVEN: function 50 (tag_Salt)

-- GIVEN: function 52 (tag_PadSalt)

-- GIVEN: function 54 (tag_Pad)

-- GIVEN: function 56 (tag_First)

-- GIVEN: function 58 (paymasterlaw07_awake)

end Go.Proofs.YtomninikmcmmcaaDoor.PTe
end
section
-- Printed by this session's own program (wip/xprint.py) out of the translation. Lean checks it.
namespace Go.Proofs.YtomninikmcmmcaaDoor.PTe
open Go.RowKit Go.Proofs.YtomninikmcmmcaaDoorW.PrintWords Go.Proofs.YtomninikmcmmcaaDoorW.PrintLast Go.Proofs.YtomninikmcmmcaaDoorW.PrintMore Go.Proofs.YtomninikmcmmcaaDoor.Awake7 Go.Proofs.YtomninikmcmmcaaDoor.GivH Go.Proofs.YtomninikmcmmcaaDoor.GivL Go.Proofs.YtomninikmcmmcaaDoor.GivN Go.Proofs.YtomninikmcmmcaaDoor.GivT Go.Proofs.YtomninikmcmmcaaDoor.GivU Go.Proofs.YtomninikmcmmcaaDoor.PHs Go.Proofs.YtomninikmcmmcaaDoor.PTc Go.Proofs.YtomninikmcmmcaaDoor.PTd Go.Proofs.YtomninikmcmmcaaDoor.PTg Go.Proofs.YtomninikmcmmcaaDoor.PTh Go.Proofs.YtomninikmcmmcaaDoor.PTk
attribute [local go_sem] max2_int min2_int max_two min_two max_three min_three max_four min_four   -- for this text's walks alone
set_option linter.unusedVariables false
set_option linter.unusedSimpArgs false

attribute [local go_sem high] eqA39
/-! ### paymasterlaw07_TagSeeds: function 16 -/
mutual
def paymasterlaw07_TagSeeds.j0 : Nat → ByteArray → ByteArray → Int → Int → Bool → Option (Bool)
  | 0, _, _, _, _, _ => none
  | k + 1, x0, x1, x2, x3, x22 => if x22 = true then (some true) else ((tag_Salt.f x0 x1).bind fun t102 => ((tag_PadSalt.f x0 x2).bind fun t103 => (if (t102.size : Int) = 16 then (if (t103.size : Int) = 16 then (if 1 + x1.size ≤ 9223372036854775807 then ((hmac_First.f x0 ((⟨#[3]⟩ : ByteArray) ++ x1) 16).bind fun t104 => (if t102.toList = t104.toList then ((tag_Pad.f x0 x2).bind fun bt105 => (if (!bt105.1 || (!(bt105.2.1.toList == ([] : List UInt8)) || (!(bt105.2.2.1.toList == t103.toList) || ((!(bt105.2.2.2.1 == 0) || (!(bt105.2.2.2.2 == 0))))))) = true then (paymasterlaw07_TagSeeds.j1 k x0 x1 (wrap64 (Int.tmod (IntKind.u64.wrap (x3)) 64)) true) else ((tag_Pad.f x0 x2).bind fun bt110 => ((tag_MayLeaf.f bt110.1 bt110.2.1 bt110.2.2.1 bt110.2.2.2.1 bt110.2.2.2.2).bind fun t115 => (paymasterlaw07_TagSeeds.j1 k x0 x1 (wrap64 (Int.tmod (IntKind.u64.wrap (x3)) 64)) (!t115)))))) else (paymasterlaw07_TagSeeds.j1 k x0 x1 (wrap64 (Int.tmod (IntKind.u64.wrap (x3)) 64)) true))) else (none)) else (paymasterlaw07_TagSeeds.j1 k x0 x1 (wrap64 (Int.tmod (IntKind.u64.wrap (x3)) 64)) true)) else (paymasterlaw07_TagSeeds.j1 k x0 x1 (wrap64 (Int.tmod (IntKind.u64.wrap (x3)) 64)) true))))
def paymasterlaw07_TagSeeds.j1 : Nat → ByteArray → ByteArray → Int → Bool → Option (Bool)
  | 0, _, _, _, _ => none
  | k + 1, x0, x1, x9, x63 => if x63 = true then (some false) else ((tag_First.f x0 x1 x9).bind fun t116 => (if x9 < 63 then (if 0 ≤ (IntKind.u64.wrap (x9)) then (if t116 ≥ (shl .u64 1 (IntKind.u64.wrap (x9))) then (some false) else (if 1 + x1.size ≤ 9223372036854775807 then ((hmac_Number.f x0 ((⟨#[5]⟩ : ByteArray) ++ x1)).bind fun t117 => (if (shl .u64 1 (IntKind.u64.wrap (x9))) = 0 then (none) else (if t116 = (Int.tmod t117 (shl .u64 1 (IntKind.u64.wrap (x9)))) then (if x9 = 0 then (some true) else ((tag_First.f x0 x1 (wrap64 (x9 - 1))).bind fun t118 => (if 0 ≤ (IntKind.u64.wrap (wrap64 (x9 - 1))) then (if (shl .u64 1 (IntKind.u64.wrap (wrap64 (x9 - 1)))) = 0 then (none) else (some (t118 == (Int.tmod t116 (shl .u64 1 (IntKind.u64.wrap (wrap64 (x9 - 1)))))))) else (none)))) else (some false)))) else (none))) else (none)) else (if 1 + x1.size ≤ 9223372036854775807 then ((hmac_Number.f x0 ((⟨#[5]⟩ : ByteArray) ++ x1)).bind fun t119 => (if 0 ≤ (IntKind.u64.wrap (x9)) then (if (shl .u64 1 (IntKind.u64.wrap (x9))) = 0 then (none) else (if t116 = (Int.tmod t119 (shl .u64 1 (IntKind.u64.wrap (x9)))) then (if x9 = 0 then (some true) else ((tag_First.f x0 x1 (wrap64 (x9 - 1))).bind fun t120 => (if 0 ≤ (IntKind.u64.wrap (wrap64 (x9 - 1))) then (if (shl .u64 1 (IntKind.u64.wrap (wrap64 (x9 - 1)))) = 0 then (none) else (some (t120 == (Int.tmod t116 (shl .u64 1 (IntKind.u64.wrap (wrap64 (x9 - 1)))))))) else (none)))) else (some false))) else (none))) else (none))))
end
def paymasterlaw07_TagSeeds.f (k : Nat) (a0 : ByteArray) (a1 : ByteArray) (a2 : Int) (a3 : Int) : Option (Bool) := (paymasterlaw07_awake.f).bind fun t101 => (if t101 = true then (if (a0.size : Int) > 300 then (paymasterlaw07_TagSeeds.j0 k a0 a1 a2 a3 true) else (paymasterlaw07_TagSeeds.j0 k a0 a1 a2 a3 (decide ((a1.size : Int) > 300)))) else (some false))
theorem paymasterlaw07_TagSeeds.mono_l : ∀ k, (∀ y0 y1 y2 y3 y4, LeO (paymasterlaw07_TagSeeds.j0 k y0 y1 y2 y3 y4) (paymasterlaw07_TagSeeds.j0 (k + 1) y0 y1 y2 y3 y4)) ∧ (∀ y0 y1 y2 y3, LeO (paymasterlaw07_TagSeeds.j1 k y0 y1 y2 y3) (paymasterlaw07_TagSeeds.j1 (k + 1) y0 y1 y2 y3))
  | 0 => ⟨fun _ _ _ _ _ r h => by simp [paymasterlaw07_TagSeeds.j0] at h, fun _ _ _ _ r h => by simp [paymasterlaw07_TagSeeds.j1] at h⟩
  | k + 1 => by
    obtain ⟨ih0, ih1⟩ := paymasterlaw07_TagSeeds.mono_l k
    refine ⟨?_, ?_⟩
    · intro y0 y1 y2 y3 y4
      unfold paymasterlaw07_TagSeeds.j0
      repeat' first
      | (with_reducible exact ih0 _ _ _ _ _)
      | (with_reducible exact ih1 _ _ _ _)
      | (with_reducible exact LeO.refl _)
      | (with_reducible exact LeO.none _)
      | (with_reducible refine LeO.ite ?_ ?_)
      | (with_reducible refine LeO.bind ?_ (fun _ => ?_))
      | exact ih0 _ _ _ _ _
      | exact ih1 _ _ _ _
      | exact LeO.none _
      | refine LeO.ite ?_ ?_
      | refine LeO.bind ?_ (fun _ => ?_)
    · intro y0 y1 y2 y3
      unfold paymasterlaw07_TagSeeds.j1
      repeat' first
      | (with_reducible exact ih0 _ _ _ _ _)
      | (with_reducible exact ih1 _ _ _ _)
      | (with_reducible exact LeO.refl _)
      | (with_reducible exact LeO.none _)
      | (with_reducible refine LeO.ite ?_ ?_)
      | (with_reducible refine LeO.bind ?_ (fun _ => ?_))
      | exact ih0 _ _ _ _ _
      | exact ih1 _ _ _ _
      | exact LeO.none _
      | refine LeO.ite ?_ ?_
      | refine LeO.bind ?_ (fun _ => ?_)
theorem paymasterlaw07_TagSeeds.mono : ∀ a0 a1 a2 a3 k, LeO (paymasterlaw07_TagSeeds.f k a0 a1 a2 a3) (paymasterlaw07_TagSeeds.f (k + 1) a0 a1 a2 a3) := by
  intro a0 a1 a2 a3 k
  obtain ⟨ih0, ih1⟩ := paymasterlaw07_TagSeeds.mono_l k
  unfold paymasterlaw07_TagSeeds.f
  repeat' first
      | (with_reducible exact ih0 _ _ _ _ _)
      | (with_reducible exact ih1 _ _ _ _)
      | (with_reducible exact LeO.refl _)
      | (with_reducible exact LeO.none _)
      | (with_reducible refine LeO.ite ?_ ?_)
      | (with_reducible refine LeO.bind ?_ (fun _ => ?_))
      | exact ih0 _ _ _ _ _
      | exact ih1 _ _ _ _
      | exact LeO.none _
      | refine LeO.ite ?_ ?_
      | refine LeO.bind ?_ (fun _ => ?_)
def paymasterlaw07_TagSeeds.T12 : Bool × List (List Nat × List Nat) := (true, [([], []), ([0], [0]), ([1], [1]), ([2], [2]), ([2], [2]), ([2], [2]), ([5, 2], [2, 5]), ([3, 4, 6, 2, 2], [2, 3, 4, 6]), ([2], [2]), ([2], [2]), ([9, 2], [2, 9]), ([10, 2], [2, 10]), ([11, 2], [2, 11]), ([8, 12, 2], [2, 8, 12]), ([7, 13, 2], [2, 7, 13]), ([2, 14], [2, 14]), ([15, 7, 0, 1, 2, 3, 4, 5, 6, 7, 8, 9, 10, 11, 12, 13, 14, 15], [15])])
def paymasterlaw07_TagSeeds.B12 : List Nat := [0, 1, 3, 7, 7, 7, 39, 127, 7, 7, 519, 1543, 3591, 7943, 16383, 32767, 65535]
theorem paymasterlaw07_TagSeeds.tab12 : rtab .any (opsOf Tryd.f16 12) = paymasterlaw07_TagSeeds.T12 := by kernel_rfl
theorem paymasterlaw07_TagSeeds.bits12 : waitsOk paymasterlaw07_TagSeeds.T12.2 paymasterlaw07_TagSeeds.B12 = true := by kernel_rfl
set_option maxHeartbeats 8000000 in
set_option maxRecDepth 100000 in
theorem paymasterlaw07_TagSeeds.calls (k : Nat) (a0 : ByteArray) (a1 : ByteArray) (a2 : Int) (a3 : Int) (r : Bool) (w : World) (hT : GivW.Tab2 w) (h : paymasterlaw07_TagSeeds.f k a0 a1 a2 a3 = some r) :
    Calls Tryd.prog 16 #[.string a0, .string a1, .int .u64 a2, .int .i64 a3] w fun e w' => e = .returned (.bool r) ∧ Below w.heap.size w w' := by
  have HT := Aside0.mk hT
  clear hT
  have hu39 := Tryd.underlying39
  have HB := Aside0.mk (Below.refl w.heap.size w)
  have H : ((paymasterlaw07_awake.f).bind fun t101 => (if t101 = true then (if (a0.size : Int) > 300 then (paymasterlaw07_TagSeeds.j0 k a0 a1 a2 a3 true) else (paymasterlaw07_TagSeeds.j0 k a0 a1 a2 a3 (decide ((a1.size : Int) > 300)))) else (some false))) = some r := h
  clear h
  replace H := Option.bind_eq_some_iff.mp H
  obtain ⟨t101, A50, H⟩ := H
  replace H : (if t101 = true then (if (a0.size : Int) > 300 then (paymasterlaw07_TagSeeds.j0 k a0 a1 a2 a3 true) else (paymasterlaw07_TagSeeds.j0 k a0 a1 a2 a3 (decide ((a1.size : Int) > 300)))) else (some false)) = some r := H
  have A5 := Aside0.mk A50
  clear A50
  by_cases c6 : t101 = true
  · subst c6
    have H1 : (if (a0.size : Int) > 300 then (paymasterlaw07_TagSeeds.j0 k a0 a1 a2 a3 true) else (paymasterlaw07_TagSeeds.j0 k a0 a1 a2 a3 (decide ((a1.size : Int) > 300)))) = some r := by rw [if_pos rfl] at H; exact H
    clear H
    have H := H1
    clear H1
    have HC7 := Aside0.mk H
    clear H
    go_enter Tryd.func16, Tryd.ntmps16
    go_upto_region 3 with (first | ((with_reducible refine gate_callee (f := 58) rfl ?_); refine goesL_ (some 13) rfl rfl Tryd.func58 (by kernel_rfl) rfl #[] rfl (by (try simp only [List.map_toArray, List.map_cons, List.map_nil]); first | done | rfl | (simp only [List.length_drop, List.length_take]; rfl)) ?_; (with_reducible refine (paymasterlaw07_awake.calls  true _ ?side1 A5.out).mono ?_); (case side1 => exact (GivW.Tab2.keep HT.out (by repeat (first | (with_reducible first | exact HB.out | apply below_alloc | apply pw_below_drewN | apply below_drew1) | exact HB.out)))); rintro e w8 ⟨rfl, hb⟩; refine ⟨_, rfl, ?_⟩; have n0_ := Aside0.mk (below_step (by repeat (first | (with_reducible first | exact HB.out | apply below_alloc | apply pw_below_drewN | apply below_drew1) | exact HB.out)) hb); clear HB; have HB := n0_; clear n0_; (try clear hb); (try clear hb2); (try clear hk); (try clear hi)))
    (try simp only [Act.put, List.setIfInBounds_toArray, List.set_cons_zero, List.set_cons_succ])
    go_cut [22] (fun v22 wc => ∃ (kq : Nat) (x22_6 : Bool), v22 = .bool x22_6 ∧ Aside0 (paymasterlaw07_TagSeeds.j0 kq a0 a1 a2 a3 x22_6 = some r) ∧ Aside0 (kq ≤ k) ∧ Aside0 (Below w.heap.size w wc))
    case first =>
      have H := HC7.out
      clear HC7
      by_cases c9 : (a0.size : Int) > 300
      · rw [if_pos c9] at H
        have c9b0 : decide (300 < (a0.size : Int)) = true := decide_eq_true c9
        have c9b1 : decide (300 < a0.size) = true := decide_eq_true (by omega)
        clear c9
        (first | rw [c9b0] | (simp only [i64_w, i32_w]; rw [c9b0]) | skip)
        have H' := Aside0.mk H
        clear H
        go_wp2
        go_meet
        case rel => exact ⟨_, (true), (by first | rfl | (simp; done) | (simp [*]; done)), H', ⟨by first | omega | exact Nat.le_refl _⟩, ⟨by repeat (first | (with_reducible first | exact HB.out | apply below_alloc | apply pw_below_drewN | apply below_drew1) | exact HB.out)⟩⟩
      · rw [if_neg c9] at H
        have c9b0 : decide (300 < (a0.size : Int)) = false := decide_eq_false c9
        have c9b1 : decide (300 < a0.size) = false := decide_eq_false (by omega)
        clear c9
        (first | rw [c9b0] | (simp only [i64_w, i32_w]; rw [c9b0]) | skip)
        have H' := Aside0.mk H
        clear H
        go_wp2
        go_meet
        case rel => exact ⟨_, (decide ((a1.size : Int) > 300)), (by first | rfl | (simp; done) | (simp [*]; done)), H', ⟨by first | omega | exact Nat.le_refl _⟩, ⟨by repeat (first | (with_reducible first | exact HB.out | apply below_alloc | apply pw_below_drewN | apply below_drew1) | exact HB.out)⟩⟩
    case rest =>
      clear HC7
      try clear c1
      try clear p2
      try clear c5
      try clear c6
      try clear c9
      try clear c9b0
      try clear c9b1
      obtain ⟨kq, x22_6, rfl, HA, HJ6, HB⟩ := hcut
      cases kq with
      | zero => exact absurd HA.out (by simp [paymasterlaw07_TagSeeds.j0])
      | succ kj6 =>
        have H := HA.out
        clear HA
        simp only [paymasterlaw07_TagSeeds.j0] at H
        by_cases c10 : x22_6 = true
        · subst c10
          have H1 : (some true) = some r := by rw [if_pos rfl] at H; exact H
          clear H
          have H := H1
          clear H1
          obtain rfl := Option.some.inj H
          go_wp2
          go_ret
          exact ⟨by first | rfl | (simp [errW_none, errW_some] <;> rfl) | (simp [*, errW_none, errW_some] <;> rfl), by repeat (first | (with_reducible first | exact HB.out | apply below_alloc | apply pw_below_drewN | apply below_drew1) | exact HB.out)⟩
        · replace c10 := Bool.eq_false_iff.mpr c10
          subst c10
          have H1 : ((tag_Salt.f a0 a1).bind fun t102 => ((tag_PadSalt.f a0 a2).bind fun t103 => (if (t102.size : Int) = 16 then (if (t103.size : Int) = 16 then (if 1 + a1.size ≤ 9223372036854775807 then ((hmac_First.f a0 ((⟨#[3]⟩ : ByteArray) ++ a1) 16).bind fun t104 => (if t102.toList = t104.toList then ((tag_Pad.f a0 a2).bind fun bt105 => (if (!bt105.1 || (!(bt105.2.1.toList == ([] : List UInt8)) || (!(bt105.2.2.1.toList == t103.toList) || ((!(bt105.2.2.2.1 == 0) || (!(bt105.2.2.2.2 == 0))))))) = true then (paymasterlaw07_TagSeeds.j1 kj6 a0 a1 (wrap64 (Int.tmod (IntKind.u64.wrap (a3)) 64)) true) else ((tag_Pad.f a0 a2).bind fun bt110 => ((tag_MayLeaf.f bt110.1 bt110.2.1 bt110.2.2.1 bt110.2.2.2.1 bt110.2.2.2.2).bind fun t115 => (paymasterlaw07_TagSeeds.j1 kj6 a0 a1 (wrap64 (Int.tmod (IntKind.u64.wrap (a3)) 64)) (!t115)))))) else (paymasterlaw07_TagSeeds.j1 kj6 a0 a1 (wrap64 (Int.tmod (IntKind.u64.wrap (a3)) 64)) true))) else (none)) else (paymasterlaw07_TagSeeds.j1 kj6 a0 a1 (wrap64 (Int.tmod (IntKind.u64.wrap (a3)) 64)) true)) else (paymasterlaw07_TagSeeds.j1 kj6 a0 a1 (wrap64 (Int.tmod (IntKind.u64.wrap (a3)) 64)) true)))) = some r := by rw [if_neg (show ¬ (false = true) by decide)] at H; exact H
          clear H
          have H := H1
          clear H1
          replace H := Option.bind_eq_some_iff.mp H
          obtain ⟨t102, A110, H⟩ := H
          replace H : ((tag_PadSalt.f a0 a2).bind fun t103 => (if (t102.size : Int) = 16 then (if (t103.size : Int) = 16 then (if 1 + a1.size ≤ 9223372036854775807 then ((hmac_First.f a0 ((⟨#[3]⟩ : ByteArray) ++ a1) 16).bind fun t104 => (if t102.toList = t104.toList then ((tag_Pad.f a0 a2).bind fun bt105 => (if (!bt105.1 || (!(bt105.2.1.toList == ([] : List UInt8)) || (!(bt105.2.2.1.toList == t103.toList) || ((!(bt105.2.2.2.1 == 0) || (!(bt105.2.2.2.2 == 0))))))) = true then (paymasterlaw07_TagSeeds.j1 kj6 a0 a1 (wrap64 (Int.tmod (IntKind.u64.wrap (a3)) 64)) true) else ((tag_Pad.f a0 a2).bind fun bt110 => ((tag_MayLeaf.f bt110.1 bt110.2.1 bt110.2.2.1 bt110.2.2.2.1 bt110.2.2.2.2).bind fun t115 => (paymasterlaw07_TagSeeds.j1 kj6 a0 a1 (wrap64 (Int.tmod (IntKind.u64.wrap (a3)) 64)) (!t115)))))) else (paymasterlaw07_TagSeeds.j1 kj6 a0 a1 (wrap64 (Int.tmod (IntKind.u64.wrap (a3)) 64)) true))) else (none)) else (paymasterlaw07_TagSeeds.j1 kj6 a0 a1 (wrap64 (Int.tmod (IntKind.u64.wrap (a3)) 64)) true)) else (paymasterlaw07_TagSeeds.j1 kj6 a0 a1 (wrap64 (Int.tmod (IntKind.u64.wrap (a3)) 64)) true))) = some r := H
          have A11 := Aside0.mk A110
          clear A110
          replace H := Option.bind_eq_some_iff.mp H
          obtain ⟨t103, A120, H⟩ := H
          replace H : (if (t102.size : Int) = 16 then (if (t103.size : Int) = 16 then (if 1 + a1.size ≤ 9223372036854775807 then ((hmac_First.f a0 ((⟨#[3]⟩ : ByteArray) ++ a1) 16).bind fun t104 => (if t102.toList = t104.toList then ((tag_Pad.f a0 a2).bind fun bt105 => (if (!bt105.1 || (!(bt105.2.1.toList == ([] : List UInt8)) || (!(bt105.2.2.1.toList == t103.toList) || ((!(bt105.2.2.2.1 == 0) || (!(bt105.2.2.2.2 == 0))))))) = true then (paymasterlaw07_TagSeeds.j1 kj6 a0 a1 (wrap64 (Int.tmod (IntKind.u64.wrap (a3)) 64)) true) else ((tag_Pad.f a0 a2).bind fun bt110 => ((tag_MayLeaf.f bt110.1 bt110.2.1 bt110.2.2.1 bt110.2.2.2.1 bt110.2.2.2.2).bind fun t115 => (paymasterlaw07_TagSeeds.j1 kj6 a0 a1 (wrap64 (Int.tmod (IntKind.u64.wrap (a3)) 64)) (!t115)))))) else (paymasterlaw07_TagSeeds.j1 kj6 a0 a1 (wrap64 (Int.tmod (IntKind.u64.wrap (a3)) 64)) true))) else (none)) else (paymasterlaw07_TagSeeds.j1 kj6 a0 a1 (wrap64 (Int.tmod (IntKind.u64.wrap (a3)) 64)) true)) else (paymasterlaw07_TagSeeds.j1 kj6 a0 a1 (wrap64 (Int.tmod (IntKind.u64.wrap (a3)) 64)) true)) = some r := H
          have A12 := Aside0.mk A120
          clear A120
          have HC13 := Aside0.mk H
          clear H
          go_upto_region 7 with (first | ((with_reducible refine gate_callee (f := 50) rfl ?_); refine goesL_ (some 29) rfl rfl Tryd.func50 (by kernel_rfl) rfl #[.string a0, .string a1] rfl (by (try simp only [List.map_toArray, List.map_cons, List.map_nil]); first | done | rfl | (simp only [List.length_drop, List.length_take]; rfl)) ?_; (with_reducible refine (tag_Salt.calls a0 a1 t102 _ ?side1 A11.out).mono ?_); (case side1 => exact (GivW.Tab2.keep HT.out (by repeat (first | (with_reducible first | exact HB.out | apply below_alloc | apply pw_below_drewN | apply below_drew1) | exact HB.out))).sha); rintro e w14 ⟨rfl, hb⟩; refine ⟨_, rfl, ?_⟩; have n0_ := Aside0.mk (below_step (by repeat (first | (with_reducible first | exact HB.out | apply below_alloc | apply pw_below_drewN | apply below_drew1) | exact HB.out)) hb); clear HB; have HB := n0_; clear n0_; (try clear hb); (try clear hb2); (try clear hk); (try clear hi)) | ((with_reducible refine gate_callee (f := 52) rfl ?_); refine goesL_ (some 32) rfl rfl Tryd.func52 (by kernel_rfl) rfl #[.string a0, .int .u64 a2] rfl (by (try simp only [List.map_toArray, List.map_cons, List.map_nil]); first | done | rfl | (simp only [List.length_drop, List.length_take]; rfl)) ?_; (with_reducible refine (tag_PadSalt.calls a0 a2 t103 _ ?side1 A12.out).mono ?_); (case side1 => exact (GivW.Tab2.keep HT.out (by repeat (first | (with_reducible first | exact HB.out | apply below_alloc | apply pw_below_drewN | apply below_drew1) | exact HB.out))).sha); rintro e w15 ⟨rfl, hb⟩; refine ⟨_, rfl, ?_⟩; have n0_ := Aside0.mk (below_step (by repeat (first | (with_reducible first | exact HB.out | apply below_alloc | apply pw_below_drewN | apply below_drew1) | exact HB.out)) hb); clear HB; have HB := n0_; clear n0_; (try clear hb); (try clear hb2); (try clear hk); (try clear hi)))
          (try simp only [Act.put, List.setIfInBounds_toArray, List.set_cons_zero, List.set_cons_succ])
          go_cut [63] (fun v63 wc => ∃ (kq : Nat) (x63_12 : Bool), v63 = .bool x63_12 ∧ Aside0 (paymasterlaw07_TagSeeds.j1 kq a0 a1 (wrap64 (Int.tmod (IntKind.u64.wrap (a3)) 64)) x63_12 = some r) ∧ Aside0 (kq ≤ kj6) ∧ Aside0 (Below w.heap.size w wc))
          case first =>
            have H := HC13.out
            clear HC13
            by_cases c16 : (t102.size : Int) = 16
            · rw [if_pos c16] at H
              have c16b0 : ((t102.size : Int) == 16) = true := beq_iff_eq.mpr c16
              have c16b1 : ((t102.size : Int) != 16) = false := bne_eq_false_iff_eq.mpr c16
              clear c16
              (first | rw [c16b0] | (simp only [i64_w, i32_w]; rw [c16b0]) | skip)
              by_cases c17 : (t103.size : Int) = 16
              · rw [if_pos c17] at H
                have c17b0 : ((t103.size : Int) == 16) = true := beq_iff_eq.mpr c17
                have c17b1 : ((t103.size : Int) != 16) = false := bne_eq_false_iff_eq.mpr c17
                clear c17
                by_cases c18 : 1 + a1.size ≤ 9223372036854775807
                · rw [if_pos c18] at H
                  have c18b0 := eq_true c18
                  have c18b1 : decide (1 + a1.size ≤ 9223372036854775807) = true := decide_eq_true c18
                  try have c18b2 : (9223372036854775807 < 1 + a1.size) = False := eq_false (Nat.not_lt.2 c18)
                  replace H := Option.bind_eq_some_iff.mp H
                  obtain ⟨t104, A190, H⟩ := H
                  replace H : (if t102.toList = t104.toList then ((tag_Pad.f a0 a2).bind fun bt105 => (if (!bt105.1 || (!(bt105.2.1.toList == ([] : List UInt8)) || (!(bt105.2.2.1.toList == t103.toList) || ((!(bt105.2.2.2.1 == 0) || (!(bt105.2.2.2.2 == 0))))))) = true then (paymasterlaw07_TagSeeds.j1 kj6 a0 a1 (wrap64 (Int.tmod (IntKind.u64.wrap (a3)) 64)) true) else ((tag_Pad.f a0 a2).bind fun bt110 => ((tag_MayLeaf.f bt110.1 bt110.2.1 bt110.2.2.1 bt110.2.2.2.1 bt110.2.2.2.2).bind fun t115 => (paymasterlaw07_TagSeeds.j1 kj6 a0 a1 (wrap64 (Int.tmod (IntKind.u64.wrap (a3)) 64)) (!t115)))))) else (paymasterlaw07_TagSeeds.j1 kj6 a0 a1 (wrap64 (Int.tmod (IntKind.u64.wrap (a3)) 64)) true)) = some r := H
                  have A19 := Aside0.mk A190
                  clear A190
                  by_cases c20 : t102.toList = t104.toList
                  · rw [if_pos c20] at H
                    have c20b0 : (t102.toList == t104.toList) = true := beq_iff_eq.mpr c20
                    have c20b1 : (t102.toList != t104.toList) = false := bne_eq_false_iff_eq.mpr c20
                    clear c20
                    replace H := Option.bind_eq_some_iff.mp H
                    obtain ⟨⟨t105, t106, t107, t108, t109⟩, A210, H⟩ := H
                    replace H : (if (!t105 || (!(t106.toList == ([] : List UInt8)) || (!(t107.toList == t103.toList) || ((!(t108 == 0) || (!(t109 == 0))))))) = true then (paymasterlaw07_TagSeeds.j1 kj6 a0 a1 (wrap64 (Int.tmod (IntKind.u64.wrap (a3)) 64)) true) else ((tag_Pad.f a0 a2).bind fun bt110 => ((tag_MayLeaf.f bt110.1 bt110.2.1 bt110.2.2.1 bt110.2.2.2.1 bt110.2.2.2.2).bind fun t115 => (paymasterlaw07_TagSeeds.j1 kj6 a0 a1 (wrap64 (Int.tmod (IntKind.u64.wrap (a3)) 64)) (!t115))))) = some r := H
                    have A21 := Aside0.mk A210
                    clear A210
                    by_cases c22 : (!t105 || (!(t106.toList == ([] : List UInt8)) || (!(t107.toList == t103.toList) || ((!(t108 == 0) || (!(t109 == 0))))))) = true
                    · rw [if_pos c22] at H
                      have c22b0 : (!t105 || (!(t106.toList == ([] : List UInt8)) || (!(t107.toList == t103.toList) || ((!(t108 == 0) || (!(t109 == 0))))))) = true := c22
                      try (have c22b0e := c22b0; simp only [List.beq_nil_eq] at c22b0e)
                      clear c22
                      have H' := Aside0.mk H
                      clear H
                      go_wp2_with (first | (go_at_call 37; (with_reducible refine (hmac_First.calls a0 ((⟨#[3]⟩ : ByteArray) ++ a1) 16 t104 _ ?side1 A19.out).mono ?_); (case side1 => exact (GivW.Tab2.keep HT.out (by repeat (first | (with_reducible first | exact HB.out | apply below_alloc | apply pw_below_drewN | apply below_drew1) | exact HB.out))).sha); rintro e w23 ⟨rfl, hb⟩; have n0_ := Aside0.mk (below_step (by repeat (first | (with_reducible first | exact HB.out | apply below_alloc | apply pw_below_drewN | apply below_drew1) | exact HB.out)) hb); clear HB; have HB := n0_; clear n0_; (try clear hb); (try clear hb2); (try clear hk); (try clear hi)) | (go_at_call 54; (with_reducible refine (tag_Pad.calls a0 a2 t105 t106 t107 t108 t109 _ ?side1 A21.out).mono ?_); (case side1 => exact (GivW.Tab2.keep HT.out (by repeat (first | (with_reducible first | exact HB.out | apply below_alloc | apply pw_below_drewN | apply below_drew1) | exact HB.out))).sha); rintro e w24 ⟨rfl, hb⟩; have n0_ := Aside0.mk (below_step (by repeat (first | (with_reducible first | exact HB.out | apply below_alloc | apply pw_below_drewN | apply below_drew1) | exact HB.out)) hb); clear HB; have HB := n0_; clear n0_; (try clear hb); (try clear hb2); (try clear hk); (try clear hi)))
                      go_meet
                      case rel => exact ⟨_, (true), (by first | rfl | (simp; done) | (simp [*]; done)), H', ⟨by have := HJ6.out; first | omega | exact Nat.le_refl _⟩, ⟨by repeat (first | (with_reducible first | exact HB.out | apply below_alloc | apply pw_below_drewN | apply below_drew1) | exact HB.out)⟩⟩
                    · rw [if_neg c22] at H
                      have c22b0 : (!t105 || (!(t106.toList == ([] : List UInt8)) || (!(t107.toList == t103.toList) || ((!(t108 == 0) || (!(t109 == 0))))))) = false := by simpa using c22
                      try (have c22b0e := c22b0; simp only [List.beq_nil_eq] at c22b0e)
                      clear c22
                      replace H := Option.bind_eq_some_iff.mp H
                      obtain ⟨⟨t110, t111, t112, t113, t114⟩, A250, H⟩ := H
                      replace H : ((tag_MayLeaf.f t110 t111 t112 t113 t114).bind fun t115 => (paymasterlaw07_TagSeeds.j1 kj6 a0 a1 (wrap64 (Int.tmod (IntKind.u64.wrap (a3)) 64)) (!t115))) = some r := H
                      have A25 := Aside0.mk A250
                      have e_ := A21.out.symm.trans A25.out; simp only [Option.some.injEq, Prod.mk.injEq] at e_; obtain ⟨rfl, rfl, rfl, rfl, rfl⟩ := e_
                      clear A250
                      replace H := Option.bind_eq_some_iff.mp H
                      obtain ⟨t115, A260, H⟩ := H
                      replace H : (paymasterlaw07_TagSeeds.j1 kj6 a0 a1 (wrap64 (Int.tmod (IntKind.u64.wrap (a3)) 64)) (!t115)) = some r := H
                      have A26 := Aside0.mk A260
                      clear A260
                      have H' := Aside0.mk H
                      clear H
                      go_wp2_with (first | (go_at_call 37; (with_reducible refine (hmac_First.calls a0 ((⟨#[3]⟩ : ByteArray) ++ a1) 16 t104 _ ?side1 A19.out).mono ?_); (case side1 => exact (GivW.Tab2.keep HT.out (by repeat (first | (with_reducible first | exact HB.out | apply below_alloc | apply pw_below_drewN | apply below_drew1) | exact HB.out))).sha); rintro e w27 ⟨rfl, hb⟩; have n0_ := Aside0.mk (below_step (by repeat (first | (with_reducible first | exact HB.out | apply below_alloc | apply pw_below_drewN | apply below_drew1) | exact HB.out)) hb); clear HB; have HB := n0_; clear n0_; (try clear hb); (try clear hb2); (try clear hk); (try clear hi)) | (go_at_call 54; (with_reducible refine (tag_Pad.calls a0 a2 t105 t106 t107 t108 t109 _ ?side1 A21.out).mono ?_); (case side1 => exact (GivW.Tab2.keep HT.out (by repeat (first | (with_reducible first | exact HB.out | apply below_alloc | apply pw_below_drewN | apply below_drew1) | exact HB.out))).sha); rintro e w28 ⟨rfl, hb⟩; have n0_ := Aside0.mk (below_step (by repeat (first | (with_reducible first | exact HB.out | apply below_alloc | apply pw_below_drewN | apply below_drew1) | exact HB.out)) hb); clear HB; have HB := n0_; clear n0_; (try clear hb); (try clear hb2); (try clear hk); (try clear hi)) | (go_at_call 54; (with_reducible refine (tag_Pad.calls a0 a2 t105 t106 t107 t108 t109 _ ?side1 A25.out).mono ?_); (case side1 => exact (GivW.Tab2.keep HT.out (by repeat (first | (with_reducible first | exact HB.out | apply below_alloc | apply pw_below_drewN | apply below_drew1) | exact HB.out))).sha); rintro e w29 ⟨rfl, hb⟩; have n0_ := Aside0.mk (below_step (by repeat (first | (with_reducible first | exact HB.out | apply below_alloc | apply pw_below_drewN | apply below_drew1) | exact HB.out)) hb); clear HB; have HB := n0_; clear n0_; (try clear hb); (try clear hb2); (try clear hk); (try clear hi)) | (go_at_call 27; (with_reducible refine (tag_MayLeaf.calls t105 t106 t107 t108 t109 t115 _ ?side1 A26.out).mono ?_); (case side1 => exact (GivW.Tab2.keep HT.out (by repeat (first | (with_reducible first | exact HB.out | apply below_alloc | apply pw_below_drewN | apply below_drew1) | exact HB.out))).utf); rintro e w30 ⟨rfl, hb⟩; have n0_ := Aside0.mk (below_step (by repeat (first | (with_reducible first | exact HB.out | apply below_alloc | apply pw_below_drewN | apply below_drew1) | exact HB.out)) hb); clear HB; have HB := n0_; clear n0_; (try clear hb); (try clear hb2); (try clear hk); (try clear hi)))
                      go_meet
                      case rel => exact ⟨_, (!t115), (by first | rfl | (simp; done) | (simp [*]; done)), H', ⟨by have := HJ6.out; first | omega | exact Nat.le_refl _⟩, ⟨by repeat (first | (with_reducible first | exact HB.out | apply below_alloc | apply pw_below_drewN | apply below_drew1) | exact HB.out)⟩⟩
                  · rw [if_neg c20] at H
                    have c20b0 : (t102.toList == t104.toList) = false := beq_eq_false_iff_ne.mpr c20
                    have c20b1 : (t102.toList != t104.toList) = true := bne_iff_ne.mpr c20
                    have H' := Aside0.mk H
                    clear H
                    go_wp2_with (first | (go_at_call 37; (with_reducible refine (hmac_First.calls a0 ((⟨#[3]⟩ : ByteArray) ++ a1) 16 t104 _ ?side1 A19.out).mono ?_); (case side1 => exact (GivW.Tab2.keep HT.out (by repeat (first | (with_reducible first | exact HB.out | apply below_alloc | apply pw_below_drewN | apply below_drew1) | exact HB.out))).sha); rintro e w31 ⟨rfl, hb⟩; have n0_ := Aside0.mk (below_step (by repeat (first | (with_reducible first | exact HB.out | apply below_alloc | apply pw_below_drewN | apply below_drew1) | exact HB.out)) hb); clear HB; have HB := n0_; clear n0_; (try clear hb); (try clear hb2); (try clear hk); (try clear hi)))
                    go_meet
                    case rel => exact ⟨_, (true), (by first | rfl | (simp; done) | (simp [*]; done)), H', ⟨by have := HJ6.out; first | omega | exact Nat.le_refl _⟩, ⟨by repeat (first | (with_reducible first | exact HB.out | apply below_alloc | apply pw_below_drewN | apply below_drew1) | exact HB.out)⟩⟩
                · rw [if_neg c18] at H
                  exact absurd H (by simp)
              · rw [if_neg c17] at H
                have c17b0 : ((t103.size : Int) == 16) = false := beq_eq_false_iff_ne.mpr c17
                have c17b1 : ((t103.size : Int) != 16) = true := bne_iff_ne.mpr c17
                have H' := Aside0.mk H
                clear H
                go_wp2
                go_meet
                case rel => exact ⟨_, (true), (by first | rfl | (simp; done) | (simp [*]; done)), H', ⟨by have := HJ6.out; first | omega | exact Nat.le_refl _⟩, ⟨by repeat (first | (with_reducible first | exact HB.out | apply below_alloc | apply pw_below_drewN | apply below_drew1) | exact HB.out)⟩⟩
            · rw [if_neg c16] at H
              have c16b0 : ((t102.size : Int) == 16) = false := beq_eq_false_iff_ne.mpr c16
              have c16b1 : ((t102.size : Int) != 16) = true := bne_iff_ne.mpr c16
              (first | rw [c16b0] | (simp only [i64_w, i32_w]; rw [c16b0]) | skip)
              have H' := Aside0.mk H
              clear H
              go_wp2
              go_meet
              case rel => exact ⟨_, (true), (by first | rfl | (simp; done) | (simp [*]; done)), H', ⟨by have := HJ6.out; first | omega | exact Nat.le_refl _⟩, ⟨by repeat (first | (with_reducible first | exact HB.out | apply below_alloc | apply pw_below_drewN | apply below_drew1) | exact HB.out)⟩⟩
          case rest =>
            clear HC13
            try clear c1
            try clear c2
            try clear p2
            try clear c5
            try clear c6
            try clear p6
            try clear c9
            try clear c9b0
            try clear c9b1
            try clear c10
            try clear c16
            try clear c16b0
            try clear c16b1
            try clear c17
            try clear c17b0
            try clear c17b1
            try clear c18
            try clear c18b0
            try clear c18b1
            try clear c18b2
            try clear c20
            try clear c20b0
            try clear c20b1
            try clear c22
            try clear c22b0
            try clear p2
            obtain ⟨kq, x63_12, rfl, HA, HJ12, HB⟩ := hcut
            cases kq with
            | zero => exact absurd HA.out (by simp [paymasterlaw07_TagSeeds.j1])
            | succ kj12 =>
              have H := HA.out
              clear HA
              simp only [paymasterlaw07_TagSeeds.j1] at H
              by_cases c32 : x63_12 = true
              · subst c32
                have H1 : (some false) = some r := by rw [if_pos rfl] at H; exact H
                clear H
                have H := H1
                clear H1
                obtain rfl := Option.some.inj H
                go_wp2
                go_ret
                exact ⟨by first | rfl | (simp [errW_none, errW_some] <;> rfl) | (simp [*, errW_none, errW_some] <;> rfl), by repeat (first | (with_reducible first | exact HB.out | apply below_alloc | apply pw_below_drewN | apply below_drew1) | exact HB.out)⟩
              · replace c32 := Bool.eq_false_iff.mpr c32
                subst c32
                have H1 : ((tag_First.f a0 a1 (wrap64 (Int.tmod (IntKind.u64.wrap (a3)) 64))).bind fun t116 => (if (wrap64 (Int.tmod (IntKind.u64.wrap (a3)) 64)) < 63 then (if 0 ≤ (IntKind.u64.wrap ((wrap64 (Int.tmod (IntKind.u64.wrap (a3)) 64)))) then (if t116 ≥ (shl .u64 1 (IntKind.u64.wrap ((wrap64 (Int.tmod (IntKind.u64.wrap (a3)) 64))))) then (some false) else (if 1 + a1.size ≤ 9223372036854775807 then ((hmac_Number.f a0 ((⟨#[5]⟩ : ByteArray) ++ a1)).bind fun t117 => (if (shl .u64 1 (IntKind.u64.wrap ((wrap64 (Int.tmod (IntKind.u64.wrap (a3)) 64))))) = 0 then (none) else (if t116 = (Int.tmod t117 (shl .u64 1 (IntKind.u64.wrap ((wrap64 (Int.tmod (IntKind.u64.wrap (a3)) 64)))))) then (if (wrap64 (Int.tmod (IntKind.u64.wrap (a3)) 64)) = 0 then (some true) else ((tag_First.f a0 a1 (wrap64 ((wrap64 (Int.tmod (IntKind.u64.wrap (a3)) 64)) - 1))).bind fun t118 => (if 0 ≤ (IntKind.u64.wrap (wrap64 ((wrap64 (Int.tmod (IntKind.u64.wrap (a3)) 64)) - 1))) then (if (shl .u64 1 (IntKind.u64.wrap (wrap64 ((wrap64 (Int.tmod (IntKind.u64.wrap (a3)) 64)) - 1)))) = 0 then (none) else (some (t118 == (Int.tmod t116 (shl .u64 1 (IntKind.u64.wrap (wrap64 ((wrap64 (Int.tmod (IntKind.u64.wrap (a3)) 64)) - 1)))))))) else (none)))) else (some false)))) else (none))) else (none)) else (if 1 + a1.size ≤ 9223372036854775807 then ((hmac_Number.f a0 ((⟨#[5]⟩ : ByteArray) ++ a1)).bind fun t119 => (if 0 ≤ (IntKind.u64.wrap ((wrap64 (Int.tmod (IntKind.u64.wrap (a3)) 64)))) then (if (shl .u64 1 (IntKind.u64.wrap ((wrap64 (Int.tmod (IntKind.u64.wrap (a3)) 64))))) = 0 then (none) else (if t116 = (Int.tmod t119 (shl .u64 1 (IntKind.u64.wrap ((wrap64 (Int.tmod (IntKind.u64.wrap (a3)) 64)))))) then (if (wrap64 (Int.tmod (IntKind.u64.wrap (a3)) 64)) = 0 then (some true) else ((tag_First.f a0 a1 (wrap64 ((wrap64 (Int.tmod (IntKind.u64.wrap (a3)) 64)) - 1))).bind fun t120 => (if 0 ≤ (IntKind.u64.wrap (wrap64 ((wrap64 (Int.tmod (IntKind.u64.wrap (a3)) 64)) - 1))) then (if (shl .u64 1 (IntKind.u64.wrap (wrap64 ((wrap64 (Int.tmod (IntKind.u64.wrap (a3)) 64)) - 1)))) = 0 then (none) else (some (t120 == (Int.tmod t116 (shl .u64 1 (IntKind.u64.wrap (wrap64 ((wrap64 (Int.tmod (IntKind.u64.wrap (a3)) 64)) - 1)))))))) else (none)))) else (some false))) else (none))) else (none)))) = some r := by rw [if_neg (show ¬ (false = true) by decide)] at H; exact H
                clear H
                have H := H1
                clear H1
                replace H := Option.bind_eq_some_iff.mp H
                obtain ⟨t116, A330, H⟩ := H
                replace H : (if (wrap64 (Int.tmod (IntKind.u64.wrap (a3)) 64)) < 63 then (if 0 ≤ (IntKind.u64.wrap ((wrap64 (Int.tmod (IntKind.u64.wrap (a3)) 64)))) then (if t116 ≥ (shl .u64 1 (IntKind.u64.wrap ((wrap64 (Int.tmod (IntKind.u64.wrap (a3)) 64))))) then (some false) else (if 1 + a1.size ≤ 9223372036854775807 then ((hmac_Number.f a0 ((⟨#[5]⟩ : ByteArray) ++ a1)).bind fun t117 => (if (shl .u64 1 (IntKind.u64.wrap ((wrap64 (Int.tmod (IntKind.u64.wrap (a3)) 64))))) = 0 then (none) else (if t116 = (Int.tmod t117 (shl .u64 1 (IntKind.u64.wrap ((wrap64 (Int.tmod (IntKind.u64.wrap (a3)) 64)))))) then (if (wrap64 (Int.tmod (IntKind.u64.wrap (a3)) 64)) = 0 then (some true) else ((tag_First.f a0 a1 (wrap64 ((wrap64 (Int.tmod (IntKind.u64.wrap (a3)) 64)) - 1))).bind fun t118 => (if 0 ≤ (IntKind.u64.wrap (wrap64 ((wrap64 (Int.tmod (IntKind.u64.wrap (a3)) 64)) - 1))) then (if (shl .u64 1 (IntKind.u64.wrap (wrap64 ((wrap64 (Int.tmod (IntKind.u64.wrap (a3)) 64)) - 1)))) = 0 then (none) else (some (t118 == (Int.tmod t116 (shl .u64 1 (IntKind.u64.wrap (wrap64 ((wrap64 (Int.tmod (IntKind.u64.wrap (a3)) 64)) - 1)))))))) else (none)))) else (some false)))) else (none))) else (none)) else (if 1 + a1.size ≤ 9223372036854775807 then ((hmac_Number.f a0 ((⟨#[5]⟩ : ByteArray) ++ a1)).bind fun t119 => (if 0 ≤ (IntKind.u64.wrap ((wrap64 (Int.tmod (IntKind.u64.wrap (a3)) 64)))) then (if (shl .u64 1 (IntKind.u64.wrap ((wrap64 (Int.tmod (IntKind.u64.wrap (a3)) 64))))) = 0 then (none) else (if t116 = (Int.tmod t119 (shl .u64 1 (IntKind.u64.wrap ((wrap64 (Int.tmod (IntKind.u64.wrap (a3)) 64)))))) then (if (wrap64 (Int.tmod (IntKind.u64.wrap (a3)) 64)) = 0 then (some true) else ((tag_First.f a0 a1 (wrap64 ((wrap64 (Int.tmod (IntKind.u64.wrap (a3)) 64)) - 1))).bind fun t120 => (if 0 ≤ (IntKind.u64.wrap (wrap64 ((wrap64 (Int.tmod (IntKind.u64.wrap (a3)) 64)) - 1))) then (if (shl .u64 1 (IntKind.u64.wrap (wrap64 ((wrap64 (Int.tmod (IntKind.u64.wrap (a3)) 64)) - 1)))) = 0 then (none) else (some (t120 == (Int.tmod t116 (shl .u64 1 (IntKind.u64.wrap (wrap64 ((wrap64 (Int.tmod (IntKind.u64.wrap (a3)) 64)) - 1)))))))) else (none)))) else (some false))) else (none))) else (none))) = some r := H
                have A33 := Aside0.mk A330
                clear A330
                by_cases c34 : (wrap64 (Int.tmod (IntKind.u64.wrap (a3)) 64)) < 63
                · rw [if_pos c34] at H
                  have c34b0 : decide ((wrap64 (Int.tmod (IntKind.u64.wrap (a3)) 64)) < 63) = true := decide_eq_true c34
                  clear c34
                  obtain ⟨ji35, hji35⟩ : ∃ j_ : Int, (IntKind.u64.wrap ((wrap64 (Int.tmod (IntKind.u64.wrap (a3)) 64)))) = j_ := ⟨_, rfl⟩
                  replace H : (if 0 ≤ (ji35) then (if t116 ≥ (shl .u64 1 (ji35)) then (some false) else (if 1 + a1.size ≤ 9223372036854775807 then ((hmac_Number.f a0 ((⟨#[5]⟩ : ByteArray) ++ a1)).bind fun t117 => (if (shl .u64 1 (ji35)) = 0 then (none) else (if t116 = (Int.tmod t117 (shl .u64 1 (ji35))) then (if (wrap64 (Int.tmod (IntKind.u64.wrap (a3)) 64)) = 0 then (some true) else ((tag_First.f a0 a1 (wrap64 ((wrap64 (Int.tmod (IntKind.u64.wrap (a3)) 64)) - 1))).bind fun t118 => (if 0 ≤ (IntKind.u64.wrap (wrap64 ((wrap64 (Int.tmod (IntKind.u64.wrap (a3)) 64)) - 1))) then (if (shl .u64 1 (IntKind.u64.wrap (wrap64 ((wrap64 (Int.tmod (IntKind.u64.wrap (a3)) 64)) - 1)))) = 0 then (none) else (some (t118 == (Int.tmod t116 (shl .u64 1 (IntKind.u64.wrap (wrap64 ((wrap64 (Int.tmod (IntKind.u64.wrap (a3)) 64)) - 1)))))))) else (none)))) else (some false)))) else (none))) else (none)) = some r := by first | (rw [hji35] at H; exact H) | (simp only [hji35] at H ⊢; exact H)
                  (try rw [hji35] at A33)
                  by_cases c36 : 0 ≤ (ji35)
                  · rw [if_pos c36] at H
                    have c36b0 := eq_true c36
                    have c36b1 : decide (0 ≤ (ji35)) = true := decide_eq_true c36
                    clear c36
                    obtain ⟨ji37, hji37⟩ : ∃ j_ : Int, (shl .u64 1 (ji35)) = j_ := ⟨_, rfl⟩
                    replace H : (if t116 ≥ (ji37) then (some false) else (if 1 + a1.size ≤ 9223372036854775807 then ((hmac_Number.f a0 ((⟨#[5]⟩ : ByteArray) ++ a1)).bind fun t117 => (if (ji37) = 0 then (none) else (if t116 = (Int.tmod t117 (ji37)) then (if (wrap64 (Int.tmod (IntKind.u64.wrap (a3)) 64)) = 0 then (some true) else ((tag_First.f a0 a1 (wrap64 ((wrap64 (Int.tmod (IntKind.u64.wrap (a3)) 64)) - 1))).bind fun t118 => (if 0 ≤ (IntKind.u64.wrap (wrap64 ((wrap64 (Int.tmod (IntKind.u64.wrap (a3)) 64)) - 1))) then (if (shl .u64 1 (IntKind.u64.wrap (wrap64 ((wrap64 (Int.tmod (IntKind.u64.wrap (a3)) 64)) - 1)))) = 0 then (none) else (some (t118 == (Int.tmod t116 (shl .u64 1 (IntKind.u64.wrap (wrap64 ((wrap64 (Int.tmod (IntKind.u64.wrap (a3)) 64)) - 1)))))))) else (none)))) else (some false)))) else (none))) = some r := by first | (rw [hji37] at H; exact H) | (simp only [hji37] at H ⊢; exact H)
                    (try rw [hji37] at A33)
                    have hji37_ : (IntKind.u64.wrap (1 * 2 ^ min (ji35).toNat 64)) = ji37 := hji37
                    have hji37z : (ji35) ≤ 64 → (IntKind.u64.wrap (1 * 2 ^ (ji35).toNat)) = ji37 := shl_small hji37
                    have hji37u : (IntKind.u64.wrap (2 ^ min (ji35).toNat 64)) = ji37 := by have h_ := hji37_; rw [Int.one_mul] at h_; exact h_
                    have hji37v : (ji35) ≤ 64 → (IntKind.u64.wrap (2 ^ (ji35).toNat)) = ji37 := fun hle_ => by have h_ := hji37z hle_; rw [Int.one_mul] at h_; exact h_
                    by_cases c38 : t116 ≥ (ji37)
                    · rw [if_pos c38] at H
                      have c38b0 : decide ((ji37) ≤ t116) = true := decide_eq_true c38
                      clear c38
                      obtain rfl := Option.some.inj H
                      go_wp2_with (first | ((with_reducible refine gate_callee (f := 56) rfl ?_); refine goesL_ (some 67) rfl rfl Tryd.func56 (by kernel_rfl) rfl #[.string a0, .string a1, .int .i64 (wrap64 (Int.tmod (IntKind.u64.wrap (a3)) 64))] rfl (by (try simp only [List.map_toArray, List.map_cons, List.map_nil]); first | done | rfl | (simp only [List.length_drop, List.length_take]; rfl)) ?_; (with_reducible refine (tag_First.calls a0 a1 (wrap64 (Int.tmod (IntKind.u64.wrap (a3)) 64)) t116 _ ?side1 A33.out).mono ?_); (case side1 => exact (GivW.Tab2.keep HT.out (by repeat (first | (with_reducible first | exact HB.out | apply below_alloc | apply pw_below_drewN | apply below_drew1) | exact HB.out))).sha); rintro e w39 ⟨rfl, hb⟩; refine ⟨_, rfl, ?_⟩; have n0_ := Aside0.mk (below_step (by repeat (first | (with_reducible first | exact HB.out | apply below_alloc | apply pw_below_drewN | apply below_drew1) | exact HB.out)) hb); clear HB; have HB := n0_; clear n0_; (try clear hb); (try clear hb2); (try clear hk); (try clear hi)))
                      go_ret
                      exact ⟨by first | rfl | (simp [errW_none, errW_some] <;> rfl) | (simp only [← hji35, ← hji37]; first | rfl | (simp [errW_none, errW_some] <;> rfl)) | (simp [*, errW_none, errW_some] <;> rfl), by repeat (first | (with_reducible first | exact HB.out | apply below_alloc | apply pw_below_drewN | apply below_drew1) | exact HB.out)⟩
                    · rw [if_neg c38] at H
                      have c38b0 : decide ((ji37) ≤ t116) = false := decide_eq_false c38
                      clear c38
                      by_cases c40 : 1 + a1.size ≤ 9223372036854775807
                      · rw [if_pos c40] at H
                        have c40b0 := eq_true c40
                        have c40b1 : decide (1 + a1.size ≤ 9223372036854775807) = true := decide_eq_true c40
                        try have c40b2 : (9223372036854775807 < 1 + a1.size) = False := eq_false (Nat.not_lt.2 c40)
                        replace H := Option.bind_eq_some_iff.mp H
                        obtain ⟨t117, A410, H⟩ := H
                        replace H : (if (ji37) = 0 then (none) else (if t116 = (Int.tmod t117 (ji37)) then (if (wrap64 (Int.tmod (IntKind.u64.wrap (a3)) 64)) = 0 then (some true) else ((tag_First.f a0 a1 (wrap64 ((wrap64 (Int.tmod (IntKind.u64.wrap (a3)) 64)) - 1))).bind fun t118 => (if 0 ≤ (IntKind.u64.wrap (wrap64 ((wrap64 (Int.tmod (IntKind.u64.wrap (a3)) 64)) - 1))) then (if (shl .u64 1 (IntKind.u64.wrap (wrap64 ((wrap64 (Int.tmod (IntKind.u64.wrap (a3)) 64)) - 1)))) = 0 then (none) else (some (t118 == (Int.tmod t116 (shl .u64 1 (IntKind.u64.wrap (wrap64 ((wrap64 (Int.tmod (IntKind.u64.wrap (a3)) 64)) - 1)))))))) else (none)))) else (some false))) = some r := H
                        have A41 := Aside0.mk A410
                        clear A410
                        have c42b0 := eq_true (of_decide_eq_true (by first | (with_reducible assumption) | assumption) : 0 ≤ (ji35))
                        by_cases c44 : (ji37) = 0
                        · rw [if_pos c44] at H
                          exact absurd H (by simp)
                        · rw [if_neg c44] at H
                          have c44b0 : ((ji37) == 0) = false := beq_eq_false_iff_ne.mpr c44
                          have c44b1 : ((ji37) != 0) = true := bne_iff_ne.mpr c44
                          by_cases c45 : t116 = (Int.tmod t117 (ji37))
                          · rw [if_pos c45] at H
                            have c45b0 : (t116 == (Int.tmod t117 (ji37))) = true := beq_iff_eq.mpr c45
                            have c45b1 : (t116 != (Int.tmod t117 (ji37))) = false := bne_eq_false_iff_eq.mpr c45
                            clear c45
                            by_cases c46 : (wrap64 (Int.tmod (IntKind.u64.wrap (a3)) 64)) = 0
                            · rw [if_pos c46] at H
                              have c46b0 : ((wrap64 (Int.tmod (IntKind.u64.wrap (a3)) 64)) == 0) = true := beq_iff_eq.mpr c46
                              have c46b1 : ((wrap64 (Int.tmod (IntKind.u64.wrap (a3)) 64)) != 0) = false := bne_eq_false_iff_eq.mpr c46
                              clear c46
                              obtain rfl := Option.some.inj H
                              try go_wp2_with (first | ((with_reducible refine gate_callee (f := 56) rfl ?_); refine goesL_ (some 67) rfl rfl Tryd.func56 (by kernel_rfl) rfl #[.string a0, .string a1, .int .i64 (wrap64 (Int.tmod (IntKind.u64.wrap (a3)) 64))] rfl (by (try simp only [List.map_toArray, List.map_cons, List.map_nil]); first | done | rfl | (simp only [List.length_drop, List.length_take]; rfl)) ?_; (with_reducible refine (tag_First.calls a0 a1 (wrap64 (Int.tmod (IntKind.u64.wrap (a3)) 64)) t116 _ ?side1 A33.out).mono ?_); (case side1 => exact (GivW.Tab2.keep HT.out (by repeat (first | (with_reducible first | exact HB.out | apply below_alloc | apply pw_below_drewN | apply below_drew1) | exact HB.out))).sha); rintro e w47 ⟨rfl, hb⟩; refine ⟨_, rfl, ?_⟩; have n0_ := Aside0.mk (below_step (by repeat (first | (with_reducible first | exact HB.out | apply below_alloc | apply pw_below_drewN | apply below_drew1) | exact HB.out)) hb); clear HB; have HB := n0_; clear n0_; (try clear hb); (try clear hb2); (try clear hk); (try clear hi)) | (go_at_call 39; (with_reducible refine (hmac_Number.calls a0 ((⟨#[5]⟩ : ByteArray) ++ a1) t117 _ ?side1 A41.out).mono ?_); (case side1 => exact (GivW.Tab2.keep HT.out (by repeat (first | (with_reducible first | exact HB.out | apply below_alloc | apply pw_below_drewN | apply below_drew1) | exact HB.out))).sha); rintro e w48 ⟨rfl, hb⟩; have n0_ := Aside0.mk (below_step (by repeat (first | (with_reducible first | exact HB.out | apply below_alloc | apply pw_below_drewN | apply below_drew1) | exact HB.out)) hb); clear HB; have HB := n0_; clear n0_; (try clear hb); (try clear hb2); (try clear hk); (try clear hi)))
                              have n0_ := Aside0.mk (below_drew1 HB.out)
                              clear HB
                              have HB := n0_
                              clear n0_
                              refine start_ (n := 17) (S := fun w' => True) (ds := []) #[false, false, false, false, false, false, false, false, false, false, false, false, false, false, false, false, false] (by kernel_rfl) rfl rfl trivial (fun hHeld => ?_); refine with_tabW paymasterlaw07_TagSeeds.tab12 paymasterlaw07_TagSeeds.bits12 (fun HT_ HW_ => ?_)
                              generalize w48.drew = w49 at HB hHeld ⊢
                              refine pure_ (i := 0) (N := some 89) (v := ?_) (a' := ?_) #[true, false, false, false, false, false, false, false, false, false, false, false, false, false, false, false, false] rfl rfl (any_of HT_.out (by kernel_rfl)) (fun _ _ _ h => h) (Or.inl ⟨by rfl, ?_⟩) ?_ ?_
                              rotate_left
                              · intro w'
                                go_simp
                                with_reducible rfl
                              rotate_left
                              · simp only [Act.put, List.setIfInBounds_toArray, List.set_cons_zero, List.set_cons_succ, i64_w, i32_w]
                                rfl
                              refine pure_ (i := 1) (N := some 90) (v := ?_) (a' := ?_) #[true, true, false, false, false, false, false, false, false, false, false, false, false, false, false, false, false] rfl rfl (any_of HT_.out (by kernel_rfl)) (fun _ _ _ h => h) (Or.inl ⟨by rfl, ?_⟩) ?_ ?_
                              rotate_left
                              · intro w'
                                go_simp
                                with_reducible rfl
                              rotate_left
                              · simp only [Act.put, List.setIfInBounds_toArray, List.set_cons_zero, List.set_cons_succ, i64_w, i32_w]
                                rfl
                              refine pure_ (i := 2) (N := some 91) (v := ?_) (a' := ?_) #[true, true, true, false, false, false, false, false, false, false, false, false, false, false, false, false, false] rfl rfl (any_of HT_.out (by kernel_rfl)) (fun _ _ _ h => h) (Or.inl ⟨by rfl, ?_⟩) ?_ ?_
                              rotate_left
                              · intro w'
                                go_simp
                                with_reducible rfl
                              rotate_left
                              · simp only [Act.put, List.setIfInBounds_toArray, List.set_cons_zero, List.set_cons_succ, i64_w, i32_w]
                                rfl
                              refine pure_ (i := 3) (N := some 92) (v := undef) (a' := ?_) #[true, true, true, true, false, false, false, false, false, false, false, false, false, false, false, false, false] rfl rfl (any_of HT_.out (by kernel_rfl)) (fun _ _ _ h => h) (Or.inr ⟨by rfl, rfl⟩) ?_ ?_
                              rotate_left
                              · simp only [Act.put, List.setIfInBounds_toArray, List.set_cons_zero, List.set_cons_succ, i64_w, i32_w]
                                rfl
                              refine pure_ (i := 4) (N := some 93) (v := undef) (a' := ?_) #[true, true, true, true, true, false, false, false, false, false, false, false, false, false, false, false, false] rfl rfl (any_of HT_.out (by kernel_rfl)) (fun _ _ _ h => h) (Or.inr ⟨by rfl, rfl⟩) ?_ ?_
                              rotate_left
                              · simp only [Act.put, List.setIfInBounds_toArray, List.set_cons_zero, List.set_cons_succ, i64_w, i32_w]
                                rfl
                              refine pure_ (i := 5) (N := some 94) (v := undef) (a' := ?_) #[true, true, true, true, true, true, false, false, false, false, false, false, false, false, false, false, false] rfl rfl (any_of HT_.out (by kernel_rfl)) (fun _ _ _ h => h) (Or.inr ⟨by rfl, rfl⟩) ?_ ?_
                              rotate_left
                              · simp only [Act.put, List.setIfInBounds_toArray, List.set_cons_zero, List.set_cons_succ, i64_w, i32_w]
                                rfl
                              refine pure_ (i := 6) (N := some 95) (v := undef) (a' := ?_) #[true, true, true, true, true, true, true, false, false, false, false, false, false, false, false, false, false] rfl rfl (any_of HT_.out (by kernel_rfl)) (fun _ _ _ h => h) (Or.inr ⟨by rfl, rfl⟩) ?_ ?_
                              rotate_left
                              · simp only [Act.put, List.setIfInBounds_toArray, List.set_cons_zero, List.set_cons_succ, i64_w, i32_w]
                                rfl
                              refine pure_ (i := 7) (N := some 96) (v := undef) (a' := ?_) #[true, true, true, true, true, true, true, true, false, false, false, false, false, false, false, false, false] rfl rfl (any_of HT_.out (by kernel_rfl)) (fun _ _ _ h => h) (Or.inr ⟨by rfl, rfl⟩) ?_ ?_
                              rotate_left
                              · simp only [Act.put, List.setIfInBounds_toArray, List.set_cons_zero, List.set_cons_succ, i64_w, i32_w]
                                rfl
                              refine pure_ (i := 8) (N := some 97) (v := undef) (a' := ?_) #[true, true, true, true, true, true, true, true, true, false, false, false, false, false, false, false, false] rfl rfl (any_of HT_.out (by kernel_rfl)) (fun _ _ _ h => h) (Or.inr ⟨by rfl, rfl⟩) ?_ ?_
                              rotate_left
                              · simp only [Act.put, List.setIfInBounds_toArray, List.set_cons_zero, List.set_cons_succ, i64_w, i32_w]
                                rfl
                              refine pure_ (i := 9) (N := some 98) (v := undef) (a' := ?_) #[true, true, true, true, true, true, true, true, true, true, false, false, false, false, false, false, false] rfl rfl (any_of HT_.out (by kernel_rfl)) (fun _ _ _ h => h) (Or.inr ⟨by rfl, rfl⟩) ?_ ?_
                              rotate_left
                              · simp only [Act.put, List.setIfInBounds_toArray, List.set_cons_zero, List.set_cons_succ, i64_w, i32_w]
                                rfl
                              refine pure_ (i := 10) (N := some 99) (v := undef) (a' := ?_) #[true, true, true, true, true, true, true, true, true, true, true, false, false, false, false, false, false] rfl rfl (any_of HT_.out (by kernel_rfl)) (fun _ _ _ h => h) (Or.inr ⟨by rfl, rfl⟩) ?_ ?_
                              rotate_left
                              · simp only [Act.put, List.setIfInBounds_toArray, List.set_cons_zero, List.set_cons_succ, i64_w, i32_w]
                                rfl
                              refine pure_ (i := 11) (N := some 100) (v := undef) (a' := ?_) #[true, true, true, true, true, true, true, true, true, true, true, true, false, false, false, false, false] rfl rfl (any_of HT_.out (by kernel_rfl)) (fun _ _ _ h => h) (Or.inr ⟨by rfl, rfl⟩) ?_ ?_
                              rotate_left
                              · simp only [Act.put, List.setIfInBounds_toArray, List.set_cons_zero, List.set_cons_succ, i64_w, i32_w]
                                rfl
                              refine pure_ (i := 12) (N := some 101) (v := undef) (a' := ?_) #[true, true, true, true, true, true, true, true, true, true, true, true, true, false, false, false, false] rfl rfl (any_of HT_.out (by kernel_rfl)) (fun _ _ _ h => h) (Or.inr ⟨by rfl, rfl⟩) ?_ ?_
                              rotate_left
                              · simp only [Act.put, List.setIfInBounds_toArray, List.set_cons_zero, List.set_cons_succ, i64_w, i32_w]
                                rfl
                              refine pure_ (i := 13) (N := some 102) (v := undef) (a' := ?_) #[true, true, true, true, true, true, true, true, true, true, true, true, true, true, false, false, false] rfl rfl (any_of HT_.out (by kernel_rfl)) (fun _ _ _ h => h) (Or.inr ⟨by rfl, rfl⟩) ?_ ?_
                              rotate_left
                              · simp only [Act.put, List.setIfInBounds_toArray, List.set_cons_zero, List.set_cons_succ, i64_w, i32_w]
                                rfl
                              refine pure_ (i := 14) (N := some 103) (v := undef) (a' := ?_) #[true, true, true, true, true, true, true, true, true, true, true, true, true, true, true, false, false] rfl rfl (any_of HT_.out (by kernel_rfl)) (fun _ _ _ h => h) (Or.inr ⟨by rfl, rfl⟩) ?_ ?_
                              rotate_left
                              · simp only [Act.put, List.setIfInBounds_toArray, List.set_cons_zero, List.set_cons_succ, i64_w, i32_w]
                                rfl
                              refine pure_ (i := 15) (N := some 104) (v := ?_) (a' := ?_) #[true, true, true, true, true, true, true, true, true, true, true, true, true, true, true, true, false] rfl rfl (any_of HT_.out (by kernel_rfl)) (fun _ _ _ h => h) (Or.inl ⟨by rfl, ?_⟩) ?_ ?_
                              rotate_left
                              · intro w'
                                go_simp
                                with_reducible rfl
                              rotate_left
                              · simp only [Act.put, List.setIfInBounds_toArray, List.set_cons_zero, List.set_cons_succ, i64_w, i32_w]
                                rfl
                              refine pure_ (i := 16) (N := some 8) (v := ?_) (a' := ?_) #[true, true, true, true, true, true, true, true, true, true, true, true, true, true, true, true, true] rfl rfl (any_of HT_.out (by kernel_rfl)) (fun _ _ _ h => h) (Or.inl ⟨by rfl, ?_⟩) ?_ ?_
                              rotate_left
                              · intro w'
                                go_simp
                                with_reducible rfl
                              rotate_left
                              · simp only [Act.put, List.setIfInBounds_toArray, List.set_cons_zero, List.set_cons_succ, i64_w, i32_w]
                                rfl
                              refine done_ (done_of HT_.out (by kernel_rfl)) ?_
                              try go_wp2
                              go_ret
                              exact ⟨by first | rfl | (simp [errW_none, errW_some] <;> rfl) | (simp only [← hji35, ← hji37]; first | rfl | (simp [errW_none, errW_some] <;> rfl)) | (simp [*, errW_none, errW_some] <;> rfl), by repeat (first | (with_reducible first | exact HB.out | apply below_alloc | apply pw_below_drewN | apply below_drew1) | exact HB.out)⟩
                            · rw [if_neg c46] at H
                              have c46b0 : ((wrap64 (Int.tmod (IntKind.u64.wrap (a3)) 64)) == 0) = false := beq_eq_false_iff_ne.mpr c46
                              have c46b1 : ((wrap64 (Int.tmod (IntKind.u64.wrap (a3)) 64)) != 0) = true := bne_iff_ne.mpr c46
                              replace H := Option.bind_eq_some_iff.mp H
                              obtain ⟨t118, A500, H⟩ := H
                              replace H : (if 0 ≤ (IntKind.u64.wrap (wrap64 ((wrap64 (Int.tmod (IntKind.u64.wrap (a3)) 64)) - 1))) then (if (shl .u64 1 (IntKind.u64.wrap (wrap64 ((wrap64 (Int.tmod (IntKind.u64.wrap (a3)) 64)) - 1)))) = 0 then (none) else (some (t118 == (Int.tmod t116 (shl .u64 1 (IntKind.u64.wrap (wrap64 ((wrap64 (Int.tmod (IntKind.u64.wrap (a3)) 64)) - 1)))))))) else (none)) = some r := H
                              have A50 := Aside0.mk A500
                              clear A500
                              obtain ⟨ji51, hji51⟩ : ∃ j_ : Int, (IntKind.u64.wrap (wrap64 ((wrap64 (Int.tmod (IntKind.u64.wrap (a3)) 64)) - 1))) = j_ := ⟨_, rfl⟩
                              replace H : (if 0 ≤ (ji51) then (if (shl .u64 1 (ji51)) = 0 then (none) else (some (t118 == (Int.tmod t116 (shl .u64 1 (ji51)))))) else (none)) = some r := by first | (rw [hji51] at H; exact H) | (simp only [hji51] at H ⊢; exact H)
                              (try rw [hji51] at A33)
                              (try rw [hji51] at A41)
                              (try rw [hji51] at A50)
                              by_cases c52 : 0 ≤ (ji51)
                              · rw [if_pos c52] at H
                                have c52b0 := eq_true c52
                                have c52b1 : decide (0 ≤ (ji51)) = true := decide_eq_true c52
                                clear c52
                                obtain ⟨ji53, hji53⟩ : ∃ j_ : Int, (shl .u64 1 (ji51)) = j_ := ⟨_, rfl⟩
                                replace H : (if (ji53) = 0 then (none) else (some (t118 == (Int.tmod t116 (ji53))))) = some r := by first | (rw [hji53] at H; exact H) | (simp only [hji53] at H ⊢; exact H)
                                (try rw [hji53] at A33)
                                (try rw [hji53] at A41)
                                (try rw [hji53] at A50)
                                have hji53_ : (IntKind.u64.wrap (1 * 2 ^ min (ji51).toNat 64)) = ji53 := hji53
                                have hji53z : (ji51) ≤ 64 → (IntKind.u64.wrap (1 * 2 ^ (ji51).toNat)) = ji53 := shl_small hji53
                                have hji53u : (IntKind.u64.wrap (2 ^ min (ji51).toNat 64)) = ji53 := by have h_ := hji53_; rw [Int.one_mul] at h_; exact h_
                                have hji53v : (ji51) ≤ 64 → (IntKind.u64.wrap (2 ^ (ji51).toNat)) = ji53 := fun hle_ => by have h_ := hji53z hle_; rw [Int.one_mul] at h_; exact h_
                                by_cases c54 : (ji53) = 0
                                · rw [if_pos c54] at H
                                  exact absurd H (by simp)
                                · rw [if_neg c54] at H
                                  have c54b0 : ((ji53) == 0) = false := beq_eq_false_iff_ne.mpr c54
                                  have c54b1 : ((ji53) != 0) = true := bne_iff_ne.mpr c54
                                  obtain rfl := Option.some.inj H
                                  try go_wp2_with (first | ((with_reducible refine gate_callee (f := 56) rfl ?_); refine goesL_ (some 67) rfl rfl Tryd.func56 (by kernel_rfl) rfl #[.string a0, .string a1, .int .i64 (wrap64 (Int.tmod (IntKind.u64.wrap (a3)) 64))] rfl (by (try simp only [List.map_toArray, List.map_cons, List.map_nil]); first | done | rfl | (simp only [List.length_drop, List.length_take]; rfl)) ?_; (with_reducible refine (tag_First.calls a0 a1 (wrap64 (Int.tmod (IntKind.u64.wrap (a3)) 64)) t116 _ ?side1 A33.out).mono ?_); (case side1 => exact (GivW.Tab2.keep HT.out (by repeat (first | (with_reducible first | exact HB.out | apply below_alloc | apply pw_below_drewN | apply below_drew1) | exact HB.out))).sha); rintro e w55 ⟨rfl, hb⟩; refine ⟨_, rfl, ?_⟩; have n0_ := Aside0.mk (below_step (by repeat (first | (with_reducible first | exact HB.out | apply below_alloc | apply pw_below_drewN | apply below_drew1) | exact HB.out)) hb); clear HB; have HB := n0_; clear n0_; (try clear hb); (try clear hb2); (try clear hk); (try clear hi)) | (go_at_call 39; (with_reducible refine (hmac_Number.calls a0 ((⟨#[5]⟩ : ByteArray) ++ a1) t117 _ ?side1 A41.out).mono ?_); (case side1 => exact (GivW.Tab2.keep HT.out (by repeat (first | (with_reducible first | exact HB.out | apply below_alloc | apply pw_below_drewN | apply below_drew1) | exact HB.out))).sha); rintro e w56 ⟨rfl, hb⟩; have n0_ := Aside0.mk (below_step (by repeat (first | (with_reducible first | exact HB.out | apply below_alloc | apply pw_below_drewN | apply below_drew1) | exact HB.out)) hb); clear HB; have HB := n0_; clear n0_; (try clear hb); (try clear hb2); (try clear hk); (try clear hi)))
                                  have n0_ := Aside0.mk (below_drew1 HB.out)
                                  clear HB
                                  have HB := n0_
                                  clear n0_
                                  refine start_ (n := 17) (S := fun w' => True) (ds := []) #[false, false, false, false, false, false, false, false, false, false, false, false, false, false, false, false, false] (by kernel_rfl) rfl rfl trivial (fun hHeld => ?_); refine with_tabW paymasterlaw07_TagSeeds.tab12 paymasterlaw07_TagSeeds.bits12 (fun HT_ HW_ => ?_)
                                  generalize w56.drew = w57 at HB hHeld ⊢
                                  refine pure_ (i := 0) (N := some 89) (v := ?_) (a' := ?_) #[true, false, false, false, false, false, false, false, false, false, false, false, false, false, false, false, false] rfl rfl (any_of HT_.out (by kernel_rfl)) (fun _ _ _ h => h) (Or.inl ⟨by rfl, ?_⟩) ?_ ?_
                                  rotate_left
                                  · intro w'
                                    go_simp
                                    with_reducible rfl
                                  rotate_left
                                  · simp only [Act.put, List.setIfInBounds_toArray, List.set_cons_zero, List.set_cons_succ, i64_w, i32_w]
                                    rfl
                                  refine pure_ (i := 1) (N := some 90) (v := ?_) (a' := ?_) #[true, true, false, false, false, false, false, false, false, false, false, false, false, false, false, false, false] rfl rfl (any_of HT_.out (by kernel_rfl)) (fun _ _ _ h => h) (Or.inl ⟨by rfl, ?_⟩) ?_ ?_
                                  rotate_left
                                  · intro w'
                                    go_simp
                                    with_reducible rfl
                                  rotate_left
                                  · simp only [Act.put, List.setIfInBounds_toArray, List.set_cons_zero, List.set_cons_succ, i64_w, i32_w]
                                    rfl
                                  refine pure_ (i := 2) (N := some 91) (v := ?_) (a' := ?_) #[true, true, true, false, false, false, false, false, false, false, false, false, false, false, false, false, false] rfl rfl (any_of HT_.out (by kernel_rfl)) (fun _ _ _ h => h) (Or.inl ⟨by rfl, ?_⟩) ?_ ?_
                                  rotate_left
                                  · intro w'
                                    go_simp
                                    with_reducible rfl
                                  rotate_left
                                  · simp only [Act.put, List.setIfInBounds_toArray, List.set_cons_zero, List.set_cons_succ, i64_w, i32_w]
                                    rfl
                                  refine pure_ (i := 3) (N := some 92) (v := ?_) (a' := ?_) #[true, true, true, true, false, false, false, false, false, false, false, false, false, false, false, false, false] rfl rfl (any_of HT_.out (by kernel_rfl)) (fun _ _ _ h => h) (Or.inl ⟨by rfl, ?_⟩) ?_ ?_
                                  rotate_left
                                  · intro w'
                                    go_simp
                                    with_reducible rfl
                                  rotate_left
                                  · simp only [Act.put, List.setIfInBounds_toArray, List.set_cons_zero, List.set_cons_succ, i64_w, i32_w]
                                    rfl
                                  refine pure_ (i := 4) (N := some 93) (v := ?_) (a' := ?_) #[true, true, true, true, true, false, false, false, false, false, false, false, false, false, false, false, false] rfl rfl (any_of HT_.out (by kernel_rfl)) (fun _ _ _ h => h) (Or.inl ⟨by rfl, ?_⟩) ?_ ?_
                                  rotate_left
                                  · intro w'
                                    go_simp
                                    with_reducible rfl
                                  rotate_left
                                  · simp only [Act.put, List.setIfInBounds_toArray, List.set_cons_zero, List.set_cons_succ, i64_w, i32_w]
                                    rfl
                                  refine pure_ (i := 5) (N := some 94) (v := ?_) (a' := ?_) #[true, true, true, true, true, true, false, false, false, false, false, false, false, false, false, false, false] rfl rfl (any_of HT_.out (by kernel_rfl)) (fun _ _ _ h => h) (Or.inl ⟨by rfl, ?_⟩) ?_ ?_
                                  rotate_left
                                  · intro w'
                                    go_simp
                                    with_reducible rfl
                                  rotate_left
                                  · simp only [Act.put, List.setIfInBounds_toArray, List.set_cons_zero, List.set_cons_succ, i64_w, i32_w]
                                    rfl
                                  refine pure_ (i := 6) (N := some 95) (v := ?_) (a' := ?_) #[true, true, true, true, true, true, true, false, false, false, false, false, false, false, false, false, false] rfl rfl (any_of HT_.out (by kernel_rfl)) (fun _ _ _ h => h) (Or.inl ⟨by rfl, ?_⟩) ?_ ?_
                                  rotate_left
                                  · intro w'
                                    go_simp
                                    with_reducible rfl
                                  rotate_left
                                  · simp only [Act.put, List.setIfInBounds_toArray, List.set_cons_zero, List.set_cons_succ, i64_w, i32_w]
                                    rfl
                                  refine pure_ (i := 8) (N := some 97) (v := ?_) (a' := ?_) #[true, true, true, true, true, true, true, false, true, false, false, false, false, false, false, false, false] rfl rfl (any_of HT_.out (by kernel_rfl)) (fun _ _ _ h => h) (Or.inl ⟨by rfl, ?_⟩) ?_ ?_
                                  rotate_left
                                  · intro w'
                                    go_simp
                                    with_reducible rfl
                                  rotate_left
                                  · simp only [Act.put, List.setIfInBounds_toArray, List.set_cons_zero, List.set_cons_succ, i64_w, i32_w]
                                    rfl
                                  refine pure_ (i := 9) (N := some 98) (v := ?_) (a' := ?_) #[true, true, true, true, true, true, true, false, true, true, false, false, false, false, false, false, false] rfl rfl (any_of HT_.out (by kernel_rfl)) (fun _ _ _ h => h) (Or.inl ⟨by rfl, ?_⟩) ?_ ?_
                                  rotate_left
                                  · intro w'
                                    go_simp
                                    with_reducible rfl
                                  rotate_left
                                  · simp only [Act.put, List.setIfInBounds_toArray, List.set_cons_zero, List.set_cons_succ, i64_w, i32_w]
                                    rfl
                                  refine pure_ (i := 10) (N := some 99) (v := ?_) (a' := ?_) #[true, true, true, true, true, true, true, false, true, true, true, false, false, false, false, false, false] rfl rfl (any_of HT_.out (by kernel_rfl)) (fun _ _ _ h => h) (Or.inl ⟨by rfl, ?_⟩) ?_ ?_
                                  rotate_left
                                  · intro w'
                                    go_simp
                                    with_reducible rfl
                                  rotate_left
                                  · simp only [Act.put, List.setIfInBounds_toArray, List.set_cons_zero, List.set_cons_succ, i64_w, i32_w]
                                    rfl
                                  refine pure_ (i := 11) (N := some 100) (v := ?_) (a' := ?_) #[true, true, true, true, true, true, true, false, true, true, true, true, false, false, false, false, false] rfl rfl (any_of HT_.out (by kernel_rfl)) (fun _ _ _ h => h) (Or.inl ⟨by rfl, ?_⟩) ?_ ?_
                                  rotate_left
                                  · intro w'
                                    go_simp
                                    with_reducible rfl
                                  rotate_left
                                  · simp only [Act.put, List.setIfInBounds_toArray, List.set_cons_zero, List.set_cons_succ, i64_w, i32_w]
                                    rfl
                                  refine pure_ (i := 12) (N := some 101) (v := ?_) (a' := ?_) #[true, true, true, true, true, true, true, false, true, true, true, true, true, false, false, false, false] rfl rfl (any_of HT_.out (by kernel_rfl)) (fun _ _ _ h => h) (Or.inl ⟨by rfl, ?_⟩) ?_ ?_
                                  rotate_left
                                  · intro w'
                                    go_simp
                                    with_reducible rfl
                                  rotate_left
                                  · simp only [Act.put, List.setIfInBounds_toArray, List.set_cons_zero, List.set_cons_succ, i64_w, i32_w]
                                    rfl
                                  refine pure_ (i := 13) (N := some 102) (v := ?_) (a' := ?_) #[true, true, true, true, true, true, true, false, true, true, true, true, true, true, false, false, false] rfl rfl (any_of HT_.out (by kernel_rfl)) (fun _ _ _ h => h) (Or.inl ⟨by rfl, ?_⟩) ?_ ?_
                                  rotate_left
                                  · intro w'
                                    go_simp
                                    with_reducible rfl
                                  rotate_left
                                  · simp only [Act.put, List.setIfInBounds_toArray, List.set_cons_zero, List.set_cons_succ, i64_w, i32_w]
                                    rfl
                                  refine one_ (i := 7) (N := some 96) #[true, true, true, true, true, true, true, true, true, true, true, true, true, true, false, false, false] rfl rfl (one_of HT_.out (by kernel_rfl)) (by decide) (fun K hK => ?_)
                                  refine goes_ Tryd.func56 (by kernel_rfl) rfl #[.string a0, .string a1, .int .i64 (wrap64 ((wrap64 (Int.tmod (IntKind.u64.wrap (a3)) 64)) - 1))] (by rfl) rfl rfl (by (try simp only [List.map_toArray, List.map_cons, List.map_nil]); first | done | rfl | (simp only [List.length_drop, List.length_take]; rfl)) ?_
                                  with_reducible refine (tag_First.calls a0 a1 (wrap64 ((wrap64 (Int.tmod (IntKind.u64.wrap (a3)) 64)) - 1)) t118 _ ?side1 A50.out).mono ?_
                                  (case side1 => exact (GivW.Tab2.keep HT.out (by repeat (first | (with_reducible first | exact HB.out | apply below_alloc | apply pw_below_drewN | apply below_drew1) | exact HB.out))).sha)
                                  rintro e w58 ⟨rfl, hb⟩
                                  refine ⟨_, rfl, ?_⟩
                                  have n0_ := Aside0.mk (below_step (by repeat (first | (with_reducible first | exact HB.out | apply below_alloc | apply pw_below_drewN | apply below_drew1) | exact HB.out)) hb)
                                  clear HB
                                  have HB := n0_
                                  clear n0_
                                  (try clear hb)
                                  (try clear hb2)
                                  (try clear hk)
                                  (try clear hi)
                                  refine hK.out _ _ trivial (fun hHeld => ?_)
                                  clear hK K
                                  refine norm_ (a' := ?_) ?_ ?_
                                  rotate_left
                                  · show Act.put _ (some 96) _ = _
                                    simp only [Act.put, List.setIfInBounds_toArray, List.set_cons_zero, List.set_cons_succ, i64_w, i32_w]
                                    rfl
                                  refine pure_ (i := 14) (N := some 103) (v := ?_) (a' := ?_) #[true, true, true, true, true, true, true, true, true, true, true, true, true, true, true, false, false] rfl rfl (any_of HT_.out (by kernel_rfl)) (fun _ _ _ h => h) (Or.inl ⟨by rfl, ?_⟩) ?_ ?_
                                  rotate_left
                                  · intro w'
                                    go_simp
                                    with_reducible rfl
                                  rotate_left
                                  · simp only [Act.put, List.setIfInBounds_toArray, List.set_cons_zero, List.set_cons_succ, i64_w, i32_w]
                                    rfl
                                  refine pure_ (i := 15) (N := some 104) (v := ?_) (a' := ?_) #[true, true, true, true, true, true, true, true, true, true, true, true, true, true, true, true, false] rfl rfl (any_of HT_.out (by kernel_rfl)) (fun _ _ _ h => h) (Or.inl ⟨by rfl, ?_⟩) ?_ ?_
                                  rotate_left
                                  · intro w'
                                    go_simp
                                    with_reducible rfl
                                  rotate_left
                                  · simp only [Act.put, List.setIfInBounds_toArray, List.set_cons_zero, List.set_cons_succ, i64_w, i32_w]
                                    rfl
                                  refine pure_ (i := 16) (N := some 8) (v := ?_) (a' := ?_) #[true, true, true, true, true, true, true, true, true, true, true, true, true, true, true, true, true] rfl rfl (any_of HT_.out (by kernel_rfl)) (fun _ _ _ h => h) (Or.inl ⟨by rfl, ?_⟩) ?_ ?_
                                  rotate_left
                                  · intro w'
                                    go_simp
                                    with_reducible rfl
                                  rotate_left
                                  · simp only [Act.put, List.setIfInBounds_toArray, List.set_cons_zero, List.set_cons_succ, i64_w, i32_w]
                                    rfl
                                  refine done_ (done_of HT_.out (by kernel_rfl)) ?_
                                  try go_wp2
                                  go_ret
                                  exact ⟨by first | rfl | (simp [errW_none, errW_some] <;> rfl) | (simp only [← hji35, ← hji37, ← hji51, ← hji53]; first | rfl | (simp [errW_none, errW_some] <;> rfl)) | (simp [*, errW_none, errW_some] <;> rfl), by repeat (first | (with_reducible first | exact HB.out | apply below_alloc | apply pw_below_drewN | apply below_drew1) | exact HB.out)⟩
                              · rw [if_neg c52] at H
                                exact absurd H (by simp)
                          · rw [if_neg c45] at H
                            have c45b0 : (t116 == (Int.tmod t117 (ji37))) = false := beq_eq_false_iff_ne.mpr c45
                            have c45b1 : (t116 != (Int.tmod t117 (ji37))) = true := bne_iff_ne.mpr c45
                            obtain rfl := Option.some.inj H
                            go_wp2_with (first | ((with_reducible refine gate_callee (f := 56) rfl ?_); refine goesL_ (some 67) rfl rfl Tryd.func56 (by kernel_rfl) rfl #[.string a0, .string a1, .int .i64 (wrap64 (Int.tmod (IntKind.u64.wrap (a3)) 64))] rfl (by (try simp only [List.map_toArray, List.map_cons, List.map_nil]); first | done | rfl | (simp only [List.length_drop, List.length_take]; rfl)) ?_; (with_reducible refine (tag_First.calls a0 a1 (wrap64 (Int.tmod (IntKind.u64.wrap (a3)) 64)) t116 _ ?side1 A33.out).mono ?_); (case side1 => exact (GivW.Tab2.keep HT.out (by repeat (first | (with_reducible first | exact HB.out | apply below_alloc | apply pw_below_drewN | apply below_drew1) | exact HB.out))).sha); rintro e w59 ⟨rfl, hb⟩; refine ⟨_, rfl, ?_⟩; have n0_ := Aside0.mk (below_step (by repeat (first | (with_reducible first | exact HB.out | apply below_alloc | apply pw_below_drewN | apply below_drew1) | exact HB.out)) hb); clear HB; have HB := n0_; clear n0_; (try clear hb); (try clear hb2); (try clear hk); (try clear hi)) | (go_at_call 39; (with_reducible refine (hmac_Number.calls a0 ((⟨#[5]⟩ : ByteArray) ++ a1) t117 _ ?side1 A41.out).mono ?_); (case side1 => exact (GivW.Tab2.keep HT.out (by repeat (first | (with_reducible first | exact HB.out | apply below_alloc | apply pw_below_drewN | apply below_drew1) | exact HB.out))).sha); rintro e w60 ⟨rfl, hb⟩; have n0_ := Aside0.mk (below_step (by repeat (first | (with_reducible first | exact HB.out | apply below_alloc | apply pw_below_drewN | apply below_drew1) | exact HB.out)) hb); clear HB; have HB := n0_; clear n0_; (try clear hb); (try clear hb2); (try clear hk); (try clear hi)))
                            go_ret
                            exact ⟨by first | rfl | (simp [errW_none, errW_some] <;> rfl) | (simp only [← hji35, ← hji37]; first | rfl | (simp [errW_none, errW_some] <;> rfl)) | (simp [*, errW_none, errW_some] <;> rfl), by repeat (first | (with_reducible first | exact HB.out | apply below_alloc | apply pw_below_drewN | apply below_drew1) | exact HB.out)⟩
                      · rw [if_neg c40] at H
                        exact absurd H (by simp)
                  · rw [if_neg c36] at H
                    exact absurd H (by simp)
                · rw [if_neg c34] at H
                  have c34b0 : decide ((wrap64 (Int.tmod (IntKind.u64.wrap (a3)) 64)) < 63) = false := decide_eq_false c34
                  clear c34
                  by_cases c61 : 1 + a1.size ≤ 9223372036854775807
                  · rw [if_pos c61] at H
                    have c61b0 := eq_true c61
                    have c61b1 : decide (1 + a1.size ≤ 9223372036854775807) = true := decide_eq_true c61
                    try have c61b2 : (9223372036854775807 < 1 + a1.size) = False := eq_false (Nat.not_lt.2 c61)
                    replace H := Option.bind_eq_some_iff.mp H
                    obtain ⟨t119, A620, H⟩ := H
                    replace H : (if 0 ≤ (IntKind.u64.wrap ((wrap64 (Int.tmod (IntKind.u64.wrap (a3)) 64)))) then (if (shl .u64 1 (IntKind.u64.wrap ((wrap64 (Int.tmod (IntKind.u64.wrap (a3)) 64))))) = 0 then (none) else (if t116 = (Int.tmod t119 (shl .u64 1 (IntKind.u64.wrap ((wrap64 (Int.tmod (IntKind.u64.wrap (a3)) 64)))))) then (if (wrap64 (Int.tmod (IntKind.u64.wrap (a3)) 64)) = 0 then (some true) else ((tag_First.f a0 a1 (wrap64 ((wrap64 (Int.tmod (IntKind.u64.wrap (a3)) 64)) - 1))).bind fun t120 => (if 0 ≤ (IntKind.u64.wrap (wrap64 ((wrap64 (Int.tmod (IntKind.u64.wrap (a3)) 64)) - 1))) then (if (shl .u64 1 (IntKind.u64.wrap (wrap64 ((wrap64 (Int.tmod (IntKind.u64.wrap (a3)) 64)) - 1)))) = 0 then (none) else (some (t120 == (Int.tmod t116 (shl .u64 1 (IntKind.u64.wrap (wrap64 ((wrap64 (Int.tmod (IntKind.u64.wrap (a3)) 64)) - 1)))))))) else (none)))) else (some false))) else (none)) = some r := H
                    have A62 := Aside0.mk A620
                    clear A620
                    obtain ⟨ji63, hji63⟩ : ∃ j_ : Int, (IntKind.u64.wrap ((wrap64 (Int.tmod (IntKind.u64.wrap (a3)) 64)))) = j_ := ⟨_, rfl⟩
                    replace H : (if 0 ≤ (ji63) then (if (shl .u64 1 (ji63)) = 0 then (none) else (if t116 = (Int.tmod t119 (shl .u64 1 (ji63))) then (if (wrap64 (Int.tmod (IntKind.u64.wrap (a3)) 64)) = 0 then (some true) else ((tag_First.f a0 a1 (wrap64 ((wrap64 (Int.tmod (IntKind.u64.wrap (a3)) 64)) - 1))).bind fun t120 => (if 0 ≤ (IntKind.u64.wrap (wrap64 ((wrap64 (Int.tmod (IntKind.u64.wrap (a3)) 64)) - 1))) then (if (shl .u64 1 (IntKind.u64.wrap (wrap64 ((wrap64 (Int.tmod (IntKind.u64.wrap (a3)) 64)) - 1)))) = 0 then (none) else (some (t120 == (Int.tmod t116 (shl .u64 1 (IntKind.u64.wrap (wrap64 ((wrap64 (Int.tmod (IntKind.u64.wrap (a3)) 64)) - 1)))))))) else (none)))) else (some false))) else (none)) = some r := by first | (rw [hji63] at H; exact H) | (simp only [hji63] at H ⊢; exact H)
                    (try rw [hji63] at A33)
                    (try rw [hji63] at A62)
                    by_cases c64 : 0 ≤ (ji63)
                    · rw [if_pos c64] at H
                      have c64b0 := eq_true c64
                      have c64b1 : decide (0 ≤ (ji63)) = true := decide_eq_true c64
                      clear c64
                      obtain ⟨ji65, hji65⟩ : ∃ j_ : Int, (shl .u64 1 (ji63)) = j_ := ⟨_, rfl⟩
                      replace H : (if (ji65) = 0 then (none) else (if t116 = (Int.tmod t119 (ji65)) then (if (wrap64 (Int.tmod (IntKind.u64.wrap (a3)) 64)) = 0 then (some true) else ((tag_First.f a0 a1 (wrap64 ((wrap64 (Int.tmod (IntKind.u64.wrap (a3)) 64)) - 1))).bind fun t120 => (if 0 ≤ (IntKind.u64.wrap (wrap64 ((wrap64 (Int.tmod (IntKind.u64.wrap (a3)) 64)) - 1))) then (if (shl .u64 1 (IntKind.u64.wrap (wrap64 ((wrap64 (Int.tmod (IntKind.u64.wrap (a3)) 64)) - 1)))) = 0 then (none) else (some (t120 == (Int.tmod t116 (shl .u64 1 (IntKind.u64.wrap (wrap64 ((wrap64 (Int.tmod (IntKind.u64.wrap (a3)) 64)) - 1)))))))) else (none)))) else (some false))) = some r := by first | (rw [hji65] at H; exact H) | (simp only [hji65] at H ⊢; exact H)
                      (try rw [hji65] at A33)
                      (try rw [hji65] at A62)
                      have hji65_ : (IntKind.u64.wrap (1 * 2 ^ min (ji63).toNat 64)) = ji65 := hji65
                      have hji65z : (ji63) ≤ 64 → (IntKind.u64.wrap (1 * 2 ^ (ji63).toNat)) = ji65 := shl_small hji65
                      have hji65u : (IntKind.u64.wrap (2 ^ min (ji63).toNat 64)) = ji65 := by have h_ := hji65_; rw [Int.one_mul] at h_; exact h_
                      have hji65v : (ji63) ≤ 64 → (IntKind.u64.wrap (2 ^ (ji63).toNat)) = ji65 := fun hle_ => by have h_ := hji65z hle_; rw [Int.one_mul] at h_; exact h_
                      by_cases c66 : (ji65) = 0
                      · rw [if_pos c66] at H
                        exact absurd H (by simp)
                      · rw [if_neg c66] at H
                        have c66b0 : ((ji65) == 0) = false := beq_eq_false_iff_ne.mpr c66
                        have c66b1 : ((ji65) != 0) = true := bne_iff_ne.mpr c66
                        by_cases c67 : t116 = (Int.tmod t119 (ji65))
                        · rw [if_pos c67] at H
                          have c67b0 : (t116 == (Int.tmod t119 (ji65))) = true := beq_iff_eq.mpr c67
                          have c67b1 : (t116 != (Int.tmod t119 (ji65))) = false := bne_eq_false_iff_eq.mpr c67
                          clear c67
                          by_cases c68 : (wrap64 (Int.tmod (IntKind.u64.wrap (a3)) 64)) = 0
                          · rw [if_pos c68] at H
                            have c68b0 : ((wrap64 (Int.tmod (IntKind.u64.wrap (a3)) 64)) == 0) = true := beq_iff_eq.mpr c68
                            have c68b1 : ((wrap64 (Int.tmod (IntKind.u64.wrap (a3)) 64)) != 0) = false := bne_eq_false_iff_eq.mpr c68
                            clear c68
                            obtain rfl := Option.some.inj H
                            try go_wp2_with (first | ((with_reducible refine gate_callee (f := 56) rfl ?_); refine goesL_ (some 67) rfl rfl Tryd.func56 (by kernel_rfl) rfl #[.string a0, .string a1, .int .i64 (wrap64 (Int.tmod (IntKind.u64.wrap (a3)) 64))] rfl (by (try simp only [List.map_toArray, List.map_cons, List.map_nil]); first | done | rfl | (simp only [List.length_drop, List.length_take]; rfl)) ?_; (with_reducible refine (tag_First.calls a0 a1 (wrap64 (Int.tmod (IntKind.u64.wrap (a3)) 64)) t116 _ ?side1 A33.out).mono ?_); (case side1 => exact (GivW.Tab2.keep HT.out (by repeat (first | (with_reducible first | exact HB.out | apply below_alloc | apply pw_below_drewN | apply below_drew1) | exact HB.out))).sha); rintro e w69 ⟨rfl, hb⟩; refine ⟨_, rfl, ?_⟩; have n0_ := Aside0.mk (below_step (by repeat (first | (with_reducible first | exact HB.out | apply below_alloc | apply pw_below_drewN | apply below_drew1) | exact HB.out)) hb); clear HB; have HB := n0_; clear n0_; (try clear hb); (try clear hb2); (try clear hk); (try clear hi)) | (go_at_call 39; (with_reducible refine (hmac_Number.calls a0 ((⟨#[5]⟩ : ByteArray) ++ a1) t119 _ ?side1 A62.out).mono ?_); (case side1 => exact (GivW.Tab2.keep HT.out (by repeat (first | (with_reducible first | exact HB.out | apply below_alloc | apply pw_below_drewN | apply below_drew1) | exact HB.out))).sha); rintro e w70 ⟨rfl, hb⟩; have n0_ := Aside0.mk (below_step (by repeat (first | (with_reducible first | exact HB.out | apply below_alloc | apply pw_below_drewN | apply below_drew1) | exact HB.out)) hb); clear HB; have HB := n0_; clear n0_; (try clear hb); (try clear hb2); (try clear hk); (try clear hi)))
                            have n0_ := Aside0.mk (below_drew1 HB.out)
                            clear HB
                            have HB := n0_
                            clear n0_
                            refine start_ (n := 17) (S := fun w' => True) (ds := []) #[false, false, false, false, false, false, false, false, false, false, false, false, false, false, false, false, false] (by kernel_rfl) rfl rfl trivial (fun hHeld => ?_); refine with_tabW paymasterlaw07_TagSeeds.tab12 paymasterlaw07_TagSeeds.bits12 (fun HT_ HW_ => ?_)
                            generalize w70.drew = w71 at HB hHeld ⊢
                            refine pure_ (i := 0) (N := some 89) (v := ?_) (a' := ?_) #[true, false, false, false, false, false, false, false, false, false, false, false, false, false, false, false, false] rfl rfl (any_of HT_.out (by kernel_rfl)) (fun _ _ _ h => h) (Or.inl ⟨by rfl, ?_⟩) ?_ ?_
                            rotate_left
                            · intro w'
                              go_simp
                              with_reducible rfl
                            rotate_left
                            · simp only [Act.put, List.setIfInBounds_toArray, List.set_cons_zero, List.set_cons_succ, i64_w, i32_w]
                              rfl
                            refine pure_ (i := 1) (N := some 90) (v := ?_) (a' := ?_) #[true, true, false, false, false, false, false, false, false, false, false, false, false, false, false, false, false] rfl rfl (any_of HT_.out (by kernel_rfl)) (fun _ _ _ h => h) (Or.inl ⟨by rfl, ?_⟩) ?_ ?_
                            rotate_left
                            · intro w'
                              go_simp
                              with_reducible rfl
                            rotate_left
                            · simp only [Act.put, List.setIfInBounds_toArray, List.set_cons_zero, List.set_cons_succ, i64_w, i32_w]
                              rfl
                            refine pure_ (i := 2) (N := some 91) (v := ?_) (a' := ?_) #[true, true, true, false, false, false, false, false, false, false, false, false, false, false, false, false, false] rfl rfl (any_of HT_.out (by kernel_rfl)) (fun _ _ _ h => h) (Or.inl ⟨by rfl, ?_⟩) ?_ ?_
                            rotate_left
                            · intro w'
                              go_simp
                              with_reducible rfl
                            rotate_left
                            · simp only [Act.put, List.setIfInBounds_toArray, List.set_cons_zero, List.set_cons_succ, i64_w, i32_w]
                              rfl
                            refine pure_ (i := 3) (N := some 92) (v := undef) (a' := ?_) #[true, true, true, true, false, false, false, false, false, false, false, false, false, false, false, false, false] rfl rfl (any_of HT_.out (by kernel_rfl)) (fun _ _ _ h => h) (Or.inr ⟨by rfl, rfl⟩) ?_ ?_
                            rotate_left
                            · simp only [Act.put, List.setIfInBounds_toArray, List.set_cons_zero, List.set_cons_succ, i64_w, i32_w]
                              rfl
                            refine pure_ (i := 4) (N := some 93) (v := undef) (a' := ?_) #[true, true, true, true, true, false, false, false, false, false, false, false, false, false, false, false, false] rfl rfl (any_of HT_.out (by kernel_rfl)) (fun _ _ _ h => h) (Or.inr ⟨by rfl, rfl⟩) ?_ ?_
                            rotate_left
                            · simp only [Act.put, List.setIfInBounds_toArray, List.set_cons_zero, List.set_cons_succ, i64_w, i32_w]
                              rfl
                            refine pure_ (i := 5) (N := some 94) (v := undef) (a' := ?_) #[true, true, true, true, true, true, false, false, false, false, false, false, false, false, false, false, false] rfl rfl (any_of HT_.out (by kernel_rfl)) (fun _ _ _ h => h) (Or.inr ⟨by rfl, rfl⟩) ?_ ?_
                            rotate_left
                            · simp only [Act.put, List.setIfInBounds_toArray, List.set_cons_zero, List.set_cons_succ, i64_w, i32_w]
                              rfl
                            refine pure_ (i := 6) (N := some 95) (v := undef) (a' := ?_) #[true, true, true, true, true, true, true, false, false, false, false, false, false, false, false, false, false] rfl rfl (any_of HT_.out (by kernel_rfl)) (fun _ _ _ h => h) (Or.inr ⟨by rfl, rfl⟩) ?_ ?_
                            rotate_left
                            · simp only [Act.put, List.setIfInBounds_toArray, List.set_cons_zero, List.set_cons_succ, i64_w, i32_w]
                              rfl
                            refine pure_ (i := 7) (N := some 96) (v := undef) (a' := ?_) #[true, true, true, true, true, true, true, true, false, false, false, false, false, false, false, false, false] rfl rfl (any_of HT_.out (by kernel_rfl)) (fun _ _ _ h => h) (Or.inr ⟨by rfl, rfl⟩) ?_ ?_
                            rotate_left
                            · simp only [Act.put, List.setIfInBounds_toArray, List.set_cons_zero, List.set_cons_succ, i64_w, i32_w]
                              rfl
                            refine pure_ (i := 8) (N := some 97) (v := undef) (a' := ?_) #[true, true, true, true, true, true, true, true, true, false, false, false, false, false, false, false, false] rfl rfl (any_of HT_.out (by kernel_rfl)) (fun _ _ _ h => h) (Or.inr ⟨by rfl, rfl⟩) ?_ ?_
                            rotate_left
                            · simp only [Act.put, List.setIfInBounds_toArray, List.set_cons_zero, List.set_cons_succ, i64_w, i32_w]
                              rfl
                            refine pure_ (i := 9) (N := some 98) (v := undef) (a' := ?_) #[true, true, true, true, true, true, true, true, true, true, false, false, false, false, false, false, false] rfl rfl (any_of HT_.out (by kernel_rfl)) (fun _ _ _ h => h) (Or.inr ⟨by rfl, rfl⟩) ?_ ?_
                            rotate_left
                            · simp only [Act.put, List.setIfInBounds_toArray, List.set_cons_zero, List.set_cons_succ, i64_w, i32_w]
                              rfl
                            refine pure_ (i := 10) (N := some 99) (v := undef) (a' := ?_) #[true, true, true, true, true, true, true, true, true, true, true, false, false, false, false, false, false] rfl rfl (any_of HT_.out (by kernel_rfl)) (fun _ _ _ h => h) (Or.inr ⟨by rfl, rfl⟩) ?_ ?_
                            rotate_left
                            · simp only [Act.put, List.setIfInBounds_toArray, List.set_cons_zero, List.set_cons_succ, i64_w, i32_w]
                              rfl
                            refine pure_ (i := 11) (N := some 100) (v := undef) (a' := ?_) #[true, true, true, true, true, true, true, true, true, true, true, true, false, false, false, false, false] rfl rfl (any_of HT_.out (by kernel_rfl)) (fun _ _ _ h => h) (Or.inr ⟨by rfl, rfl⟩) ?_ ?_
                            rotate_left
                            · simp only [Act.put, List.setIfInBounds_toArray, List.set_cons_zero, List.set_cons_succ, i64_w, i32_w]
                              rfl
                            refine pure_ (i := 12) (N := some 101) (v := undef) (a' := ?_) #[true, true, true, true, true, true, true, true, true, true, true, true, true, false, false, false, false] rfl rfl (any_of HT_.out (by kernel_rfl)) (fun _ _ _ h => h) (Or.inr ⟨by rfl, rfl⟩) ?_ ?_
                            rotate_left
                            · simp only [Act.put, List.setIfInBounds_toArray, List.set_cons_zero, List.set_cons_succ, i64_w, i32_w]
                              rfl
                            refine pure_ (i := 13) (N := some 102) (v := undef) (a' := ?_) #[true, true, true, true, true, true, true, true, true, true, true, true, true, true, false, false, false] rfl rfl (any_of HT_.out (by kernel_rfl)) (fun _ _ _ h => h) (Or.inr ⟨by rfl, rfl⟩) ?_ ?_
                            rotate_left
                            · simp only [Act.put, List.setIfInBounds_toArray, List.set_cons_zero, List.set_cons_succ, i64_w, i32_w]
                              rfl
                            refine pure_ (i := 14) (N := some 103) (v := undef) (a' := ?_) #[true, true, true, true, true, true, true, true, true, true, true, true, true, true, true, false, false] rfl rfl (any_of HT_.out (by kernel_rfl)) (fun _ _ _ h => h) (Or.inr ⟨by rfl, rfl⟩) ?_ ?_
                            rotate_left
                            · simp only [Act.put, List.setIfInBounds_toArray, List.set_cons_zero, List.set_cons_succ, i64_w, i32_w]
                              rfl
                            refine pure_ (i := 15) (N := some 104) (v := ?_) (a' := ?_) #[true, true, true, true, true, true, true, true, true, true, true, true, true, true, true, true, false] rfl rfl (any_of HT_.out (by kernel_rfl)) (fun _ _ _ h => h) (Or.inl ⟨by rfl, ?_⟩) ?_ ?_
                            rotate_left
                            · intro w'
                              go_simp
                              with_reducible rfl
                            rotate_left
                            · simp only [Act.put, List.setIfInBounds_toArray, List.set_cons_zero, List.set_cons_succ, i64_w, i32_w]
                              rfl
                            refine pure_ (i := 16) (N := some 8) (v := ?_) (a' := ?_) #[true, true, true, true, true, true, true, true, true, true, true, true, true, true, true, true, true] rfl rfl (any_of HT_.out (by kernel_rfl)) (fun _ _ _ h => h) (Or.inl ⟨by rfl, ?_⟩) ?_ ?_
                            rotate_left
                            · intro w'
                              go_simp
                              with_reducible rfl
                            rotate_left
                            · simp only [Act.put, List.setIfInBounds_toArray, List.set_cons_zero, List.set_cons_succ, i64_w, i32_w]
                              rfl
                            refine done_ (done_of HT_.out (by kernel_rfl)) ?_
                            try go_wp2
                            go_ret
                            exact ⟨by first | rfl | (simp [errW_none, errW_some] <;> rfl) | (simp only [← hji63, ← hji65]; first | rfl | (simp [errW_none, errW_some] <;> rfl)) | (simp [*, errW_none, errW_some] <;> rfl), by repeat (first | (with_reducible first | exact HB.out | apply below_alloc | apply pw_below_drewN | apply below_drew1) | exact HB.out)⟩
                          · rw [if_neg c68] at H
                            have c68b0 : ((wrap64 (Int.tmod (IntKind.u64.wrap (a3)) 64)) == 0) = false := beq_eq_false_iff_ne.mpr c68
                            have c68b1 : ((wrap64 (Int.tmod (IntKind.u64.wrap (a3)) 64)) != 0) = true := bne_iff_ne.mpr c68
                            replace H := Option.bind_eq_some_iff.mp H
                            obtain ⟨t120, A720, H⟩ := H
                            replace H : (if 0 ≤ (IntKind.u64.wrap (wrap64 ((wrap64 (Int.tmod (IntKind.u64.wrap (a3)) 64)) - 1))) then (if (shl .u64 1 (IntKind.u64.wrap (wrap64 ((wrap64 (Int.tmod (IntKind.u64.wrap (a3)) 64)) - 1)))) = 0 then (none) else (some (t120 == (Int.tmod t116 (shl .u64 1 (IntKind.u64.wrap (wrap64 ((wrap64 (Int.tmod (IntKind.u64.wrap (a3)) 64)) - 1)))))))) else (none)) = some r := H
                            have A72 := Aside0.mk A720
                            clear A720
                            obtain ⟨ji73, hji73⟩ : ∃ j_ : Int, (IntKind.u64.wrap (wrap64 ((wrap64 (Int.tmod (IntKind.u64.wrap (a3)) 64)) - 1))) = j_ := ⟨_, rfl⟩
                            replace H : (if 0 ≤ (ji73) then (if (shl .u64 1 (ji73)) = 0 then (none) else (some (t120 == (Int.tmod t116 (shl .u64 1 (ji73)))))) else (none)) = some r := by first | (rw [hji73] at H; exact H) | (simp only [hji73] at H ⊢; exact H)
                            (try rw [hji73] at A33)
                            (try rw [hji73] at A62)
                            (try rw [hji73] at A72)
                            by_cases c74 : 0 ≤ (ji73)
                            · rw [if_pos c74] at H
                              have c74b0 := eq_true c74
                              have c74b1 : decide (0 ≤ (ji73)) = true := decide_eq_true c74
                              clear c74
                              obtain ⟨ji75, hji75⟩ : ∃ j_ : Int, (shl .u64 1 (ji73)) = j_ := ⟨_, rfl⟩
                              replace H : (if (ji75) = 0 then (none) else (some (t120 == (Int.tmod t116 (ji75))))) = some r := by first | (rw [hji75] at H; exact H) | (simp only [hji75] at H ⊢; exact H)
                              (try rw [hji75] at A33)
                              (try rw [hji75] at A62)
                              (try rw [hji75] at A72)
                              have hji75_ : (IntKind.u64.wrap (1 * 2 ^ min (ji73).toNat 64)) = ji75 := hji75
                              have hji75z : (ji73) ≤ 64 → (IntKind.u64.wrap (1 * 2 ^ (ji73).toNat)) = ji75 := shl_small hji75
                              have hji75u : (IntKind.u64.wrap (2 ^ min (ji73).toNat 64)) = ji75 := by have h_ := hji75_; rw [Int.one_mul] at h_; exact h_
                              have hji75v : (ji73) ≤ 64 → (IntKind.u64.wrap (2 ^ (ji73).toNat)) = ji75 := fun hle_ => by have h_ := hji75z hle_; rw [Int.one_mul] at h_; exact h_
                              by_cases c76 : (ji75) = 0
                              · rw [if_pos c76] at H
                                exact absurd H (by simp)
                              · rw [if_neg c76] at H
                                have c76b0 : ((ji75) == 0) = false := beq_eq_false_iff_ne.mpr c76
                                have c76b1 : ((ji75) != 0) = true := bne_iff_ne.mpr c76
                                obtain rfl := Option.some.inj H
                                try go_wp2_with (first | ((with_reducible refine gate_callee (f := 56) rfl ?_); refine goesL_ (some 67) rfl rfl Tryd.func56 (by kernel_rfl) rfl #[.string a0, .string a1, .int .i64 (wrap64 (Int.tmod (IntKind.u64.wrap (a3)) 64))] rfl (by (try simp only [List.map_toArray, List.map_cons, List.map_nil]); first | done | rfl | (simp only [List.length_drop, List.length_take]; rfl)) ?_; (with_reducible refine (tag_First.calls a0 a1 (wrap64 (Int.tmod (IntKind.u64.wrap (a3)) 64)) t116 _ ?side1 A33.out).mono ?_); (case side1 => exact (GivW.Tab2.keep HT.out (by repeat (first | (with_reducible first | exact HB.out | apply below_alloc | apply pw_below_drewN | apply below_drew1) | exact HB.out))).sha); rintro e w77 ⟨rfl, hb⟩; refine ⟨_, rfl, ?_⟩; have n0_ := Aside0.mk (below_step (by repeat (first | (with_reducible first | exact HB.out | apply below_alloc | apply pw_below_drewN | apply below_drew1) | exact HB.out)) hb); clear HB; have HB := n0_; clear n0_; (try clear hb); (try clear hb2); (try clear hk); (try clear hi)) | (go_at_call 39; (with_reducible refine (hmac_Number.calls a0 ((⟨#[5]⟩ : ByteArray) ++ a1) t119 _ ?side1 A62.out).mono ?_); (case side1 => exact (GivW.Tab2.keep HT.out (by repeat (first | (with_reducible first | exact HB.out | apply below_alloc | apply pw_below_drewN | apply below_drew1) | exact HB.out))).sha); rintro e w78 ⟨rfl, hb⟩; have n0_ := Aside0.mk (below_step (by repeat (first | (with_reducible first | exact HB.out | apply below_alloc | apply pw_below_drewN | apply below_drew1) | exact HB.out)) hb); clear HB; have HB := n0_; clear n0_; (try clear hb); (try clear hb2); (try clear hk); (try clear hi)))
                                have n0_ := Aside0.mk (below_drew1 HB.out)
                                clear HB
                                have HB := n0_
                                clear n0_
                                refine start_ (n := 17) (S := fun w' => True) (ds := []) #[false, false, false, false, false, false, false, false, false, false, false, false, false, false, false, false, false] (by kernel_rfl) rfl rfl trivial (fun hHeld => ?_); refine with_tabW paymasterlaw07_TagSeeds.tab12 paymasterlaw07_TagSeeds.bits12 (fun HT_ HW_ => ?_)
                                generalize w78.drew = w79 at HB hHeld ⊢
                                refine pure_ (i := 0) (N := some 89) (v := ?_) (a' := ?_) #[true, false, false, false, false, false, false, false, false, false, false, false, false, false, false, false, false] rfl rfl (any_of HT_.out (by kernel_rfl)) (fun _ _ _ h => h) (Or.inl ⟨by rfl, ?_⟩) ?_ ?_
                                rotate_left
                                · intro w'
                                  go_simp
                                  with_reducible rfl
                                rotate_left
                                · simp only [Act.put, List.setIfInBounds_toArray, List.set_cons_zero, List.set_cons_succ, i64_w, i32_w]
                                  rfl
                                refine pure_ (i := 1) (N := some 90) (v := ?_) (a' := ?_) #[true, true, false, false, false, false, false, false, false, false, false, false, false, false, false, false, false] rfl rfl (any_of HT_.out (by kernel_rfl)) (fun _ _ _ h => h) (Or.inl ⟨by rfl, ?_⟩) ?_ ?_
                                rotate_left
                                · intro w'
                                  go_simp
                                  with_reducible rfl
                                rotate_left
                                · simp only [Act.put, List.setIfInBounds_toArray, List.set_cons_zero, List.set_cons_succ, i64_w, i32_w]
                                  rfl
                                refine pure_ (i := 2) (N := some 91) (v := ?_) (a' := ?_) #[true, true, true, false, false, false, false, false, false, false, false, false, false, false, false, false, false] rfl rfl (any_of HT_.out (by kernel_rfl)) (fun _ _ _ h => h) (Or.inl ⟨by rfl, ?_⟩) ?_ ?_
                                rotate_left
                                · intro w'
                                  go_simp
                                  with_reducible rfl
                                rotate_left
                                · simp only [Act.put, List.setIfInBounds_toArray, List.set_cons_zero, List.set_cons_succ, i64_w, i32_w]
                                  rfl
                                refine pure_ (i := 3) (N := some 92) (v := ?_) (a' := ?_) #[true, true, true, true, false, false, false, false, false, false, false, false, false, false, false, false, false] rfl rfl (any_of HT_.out (by kernel_rfl)) (fun _ _ _ h => h) (Or.inl ⟨by rfl, ?_⟩) ?_ ?_
                                rotate_left
                                · intro w'
                                  go_simp
                                  with_reducible rfl
                                rotate_left
                                · simp only [Act.put, List.setIfInBounds_toArray, List.set_cons_zero, List.set_cons_succ, i64_w, i32_w]
                                  rfl
                                refine pure_ (i := 4) (N := some 93) (v := ?_) (a' := ?_) #[true, true, true, true, true, false, false, false, false, false, false, false, false, false, false, false, false] rfl rfl (any_of HT_.out (by kernel_rfl)) (fun _ _ _ h => h) (Or.inl ⟨by rfl, ?_⟩) ?_ ?_
                                rotate_left
                                · intro w'
                                  go_simp
                                  with_reducible rfl
                                rotate_left
                                · simp only [Act.put, List.setIfInBounds_toArray, List.set_cons_zero, List.set_cons_succ, i64_w, i32_w]
                                  rfl
                                refine pure_ (i := 5) (N := some 94) (v := ?_) (a' := ?_) #[true, true, true, true, true, true, false, false, false, false, false, false, false, false, false, false, false] rfl rfl (any_of HT_.out (by kernel_rfl)) (fun _ _ _ h => h) (Or.inl ⟨by rfl, ?_⟩) ?_ ?_
                                rotate_left
                                · intro w'
                                  go_simp
                                  with_reducible rfl
                                rotate_left
                                · simp only [Act.put, List.setIfInBounds_toArray, List.set_cons_zero, List.set_cons_succ, i64_w, i32_w]
                                  rfl
                                refine pure_ (i := 6) (N := some 95) (v := ?_) (a' := ?_) #[true, true, true, true, true, true, true, false, false, false, false, false, false, false, false, false, false] rfl rfl (any_of HT_.out (by kernel_rfl)) (fun _ _ _ h => h) (Or.inl ⟨by rfl, ?_⟩) ?_ ?_
                                rotate_left
                                · intro w'
                                  go_simp
                                  with_reducible rfl
                                rotate_left
                                · simp only [Act.put, List.setIfInBounds_toArray, List.set_cons_zero, List.set_cons_succ, i64_w, i32_w]
                                  rfl
                                refine pure_ (i := 8) (N := some 97) (v := ?_) (a' := ?_) #[true, true, true, true, true, true, true, false, true, false, false, false, false, false, false, false, false] rfl rfl (any_of HT_.out (by kernel_rfl)) (fun _ _ _ h => h) (Or.inl ⟨by rfl, ?_⟩) ?_ ?_
                                rotate_left
                                · intro w'
                                  go_simp
                                  with_reducible rfl
                                rotate_left
                                · simp only [Act.put, List.setIfInBounds_toArray, List.set_cons_zero, List.set_cons_succ, i64_w, i32_w]
                                  rfl
                                refine pure_ (i := 9) (N := some 98) (v := ?_) (a' := ?_) #[true, true, true, true, true, true, true, false, true, true, false, false, false, false, false, false, false] rfl rfl (any_of HT_.out (by kernel_rfl)) (fun _ _ _ h => h) (Or.inl ⟨by rfl, ?_⟩) ?_ ?_
                                rotate_left
                                · intro w'
                                  go_simp
                                  with_reducible rfl
                                rotate_left
                                · simp only [Act.put, List.setIfInBounds_toArray, List.set_cons_zero, List.set_cons_succ, i64_w, i32_w]
                                  rfl
                                refine pure_ (i := 10) (N := some 99) (v := ?_) (a' := ?_) #[true, true, true, true, true, true, true, false, true, true, true, false, false, false, false, false, false] rfl rfl (any_of HT_.out (by kernel_rfl)) (fun _ _ _ h => h) (Or.inl ⟨by rfl, ?_⟩) ?_ ?_
                                rotate_left
                                · intro w'
                                  go_simp
                                  with_reducible rfl
                                rotate_left
                                · simp only [Act.put, List.setIfInBounds_toArray, List.set_cons_zero, List.set_cons_succ, i64_w, i32_w]
                                  rfl
                                refine pure_ (i := 11) (N := some 100) (v := ?_) (a' := ?_) #[true, true, true, true, true, true, true, false, true, true, true, true, false, false, false, false, false] rfl rfl (any_of HT_.out (by kernel_rfl)) (fun _ _ _ h => h) (Or.inl ⟨by rfl, ?_⟩) ?_ ?_
                                rotate_left
                                · intro w'
                                  go_simp
                                  with_reducible rfl
                                rotate_left
                                · simp only [Act.put, List.setIfInBounds_toArray, List.set_cons_zero, List.set_cons_succ, i64_w, i32_w]
                                  rfl
                                refine pure_ (i := 12) (N := some 101) (v := ?_) (a' := ?_) #[true, true, true, true, true, true, true, false, true, true, true, true, true, false, false, false, false] rfl rfl (any_of HT_.out (by kernel_rfl)) (fun _ _ _ h => h) (Or.inl ⟨by rfl, ?_⟩) ?_ ?_
                                rotate_left
                                · intro w'
                                  go_simp
                                  with_reducible rfl
                                rotate_left
                                · simp only [Act.put, List.setIfInBounds_toArray, List.set_cons_zero, List.set_cons_succ, i64_w, i32_w]
                                  rfl
                                refine pure_ (i := 13) (N := some 102) (v := ?_) (a' := ?_) #[true, true, true, true, true, true, true, false, true, true, true, true, true, true, false, false, false] rfl rfl (any_of HT_.out (by kernel_rfl)) (fun _ _ _ h => h) (Or.inl ⟨by rfl, ?_⟩) ?_ ?_
                                rotate_left
                                · intro w'
                                  go_simp
                                  with_reducible rfl
                                rotate_left
                                · simp only [Act.put, List.setIfInBounds_toArray, List.set_cons_zero, List.set_cons_succ, i64_w, i32_w]
                                  rfl
                                refine one_ (i := 7) (N := some 96) #[true, true, true, true, true, true, true, true, true, true, true, true, true, true, false, false, false] rfl rfl (one_of HT_.out (by kernel_rfl)) (by decide) (fun K hK => ?_)
                                refine goes_ Tryd.func56 (by kernel_rfl) rfl #[.string a0, .string a1, .int .i64 (wrap64 ((wrap64 (Int.tmod (IntKind.u64.wrap (a3)) 64)) - 1))] (by rfl) rfl rfl (by (try simp only [List.map_toArray, List.map_cons, List.map_nil]); first | done | rfl | (simp only [List.length_drop, List.length_take]; rfl)) ?_
                                with_reducible refine (tag_First.calls a0 a1 (wrap64 ((wrap64 (Int.tmod (IntKind.u64.wrap (a3)) 64)) - 1)) t120 _ ?side1 A72.out).mono ?_
                                (case side1 => exact (GivW.Tab2.keep HT.out (by repeat (first | (with_reducible first | exact HB.out | apply below_alloc | apply pw_below_drewN | apply below_drew1) | exact HB.out))).sha)
                                rintro e w80 ⟨rfl, hb⟩
                                refine ⟨_, rfl, ?_⟩
                                have n0_ := Aside0.mk (below_step (by repeat (first | (with_reducible first | exact HB.out | apply below_alloc | apply pw_below_drewN | apply below_drew1) | exact HB.out)) hb)
                                clear HB
                                have HB := n0_
                                clear n0_
                                (try clear hb)
                                (try clear hb2)
                                (try clear hk)
                                (try clear hi)
                                refine hK.out _ _ trivial (fun hHeld => ?_)
                                clear hK K
                                refine norm_ (a' := ?_) ?_ ?_
                                rotate_left
                                · show Act.put _ (some 96) _ = _
                                  simp only [Act.put, List.setIfInBounds_toArray, List.set_cons_zero, List.set_cons_succ, i64_w, i32_w]
                                  rfl
                                refine pure_ (i := 14) (N := some 103) (v := ?_) (a' := ?_) #[true, true, true, true, true, true, true, true, true, true, true, true, true, true, true, false, false] rfl rfl (any_of HT_.out (by kernel_rfl)) (fun _ _ _ h => h) (Or.inl ⟨by rfl, ?_⟩) ?_ ?_
                                rotate_left
                                · intro w'
                                  go_simp
                                  with_reducible rfl
                                rotate_left
                                · simp only [Act.put, List.setIfInBounds_toArray, List.set_cons_zero, List.set_cons_succ, i64_w, i32_w]
                                  rfl
                                refine pure_ (i := 15) (N := some 104) (v := ?_) (a' := ?_) #[true, true, true, true, true, true, true, true, true, true, true, true, true, true, true, true, false] rfl rfl (any_of HT_.out (by kernel_rfl)) (fun _ _ _ h => h) (Or.inl ⟨by rfl, ?_⟩) ?_ ?_
                                rotate_left
                                · intro w'
                                  go_simp
                                  with_reducible rfl
                                rotate_left
                                · simp only [Act.put, List.setIfInBounds_toArray, List.set_cons_zero, List.set_cons_succ, i64_w, i32_w]
                                  rfl
                                refine pure_ (i := 16) (N := some 8) (v := ?_) (a' := ?_) #[true, true, true, true, true, true, true, true, true, true, true, true, true, true, true, true, true] rfl rfl (any_of HT_.out (by kernel_rfl)) (fun _ _ _ h => h) (Or.inl ⟨by rfl, ?_⟩) ?_ ?_
                                rotate_left
                                · intro w'
                                  go_simp
                                  with_reducible rfl
                                rotate_left
                                · simp only [Act.put, List.setIfInBounds_toArray, List.set_cons_zero, List.set_cons_succ, i64_w, i32_w]
                                  rfl
                                refine done_ (done_of HT_.out (by kernel_rfl)) ?_
                                try go_wp2
                                go_ret
                                exact ⟨by first | rfl | (simp [errW_none, errW_some] <;> rfl) | (simp only [← hji63, ← hji65, ← hji73, ← hji75]; first | rfl | (simp [errW_none, errW_some] <;> rfl)) | (simp [*, errW_none, errW_some] <;> rfl), by repeat (first | (with_reducible first | exact HB.out | apply below_alloc | apply pw_below_drewN | apply below_drew1) | exact HB.out)⟩
                            · rw [if_neg c74] at H
                              exact absurd H (by simp)
                        · rw [if_neg c67] at H
                          have c67b0 : (t116 == (Int.tmod t119 (ji65))) = false := beq_eq_false_iff_ne.mpr c67
                          have c67b1 : (t116 != (Int.tmod t119 (ji65))) = true := bne_iff_ne.mpr c67
                          obtain rfl := Option.some.inj H
                          go_wp2_with (first | ((with_reducible refine gate_callee (f := 56) rfl ?_); refine goesL_ (some 67) rfl rfl Tryd.func56 (by kernel_rfl) rfl #[.string a0, .string a1, .int .i64 (wrap64 (Int.tmod (IntKind.u64.wrap (a3)) 64))] rfl (by (try simp only [List.map_toArray, List.map_cons, List.map_nil]); first | done | rfl | (simp only [List.length_drop, List.length_take]; rfl)) ?_; (with_reducible refine (tag_First.calls a0 a1 (wrap64 (Int.tmod (IntKind.u64.wrap (a3)) 64)) t116 _ ?side1 A33.out).mono ?_); (case side1 => exact (GivW.Tab2.keep HT.out (by repeat (first | (with_reducible first | exact HB.out | apply below_alloc | apply pw_below_drewN | apply below_drew1) | exact HB.out))).sha); rintro e w81 ⟨rfl, hb⟩; refine ⟨_, rfl, ?_⟩; have n0_ := Aside0.mk (below_step (by repeat (first | (with_reducible first | exact HB.out | apply below_alloc | apply pw_below_drewN | apply below_drew1) | exact HB.out)) hb); clear HB; have HB := n0_; clear n0_; (try clear hb); (try clear hb2); (try clear hk); (try clear hi)) | (go_at_call 39; (with_reducible refine (hmac_Number.calls a0 ((⟨#[5]⟩ : ByteArray) ++ a1) t119 _ ?side1 A62.out).mono ?_); (case side1 => exact (GivW.Tab2.keep HT.out (by repeat (first | (with_reducible first | exact HB.out | apply below_alloc | apply pw_below_drewN | apply below_drew1) | exact HB.out))).sha); rintro e w82 ⟨rfl, hb⟩; have n0_ := Aside0.mk (below_step (by repeat (first | (with_reducible first | exact HB.out | apply below_alloc | apply pw_below_drewN | apply below_drew1) | exact HB.out)) hb); clear HB; have HB := n0_; clear n0_; (try clear hb); (try clear hb2); (try clear hk); (try clear hi)))
                          go_ret
                          exact ⟨by first | rfl | (simp [errW_none, errW_some] <;> rfl) | (simp only [← hji63, ← hji65]; first | rfl | (simp [errW_none, errW_some] <;> rfl)) | (simp [*, errW_none, errW_some] <;> rfl), by repeat (first | (with_reducible first | exact HB.out | apply below_alloc | apply pw_below_drewN | apply below_drew1) | exact HB.out)⟩
                    · rw [if_neg c64] at H
                      exact absurd H (by simp)
                  · rw [if_neg c61] at H
                    exact absurd H (by simp)
  · replace c6 := Bool.eq_false_iff.mpr c6
    subst c6
    have H1 : (some false) = some r := by rw [if_neg (show ¬ (false = true) by decide)] at H; exact H
    clear H
    have H := H1
    clear H1
    obtain rfl := Option.some.inj H
    go_enter Tryd.func16, Tryd.ntmps16
    go_wp2_with (first | ((with_reducible refine gate_callee (f := 58) rfl ?_); refine goesL_ (some 13) rfl rfl Tryd.func58 (by kernel_rfl) rfl #[] rfl (by (try simp only [List.map_toArray, List.map_cons, List.map_nil]); first | done | rfl | (simp only [List.length_drop, List.length_take]; rfl)) ?_; (with_reducible refine (paymasterlaw07_awake.calls  false _ ?side1 A5.out).mono ?_); (case side1 => exact (GivW.Tab2.keep HT.out (by repeat (first | (with_reducible first | exact HB.out | apply below_alloc | apply pw_below_drewN | apply below_drew1) | exact HB.out)))); rintro e w83 ⟨rfl, hb⟩; refine ⟨_, rfl, ?_⟩; have n0_ := Aside0.mk (below_step (by repeat (first | (with_reducible first | exact HB.out | apply below_alloc | apply pw_below_drewN | apply below_drew1) | exact HB.out)) hb); clear HB; have HB := n0_; clear n0_; (try clear hb); (try clear hb2); (try clear hk); (try clear hi)))
    go_ret
    exact ⟨by first | rfl | (simp [errW_none, errW_some] <;> rfl) | (simp [*, errW_none, errW_some] <;> rfl), by repeat (first | (with_reducible first | exact HB.out | apply below_alloc | apply pw_below_drewN | apply below_drew1) | exact HB.out)⟩

end Go.Proofs.YtomninikmcmmcaaDoor.PTe
end
section
-- Printed by this session's own program (wip/xprint.py) out of the translation. Lean checks it.
namespace Go.Proofs.YtomninikmcmmcaaDoor.PTe
open Go.RowKit Go.Proofs.YtomninikmcmmcaaDoorW.PrintWords Go.Proofs.YtomninikmcmmcaaDoorW.PrintLast Go.Proofs.YtomninikmcmmcaaDoorW.PrintMore
attribute [local go_sem] max2_int min2_int max_two min_two max_three min_three max_four min_four   -- for this text's walks alone
set_option linter.unusedVariables false
set_option linter.unusedSimpArgs false

end Go.Proofs.YtomninikmcmmcaaDoor.PTe
end
section
/- Plain law of chapter 07: TagSeeds. -/
namespace Go.Proofs.YtomninikmcmmcaaDoor.Tag
open Go Go.RowKit Go.Proofs.YtomninikmcmmcaaDoorW.PrintWords Go.Proofs.YtomninikmcmmcaaDoorW.PrintMore Go.Proofs.YtomninikmcmmcaaDoor.PTe Go.Proofs.YtomninikmcmmcaaDoor.Awake7 Go.Proofs.YtomninikmcmmcaaDoor.GivH Go.Proofs.YtomninikmcmmcaaDoor.GivN Go.Proofs.YtomninikmcmmcaaDoor.Ids Go.Proofs.YtomninikmcmmcaaDoor.Oct
set_option linter.unusedVariables false
set_option linter.unusedSimpArgs false
theorem emptyL : (⟨#[]⟩ : ByteArray).toList = [] := (empty_list _).2 rfl
theorem first16_size (a b : ByteArray) : (Sha.firstB a b 16).size = 16 := by
  unfold Sha.firstB
  rw [ByteArray.size_extract, Sha.mac_size]
  rfl
theorem pad_may (x : ByteArray) (h : x.size ≤ 32) : mayL true ⟨#[]⟩ x 0 0 = true := by
  unfold mayL
  rw [decide_eq_true h, if_pos rfl]
  rfl
theorem shl_pow (n : Nat) (h : n ≤ 63) : shl .u64 1 (n : Int) = ((2 ^ n : Nat) : Int) := by
  have hp := Sha.pow_in n h
  have e : ((2 : Int) ^ n) = ((2 ^ n : Nat) : Int) := by simp
  unfold shl
  rw [Int.toNat_natCast, show min n IntKind.u64.bits = n from Nat.min_eq_left (by show n ≤ 64; omega), Int.one_mul, e]
  generalize 2 ^ n = p at *
  rw [wrapU (n := (p : Int)) (by omega) (by omega)]
theorem slot_pow (a b : ByteArray) (n : Nat) (h : n ≤ 63) : Sha.slot1 a b (n : Int) = Sha.num8 (Sha.mac8 a (⟨#[5]⟩ ++ b)) % 2 ^ n := by
  unfold Sha.slot1
  rw [if_neg (by omega), Int.toNat_natCast]
theorem number_some (a b : ByteArray) (ha : a.size ≤ 300) (hb : b.size ≤ 300) : hmac_Number.f a ((⟨#[5]⟩ : ByteArray) ++ b) = some ((Sha.num8 (Sha.mac8 a (⟨#[5]⟩ ++ b)) : Nat) : Int) := by
  have hz : ((⟨#[5]⟩ : ByteArray) ++ b).size = 1 + b.size := ByteArray.size_append ..
  unfold hmac_Number.f big
  rw [decide_eq_true (by omega), if_pos rfl, decide_eq_true (by omega), if_pos rfl]
theorem seeds_j1 (a b : ByteArray) (ha : a.size ≤ 300) (hb : b.size ≤ 300) (n : Nat) (hn : n ≤ 63) (k : Nat) : paymasterlaw07_TagSeeds.j1 (k + 1) a b (n : Int) false = some true := by
  have hp := Sha.pow_in n hn
  have hw : IntKind.u64.wrap (n : Int) = (n : Int) := wrapU (by omega) (by omega)
  have tail : (if (n : Int) = 0 then some true else ((PTc.tag_First.f a b (wrap64 ((n : Int) - 1))).bind fun t161 => (if 0 ≤ (IntKind.u64.wrap (wrap64 ((n : Int) - 1))) then (if (shl .u64 1 (IntKind.u64.wrap (wrap64 ((n : Int) - 1)))) = 0 then (none) else (some (t161 == (Int.tmod (((Sha.num8 (Sha.mac8 a (⟨#[5]⟩ ++ b)) % 2 ^ n : Nat)) : Int) (shl .u64 1 (IntKind.u64.wrap (wrap64 ((n : Int) - 1)))))))) else (none)))) = some true := by
    by_cases h0 : (n : Int) = 0
    · rw [if_pos h0]
    · obtain ⟨m, rfl⟩ : ∃ m, n = m + 1 := ⟨n - 1, by omega⟩
      have hq := Sha.pow_in m (by omega)
      have e1 : wrap64 (((m + 1 : Nat) : Int) - 1) = (m : Int) := by rw [wrap64_in (by omega) (by omega)]; omega
      have hd : Sha.num8 (Sha.mac8 a (⟨#[5]⟩ ++ b)) % 2 ^ (m + 1) % 2 ^ m = Sha.num8 (Sha.mac8 a (⟨#[5]⟩ ++ b)) % 2 ^ m := Nat.mod_mod_of_dvd _ ⟨2, by rw [Nat.pow_succ]⟩
      rw [if_neg h0, e1, Sha.first07_some a b ha hb, Option.bind_some, slot_pow a b m (by omega), wrapU (n := (m : Int)) (by omega) (by omega), if_pos (by omega), shl_pow m (by omega)]
      generalize Sha.num8 (Sha.mac8 a (⟨#[5]⟩ ++ b)) = N at *
      rw [if_neg (by omega), Int.tmod_eq_emod_of_nonneg (by omega), ← Int.natCast_emod, hd, beq_self_eq_true]
  rw [paymasterlaw07_TagSeeds.j1, if_neg (by decide), Sha.first07_some a b ha hb, Option.bind_some, slot_pow a b n hn, hw, shl_pow n hn]
  have hlt : Sha.num8 (Sha.mac8 a (⟨#[5]⟩ ++ b)) % 2 ^ n < 2 ^ n := Nat.mod_lt _ (by omega)
  have he : Int.tmod ((Sha.num8 (Sha.mac8 a (⟨#[5]⟩ ++ b)) : Nat) : Int) ((2 ^ n : Nat) : Int) = ((Sha.num8 (Sha.mac8 a (⟨#[5]⟩ ++ b)) % 2 ^ n : Nat) : Int) := by
    rw [Int.tmod_eq_emod_of_nonneg (by omega), ← Int.natCast_emod]
  by_cases h63 : (n : Int) < 63
  · rw [if_pos h63, if_pos (by omega), if_neg (by omega), if_pos (by omega), number_some a b ha hb, Option.bind_some, if_neg (by omega), he, if_pos rfl]
    exact tail
  · rw [if_neg h63, if_pos (by omega), number_some a b ha hb, Option.bind_some, if_pos (by omega), if_neg (by omega), he, if_pos rfl]
    exact tail
theorem wrap_range (h : Int) : ∃ n : Nat, n ≤ 63 ∧ wrap64 (Int.tmod (IntKind.u64.wrap h) 64) = (n : Int) := by
  have e : IntKind.u64.wrap h = h % 18446744073709551616 := rfl
  rw [e, Int.tmod_eq_emod_of_nonneg (by omega)]
  have h0 : 0 ≤ h % 18446744073709551616 % 64 := by omega
  have h1 : h % 18446744073709551616 % 64 < 64 := by omega
  generalize h % 18446744073709551616 % 64 = x at *
  refine ⟨x.toNat, by omega, ?_⟩
  rw [wrap64_in (by omega) (by omega)]
  omega
theorem tagSeeds_some (a b : ByteArray) (q : Nat) (hq : q < 18446744073709551616) (h : Int) (k : Nat) (hk : 10 ≤ k) : paymasterlaw07_TagSeeds.f k a b (q : Int) h = some true := by
  obtain ⟨k, rfl⟩ : ∃ q, k = q + 2 := ⟨k - 2, by omega⟩
  unfold paymasterlaw07_TagSeeds.f
  rw [show paymasterlaw07_awake.f = some true from rfl, Option.bind_some, if_pos rfl]
  by_cases h1 : (a.size : Int) > 300
  · rw [if_pos h1, paymasterlaw07_TagSeeds.j0, if_pos rfl]
  rw [if_neg h1]
  by_cases h2 : (b.size : Int) > 300
  · rw [decide_eq_true h2, paymasterlaw07_TagSeeds.j0, if_pos rfl]
  obtain ⟨n, hn, e⟩ := wrap_range h
  have J1 := seeds_j1 a b (by omega) (by omega) n hn k
  have hz : ((⟨#[3]⟩ : ByteArray) ++ b).size = 1 + b.size := ByteArray.size_append ..
  have hs1 := first16_size a (⟨#[3]⟩ ++ b)
  have hs2 := first16_size a (⟨#[4]⟩ ++ (be16 0 q).extract 8 16)
  rw [decide_eq_false h2, paymasterlaw07_TagSeeds.j0, if_neg (by decide), Sha.salt_some a b (by omega) (by omega), Option.bind_some, Sha.padsalt_some a q (by omega) hq, Option.bind_some, if_pos (by rw [hs1]; rfl), if_pos (by rw [hs2]; rfl), if_pos (by omega), Sha.first_some a (⟨#[3]⟩ ++ b) 16 (by omega) (by omega), Option.bind_some, if_pos rfl, Sha.tpad_some a q (by omega) hq, Option.bind_some, e]
  dsimp only
  rw [if_neg (by simp [emptyL]), Option.bind_some]
  dsimp only
  rw [mayleaf_some true _ _ 0 0 (by show 0 < _; omega), pad_may _ (by omega), Option.bind_some]
  exact J1
end Go.Proofs.YtomninikmcmmcaaDoor.Tag
end
section
/- The law as its row calls it. -/
namespace Go.Proofs.YtomninikmcmmcaaDoor.Tag
open Go Go.RowKit Go.Proofs.YtomninikmcmmcaaDoorW.PrintWords Go.Proofs.YtomninikmcmmcaaDoor.PTe Go.Proofs.YtomninikmcmmcaaDoor.GivW Go.Proofs.YtomninikmcmmcaaDoor.Kds
theorem tagSeeds_row (a : ByteArray) (_ : a.size ≤ 140737488351232) (b : ByteArray) (_ : b.size ≤ 140737488351232) (q : Int) (hq : (Lit.int .u64 q).wf = true) (h : Int) (_ : (Lit.int .i64 h).wf = true) (w : World) (hT : Tab2 w) :
    Calls Tryd.prog 16 #[.string a, .string b, .int .u64 q, .int .i64 h] w fun e w' => e = .returned (.bool true) ∧ Below w.heap.size w w' := by
  obtain ⟨q0, q1⟩ := wf64 hq
  obtain ⟨n, rfl⟩ : ∃ n : Nat, q = n := ⟨q.toNat, by omega⟩
  exact paymasterlaw07_TagSeeds.calls 100 a b (n : Int) h true w hT (tagSeeds_some a b n (by omega) h 100 (by decide))
end Go.Proofs.YtomninikmcmmcaaDoor.Tag
end
