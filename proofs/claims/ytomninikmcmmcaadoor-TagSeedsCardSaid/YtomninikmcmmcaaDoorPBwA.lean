/- Texts of this session, put together: PBwx0, PBwx1, PBwx2, PBwx. -/
import Derived.Test.YtomninikmcmmcaaDoorProg
import Derived.Below
import Derived.Deep.Draws
import Derived.Deep.AppendLies
import Derived.Maps.AppendAt
import Derived.OwnWalk
import Derived.Laws.BytesArg
import Derived.Laws.MakeOwn
import Derived.Laws.OwnMore
import Derived.Deep.OwnRows
import Derived.Tactics
import Derived.Lib.ConvBytes
import Derived.Laws.Slices
import Derived.WalkKit
import Derived.KernelRfl
import Derived.RowKit3
import Derived.Deep.LoopGhost
import Derived.Deep.QuietTactic
import Derived.BigQuiet
import Derived.WideLaws
import Derived.Deep.DeepCutAuto
import Derived.Deep.CutBlock
import Derived.Deep.RegionHeld3
import Derived.Laws.Rows
import Derived.Lib.AppendStr
import Derived.ArgAppend
import Derived.Laws.IdiomCopy
import Derived.OrdersHeld
import Derived.Laws.BitsLemmas
import Derived.RowKit
import Derived.Test.YtomninikmcmmcaaDoorGivA
import Derived.Test.YtomninikmcmmcaaDoorWWords
import Derived.Test.YtomninikmcmmcaaDoorWLast
import Derived.Test.YtomninikmcmmcaaDoorWTab
import Derived.Test.YtomninikmcmmcaaDoorWQPut
import Derived.Test.YtomninikmcmmcaaDoorWApart
import Derived.Test.YtomninikmcmmcaaDoorWArr
import Derived.Test.YtomninikmcmmcaaDoorWZeros
import Derived.Test.YtomninikmcmmcaaDoorWFoot
import Derived.Test.YtomninikmcmmcaaDoorWKept
import Derived.Test.YtomninikmcmmcaaDoorWShare
import Derived.Test.YtomninikmcmmcaaDoorWN
import Derived.Test.YtomninikmcmmcaaDoorWEqStruct
import Derived.Test.YtomninikmcmmcaaDoorWRepsOne
import Derived.Test.YtomninikmcmmcaaDoorWGuard
import Derived.Test.YtomninikmcmmcaaDoorWNEv
import Derived.Test.YtomninikmcmmcaaDoorWMore
section
-- Printed by this session's own program (wip/xprint.py) out of the translation. Lean checks it.
namespace Go.Proofs.YtomninikmcmmcaaDoor.PBw
open Go.RowKit Go.Proofs.YtomninikmcmmcaaDoorW.PrintWords Go.Proofs.YtomninikmcmmcaaDoorW.PrintLast Go.Proofs.YtomninikmcmmcaaDoorW.PrintMore Go.Proofs.YtomninikmcmmcaaDoor.GivA
attribute [local go_sem] max2_int min2_int max_two min_two max_three min_three max_four min_four   -- for this text's walks alone
set_option linter.unusedVariables false
set_option linter.unusedSimpArgs false



def errW : Option Int → Value
  | none => .nilIface
  | some c => .iface 0 (.int .i64 c)
theorem errW_none : errW none = .nilIface := rfl
theorem errW_some (c : Int) : errW (some c) = .iface 0 (.int .i64 c) := rfl

theorem info94 : (Tryd.prog.info? 94).map (fun i => (i.zero, i.size, i.bytes)) = some (some (.int .u32 0), 1, 4) := by kernel_rfl
-- the values' own types

end Go.Proofs.YtomninikmcmmcaaDoor.PBw
end
section
-- Printed by this session's own program (wip/xprint.py) out of the translation. Lean checks it.
namespace Go.Proofs.YtomninikmcmmcaaDoor.PBw
open Go.RowKit Go.Proofs.YtomninikmcmmcaaDoorW.PrintWords Go.Proofs.YtomninikmcmmcaaDoorW.PrintLast Go.Proofs.YtomninikmcmmcaaDoorW.PrintMore Go.Proofs.YtomninikmcmmcaaDoor.GivA
attribute [local go_sem] max2_int min2_int max_two min_two max_three min_three max_four min_four   -- for this text's walks alone
set_option linter.unusedVariables false
set_option linter.unusedSimpArgs false

/-! ### bits_RotateLeft32: function 127 -/
def bits_RotateLeft32.f (a0 : Int) (a1 : Int) : Option (Int) := if 0 ≤ (Go.bits .and .u64 (IntKind.u64.wrap (a1)) 31) then (if 0 ≤ (IntKind.u64.wrap (32 - (Go.bits .and .u64 (IntKind.u64.wrap (a1)) 31))) then (some (Go.bits .or .u32 (shl .u32 a0 (Go.bits .and .u64 (IntKind.u64.wrap (a1)) 31)) (shr .u32 a0 (IntKind.u64.wrap (32 - (Go.bits .and .u64 (IntKind.u64.wrap (a1)) 31)))))) else (none)) else (none)
set_option maxHeartbeats 8000000 in
set_option maxRecDepth 100000 in
theorem bits_RotateLeft32.calls (a0 : Int) (a1 : Int) (r : Int) (w : World) (h : bits_RotateLeft32.f a0 a1 = some r) :
    Calls Tryd.prog 127 #[.int .u32 a0, .int .i64 a1] w fun e w' => e = .returned (.int .u32 r) ∧ Drawn0 w w' := by
  have H : (if 0 ≤ (Go.bits .and .u64 (IntKind.u64.wrap (a1)) 31) then (if 0 ≤ (IntKind.u64.wrap (32 - (Go.bits .and .u64 (IntKind.u64.wrap (a1)) 31))) then (some (Go.bits .or .u32 (shl .u32 a0 (Go.bits .and .u64 (IntKind.u64.wrap (a1)) 31)) (shr .u32 a0 (IntKind.u64.wrap (32 - (Go.bits .and .u64 (IntKind.u64.wrap (a1)) 31)))))) else (none)) else (none)) = some r := h
  clear h
  obtain ⟨ji3, hji3⟩ : ∃ j_ : Int, (Go.bits .and .u64 (IntKind.u64.wrap (a1)) 31) = j_ := ⟨_, rfl⟩
  replace H : (if 0 ≤ (ji3) then (if 0 ≤ (IntKind.u64.wrap (32 - (ji3))) then (some (Go.bits .or .u32 (shl .u32 a0 (ji3)) (shr .u32 a0 (IntKind.u64.wrap (32 - (ji3)))))) else (none)) else (none)) = some r := by first | (rw [hji3] at H; exact H) | (simp only [hji3] at H ⊢; exact H)
  by_cases c4 : 0 ≤ (ji3)
  · rw [if_pos c4] at H
    have c4b0 := eq_true c4
    have c4b1 : decide (0 ≤ (ji3)) = true := decide_eq_true c4
    clear c4
    obtain ⟨ji5, hji5⟩ : ∃ j_ : Int, (shl .u32 a0 (ji3)) = j_ := ⟨_, rfl⟩
    replace H : (if 0 ≤ (IntKind.u64.wrap (32 - (ji3))) then (some (Go.bits .or .u32 (ji5) (shr .u32 a0 (IntKind.u64.wrap (32 - (ji3)))))) else (none)) = some r := by first | (rw [hji5] at H; exact H) | (simp only [hji5] at H ⊢; exact H)
    have hji5_ : (IntKind.u32.wrap (a0 * 2 ^ min (ji3).toNat 32)) = ji5 := hji5
    have hji5z : (ji3) ≤ 32 → (IntKind.u32.wrap (a0 * 2 ^ (ji3).toNat)) = ji5 := shl_small hji5
    obtain ⟨ji6, hji6⟩ : ∃ j_ : Int, (IntKind.u64.wrap (32 - (ji3))) = j_ := ⟨_, rfl⟩
    replace H : (if 0 ≤ (ji6) then (some (Go.bits .or .u32 (ji5) (shr .u32 a0 (ji6)))) else (none)) = some r := by first | (rw [hji6] at H; exact H) | (simp only [hji6] at H ⊢; exact H)
    by_cases c7 : 0 ≤ (ji6)
    · rw [if_pos c7] at H
      have c7b0 := eq_true c7
      have c7b1 : decide (0 ≤ (ji6)) = true := decide_eq_true c7
      clear c7
      obtain ⟨ji8, hji8⟩ : ∃ j_ : Int, (shr .u32 a0 (ji6)) = j_ := ⟨_, rfl⟩
      replace H : (some (Go.bits .or .u32 (ji5) (ji8))) = some r := by first | (rw [hji8] at H; exact H) | (simp only [hji8] at H ⊢; exact H)
      have hji8_ : (a0 / 2 ^ min (ji6).toNat 32) = ji8 := hji8
      have hji8z : (ji6) ≤ 32 → (a0 / 2 ^ (ji6).toNat) = ji8 := shr_small hji8
      obtain rfl := Option.some.inj H
      go_enter Tryd.func127, Tryd.ntmps127
      go_wp2
      go_ret
      exact ⟨by first | rfl | (simp; done) | (simp only [← hji3, ← hji5, ← hji6, ← hji8] <;> (first | rfl | simp)) | (simp [*]; done), by repeat (first | exact Drawn0.refl _ | apply Drawn0.step)⟩
    · rw [if_neg c7] at H
      exact absurd H (by simp)
  · rw [if_neg c4] at H
    exact absurd H (by simp)

/-! ### block_right: function 123 -/
def block_right.f (a0 : Int) (a1 : Int) : Option (Int) := (bits_RotateLeft32.f a0 (wrap64 (-a1))).bind fun t101 => (some t101)
set_option maxHeartbeats 8000000 in
set_option maxRecDepth 100000 in
theorem block_right.calls (a0 : Int) (a1 : Int) (r : Int) (w : World) (h : block_right.f a0 a1 = some r) :
    Calls Tryd.prog 123 #[.int .u32 a0, .int .i64 a1] w fun e w' => e = .returned (.int .u32 r) ∧ Drawn0 w w' := by
  have H : ((bits_RotateLeft32.f a0 (wrap64 (-a1))).bind fun t101 => (some t101)) = some r := h
  clear h
  replace H := Option.bind_eq_some_iff.mp H
  obtain ⟨t101, A30, H⟩ := H
  replace H : (some t101) = some r := H
  have A3 := Aside0.mk A30
  clear A30
  obtain rfl := Option.some.inj H
  go_enter Tryd.func123, Tryd.ntmps123
  go_wp2_with (first | ((with_reducible refine gate_callee (f := 127) rfl ?_); refine goesL_ (some 8) rfl rfl Tryd.func127 (by kernel_rfl) rfl #[.int .u32 a0, .int .i64 (wrap64 (-a1))] rfl (by (try simp only [List.map_toArray, List.map_cons, List.map_nil]); first | done | rfl | (simp only [List.length_drop, List.length_take]; rfl)) ?_; (with_reducible refine (bits_RotateLeft32.calls a0 (wrap64 (-a1)) t101 _ A3.out).mono ?_); rintro e w' ⟨rfl, ⟨nd, rfl⟩⟩; refine ⟨_, rfl, ?_⟩))
  go_ret
  exact ⟨by first | rfl | (simp; done) | (simp [*]; done), by repeat (first | exact Drawn0.refl _ | apply Drawn0.step)⟩

/-! ### block_parts: function 124 -/
def block_parts.f (a0 : Int) (a1 : Int) (a2 : Int) (a3 : Int) (a4 : Int) (a5 : Int) : Option (Int × Int) := (block_right.f a0 6).bind fun t102 => ((block_right.f a0 11).bind fun t103 => ((block_right.f a0 25).bind fun t104 => ((block_right.f a3 2).bind fun t105 => ((block_right.f a3 13).bind fun t106 => ((block_right.f a3 22).bind fun t107 => (some (((Go.bits .xor .u32 (Go.bits .xor .u32 t102 t103) t104) + (Go.bits .xor .u32 (Go.bits .and .u32 a0 a1) (Go.bits .and .u32 (Go.bits .xor .u32 4294967295 a0) a2))) % 4294967296, ((Go.bits .xor .u32 (Go.bits .xor .u32 t105 t106) t107) + (Go.bits .xor .u32 (Go.bits .xor .u32 (Go.bits .and .u32 a3 a4) (Go.bits .and .u32 a3 a5)) (Go.bits .and .u32 a4 a5))) % 4294967296)))))))
set_option maxHeartbeats 8000000 in
set_option maxRecDepth 100000 in
theorem block_parts.calls (a0 : Int) (a1 : Int) (a2 : Int) (a3 : Int) (a4 : Int) (a5 : Int) (r1 : Int) (r2 : Int) (w : World) (h : block_parts.f a0 a1 a2 a3 a4 a5 = some (r1, r2)) :
    Calls Tryd.prog 124 #[.int .u32 a0, .int .u32 a1, .int .u32 a2, .int .u32 a3, .int .u32 a4, .int .u32 a5] w fun e w' => e = .returned (.tuple #[.int .u32 r1, .int .u32 r2]) ∧ Drawn0 w w' := by
  have H : ((block_right.f a0 6).bind fun t102 => ((block_right.f a0 11).bind fun t103 => ((block_right.f a0 25).bind fun t104 => ((block_right.f a3 2).bind fun t105 => ((block_right.f a3 13).bind fun t106 => ((block_right.f a3 22).bind fun t107 => (some (((Go.bits .xor .u32 (Go.bits .xor .u32 t102 t103) t104) + (Go.bits .xor .u32 (Go.bits .and .u32 a0 a1) (Go.bits .and .u32 (Go.bits .xor .u32 4294967295 a0) a2))) % 4294967296, ((Go.bits .xor .u32 (Go.bits .xor .u32 t105 t106) t107) + (Go.bits .xor .u32 (Go.bits .xor .u32 (Go.bits .and .u32 a3 a4) (Go.bits .and .u32 a3 a5)) (Go.bits .and .u32 a4 a5))) % 4294967296)))))))) = some (r1, r2) := h
  clear h
  replace H := Option.bind_eq_some_iff.mp H
  obtain ⟨t102, A70, H⟩ := H
  replace H : ((block_right.f a0 11).bind fun t103 => ((block_right.f a0 25).bind fun t104 => ((block_right.f a3 2).bind fun t105 => ((block_right.f a3 13).bind fun t106 => ((block_right.f a3 22).bind fun t107 => (some (((Go.bits .xor .u32 (Go.bits .xor .u32 t102 t103) t104) + (Go.bits .xor .u32 (Go.bits .and .u32 a0 a1) (Go.bits .and .u32 (Go.bits .xor .u32 4294967295 a0) a2))) % 4294967296, ((Go.bits .xor .u32 (Go.bits .xor .u32 t105 t106) t107) + (Go.bits .xor .u32 (Go.bits .xor .u32 (Go.bits .and .u32 a3 a4) (Go.bits .and .u32 a3 a5)) (Go.bits .and .u32 a4 a5))) % 4294967296))))))) = some (r1, r2) := H
  have A7 := Aside0.mk A70
  clear A70
  replace H := Option.bind_eq_some_iff.mp H
  obtain ⟨t103, A80, H⟩ := H
  replace H : ((block_right.f a0 25).bind fun t104 => ((block_right.f a3 2).bind fun t105 => ((block_right.f a3 13).bind fun t106 => ((block_right.f a3 22).bind fun t107 => (some (((Go.bits .xor .u32 (Go.bits .xor .u32 t102 t103) t104) + (Go.bits .xor .u32 (Go.bits .and .u32 a0 a1) (Go.bits .and .u32 (Go.bits .xor .u32 4294967295 a0) a2))) % 4294967296, ((Go.bits .xor .u32 (Go.bits .xor .u32 t105 t106) t107) + (Go.bits .xor .u32 (Go.bits .xor .u32 (Go.bits .and .u32 a3 a4) (Go.bits .and .u32 a3 a5)) (Go.bits .and .u32 a4 a5))) % 4294967296)))))) = some (r1, r2) := H
  have A8 := Aside0.mk A80
  clear A80
  replace H := Option.bind_eq_some_iff.mp H
  obtain ⟨t104, A90, H⟩ := H
  replace H : ((block_right.f a3 2).bind fun t105 => ((block_right.f a3 13).bind fun t106 => ((block_right.f a3 22).bind fun t107 => (some (((Go.bits .xor .u32 (Go.bits .xor .u32 t102 t103) t104) + (Go.bits .xor .u32 (Go.bits .and .u32 a0 a1) (Go.bits .and .u32 (Go.bits .xor .u32 4294967295 a0) a2))) % 4294967296, ((Go.bits .xor .u32 (Go.bits .xor .u32 t105 t106) t107) + (Go.bits .xor .u32 (Go.bits .xor .u32 (Go.bits .and .u32 a3 a4) (Go.bits .and .u32 a3 a5)) (Go.bits .and .u32 a4 a5))) % 4294967296))))) = some (r1, r2) := H
  have A9 := Aside0.mk A90
  clear A90
  replace H := Option.bind_eq_some_iff.mp H
  obtain ⟨t105, A100, H⟩ := H
  replace H : ((block_right.f a3 13).bind fun t106 => ((block_right.f a3 22).bind fun t107 => (some (((Go.bits .xor .u32 (Go.bits .xor .u32 t102 t103) t104) + (Go.bits .xor .u32 (Go.bits .and .u32 a0 a1) (Go.bits .and .u32 (Go.bits .xor .u32 4294967295 a0) a2))) % 4294967296, ((Go.bits .xor .u32 (Go.bits .xor .u32 t105 t106) t107) + (Go.bits .xor .u32 (Go.bits .xor .u32 (Go.bits .and .u32 a3 a4) (Go.bits .and .u32 a3 a5)) (Go.bits .and .u32 a4 a5))) % 4294967296)))) = some (r1, r2) := H
  have A10 := Aside0.mk A100
  clear A100
  replace H := Option.bind_eq_some_iff.mp H
  obtain ⟨t106, A110, H⟩ := H
  replace H : ((block_right.f a3 22).bind fun t107 => (some (((Go.bits .xor .u32 (Go.bits .xor .u32 t102 t103) t104) + (Go.bits .xor .u32 (Go.bits .and .u32 a0 a1) (Go.bits .and .u32 (Go.bits .xor .u32 4294967295 a0) a2))) % 4294967296, ((Go.bits .xor .u32 (Go.bits .xor .u32 t105 t106) t107) + (Go.bits .xor .u32 (Go.bits .xor .u32 (Go.bits .and .u32 a3 a4) (Go.bits .and .u32 a3 a5)) (Go.bits .and .u32 a4 a5))) % 4294967296))) = some (r1, r2) := H
  have A11 := Aside0.mk A110
  clear A110
  replace H := Option.bind_eq_some_iff.mp H
  obtain ⟨t107, A120, H⟩ := H
  replace H : (some (((Go.bits .xor .u32 (Go.bits .xor .u32 t102 t103) t104) + (Go.bits .xor .u32 (Go.bits .and .u32 a0 a1) (Go.bits .and .u32 (Go.bits .xor .u32 4294967295 a0) a2))) % 4294967296, ((Go.bits .xor .u32 (Go.bits .xor .u32 t105 t106) t107) + (Go.bits .xor .u32 (Go.bits .xor .u32 (Go.bits .and .u32 a3 a4) (Go.bits .and .u32 a3 a5)) (Go.bits .and .u32 a4 a5))) % 4294967296)) = some (r1, r2) := H
  have A12 := Aside0.mk A120
  clear A120
  simp only [Option.some.injEq, Prod.mk.injEq] at H
  obtain ⟨rfl, rfl⟩ := H
  go_enter Tryd.func124, Tryd.ntmps124
  go_wp2_with (first | ((with_reducible refine gate_callee (f := 123) rfl ?_); refine goesL_ (some 19) rfl rfl Tryd.func123 (by kernel_rfl) rfl #[.int .u32 a0, .int .i64 6] rfl (by (try simp only [List.map_toArray, List.map_cons, List.map_nil]); first | done | rfl | (simp only [List.length_drop, List.length_take]; rfl)) ?_; (with_reducible refine (block_right.calls a0 6 t102 _ A7.out).mono ?_); rintro e w' ⟨rfl, ⟨nd, rfl⟩⟩; refine ⟨_, rfl, ?_⟩) | ((with_reducible refine gate_callee (f := 123) rfl ?_); refine goesL_ (some 21) rfl rfl Tryd.func123 (by kernel_rfl) rfl #[.int .u32 a0, .int .i64 11] rfl (by (try simp only [List.map_toArray, List.map_cons, List.map_nil]); first | done | rfl | (simp only [List.length_drop, List.length_take]; rfl)) ?_; (with_reducible refine (block_right.calls a0 11 t103 _ A8.out).mono ?_); rintro e w' ⟨rfl, ⟨nd, rfl⟩⟩; refine ⟨_, rfl, ?_⟩) | ((with_reducible refine gate_callee (f := 123) rfl ?_); refine goesL_ (some 24) rfl rfl Tryd.func123 (by kernel_rfl) rfl #[.int .u32 a0, .int .i64 25] rfl (by (try simp only [List.map_toArray, List.map_cons, List.map_nil]); first | done | rfl | (simp only [List.length_drop, List.length_take]; rfl)) ?_; (with_reducible refine (block_right.calls a0 25 t104 _ A9.out).mono ?_); rintro e w' ⟨rfl, ⟨nd, rfl⟩⟩; refine ⟨_, rfl, ?_⟩) | ((with_reducible refine gate_callee (f := 123) rfl ?_); refine goesL_ (some 35) rfl rfl Tryd.func123 (by kernel_rfl) rfl #[.int .u32 a3, .int .i64 2] rfl (by (try simp only [List.map_toArray, List.map_cons, List.map_nil]); first | done | rfl | (simp only [List.length_drop, List.length_take]; rfl)) ?_; (with_reducible refine (block_right.calls a3 2 t105 _ A10.out).mono ?_); rintro e w' ⟨rfl, ⟨nd, rfl⟩⟩; refine ⟨_, rfl, ?_⟩) | ((with_reducible refine gate_callee (f := 123) rfl ?_); refine goesL_ (some 37) rfl rfl Tryd.func123 (by kernel_rfl) rfl #[.int .u32 a3, .int .i64 13] rfl (by (try simp only [List.map_toArray, List.map_cons, List.map_nil]); first | done | rfl | (simp only [List.length_drop, List.length_take]; rfl)) ?_; (with_reducible refine (block_right.calls a3 13 t106 _ A11.out).mono ?_); rintro e w' ⟨rfl, ⟨nd, rfl⟩⟩; refine ⟨_, rfl, ?_⟩) | ((with_reducible refine gate_callee (f := 123) rfl ?_); refine goesL_ (some 40) rfl rfl Tryd.func123 (by kernel_rfl) rfl #[.int .u32 a3, .int .i64 22] rfl (by (try simp only [List.map_toArray, List.map_cons, List.map_nil]); first | done | rfl | (simp only [List.length_drop, List.length_take]; rfl)) ?_; (with_reducible refine (block_right.calls a3 22 t107 _ A12.out).mono ?_); rintro e w' ⟨rfl, ⟨nd, rfl⟩⟩; refine ⟨_, rfl, ?_⟩))
  go_ret2
  exact ⟨by first | rfl | (simp; done) | (simp [*]; done), by repeat (first | exact Drawn0.refl _ | apply Drawn0.step)⟩

/-! ### block_First: function 90 -/
def block_First.f  : Option (Int × Int × Int × Int × Int × Int × Int × Int) := some (1779033703, 3144134277, 1013904242, 2773480762, 1359893119, 2600822924, 528734635, 1541459225)
set_option maxHeartbeats 8000000 in
set_option maxRecDepth 100000 in
theorem block_First.calls  (r1 : Int) (r2 : Int) (r3 : Int) (r4 : Int) (r5 : Int) (r6 : Int) (r7 : Int) (r8 : Int) (w : World) (h : block_First.f  = some (r1, r2, r3, r4, r5, r6, r7, r8)) :
    Calls Tryd.prog 90 #[] w fun e w' => e = .returned (.agg #[.int .u32 r1, .int .u32 r2, .int .u32 r3, .int .u32 r4, .int .u32 r5, .int .u32 r6, .int .u32 r7, .int .u32 r8]) ∧ Below w.heap.size w w' := by
  have hu96 := Tryd.underlying96
  have HB := Aside0.mk (Below.refl w.heap.size w)
  have H : (some (1779033703, 3144134277, 1013904242, 2773480762, 1359893119, 2600822924, 528734635, 1541459225)) = some (r1, r2, r3, r4, r5, r6, r7, r8) := h
  clear h
  simp only [Option.some.injEq, Prod.mk.injEq] at H
  obtain ⟨rfl, rfl, rfl, rfl, rfl, rfl, rfl, rfl⟩ := H
  go_enter Tryd.func90, Tryd.ntmps90
  go_wp2_with (first | ((with_reducible refine gate_dst (N := 0) rfl ?_); refine box_event ?hg (N := 0) ?hd (cs := #[.int .u32 0, .int .u32 0, .int .u32 0, .int .u32 0, .int .u32 0, .int .u32 0, .int .u32 0, .int .u32 0]) (t := 96) ?hr ?_; (case hd => rfl); (case hg => rfl); (case hr => first | (go_simp; done) | (go_simp; rfl)); intro gb108 hg w1 hbox hb; have n0_ := Aside0.mk (below_step (by repeat (first | (with_reducible first | exact HB.out | apply below_alloc | apply pw_below_drewN | apply below_drew1) | exact HB.out)) hb); have n1_ := Aside0.mk (hbox); have n2_ := Aside0.mk ((by rw [hg]; exact (below_size (by repeat (first | (with_reducible first | exact HB.out | apply below_alloc | apply pw_below_drewN | apply below_drew1) | exact HB.out))) : w.heap.size ≤ gb108)); have n3_ := Aside0.mk ((by rw [hg]; exact (below_size (by repeat (first | (with_reducible first | exact HB.out | apply below_alloc | apply pw_below_drewN | apply below_drew1) | exact HB.out))) : w.heap.size ≤ gb108)); clear HB; have HB := n0_; have BK108 := n1_; have GW108 := n2_; have GE108 := n3_; clear n0_ n1_ n2_ n3_; clear hb hbox hg; have hcz2_0 : w1.cell? ⟨gb108, 0, none⟩ = some (.int .u32 0) := (blk_cell BK108.out 0).trans rfl; have hcz2_1 : w1.cell? ⟨gb108, 1, none⟩ = some (.int .u32 0) := (blk_cell BK108.out 1).trans rfl; have hcz2_2 : w1.cell? ⟨gb108, 2, none⟩ = some (.int .u32 0) := (blk_cell BK108.out 2).trans rfl; have hcz2_3 : w1.cell? ⟨gb108, 3, none⟩ = some (.int .u32 0) := (blk_cell BK108.out 3).trans rfl; have hcz2_4 : w1.cell? ⟨gb108, 4, none⟩ = some (.int .u32 0) := (blk_cell BK108.out 4).trans rfl; have hcz2_5 : w1.cell? ⟨gb108, 5, none⟩ = some (.int .u32 0) := (blk_cell BK108.out 5).trans rfl; have hcz2_6 : w1.cell? ⟨gb108, 6, none⟩ = some (.int .u32 0) := (blk_cell BK108.out 6).trans rfl; have hcz2_7 : w1.cell? ⟨gb108, 7, none⟩ = some (.int .u32 0) := (blk_cell BK108.out 7).trans rfl; have hfz2_0 := blk_frozen BK108.out 0; have hfz2_1 := blk_frozen BK108.out 1; have hfz2_2 := blk_frozen BK108.out 2; have hfz2_3 := blk_frozen BK108.out 3; have hfz2_4 := blk_frozen BK108.out 4; have hfz2_5 := blk_frozen BK108.out 5; have hfz2_6 := blk_frozen BK108.out 6; have hfz2_7 := blk_frozen BK108.out 7))
  refine bodyPost_ret (results_cell_row rfl _ _ gb108 96 #[.int .u32 1779033703, .int .u32 3144134277, .int .u32 1013904242, .int .u32 2773480762, .int .u32 1359893119, .int .u32 2600822924, .int .u32 528734635, .int .u32 1541459225] (0, 0) _ rfl (by (with_reducible repeat (first | refine blk_drewN ?_ _ | refine blk_drew ?_ | refine blk_alloc ?_ _)); refine blk_put (cs := #[.int .u32 1779033703, .int .u32 3144134277, .int .u32 1013904242, .int .u32 2773480762, .int .u32 1359893119, .int .u32 2600822924, .int .u32 528734635, .int .u32 0]) ?_ 7 _ rfl; (with_reducible repeat (first | refine blk_drewN ?_ _ | refine blk_drew ?_ | refine blk_alloc ?_ _)); refine blk_put (cs := #[.int .u32 1779033703, .int .u32 3144134277, .int .u32 1013904242, .int .u32 2773480762, .int .u32 1359893119, .int .u32 2600822924, .int .u32 0, .int .u32 0]) ?_ 6 _ rfl; (with_reducible repeat (first | refine blk_drewN ?_ _ | refine blk_drew ?_ | refine blk_alloc ?_ _)); refine blk_put (cs := #[.int .u32 1779033703, .int .u32 3144134277, .int .u32 1013904242, .int .u32 2773480762, .int .u32 1359893119, .int .u32 0, .int .u32 0, .int .u32 0]) ?_ 5 _ rfl; (with_reducible repeat (first | refine blk_drewN ?_ _ | refine blk_drew ?_ | refine blk_alloc ?_ _)); refine blk_put (cs := #[.int .u32 1779033703, .int .u32 3144134277, .int .u32 1013904242, .int .u32 2773480762, .int .u32 0, .int .u32 0, .int .u32 0, .int .u32 0]) ?_ 4 _ rfl; (with_reducible repeat (first | refine blk_drewN ?_ _ | refine blk_drew ?_ | refine blk_alloc ?_ _)); refine blk_put (cs := #[.int .u32 1779033703, .int .u32 3144134277, .int .u32 1013904242, .int .u32 0, .int .u32 0, .int .u32 0, .int .u32 0, .int .u32 0]) ?_ 3 _ rfl; (with_reducible repeat (first | refine blk_drewN ?_ _ | refine blk_drew ?_ | refine blk_alloc ?_ _)); refine blk_put (cs := #[.int .u32 1779033703, .int .u32 3144134277, .int .u32 0, .int .u32 0, .int .u32 0, .int .u32 0, .int .u32 0, .int .u32 0]) ?_ 2 _ rfl; (with_reducible repeat (first | refine blk_drewN ?_ _ | refine blk_drew ?_ | refine blk_alloc ?_ _)); refine blk_put (cs := #[.int .u32 1779033703, .int .u32 0, .int .u32 0, .int .u32 0, .int .u32 0, .int .u32 0, .int .u32 0, .int .u32 0]) ?_ 1 _ rfl; (with_reducible repeat (first | refine blk_drewN ?_ _ | refine blk_drew ?_ | refine blk_alloc ?_ _)); refine blk_put (cs := #[.int .u32 0, .int .u32 0, .int .u32 0, .int .u32 0, .int .u32 0, .int .u32 0, .int .u32 0, .int .u32 0]) ?_ 0 _ rfl; (with_reducible repeat (first | refine blk_drewN ?_ _ | refine blk_drew ?_ | refine blk_alloc ?_ _)); exact BK108.out) Tryd.underlying96 rfl (by kernel_rfl)) rfl ?_
  exact ⟨by first | rfl | (simp [errW_none, errW_some] <;> rfl) | (simp [*, errW_none, errW_some] <;> rfl), by repeat (first | (with_reducible first | exact HB.out | apply below_alloc | apply pw_below_drewN | apply below_drew1 | refine below_set ?_ GE108.out) | exact HB.out)⟩

end Go.Proofs.YtomninikmcmmcaaDoor.PBw
end
section
-- Printed by this session's own program (wip/xprint.py) out of the translation. Lean checks it.
namespace Go.Proofs.YtomninikmcmmcaaDoor.PBw
open Go.RowKit Go.Proofs.YtomninikmcmmcaaDoorW.PrintWords Go.Proofs.YtomninikmcmmcaaDoorW.PrintLast Go.Proofs.YtomninikmcmmcaaDoorW.PrintMore Go.Proofs.YtomninikmcmmcaaDoor.GivA
attribute [local go_sem] max2_int min2_int max_two min_two max_three min_three max_four min_four   -- for this text's walks alone
set_option linter.unusedVariables false
set_option linter.unusedSimpArgs false

/-! ### block_Words: function 114 -/
def block_Words.l0 : Nat → ByteArray → List Int → Int → Int → Option (List Int × Int)
  | 0, _, _, _, _ => none
  | k + 1, x0, x4, x16, x17 => if x17 < x16 then (if x17 < 16 then (if 0 ≤ (wrap64 (4 * x17)) then (if (wrap64 (4 * x17)) ≤ (wrap64 ((wrap64 (4 * x17)) + 4)) then (if (wrap64 ((wrap64 (4 * x17)) + 4)) ≤ (x0.size : Int) then (if 0 < ((x0.extract ((wrap64 (4 * x17)) : Int).toNat ((wrap64 ((wrap64 (4 * x17)) + 4)) : Int).toNat).size : Int) then (if 1 < ((x0.extract ((wrap64 (4 * x17)) : Int).toNat ((wrap64 ((wrap64 (4 * x17)) + 4)) : Int).toNat).size : Int) then (if 2 < ((x0.extract ((wrap64 (4 * x17)) : Int).toNat ((wrap64 ((wrap64 (4 * x17)) + 4)) : Int).toNat).size : Int) then (if 3 < ((x0.extract ((wrap64 (4 * x17)) : Int).toNat ((wrap64 ((wrap64 (4 * x17)) + 4)) : Int).toNat).size : Int) then (if 0 ≤ x17 then (if x17 < (x4.length : Int) then (block_Words.l0 k x0 (x4.set (x17 : Int).toNat (Go.bits .or .u32 (Go.bits .or .u32 (Go.bits .or .u32 ((((bt (x0.extract ((wrap64 (4 * x17)) : Int).toNat ((wrap64 ((wrap64 (4 * x17)) + 4)) : Int).toNat) 0) % 4294967296) * 16777216) % 4294967296) ((((bt (x0.extract ((wrap64 (4 * x17)) : Int).toNat ((wrap64 ((wrap64 (4 * x17)) + 4)) : Int).toNat) 1) % 4294967296) * 65536) % 4294967296)) ((((bt (x0.extract ((wrap64 (4 * x17)) : Int).toNat ((wrap64 ((wrap64 (4 * x17)) + 4)) : Int).toNat) 2) % 4294967296) * 256) % 4294967296)) ((bt (x0.extract ((wrap64 (4 * x17)) : Int).toNat ((wrap64 ((wrap64 (4 * x17)) + 4)) : Int).toNat) 3) % 4294967296))) x16 (wrap64 (x17 + 1))) else (none)) else (none)) else (none)) else (none)) else (none)) else (none)) else (none)) else (none)) else (none)) else (if 0 ≤ (wrap64 (x17 - 15)) then (if (wrap64 (x17 - 15)) < (x4.length : Int) then (if 0 ≤ (wrap64 (x17 - 2)) then (if (wrap64 (x17 - 2)) < (x4.length : Int) then ((block_right.f (rd x4 (wrap64 (x17 - 15))) 7).bind fun t115 => ((block_right.f (rd x4 (wrap64 (x17 - 15))) 18).bind fun t116 => ((block_right.f (rd x4 (wrap64 (x17 - 2))) 17).bind fun t117 => ((block_right.f (rd x4 (wrap64 (x17 - 2))) 19).bind fun t118 => (if 0 ≤ (wrap64 (x17 - 16)) then (if (wrap64 (x17 - 16)) < (x4.length : Int) then (if 0 ≤ (wrap64 (x17 - 7)) then (if (wrap64 (x17 - 7)) < (x4.length : Int) then (if 0 ≤ x17 then (if x17 < (x4.length : Int) then (block_Words.l0 k x0 (x4.set (x17 : Int).toNat (((((((rd x4 (wrap64 (x17 - 16))) + (Go.bits .xor .u32 (Go.bits .xor .u32 t115 t116) ((rd x4 (wrap64 (x17 - 15))) / 8))) % 4294967296) + (rd x4 (wrap64 (x17 - 7)))) % 4294967296) + (Go.bits .xor .u32 (Go.bits .xor .u32 t117 t118) ((rd x4 (wrap64 (x17 - 2))) / 1024))) % 4294967296)) x16 (wrap64 (x17 + 1))) else (none)) else (none)) else (none)) else (none)) else (none)) else (none)))))) else (none)) else (none)) else (none)) else (none))) else (some (x4, 0))
def block_Words.f (k : Nat) (a0 : ByteArray) : Option (List Int × Int) := if (a0.size : Int) = 64 then (if 64 ≤ 70368744177664 then ((some (List.replicate 64 0 : List Int)).bind fun y109 => (block_Words.l0 k a0 y109 (y109.length : Int) 0)) else (none)) else (some (([] : List Int), 2))
theorem block_Words.mono_l : ∀ k, (∀ y0 y1 y2 y3, LeO (block_Words.l0 k y0 y1 y2 y3) (block_Words.l0 (k + 1) y0 y1 y2 y3))
  | 0 => fun _ _ _ _ r h => by simp [block_Words.l0] at h
  | k + 1 => by
    have ih0 := block_Words.mono_l k
    · intro y0 y1 y2 y3
      unfold block_Words.l0
      repeat' first
      | (with_reducible exact ih0 _ _ _ _)
      | (with_reducible exact LeO.refl _)
      | (with_reducible exact LeO.none _)
      | (with_reducible refine LeO.ite ?_ ?_)
      | (with_reducible refine LeO.bind ?_ (fun _ => ?_))
      | exact ih0 _ _ _ _
      | exact LeO.none _
      | refine LeO.ite ?_ ?_
      | refine LeO.bind ?_ (fun _ => ?_)
theorem block_Words.mono : ∀ a0 k, LeO (block_Words.f k a0) (block_Words.f (k + 1) a0) := by
  intro a0 k
  have ih0 := block_Words.mono_l k
  unfold block_Words.f
  repeat' first
      | (with_reducible exact ih0 _ _ _ _)
      | (with_reducible exact LeO.refl _)
      | (with_reducible exact LeO.none _)
      | (with_reducible refine LeO.ite ?_ ?_)
      | (with_reducible refine LeO.bind ?_ (fun _ => ?_))
      | exact ih0 _ _ _ _
      | exact LeO.none _
      | refine LeO.ite ?_ ?_
      | refine LeO.bind ?_ (fun _ => ?_)
def block_Words.T9 : Bool × List (List Nat × List Nat) := (true, [([], []), ([], []), ([], []), ([2], [2]), ([3], [3]), ([4], [4]), ([], []), ([6], [6]), ([7], [7]), ([8], [8]), ([5, 9], [5, 9]), ([], []), ([11], [11]), ([12], [12]), ([13], [13]), ([10, 14], [10, 14]), ([], []), ([16], [16]), ([17], [17]), ([15, 18], [15, 18]), ([0, 1, 0, 1, 2, 3, 4, 5, 6, 7, 8, 9, 10, 11, 12, 13, 14, 15, 16, 17, 18, 19], [0, 1]), ([20, 19, 0, 1, 2, 3, 4, 5, 6, 7, 8, 9, 10, 11, 12, 13, 14, 15, 16, 17, 18, 19], [19, 20])])
def block_Words.B9 : List Nat := [0, 0, 0, 4, 12, 28, 0, 64, 192, 448, 1020, 0, 2048, 6144, 14336, 32764, 0, 65536, 196608, 524284, 1048575, 2097151]
theorem block_Words.tab9 : rtab .any (opsOf Tryd.f114 9) = block_Words.T9 := by kernel_rfl
theorem block_Words.bits9 : waitsOk block_Words.T9.2 block_Words.B9 = true := by kernel_rfl
def block_Words.T10 : Bool × List (List Nat × List Nat) := (true, [([], []), ([], []), ([1], [1]), ([0, 2], [0, 2]), ([3], [3]), ([], []), ([], []), ([6], [6]), ([5, 7], [5, 7]), ([8], [8]), ([4, 0, 1, 2, 3, 4], [4]), ([9, 10, 0, 1, 2, 3, 4, 5, 6, 7, 8, 9, 10], [9])])
def block_Words.B10 : List Nat := [0, 0, 2, 7, 15, 0, 0, 64, 224, 480, 31, 2047]
theorem block_Words.tab10 : rtab .any (opsOf Tryd.f114 10) = block_Words.T10 := by kernel_rfl
theorem block_Words.bits10 : waitsOk block_Words.T10.2 block_Words.B10 = true := by kernel_rfl
def block_Words.T13 : Bool × List (List Nat × List Nat) := (true, [([], []), ([], []), ([], []), ([], []), ([3], [3]), ([2, 4], [2, 4]), ([5], [5]), ([], []), ([6, 7], [6, 7]), ([], []), ([], []), ([10], [10]), ([9, 11], [9, 11]), ([12], [12]), ([8, 13], [8, 13]), ([], []), ([14, 15], [14, 15]), ([0, 1, 0, 1, 2, 3, 4, 5, 6, 7, 8, 9, 10, 11, 12, 13, 14, 15, 16], [0, 1]), ([17, 16, 0, 1, 2, 3, 4, 5, 6, 7, 8, 9, 10, 11, 12, 13, 14, 15, 16], [16, 17])])
def block_Words.B13 : List Nat := [0, 0, 0, 0, 8, 28, 60, 0, 252, 0, 0, 1024, 3584, 7680, 16380, 0, 65532, 131071, 262143]
theorem block_Words.tab13 : rtab .any (opsOf Tryd.f114 13) = block_Words.T13 := by kernel_rfl
theorem block_Words.bits13 : waitsOk block_Words.T13.2 block_Words.B13 = true := by kernel_rfl
set_option maxHeartbeats 8000000 in
set_option maxRecDepth 100000 in
theorem block_Words.calls (k : Nat) (a0 : ByteArray) (r1 : List Int) (r2 : Int) (w : World) (h : block_Words.f k a0 = some (r1, r2)) :
    Calls Tryd.prog 114 #[.string a0] w fun e w' => ∃ v0_ : Value, e = .returned (.tuple #[v0_, .int .i64 r2]) ∧ Kd.R (Kd.int .u32) 94 w' w.heap.size (fun _ => True) v0_ r1 ∧ Below w.heap.size w w' := by
  have HB := Aside0.mk (Below.refl w.heap.size w)
  have H : (if (a0.size : Int) = 64 then (if 64 ≤ 70368744177664 then ((some (List.replicate 64 0 : List Int)).bind fun y109 => (block_Words.l0 k a0 y109 (y109.length : Int) 0)) else (none)) else (some (([] : List Int), 2))) = some (r1, r2) := h
  clear h
  by_cases c2 : (a0.size : Int) = 64
  · rw [if_pos c2] at H
    have c2b0 : ((a0.size : Int) == 64) = true := beq_iff_eq.mpr c2
    have c2b1 : ((a0.size : Int) != 64) = false := bne_eq_false_iff_eq.mpr c2
    clear c2
    by_cases c3 : 64 ≤ 70368744177664
    · rw [if_pos c3] at H
      have c3b0 := eq_true c3
      have c3b1 : decide (64 ≤ 70368744177664) = true := decide_eq_true c3
      clear c3
      obtain ⟨y109, hy109⟩ : ∃ y_ : List Int, y_ = (List.replicate 64 0) := ⟨_, rfl⟩
      replace H : (block_Words.l0 k a0 y109 (y109.length : Int) 0) = some (r1, r2) := by first | (rw [hy109]; with_reducible exact H) | (have H2_ := (Option.bind_some _ _).symm.trans H; rw [hy109]; with_reducible exact H2_) | (have H2_ := (Option.bind_some _ _).symm.trans H; with_reducible exact H2_) | with_reducible exact H | (rw [hy109]; exact H) | exact H
      have Ny109 := Aside0.mk hy109
      clear hy109
      have H' := Aside0.mk H
      clear H
      go_enter Tryd.func114, Tryd.ntmps114
      go_wp2_with (first | ((with_reducible refine gate_dst (N := 14) rfl ?_); refine Kd.R_make (Kd.int .u32) _ 94 rfl (N := 14) rfl 112 _ _ rfl 64 rfl rfl Tryd.underlying112 (.int .u32 0) 4 info94 rfl (by decide) (by omega) 0 (ok := fun _ => True) (okp := fun _ => True) rfl (fun _ hk => hk) trivial (by omega) (by omega) (Below.refl _ _) (Nat.le_refl _) ?_; intro v110 w4 ho5 hb hg_ hnew_; clear hg_ hnew_; (first | rw [← Ny109.out] at ho5 | (simp only [Int.reduceToNat] at ho5; rw [← Ny109.out] at ho5)); have n0_ := Aside0.mk (Kd.R_lower ho5 (below_size (by repeat (first | (with_reducible first | exact HB.out | apply below_alloc | apply pw_below_drewN | apply below_drew1) | exact HB.out)))); have n1_ := Aside0.mk (below_step (by repeat (first | (with_reducible first | exact HB.out | apply below_alloc | apply pw_below_drewN | apply below_drew1) | exact HB.out)) hb); clear HB; have HO111 := n0_; have HB := n1_; clear n0_ n1_; clear hb ho5; obtain ⟨Ao6, co6, eo6⟩ := Kd.R_slice HO111.out; subst eo6))
      go_loopg [17] k (fun kq v17 w' => ∃ (x4_1 : List Int) (x17_1 : Int), v17 = .int .i64 x17_1 ∧ Aside0 (block_Words.l0 kq a0 x4_1 (y109.length : Int) x17_1 = some (r1, r2)) ∧ Aside0 (kq ≤ k) ∧ Aside0 (Kd.R (Kd.int .u32) 94 w' w.heap.size (fun _ => True) (.slice Ao6 y109.length co6) x4_1) ∧ Aside0 (Below w.heap.size w w'))
      case atStart => exact ⟨(y109), (0), (by first | rfl | (simp; done) | (simp [*]; done)), H', ⟨Nat.le_refl _⟩, ⟨by (with_reducible repeat (first | apply Kd.R_alloc | apply Kd.R_drewN | apply Kd.R_drew)); exact HO111.out⟩, ⟨by repeat (first | (with_reducible first | exact HB.out | apply below_alloc | apply pw_below_drewN | apply below_drew1) | exact HB.out)⟩⟩
      case round =>
        clear H'
        try clear c1
        try clear c2
        try clear c2b0
        try clear c2b1
        try clear p2
        try clear c3
        try clear c3b0
        try clear c3b1
        obtain ⟨x4_1, x17_1, rfl, HA, HK1, HO_4, HB⟩ := hrel
        have hl4_1 := (Kd.R_reads' HO_4.out).1
        rw [hl4_1] at HO_4
        (try simp only [hl4_1])
        cases gk with
        | zero => exact absurd HA.out (by simp [block_Words.l0])
        | succ k1 =>
          have H := HA.out
          clear HA
          simp only [block_Words.l0] at H
          by_cases c7 : x17_1 < (y109.length : Int)
          · rw [if_pos c7] at H
            have c7b0 : decide (x17_1 < (y109.length : Int)) = true := decide_eq_true c7
            (try (have c7b0x := c7b0; simp only [hl4_1] at c7b0x))
            clear c7
            by_cases c8 : x17_1 < 16
            · rw [if_pos c8] at H
              have c8b0 : decide (x17_1 < 16) = true := decide_eq_true c8
              clear c8
              obtain ⟨ji9, hji9⟩ : ∃ j_ : Int, (wrap64 (4 * x17_1)) = j_ := ⟨_, rfl⟩
              replace H : (if 0 ≤ (ji9) then (if (ji9) ≤ (wrap64 ((ji9) + 4)) then (if (wrap64 ((ji9) + 4)) ≤ (a0.size : Int) then (if 0 < ((a0.extract ((ji9) : Int).toNat ((wrap64 ((ji9) + 4)) : Int).toNat).size : Int) then (if 1 < ((a0.extract ((ji9) : Int).toNat ((wrap64 ((ji9) + 4)) : Int).toNat).size : Int) then (if 2 < ((a0.extract ((ji9) : Int).toNat ((wrap64 ((ji9) + 4)) : Int).toNat).size : Int) then (if 3 < ((a0.extract ((ji9) : Int).toNat ((wrap64 ((ji9) + 4)) : Int).toNat).size : Int) then (if 0 ≤ x17_1 then (if x17_1 < (x4_1.length : Int) then (block_Words.l0 k1 a0 (x4_1.set (x17_1 : Int).toNat (Go.bits .or .u32 (Go.bits .or .u32 (Go.bits .or .u32 ((((bt (a0.extract ((ji9) : Int).toNat ((wrap64 ((ji9) + 4)) : Int).toNat) 0) % 4294967296) * 16777216) % 4294967296) ((((bt (a0.extract ((ji9) : Int).toNat ((wrap64 ((ji9) + 4)) : Int).toNat) 1) % 4294967296) * 65536) % 4294967296)) ((((bt (a0.extract ((ji9) : Int).toNat ((wrap64 ((ji9) + 4)) : Int).toNat) 2) % 4294967296) * 256) % 4294967296)) ((bt (a0.extract ((ji9) : Int).toNat ((wrap64 ((ji9) + 4)) : Int).toNat) 3) % 4294967296))) (y109.length : Int) (wrap64 (x17_1 + 1))) else (none)) else (none)) else (none)) else (none)) else (none)) else (none)) else (none)) else (none)) else (none)) = some (r1, r2) := by first | (rw [hji9] at H; exact H) | (simp only [hji9] at H ⊢; exact H)
              have hji9w : (IntKind.i64.wrap (4 * x17_1)) = ji9 := (i64_w _).trans hji9
              by_cases c10 : 0 ≤ (ji9)
              · rw [if_pos c10] at H
                have c10b0 := eq_true c10
                have c10b1 : decide (0 ≤ (ji9)) = true := decide_eq_true c10
                clear c10
                by_cases c11 : (ji9) ≤ (wrap64 ((ji9) + 4))
                · rw [if_pos c11] at H
                  have c11b0 := eq_true c11
                  have c11b1 : decide ((ji9) ≤ (wrap64 ((ji9) + 4))) = true := decide_eq_true c11
                  by_cases c12 : (wrap64 ((ji9) + 4)) ≤ (a0.size : Int)
                  · rw [if_pos c12] at H
                    have c12b0 := eq_true c12
                    have c12b1 : decide ((wrap64 ((ji9) + 4)) ≤ (a0.size : Int)) = true := decide_eq_true c12
                    by_cases c13 : 0 < ((a0.extract ((ji9) : Int).toNat ((wrap64 ((ji9) + 4)) : Int).toNat).size : Int)
                    · rw [if_pos c13] at H
                      have c13b0 : decide (0 < ((a0.extract ((ji9) : Int).toNat ((wrap64 ((ji9) + 4)) : Int).toNat).size : Int)) = true := decide_eq_true c13
                      have c13b1 : decide (0 < (a0.extract ((ji9) : Int).toNat ((wrap64 ((ji9) + 4)) : Int).toNat).size) = true := decide_eq_true (by omega)
                      clear c13
                      by_cases c15 : 1 < ((a0.extract ((ji9) : Int).toNat ((wrap64 ((ji9) + 4)) : Int).toNat).size : Int)
                      · rw [if_pos c15] at H
                        have c15b0 : decide (1 < ((a0.extract ((ji9) : Int).toNat ((wrap64 ((ji9) + 4)) : Int).toNat).size : Int)) = true := decide_eq_true c15
                        have c15b1 : decide (1 < (a0.extract ((ji9) : Int).toNat ((wrap64 ((ji9) + 4)) : Int).toNat).size) = true := decide_eq_true (by omega)
                        clear c15
                        by_cases c17 : 2 < ((a0.extract ((ji9) : Int).toNat ((wrap64 ((ji9) + 4)) : Int).toNat).size : Int)
                        · rw [if_pos c17] at H
                          have c17b0 : decide (2 < ((a0.extract ((ji9) : Int).toNat ((wrap64 ((ji9) + 4)) : Int).toNat).size : Int)) = true := decide_eq_true c17
                          have c17b1 : decide (2 < (a0.extract ((ji9) : Int).toNat ((wrap64 ((ji9) + 4)) : Int).toNat).size) = true := decide_eq_true (by omega)
                          clear c17
                          by_cases c19 : 3 < ((a0.extract ((ji9) : Int).toNat ((wrap64 ((ji9) + 4)) : Int).toNat).size : Int)
                          · rw [if_pos c19] at H
                            have c19b0 : decide (3 < ((a0.extract ((ji9) : Int).toNat ((wrap64 ((ji9) + 4)) : Int).toNat).size : Int)) = true := decide_eq_true c19
                            have c19b1 : decide (3 < (a0.extract ((ji9) : Int).toNat ((wrap64 ((ji9) + 4)) : Int).toNat).size) = true := decide_eq_true (by omega)
                            clear c19
                            by_cases c21 : 0 ≤ x17_1
                            · rw [if_pos c21] at H
                              have c21b0 : decide (0 ≤ x17_1) = true := decide_eq_true c21
                              clear c21
                              by_cases c22 : x17_1 < (x4_1.length : Int)
                              · rw [if_pos c22] at H
                                have c22b0 : decide (x17_1 < (x4_1.length : Int)) = true := decide_eq_true c22
                                clear c22
                                obtain ⟨y112, hy112⟩ : ∃ y_ : List Int, y_ = (x4_1.set (x17_1 : Int).toNat (Go.bits .or .u32 (Go.bits .or .u32 (Go.bits .or .u32 ((((bt (a0.extract ((ji9) : Int).toNat ((wrap64 ((ji9) + 4)) : Int).toNat) 0) % 4294967296) * 16777216) % 4294967296) ((((bt (a0.extract ((ji9) : Int).toNat ((wrap64 ((ji9) + 4)) : Int).toNat) 1) % 4294967296) * 65536) % 4294967296)) ((((bt (a0.extract ((ji9) : Int).toNat ((wrap64 ((ji9) + 4)) : Int).toNat) 2) % 4294967296) * 256) % 4294967296)) ((bt (a0.extract ((ji9) : Int).toNat ((wrap64 ((ji9) + 4)) : Int).toNat) 3) % 4294967296))) := ⟨_, rfl⟩
                                replace H : (block_Words.l0 k1 a0 y112 (y109.length : Int) (wrap64 (x17_1 + 1))) = some (r1, r2) := by first | (rw [hy112]; with_reducible exact H) | (have H2_ := (Option.bind_some _ _).symm.trans H; rw [hy112]; with_reducible exact H2_) | (have H2_ := (Option.bind_some _ _).symm.trans H; with_reducible exact H2_) | with_reducible exact H | (rw [hy112]; exact H) | exact H
                                have Ny112 := Aside0.mk hy112
                                clear hy112
                                have H' := Aside0.mk H
                                clear H
                                try go_wp2
                                have n0_ := Aside0.mk (Kd.R_drew HO_4.out)
                                have n1_ := Aside0.mk (below_drew1 HB.out)
                                clear HO_4
                                clear HB
                                have HO_4 := n0_
                                have HB := n1_
                                clear n0_ n1_
                                have p14 : 0 ≤ (0 : Int) := (by omega)
                                have q14 : 0 < (a0.extract ((ji9) : Int).toNat ((wrap64 ((ji9) + 4)) : Int).toNat).size := (by have : (0 : Int) < ((a0.extract ((ji9) : Int).toNat ((wrap64 ((ji9) + 4)) : Int).toNat).size : Int) := of_decide_eq_true (by first | (with_reducible assumption) | assumption); omega)
                                have hx14 : ∀ h : 0 < (a0.extract ((ji9) : Int).toNat ((wrap64 ((ji9) + 4)) : Int).toNat).size, (((a0.extract ((ji9) : Int).toNat ((wrap64 ((ji9) + 4)) : Int).toNat)[0]'h).toNat : Int) = bt (a0.extract ((ji9) : Int).toNat ((wrap64 ((ji9) + 4)) : Int).toNat) 0 := bt_at (a0.extract ((ji9) : Int).toNat ((wrap64 ((ji9) + 4)) : Int).toNat) 0
                                clear p14
                                have qi14 : (0 < ((a0.extract ((ji9) : Int).toNat ((wrap64 ((ji9) + 4)) : Int).toNat).size : Int)) = True := eq_true (of_decide_eq_true (by first | (with_reducible assumption) | assumption))
                                have qx14 : (0 : Nat) < (((wrap64 ((ji9) + 4)) : Int).toNat) - (((ji9) : Int).toNat) := by have h_ := q14; rw [ByteArray.size_extract] at h_; omega
                                have qy14 : (0 : Int) < (((((wrap64 ((ji9) + 4)) : Int).toNat) - (((ji9) : Int).toNat) : Nat) : Int) := by omega
                                replace qx14 := eq_true qx14
                                replace qy14 := eq_true qy14
                                replace q14 := eq_true q14
                                have p16 : 0 ≤ (1 : Int) := (by omega)
                                have q16 : 1 < (a0.extract ((ji9) : Int).toNat ((wrap64 ((ji9) + 4)) : Int).toNat).size := (by have : (1 : Int) < ((a0.extract ((ji9) : Int).toNat ((wrap64 ((ji9) + 4)) : Int).toNat).size : Int) := of_decide_eq_true (by first | (with_reducible assumption) | assumption); omega)
                                have hx16 : ∀ h : 1 < (a0.extract ((ji9) : Int).toNat ((wrap64 ((ji9) + 4)) : Int).toNat).size, (((a0.extract ((ji9) : Int).toNat ((wrap64 ((ji9) + 4)) : Int).toNat)[1]'h).toNat : Int) = bt (a0.extract ((ji9) : Int).toNat ((wrap64 ((ji9) + 4)) : Int).toNat) 1 := bt_at (a0.extract ((ji9) : Int).toNat ((wrap64 ((ji9) + 4)) : Int).toNat) 1
                                clear p16
                                have qi16 : (1 < ((a0.extract ((ji9) : Int).toNat ((wrap64 ((ji9) + 4)) : Int).toNat).size : Int)) = True := eq_true (of_decide_eq_true (by first | (with_reducible assumption) | assumption))
                                have qx16 : (1 : Nat) < (((wrap64 ((ji9) + 4)) : Int).toNat) - (((ji9) : Int).toNat) := by have h_ := q16; rw [ByteArray.size_extract] at h_; omega
                                have qy16 : (1 : Int) < (((((wrap64 ((ji9) + 4)) : Int).toNat) - (((ji9) : Int).toNat) : Nat) : Int) := by omega
                                replace qx16 := eq_true qx16
                                replace qy16 := eq_true qy16
                                replace q16 := eq_true q16
                                have p18 : 0 ≤ (2 : Int) := (by omega)
                                have q18 : 2 < (a0.extract ((ji9) : Int).toNat ((wrap64 ((ji9) + 4)) : Int).toNat).size := (by have : (2 : Int) < ((a0.extract ((ji9) : Int).toNat ((wrap64 ((ji9) + 4)) : Int).toNat).size : Int) := of_decide_eq_true (by first | (with_reducible assumption) | assumption); omega)
                                have hx18 : ∀ h : 2 < (a0.extract ((ji9) : Int).toNat ((wrap64 ((ji9) + 4)) : Int).toNat).size, (((a0.extract ((ji9) : Int).toNat ((wrap64 ((ji9) + 4)) : Int).toNat)[2]'h).toNat : Int) = bt (a0.extract ((ji9) : Int).toNat ((wrap64 ((ji9) + 4)) : Int).toNat) 2 := bt_at (a0.extract ((ji9) : Int).toNat ((wrap64 ((ji9) + 4)) : Int).toNat) 2
                                clear p18
                                have qi18 : (2 < ((a0.extract ((ji9) : Int).toNat ((wrap64 ((ji9) + 4)) : Int).toNat).size : Int)) = True := eq_true (of_decide_eq_true (by first | (with_reducible assumption) | assumption))
                                have qx18 : (2 : Nat) < (((wrap64 ((ji9) + 4)) : Int).toNat) - (((ji9) : Int).toNat) := by have h_ := q18; rw [ByteArray.size_extract] at h_; omega
                                have qy18 : (2 : Int) < (((((wrap64 ((ji9) + 4)) : Int).toNat) - (((ji9) : Int).toNat) : Nat) : Int) := by omega
                                replace qx18 := eq_true qx18
                                replace qy18 := eq_true qy18
                                replace q18 := eq_true q18
                                have p20 : 0 ≤ (3 : Int) := (by omega)
                                have q20 : 3 < (a0.extract ((ji9) : Int).toNat ((wrap64 ((ji9) + 4)) : Int).toNat).size := (by have : (3 : Int) < ((a0.extract ((ji9) : Int).toNat ((wrap64 ((ji9) + 4)) : Int).toNat).size : Int) := of_decide_eq_true (by first | (with_reducible assumption) | assumption); omega)
                                have hx20 : ∀ h : 3 < (a0.extract ((ji9) : Int).toNat ((wrap64 ((ji9) + 4)) : Int).toNat).size, (((a0.extract ((ji9) : Int).toNat ((wrap64 ((ji9) + 4)) : Int).toNat)[3]'h).toNat : Int) = bt (a0.extract ((ji9) : Int).toNat ((wrap64 ((ji9) + 4)) : Int).toNat) 3 := bt_at (a0.extract ((ji9) : Int).toNat ((wrap64 ((ji9) + 4)) : Int).toNat) 3
                                clear p20
                                have qi20 : (3 < ((a0.extract ((ji9) : Int).toNat ((wrap64 ((ji9) + 4)) : Int).toNat).size : Int)) = True := eq_true (of_decide_eq_true (by first | (with_reducible assumption) | assumption))
                                have qx20 : (3 : Nat) < (((wrap64 ((ji9) + 4)) : Int).toNat) - (((ji9) : Int).toNat) := by have h_ := q20; rw [ByteArray.size_extract] at h_; omega
                                have qy20 : (3 : Int) < (((((wrap64 ((ji9) + 4)) : Int).toNat) - (((ji9) : Int).toNat) : Nat) : Int) := by omega
                                replace qx20 := eq_true qx20
                                replace qy20 := eq_true qy20
                                replace q20 := eq_true q20
                                have p23 : 0 ≤ (x17_1 : Int) := of_decide_eq_true (by first | (with_reducible assumption) | assumption)
                                have q23 : (x17_1 : Int) < ((x4_1.length : Int) : Int) := of_decide_eq_true (by first | (with_reducible assumption) | assumption)
                                obtain ⟨go23, co23, eo23, gb23, gl23, cl23, HG23⟩ := Kd.R_form HO_4.out (by omega)
                                (first | cases eo23 | (injection eo23 with ea_ en_ ec_; (first | subst ea_ | (injection ea_ with ea_; subst ea_)); subst ec_; clear en_))
                                have GB23 := Aside0.mk gb23
                                have GG23 := Aside0.mk HG23
                                clear gb23 gl23 HG23
                                obtain ⟨hx23_0, hf23_0⟩ := Kd.R_celln 0 HO_4.out (x17_1 : Int) p23 q23
                                replace p23 := eq_true p23
                                replace q23 := eq_true q23
                                have HP25 := Kd.R_putn HO_4.out (x17_1 : Int) (Go.bits .or .u32 (Go.bits .or .u32 (Go.bits .or .u32 ((((bt (a0.extract ((ji9) : Int).toNat ((wrap64 ((ji9) + 4)) : Int).toNat) 0) % 4294967296) * 16777216) % 4294967296) ((((bt (a0.extract ((ji9) : Int).toNat ((wrap64 ((ji9) + 4)) : Int).toNat) 1) % 4294967296) * 65536) % 4294967296)) ((((bt (a0.extract ((ji9) : Int).toNat ((wrap64 ((ji9) + 4)) : Int).toNat) 2) % 4294967296) * 256) % 4294967296)) ((bt (a0.extract ((ji9) : Int).toNat ((wrap64 ((ji9) + 4)) : Int).toNat) 3) % 4294967296))
                                rw [← Ny112.out] at HP25
                                have HQ25 := Aside0.mk HP25
                                clear HP25
                                refine start_ (n := 22) (S := fun w' => True) (ds := [21]) #[false, false, false, false, false, false, false, false, false, false, false, false, false, false, false, false, false, false, false, false, false, false] (by kernel_rfl) rfl rfl trivial (fun hHeld => ?_); refine with_tabW block_Words.tab9 block_Words.bits9 (fun HT_ HW_ => ?_)
                                generalize wr.drew = w24 at HO_4 HB GG23 HQ25 hf23_0 hx23_0 hHeld ⊢
                                refine pure_ (i := 0) (N := some 29) (v := ?_) (a' := ?_) #[true, false, false, false, false, false, false, false, false, false, false, false, false, false, false, false, false, false, false, false, false, false] rfl rfl (any_of HT_.out (by kernel_rfl)) (fun _ _ _ h => h) (Or.inl ⟨by rfl, ?_⟩) ?_ ?_
                                rotate_left
                                · intro w'
                                  go_simp
                                  with_reducible rfl
                                rotate_left
                                · simp only [Act.put, List.setIfInBounds_toArray, List.set_cons_zero, List.set_cons_succ, i64_w, i32_w]
                                  rfl
                                refine pure_ (i := 1) (N := some 30) (v := ?_) (a' := ?_) #[true, true, false, false, false, false, false, false, false, false, false, false, false, false, false, false, false, false, false, false, false, false] rfl rfl (any_of HT_.out (by kernel_rfl)) (fun _ _ _ h => h) (Or.inl ⟨by rfl, ?_⟩) ?_ ?_
                                rotate_left
                                · intro w'
                                  go_simp
                                  with_reducible rfl
                                rotate_left
                                · simp only [Act.put, List.setIfInBounds_toArray, List.set_cons_zero, List.set_cons_succ, i64_w, i32_w]
                                  rfl
                                refine pure_ (i := 2) (N := some 31) (v := ?_) (a' := ?_) #[true, true, true, false, false, false, false, false, false, false, false, false, false, false, false, false, false, false, false, false, false, false] rfl rfl (any_of HT_.out (by kernel_rfl)) (fun _ _ _ h => h) (Or.inl ⟨by rfl, ?_⟩) ?_ ?_
                                rotate_left
                                · intro w'
                                  go_simp
                                  with_reducible rfl
                                rotate_left
                                · simp only [Act.put, List.setIfInBounds_toArray, List.set_cons_zero, List.set_cons_succ, i64_w, i32_w]
                                  rfl
                                refine pure_ (i := 6) (N := some 35) (v := ?_) (a' := ?_) #[true, true, true, false, false, false, true, false, false, false, false, false, false, false, false, false, false, false, false, false, false, false] rfl rfl (any_of HT_.out (by kernel_rfl)) (fun _ _ _ h => h) (Or.inl ⟨by rfl, ?_⟩) ?_ ?_
                                rotate_left
                                · intro w'
                                  go_simp
                                  with_reducible rfl
                                rotate_left
                                · simp only [Act.put, List.setIfInBounds_toArray, List.set_cons_zero, List.set_cons_succ, i64_w, i32_w]
                                  rfl
                                refine pure_ (i := 11) (N := some 40) (v := ?_) (a' := ?_) #[true, true, true, false, false, false, true, false, false, false, false, true, false, false, false, false, false, false, false, false, false, false] rfl rfl (any_of HT_.out (by kernel_rfl)) (fun _ _ _ h => h) (Or.inl ⟨by rfl, ?_⟩) ?_ ?_
                                rotate_left
                                · intro w'
                                  go_simp
                                  with_reducible rfl
                                rotate_left
                                · simp only [Act.put, List.setIfInBounds_toArray, List.set_cons_zero, List.set_cons_succ, i64_w, i32_w]
                                  rfl
                                refine pure_ (i := 16) (N := some 45) (v := ?_) (a' := ?_) #[true, true, true, false, false, false, true, false, false, false, false, true, false, false, false, false, true, false, false, false, false, false] rfl rfl (any_of HT_.out (by kernel_rfl)) (fun _ _ _ h => h) (Or.inl ⟨by rfl, ?_⟩) ?_ ?_
                                rotate_left
                                · intro w'
                                  go_simp
                                  with_reducible rfl
                                rotate_left
                                · simp only [Act.put, List.setIfInBounds_toArray, List.set_cons_zero, List.set_cons_succ, i64_w, i32_w]
                                  rfl
                                refine take_ (i := 3) (N := some 32) (v := ?_) (a' := ?_) #[true, true, true, true, false, false, true, false, false, false, false, true, false, false, false, false, true, false, false, false, false, false] rfl rfl (take_ofW HT_.out HW_.out (by kernel_rfl)) (fun _ _ _ h => h) (Or.inl ⟨by rfl, ?_⟩) hHeld ?_ ?_
                                rotate_left
                                · intro w' _
                                  go_simp
                                  with_reducible rfl
                                rotate_left
                                · simp only [Act.put, List.setIfInBounds_toArray, List.set_cons_zero, List.set_cons_succ, i64_w, i32_w]
                                  rfl
                                refine pure_ (i := 4) (N := some 33) (v := ?_) (a' := ?_) #[true, true, true, true, true, false, true, false, false, false, false, true, false, false, false, false, true, false, false, false, false, false] rfl rfl (any_of HT_.out (by kernel_rfl)) (fun _ _ _ h => h) (Or.inl ⟨by rfl, ?_⟩) ?_ ?_
                                rotate_left
                                · intro w'
                                  go_simp
                                  with_reducible rfl
                                rotate_left
                                · simp only [Act.put, List.setIfInBounds_toArray, List.set_cons_zero, List.set_cons_succ, i64_w, i32_w]
                                  rfl
                                refine pure_ (i := 5) (N := some 34) (v := ?_) (a' := ?_) #[true, true, true, true, true, true, true, false, false, false, false, true, false, false, false, false, true, false, false, false, false, false] rfl rfl (any_of HT_.out (by kernel_rfl)) (fun _ _ _ h => h) (Or.inl ⟨by rfl, ?_⟩) ?_ ?_
                                rotate_left
                                · intro w'
                                  go_simp
                                  with_reducible rfl
                                rotate_left
                                · simp only [Act.put, List.setIfInBounds_toArray, List.set_cons_zero, List.set_cons_succ, i64_w, i32_w]
                                  rfl
                                refine take_ (i := 7) (N := some 36) (v := ?_) (a' := ?_) #[true, true, true, true, true, true, true, true, false, false, false, true, false, false, false, false, true, false, false, false, false, false] rfl rfl (take_ofW HT_.out HW_.out (by kernel_rfl)) (fun _ _ _ h => h) (Or.inl ⟨by rfl, ?_⟩) hHeld ?_ ?_
                                rotate_left
                                · intro w' _
                                  go_simp
                                  with_reducible rfl
                                rotate_left
                                · simp only [Act.put, List.setIfInBounds_toArray, List.set_cons_zero, List.set_cons_succ, i64_w, i32_w]
                                  rfl
                                refine pure_ (i := 8) (N := some 37) (v := ?_) (a' := ?_) #[true, true, true, true, true, true, true, true, true, false, false, true, false, false, false, false, true, false, false, false, false, false] rfl rfl (any_of HT_.out (by kernel_rfl)) (fun _ _ _ h => h) (Or.inl ⟨by rfl, ?_⟩) ?_ ?_
                                rotate_left
                                · intro w'
                                  go_simp
                                  with_reducible rfl
                                rotate_left
                                · simp only [Act.put, List.setIfInBounds_toArray, List.set_cons_zero, List.set_cons_succ, i64_w, i32_w]
                                  rfl
                                refine pure_ (i := 9) (N := some 38) (v := ?_) (a' := ?_) #[true, true, true, true, true, true, true, true, true, true, false, true, false, false, false, false, true, false, false, false, false, false] rfl rfl (any_of HT_.out (by kernel_rfl)) (fun _ _ _ h => h) (Or.inl ⟨by rfl, ?_⟩) ?_ ?_
                                rotate_left
                                · intro w'
                                  go_simp
                                  with_reducible rfl
                                rotate_left
                                · simp only [Act.put, List.setIfInBounds_toArray, List.set_cons_zero, List.set_cons_succ, i64_w, i32_w]
                                  rfl
                                refine pure_ (i := 10) (N := some 39) (v := ?_) (a' := ?_) #[true, true, true, true, true, true, true, true, true, true, true, true, false, false, false, false, true, false, false, false, false, false] rfl rfl (any_of HT_.out (by kernel_rfl)) (fun _ _ _ h => h) (Or.inl ⟨by rfl, ?_⟩) ?_ ?_
                                rotate_left
                                · intro w'
                                  go_simp
                                  with_reducible rfl
                                rotate_left
                                · simp only [Act.put, List.setIfInBounds_toArray, List.set_cons_zero, List.set_cons_succ, i64_w, i32_w]
                                  rfl
                                refine take_ (i := 12) (N := some 41) (v := ?_) (a' := ?_) #[true, true, true, true, true, true, true, true, true, true, true, true, true, false, false, false, true, false, false, false, false, false] rfl rfl (take_ofW HT_.out HW_.out (by kernel_rfl)) (fun _ _ _ h => h) (Or.inl ⟨by rfl, ?_⟩) hHeld ?_ ?_
                                rotate_left
                                · intro w' _
                                  go_simp
                                  with_reducible rfl
                                rotate_left
                                · simp only [Act.put, List.setIfInBounds_toArray, List.set_cons_zero, List.set_cons_succ, i64_w, i32_w]
                                  rfl
                                refine pure_ (i := 13) (N := some 42) (v := ?_) (a' := ?_) #[true, true, true, true, true, true, true, true, true, true, true, true, true, true, false, false, true, false, false, false, false, false] rfl rfl (any_of HT_.out (by kernel_rfl)) (fun _ _ _ h => h) (Or.inl ⟨by rfl, ?_⟩) ?_ ?_
                                rotate_left
                                · intro w'
                                  go_simp
                                  with_reducible rfl
                                rotate_left
                                · simp only [Act.put, List.setIfInBounds_toArray, List.set_cons_zero, List.set_cons_succ, i64_w, i32_w]
                                  rfl
                                refine pure_ (i := 14) (N := some 43) (v := ?_) (a' := ?_) #[true, true, true, true, true, true, true, true, true, true, true, true, true, true, true, false, true, false, false, false, false, false] rfl rfl (any_of HT_.out (by kernel_rfl)) (fun _ _ _ h => h) (Or.inl ⟨by rfl, ?_⟩) ?_ ?_
                                rotate_left
                                · intro w'
                                  go_simp
                                  with_reducible rfl
                                rotate_left
                                · simp only [Act.put, List.setIfInBounds_toArray, List.set_cons_zero, List.set_cons_succ, i64_w, i32_w]
                                  rfl
                                refine pure_ (i := 15) (N := some 44) (v := ?_) (a' := ?_) #[true, true, true, true, true, true, true, true, true, true, true, true, true, true, true, true, true, false, false, false, false, false] rfl rfl (any_of HT_.out (by kernel_rfl)) (fun _ _ _ h => h) (Or.inl ⟨by rfl, ?_⟩) ?_ ?_
                                rotate_left
                                · intro w'
                                  go_simp
                                  with_reducible rfl
                                rotate_left
                                · simp only [Act.put, List.setIfInBounds_toArray, List.set_cons_zero, List.set_cons_succ, i64_w, i32_w]
                                  rfl
                                refine take_ (i := 17) (N := some 46) (v := ?_) (a' := ?_) #[true, true, true, true, true, true, true, true, true, true, true, true, true, true, true, true, true, true, false, false, false, false] rfl rfl (take_ofW HT_.out HW_.out (by kernel_rfl)) (fun _ _ _ h => h) (Or.inl ⟨by rfl, ?_⟩) hHeld ?_ ?_
                                rotate_left
                                · intro w' _
                                  go_simp
                                  with_reducible rfl
                                rotate_left
                                · simp only [Act.put, List.setIfInBounds_toArray, List.set_cons_zero, List.set_cons_succ, i64_w, i32_w]
                                  rfl
                                refine pure_ (i := 18) (N := some 47) (v := ?_) (a' := ?_) #[true, true, true, true, true, true, true, true, true, true, true, true, true, true, true, true, true, true, true, false, false, false] rfl rfl (any_of HT_.out (by kernel_rfl)) (fun _ _ _ h => h) (Or.inl ⟨by rfl, ?_⟩) ?_ ?_
                                rotate_left
                                · intro w'
                                  go_simp
                                  with_reducible rfl
                                rotate_left
                                · simp only [Act.put, List.setIfInBounds_toArray, List.set_cons_zero, List.set_cons_succ, i64_w, i32_w]
                                  rfl
                                refine pure_ (i := 19) (N := some 48) (v := ?_) (a' := ?_) #[true, true, true, true, true, true, true, true, true, true, true, true, true, true, true, true, true, true, true, true, false, false] rfl rfl (any_of HT_.out (by kernel_rfl)) (fun _ _ _ h => h) (Or.inl ⟨by rfl, ?_⟩) ?_ ?_
                                rotate_left
                                · intro w'
                                  go_simp
                                  with_reducible rfl
                                rotate_left
                                · simp only [Act.put, List.setIfInBounds_toArray, List.set_cons_zero, List.set_cons_succ, i64_w, i32_w]
                                  rfl
                                refine pure_ (i := 20) (N := some 49) (v := ?_) (a' := ?_) #[true, true, true, true, true, true, true, true, true, true, true, true, true, true, true, true, true, true, true, true, true, false] rfl rfl (any_of HT_.out (by kernel_rfl)) (fun _ _ _ h => h) (Or.inl ⟨by rfl, ?_⟩) ?_ ?_
                                rotate_left
                                · intro w'
                                  go_simp
                                  with_reducible rfl
                                rotate_left
                                · simp only [Act.put, List.setIfInBounds_toArray, List.set_cons_zero, List.set_cons_succ, i64_w, i32_w]
                                  rfl
                                refine last_ (i := 21) (N := none) #[true, true, true, true, true, true, true, true, true, true, true, true, true, true, true, true, true, true, true, true, true, true] rfl rfl (one_of HT_.out (by kernel_rfl)) (by decide) (fun K hK => ?_)
                                refine skip_ (w1 := ?_) (by rfl) rfl ?_ ?_
                                rotate_left
                                · go_simp
                                  rfl
                                refine hK.out _ _ ?_
                                clear hK K
                                refine done_ (done_of HT_.out (by kernel_rfl)) ?_
                                try go_wp2
                                (try simp only [← hl4_1])
                                go_roundg k1
                                case measure => have := HK1.out; omega
                                case rel => exact ⟨(y112), (wrap64 (x17_1 + 1)), (by first | rfl | (simp; done) | (simp [*]; done)), H', ⟨by have := HK1.out; omega⟩, ⟨by (try simp only [hl4_1]); (with_reducible repeat (first | apply Kd.R_alloc | apply Kd.R_drewN | apply Kd.R_drew)); (first | exact HQ25.out | (have z_ := HQ25.out; simp only [Int.emod_add_emod, Int.add_emod_emod] at z_ ⊢; exact z_))⟩, ⟨by repeat (first | (with_reducible first | exact HB.out | apply below_alloc | apply pw_below_drewN | apply below_drew1 | refine below_set ?_ GB23.out) | exact HB.out)⟩⟩
                              · rw [if_neg c22] at H
                                exact absurd H (by simp)
                            · rw [if_neg c21] at H
                              exact absurd H (by simp)
                          · rw [if_neg c19] at H
                            exact absurd H (by simp)
                        · rw [if_neg c17] at H
                          exact absurd H (by simp)
                      · rw [if_neg c15] at H
                        exact absurd H (by simp)
                    · rw [if_neg c13] at H
                      exact absurd H (by simp)
                  · rw [if_neg c12] at H
                    exact absurd H (by simp)
                · rw [if_neg c11] at H
                  exact absurd H (by simp)
              · rw [if_neg c10] at H
                exact absurd H (by simp)
            · rw [if_neg c8] at H
              have c8b0 : decide (x17_1 < 16) = false := decide_eq_false c8
              clear c8
              obtain ⟨ji26, hji26⟩ : ∃ j_ : Int, (wrap64 (x17_1 - 15)) = j_ := ⟨_, rfl⟩
              replace H : (if 0 ≤ (ji26) then (if (ji26) < (x4_1.length : Int) then (if 0 ≤ (wrap64 (x17_1 - 2)) then (if (wrap64 (x17_1 - 2)) < (x4_1.length : Int) then ((block_right.f (rd x4_1 (ji26)) 7).bind fun t115 => ((block_right.f (rd x4_1 (ji26)) 18).bind fun t116 => ((block_right.f (rd x4_1 (wrap64 (x17_1 - 2))) 17).bind fun t117 => ((block_right.f (rd x4_1 (wrap64 (x17_1 - 2))) 19).bind fun t118 => (if 0 ≤ (wrap64 (x17_1 - 16)) then (if (wrap64 (x17_1 - 16)) < (x4_1.length : Int) then (if 0 ≤ (wrap64 (x17_1 - 7)) then (if (wrap64 (x17_1 - 7)) < (x4_1.length : Int) then (if 0 ≤ x17_1 then (if x17_1 < (x4_1.length : Int) then (block_Words.l0 k1 a0 (x4_1.set (x17_1 : Int).toNat (((((((rd x4_1 (wrap64 (x17_1 - 16))) + (Go.bits .xor .u32 (Go.bits .xor .u32 t115 t116) ((rd x4_1 (ji26)) / 8))) % 4294967296) + (rd x4_1 (wrap64 (x17_1 - 7)))) % 4294967296) + (Go.bits .xor .u32 (Go.bits .xor .u32 t117 t118) ((rd x4_1 (wrap64 (x17_1 - 2))) / 1024))) % 4294967296)) (y109.length : Int) (wrap64 (x17_1 + 1))) else (none)) else (none)) else (none)) else (none)) else (none)) else (none)))))) else (none)) else (none)) else (none)) else (none)) = some (r1, r2) := by first | (rw [hji26] at H; exact H) | (simp only [hji26] at H ⊢; exact H)
              have hji26w : (IntKind.i64.wrap (x17_1 - 15)) = ji26 := (i64_w _).trans hji26
              by_cases c27 : 0 ≤ (ji26)
              · rw [if_pos c27] at H
                have c27b0 : decide (0 ≤ (ji26)) = true := decide_eq_true c27
                clear c27
                by_cases c28 : (ji26) < (x4_1.length : Int)
                · rw [if_pos c28] at H
                  have c28b0 : decide ((ji26) < (x4_1.length : Int)) = true := decide_eq_true c28
                  clear c28
                  obtain ⟨ji29, hji29⟩ : ∃ j_ : Int, (wrap64 (x17_1 - 2)) = j_ := ⟨_, rfl⟩
                  replace H : (if 0 ≤ (ji29) then (if (ji29) < (x4_1.length : Int) then ((block_right.f (rd x4_1 (ji26)) 7).bind fun t115 => ((block_right.f (rd x4_1 (ji26)) 18).bind fun t116 => ((block_right.f (rd x4_1 (ji29)) 17).bind fun t117 => ((block_right.f (rd x4_1 (ji29)) 19).bind fun t118 => (if 0 ≤ (wrap64 (x17_1 - 16)) then (if (wrap64 (x17_1 - 16)) < (x4_1.length : Int) then (if 0 ≤ (wrap64 (x17_1 - 7)) then (if (wrap64 (x17_1 - 7)) < (x4_1.length : Int) then (if 0 ≤ x17_1 then (if x17_1 < (x4_1.length : Int) then (block_Words.l0 k1 a0 (x4_1.set (x17_1 : Int).toNat (((((((rd x4_1 (wrap64 (x17_1 - 16))) + (Go.bits .xor .u32 (Go.bits .xor .u32 t115 t116) ((rd x4_1 (ji26)) / 8))) % 4294967296) + (rd x4_1 (wrap64 (x17_1 - 7)))) % 4294967296) + (Go.bits .xor .u32 (Go.bits .xor .u32 t117 t118) ((rd x4_1 (ji29)) / 1024))) % 4294967296)) (y109.length : Int) (wrap64 (x17_1 + 1))) else (none)) else (none)) else (none)) else (none)) else (none)) else (none)))))) else (none)) else (none)) = some (r1, r2) := by first | (rw [hji29] at H; exact H) | (simp only [hji29] at H ⊢; exact H)
                  have hji29w : (IntKind.i64.wrap (x17_1 - 2)) = ji29 := (i64_w _).trans hji29
                  by_cases c30 : 0 ≤ (ji29)
                  · rw [if_pos c30] at H
                    have c30b0 : decide (0 ≤ (ji29)) = true := decide_eq_true c30
                    clear c30
                    by_cases c31 : (ji29) < (x4_1.length : Int)
                    · rw [if_pos c31] at H
                      have c31b0 : decide ((ji29) < (x4_1.length : Int)) = true := decide_eq_true c31
                      clear c31
                      replace H := Option.bind_eq_some_iff.mp H
                      obtain ⟨t115, A320, H⟩ := H
                      replace H : ((block_right.f (rd x4_1 (ji26)) 18).bind fun t116 => ((block_right.f (rd x4_1 (ji29)) 17).bind fun t117 => ((block_right.f (rd x4_1 (ji29)) 19).bind fun t118 => (if 0 ≤ (wrap64 (x17_1 - 16)) then (if (wrap64 (x17_1 - 16)) < (x4_1.length : Int) then (if 0 ≤ (wrap64 (x17_1 - 7)) then (if (wrap64 (x17_1 - 7)) < (x4_1.length : Int) then (if 0 ≤ x17_1 then (if x17_1 < (x4_1.length : Int) then (block_Words.l0 k1 a0 (x4_1.set (x17_1 : Int).toNat (((((((rd x4_1 (wrap64 (x17_1 - 16))) + (Go.bits .xor .u32 (Go.bits .xor .u32 t115 t116) ((rd x4_1 (ji26)) / 8))) % 4294967296) + (rd x4_1 (wrap64 (x17_1 - 7)))) % 4294967296) + (Go.bits .xor .u32 (Go.bits .xor .u32 t117 t118) ((rd x4_1 (ji29)) / 1024))) % 4294967296)) (y109.length : Int) (wrap64 (x17_1 + 1))) else (none)) else (none)) else (none)) else (none)) else (none)) else (none))))) = some (r1, r2) := H
                      have A32 := Aside0.mk A320
                      clear A320
                      replace H := Option.bind_eq_some_iff.mp H
                      obtain ⟨t116, A330, H⟩ := H
                      replace H : ((block_right.f (rd x4_1 (ji29)) 17).bind fun t117 => ((block_right.f (rd x4_1 (ji29)) 19).bind fun t118 => (if 0 ≤ (wrap64 (x17_1 - 16)) then (if (wrap64 (x17_1 - 16)) < (x4_1.length : Int) then (if 0 ≤ (wrap64 (x17_1 - 7)) then (if (wrap64 (x17_1 - 7)) < (x4_1.length : Int) then (if 0 ≤ x17_1 then (if x17_1 < (x4_1.length : Int) then (block_Words.l0 k1 a0 (x4_1.set (x17_1 : Int).toNat (((((((rd x4_1 (wrap64 (x17_1 - 16))) + (Go.bits .xor .u32 (Go.bits .xor .u32 t115 t116) ((rd x4_1 (ji26)) / 8))) % 4294967296) + (rd x4_1 (wrap64 (x17_1 - 7)))) % 4294967296) + (Go.bits .xor .u32 (Go.bits .xor .u32 t117 t118) ((rd x4_1 (ji29)) / 1024))) % 4294967296)) (y109.length : Int) (wrap64 (x17_1 + 1))) else (none)) else (none)) else (none)) else (none)) else (none)) else (none)))) = some (r1, r2) := H
                      have A33 := Aside0.mk A330
                      clear A330
                      replace H := Option.bind_eq_some_iff.mp H
                      obtain ⟨t117, A340, H⟩ := H
                      replace H : ((block_right.f (rd x4_1 (ji29)) 19).bind fun t118 => (if 0 ≤ (wrap64 (x17_1 - 16)) then (if (wrap64 (x17_1 - 16)) < (x4_1.length : Int) then (if 0 ≤ (wrap64 (x17_1 - 7)) then (if (wrap64 (x17_1 - 7)) < (x4_1.length : Int) then (if 0 ≤ x17_1 then (if x17_1 < (x4_1.length : Int) then (block_Words.l0 k1 a0 (x4_1.set (x17_1 : Int).toNat (((((((rd x4_1 (wrap64 (x17_1 - 16))) + (Go.bits .xor .u32 (Go.bits .xor .u32 t115 t116) ((rd x4_1 (ji26)) / 8))) % 4294967296) + (rd x4_1 (wrap64 (x17_1 - 7)))) % 4294967296) + (Go.bits .xor .u32 (Go.bits .xor .u32 t117 t118) ((rd x4_1 (ji29)) / 1024))) % 4294967296)) (y109.length : Int) (wrap64 (x17_1 + 1))) else (none)) else (none)) else (none)) else (none)) else (none)) else (none))) = some (r1, r2) := H
                      have A34 := Aside0.mk A340
                      clear A340
                      replace H := Option.bind_eq_some_iff.mp H
                      obtain ⟨t118, A350, H⟩ := H
                      replace H : (if 0 ≤ (wrap64 (x17_1 - 16)) then (if (wrap64 (x17_1 - 16)) < (x4_1.length : Int) then (if 0 ≤ (wrap64 (x17_1 - 7)) then (if (wrap64 (x17_1 - 7)) < (x4_1.length : Int) then (if 0 ≤ x17_1 then (if x17_1 < (x4_1.length : Int) then (block_Words.l0 k1 a0 (x4_1.set (x17_1 : Int).toNat (((((((rd x4_1 (wrap64 (x17_1 - 16))) + (Go.bits .xor .u32 (Go.bits .xor .u32 t115 t116) ((rd x4_1 (ji26)) / 8))) % 4294967296) + (rd x4_1 (wrap64 (x17_1 - 7)))) % 4294967296) + (Go.bits .xor .u32 (Go.bits .xor .u32 t117 t118) ((rd x4_1 (ji29)) / 1024))) % 4294967296)) (y109.length : Int) (wrap64 (x17_1 + 1))) else (none)) else (none)) else (none)) else (none)) else (none)) else (none)) = some (r1, r2) := H
                      have A35 := Aside0.mk A350
                      clear A350
                      obtain ⟨ji36, hji36⟩ : ∃ j_ : Int, (wrap64 (x17_1 - 16)) = j_ := ⟨_, rfl⟩
                      replace H : (if 0 ≤ (ji36) then (if (ji36) < (x4_1.length : Int) then (if 0 ≤ (wrap64 (x17_1 - 7)) then (if (wrap64 (x17_1 - 7)) < (x4_1.length : Int) then (if 0 ≤ x17_1 then (if x17_1 < (x4_1.length : Int) then (block_Words.l0 k1 a0 (x4_1.set (x17_1 : Int).toNat (((((((rd x4_1 (ji36)) + (Go.bits .xor .u32 (Go.bits .xor .u32 t115 t116) ((rd x4_1 (ji26)) / 8))) % 4294967296) + (rd x4_1 (wrap64 (x17_1 - 7)))) % 4294967296) + (Go.bits .xor .u32 (Go.bits .xor .u32 t117 t118) ((rd x4_1 (ji29)) / 1024))) % 4294967296)) (y109.length : Int) (wrap64 (x17_1 + 1))) else (none)) else (none)) else (none)) else (none)) else (none)) else (none)) = some (r1, r2) := by first | (rw [hji36] at H; exact H) | (simp only [hji36] at H ⊢; exact H)
                      (try rw [hji36] at A32)
                      (try rw [hji36] at A33)
                      (try rw [hji36] at A34)
                      (try rw [hji36] at A35)
                      have hji36w : (IntKind.i64.wrap (x17_1 - 16)) = ji36 := (i64_w _).trans hji36
                      by_cases c37 : 0 ≤ (ji36)
                      · rw [if_pos c37] at H
                        have c37b0 : decide (0 ≤ (ji36)) = true := decide_eq_true c37
                        clear c37
                        by_cases c38 : (ji36) < (x4_1.length : Int)
                        · rw [if_pos c38] at H
                          have c38b0 : decide ((ji36) < (x4_1.length : Int)) = true := decide_eq_true c38
                          clear c38
                          obtain ⟨ji39, hji39⟩ : ∃ j_ : Int, (wrap64 (x17_1 - 7)) = j_ := ⟨_, rfl⟩
                          replace H : (if 0 ≤ (ji39) then (if (ji39) < (x4_1.length : Int) then (if 0 ≤ x17_1 then (if x17_1 < (x4_1.length : Int) then (block_Words.l0 k1 a0 (x4_1.set (x17_1 : Int).toNat (((((((rd x4_1 (ji36)) + (Go.bits .xor .u32 (Go.bits .xor .u32 t115 t116) ((rd x4_1 (ji26)) / 8))) % 4294967296) + (rd x4_1 (ji39))) % 4294967296) + (Go.bits .xor .u32 (Go.bits .xor .u32 t117 t118) ((rd x4_1 (ji29)) / 1024))) % 4294967296)) (y109.length : Int) (wrap64 (x17_1 + 1))) else (none)) else (none)) else (none)) else (none)) = some (r1, r2) := by first | (rw [hji39] at H; exact H) | (simp only [hji39] at H ⊢; exact H)
                          (try rw [hji39] at A32)
                          (try rw [hji39] at A33)
                          (try rw [hji39] at A34)
                          (try rw [hji39] at A35)
                          have hji39w : (IntKind.i64.wrap (x17_1 - 7)) = ji39 := (i64_w _).trans hji39
                          by_cases c40 : 0 ≤ (ji39)
                          · rw [if_pos c40] at H
                            have c40b0 : decide (0 ≤ (ji39)) = true := decide_eq_true c40
                            clear c40
                            by_cases c41 : (ji39) < (x4_1.length : Int)
                            · rw [if_pos c41] at H
                              have c41b0 : decide ((ji39) < (x4_1.length : Int)) = true := decide_eq_true c41
                              clear c41
                              by_cases c42 : 0 ≤ x17_1
                              · rw [if_pos c42] at H
                                have c42b0 : decide (0 ≤ x17_1) = true := decide_eq_true c42
                                clear c42
                                by_cases c43 : x17_1 < (x4_1.length : Int)
                                · rw [if_pos c43] at H
                                  have c43b0 : decide (x17_1 < (x4_1.length : Int)) = true := decide_eq_true c43
                                  clear c43
                                  obtain ⟨y121, hy121⟩ : ∃ y_ : List Int, y_ = (x4_1.set (x17_1 : Int).toNat (((((((rd x4_1 (ji36)) + (Go.bits .xor .u32 (Go.bits .xor .u32 t115 t116) ((rd x4_1 (ji26)) / 8))) % 4294967296) + (rd x4_1 (ji39))) % 4294967296) + (Go.bits .xor .u32 (Go.bits .xor .u32 t117 t118) ((rd x4_1 (ji29)) / 1024))) % 4294967296)) := ⟨_, rfl⟩
                                  replace H : (block_Words.l0 k1 a0 y121 (y109.length : Int) (wrap64 (x17_1 + 1))) = some (r1, r2) := by first | (rw [hy121]; with_reducible exact H) | (have H2_ := (Option.bind_some _ _).symm.trans H; rw [hy121]; with_reducible exact H2_) | (have H2_ := (Option.bind_some _ _).symm.trans H; with_reducible exact H2_) | with_reducible exact H | (rw [hy121]; exact H) | exact H
                                  have Ny121 := Aside0.mk hy121
                                  clear hy121
                                  have H' := Aside0.mk H
                                  clear H
                                  try go_wp2
                                  have n0_ := Aside0.mk (Kd.R_drew HO_4.out)
                                  have n1_ := Aside0.mk (below_drew1 HB.out)
                                  clear HO_4
                                  clear HB
                                  have HO_4 := n0_
                                  have HB := n1_
                                  clear n0_ n1_
                                  have p113 : 0 ≤ ((ji26) : Int) := of_decide_eq_true (by first | (with_reducible assumption) | assumption)
                                  have q113 : (ji26) < (x4_1.length : Int) := of_decide_eq_true (by first | (with_reducible assumption) | assumption)
                                  obtain ⟨ad113, e113, hx113_0⟩ := Kd.at_int (Kd.R_reads' HO_4.out).2.2 (ji26) p113 q113
                                  cases e113
                                  replace p113 := eq_true p113
                                  replace q113 := eq_true q113
                                  have p114 : 0 ≤ ((ji29) : Int) := of_decide_eq_true (by first | (with_reducible assumption) | assumption)
                                  have q114 : (ji29) < (x4_1.length : Int) := of_decide_eq_true (by first | (with_reducible assumption) | assumption)
                                  obtain ⟨ad114, e114, hx114_0⟩ := Kd.at_int (Kd.R_reads' HO_4.out).2.2 (ji29) p114 q114
                                  obtain rfl : ad113 = ad114 := (by injection e114)
                                  replace p114 := eq_true p114
                                  replace q114 := eq_true q114
                                  refine start_ (n := 12) (S := fun w' => w'.cell? (ad113.add ((ji26)).toNat) = some (.int .u32 (rd x4_1 (ji26))) ∧ w'.cell? (ad113.add ((ji29)).toNat) = some (.int .u32 (rd x4_1 (ji29)))) (ds := []) #[false, false, false, false, false, false, false, false, false, false, false, false] (by kernel_rfl) rfl rfl ⟨hx113_0, hx114_0⟩ (fun hHeld => ?_); refine with_tabW block_Words.tab10 block_Words.bits10 (fun HT_ HW_ => ?_)
                                  generalize wr.drew = w45 at HO_4 HB hx113_0 hx114_0 hHeld ⊢
                                  refine pure_ (i := 0) (N := some 50) (v := ?_) (a' := ?_) #[true, false, false, false, false, false, false, false, false, false, false, false] rfl rfl (any_of HT_.out (by kernel_rfl)) (fun _ _ _ h => h) (Or.inl ⟨by rfl, ?_⟩) ?_ ?_
                                  rotate_left
                                  · intro w'
                                    go_simp
                                    with_reducible rfl
                                  rotate_left
                                  · simp only [Act.put, List.setIfInBounds_toArray, List.set_cons_zero, List.set_cons_succ, i64_w, i32_w]
                                    rfl
                                  refine pure_ (i := 1) (N := some 51) (v := ?_) (a' := ?_) #[true, true, false, false, false, false, false, false, false, false, false, false] rfl rfl (any_of HT_.out (by kernel_rfl)) (fun _ _ _ h => h) (Or.inl ⟨by rfl, ?_⟩) ?_ ?_
                                  rotate_left
                                  · intro w'
                                    go_simp
                                    with_reducible rfl
                                  rotate_left
                                  · simp only [Act.put, List.setIfInBounds_toArray, List.set_cons_zero, List.set_cons_succ, i64_w, i32_w]
                                    rfl
                                  refine pure_ (i := 2) (N := some 52) (v := ?_) (a' := ?_) #[true, true, true, false, false, false, false, false, false, false, false, false] rfl rfl (any_of HT_.out (by kernel_rfl)) (fun _ _ _ h => h) (Or.inl ⟨by rfl, ?_⟩) ?_ ?_
                                  rotate_left
                                  · intro w'
                                    go_simp
                                    with_reducible rfl
                                  rotate_left
                                  · simp only [Act.put, List.setIfInBounds_toArray, List.set_cons_zero, List.set_cons_succ, i64_w, i32_w]
                                    rfl
                                  refine pure_ (i := 3) (N := some 53) (v := ?_) (a' := ?_) #[true, true, true, true, false, false, false, false, false, false, false, false] rfl rfl (any_of HT_.out (by kernel_rfl)) (fun _ _ _ h => h) (Or.inl ⟨by rfl, ?_⟩) ?_ ?_
                                  rotate_left
                                  · intro w'
                                    go_simp
                                    with_reducible rfl
                                  rotate_left
                                  · simp only [Act.put, List.setIfInBounds_toArray, List.set_cons_zero, List.set_cons_succ, i64_w, i32_w]
                                    rfl
                                  refine pure_ (i := 5) (N := some 55) (v := ?_) (a' := ?_) #[true, true, true, true, false, true, false, false, false, false, false, false] rfl rfl (any_of HT_.out (by kernel_rfl)) (fun _ _ _ h => h) (Or.inl ⟨by rfl, ?_⟩) ?_ ?_
                                  rotate_left
                                  · intro w'
                                    go_simp
                                    with_reducible rfl
                                  rotate_left
                                  · simp only [Act.put, List.setIfInBounds_toArray, List.set_cons_zero, List.set_cons_succ, i64_w, i32_w]
                                    rfl
                                  refine pure_ (i := 6) (N := some 56) (v := ?_) (a' := ?_) #[true, true, true, true, false, true, true, false, false, false, false, false] rfl rfl (any_of HT_.out (by kernel_rfl)) (fun _ _ _ h => h) (Or.inl ⟨by rfl, ?_⟩) ?_ ?_
                                  rotate_left
                                  · intro w'
                                    go_simp
                                    with_reducible rfl
                                  rotate_left
                                  · simp only [Act.put, List.setIfInBounds_toArray, List.set_cons_zero, List.set_cons_succ, i64_w, i32_w]
                                    rfl
                                  refine pure_ (i := 7) (N := some 57) (v := ?_) (a' := ?_) #[true, true, true, true, false, true, true, true, false, false, false, false] rfl rfl (any_of HT_.out (by kernel_rfl)) (fun _ _ _ h => h) (Or.inl ⟨by rfl, ?_⟩) ?_ ?_
                                  rotate_left
                                  · intro w'
                                    go_simp
                                    with_reducible rfl
                                  rotate_left
                                  · simp only [Act.put, List.setIfInBounds_toArray, List.set_cons_zero, List.set_cons_succ, i64_w, i32_w]
                                    rfl
                                  refine pure_ (i := 8) (N := some 58) (v := ?_) (a' := ?_) #[true, true, true, true, false, true, true, true, true, false, false, false] rfl rfl (any_of HT_.out (by kernel_rfl)) (fun _ _ _ h => h) (Or.inl ⟨by rfl, ?_⟩) ?_ ?_
                                  rotate_left
                                  · intro w'
                                    go_simp
                                    with_reducible rfl
                                  rotate_left
                                  · simp only [Act.put, List.setIfInBounds_toArray, List.set_cons_zero, List.set_cons_succ, i64_w, i32_w]
                                    rfl
                                  refine take_ (i := 4) (N := some 54) (v := ?_) (a' := ?_) #[true, true, true, true, true, true, true, true, true, false, false, false] rfl rfl (take_ofW HT_.out HW_.out (by kernel_rfl)) (fun _ _ _ h => h) (Or.inl ⟨by rfl, ?_⟩) hHeld ?_ ?_
                                  rotate_left
                                  · rintro w' ⟨s0, s1⟩
                                    go_simp
                                    with_reducible rfl
                                  rotate_left
                                  · simp only [Act.put, List.setIfInBounds_toArray, List.set_cons_zero, List.set_cons_succ, i64_w, i32_w]
                                    rfl
                                  refine pure_ (i := 10) (N := some 7) (v := ?_) (a' := ?_) #[true, true, true, true, true, true, true, true, true, false, true, false] rfl rfl (any_of HT_.out (by kernel_rfl)) (fun _ _ _ h => h) (Or.inl ⟨by rfl, ?_⟩) ?_ ?_
                                  rotate_left
                                  · intro w'
                                    go_simp
                                    with_reducible rfl
                                  rotate_left
                                  · simp only [Act.put, List.setIfInBounds_toArray, List.set_cons_zero, List.set_cons_succ, i64_w, i32_w]
                                    rfl
                                  refine take_ (i := 9) (N := some 59) (v := ?_) (a' := ?_) #[true, true, true, true, true, true, true, true, true, true, true, false] rfl rfl (take_ofW HT_.out HW_.out (by kernel_rfl)) (fun _ _ _ h => h) (Or.inl ⟨by rfl, ?_⟩) hHeld ?_ ?_
                                  rotate_left
                                  · rintro w' ⟨s0, s1⟩
                                    go_simp
                                    with_reducible rfl
                                  rotate_left
                                  · simp only [Act.put, List.setIfInBounds_toArray, List.set_cons_zero, List.set_cons_succ, i64_w, i32_w]
                                    rfl
                                  refine pure_ (i := 11) (N := some 8) (v := ?_) (a' := ?_) #[true, true, true, true, true, true, true, true, true, true, true, true] rfl rfl (any_of HT_.out (by kernel_rfl)) (fun _ _ _ h => h) (Or.inl ⟨by rfl, ?_⟩) ?_ ?_
                                  rotate_left
                                  · intro w'
                                    go_simp
                                    with_reducible rfl
                                  rotate_left
                                  · simp only [Act.put, List.setIfInBounds_toArray, List.set_cons_zero, List.set_cons_succ, i64_w, i32_w]
                                    rfl
                                  refine done_ (done_of HT_.out (by kernel_rfl)) ?_
                                  try go_wp2_with (first | ((with_reducible refine gate_callee (f := 123) rfl ?_); refine goesL_ (some 61) rfl rfl Tryd.func123 (by kernel_rfl) rfl #[.int .u32 (rd x4_1 (ji26)), .int .i64 7] rfl (by (try simp only [List.map_toArray, List.map_cons, List.map_nil]); first | done | (simp only [hji26]; rfl) | rfl | (simp only [List.length_drop, List.length_take]; rfl)) ?_; (with_reducible refine (block_right.calls (rd x4_1 (ji26)) 7 t115 _ A32.out).mono ?_); rintro e w' ⟨rfl, ⟨nd, rfl⟩⟩; refine ⟨_, rfl, ?_⟩; (try (rw [drewN_self w45]; generalize hq_ : World.drewN w45 _ = w45; have n0_ : Aside0 (Kd.R (Kd.int .u32) 94 w45 w.heap.size (fun _ => True) (.slice (some ad113) x4_1.length co6) x4_1) := ⟨by rw [← hq_]; exact (by (with_reducible repeat (first | apply Kd.R_alloc | apply Kd.R_drewN | apply Kd.R_drew)); exact HO_4.out)⟩; have n1_ : Aside0 (Below w.heap.size w w45) := ⟨by rw [← hq_]; exact (by repeat (first | (with_reducible first | exact HB.out | apply below_alloc | apply pw_below_drewN | apply below_drew1) | exact HB.out))⟩; clear HO_4 HB hq_; have HO_4 := n0_; have HB := n1_; clear n0_ n1_))) | ((with_reducible refine gate_callee (f := 123) rfl ?_); refine goesL_ (some 63) rfl rfl Tryd.func123 (by kernel_rfl) rfl #[.int .u32 (rd x4_1 (ji26)), .int .i64 18] rfl (by (try simp only [List.map_toArray, List.map_cons, List.map_nil]); first | done | (simp only [hji26]; rfl) | rfl | (simp only [List.length_drop, List.length_take]; rfl)) ?_; (with_reducible refine (block_right.calls (rd x4_1 (ji26)) 18 t116 _ A33.out).mono ?_); rintro e w' ⟨rfl, ⟨nd, rfl⟩⟩; refine ⟨_, rfl, ?_⟩; (try (rw [drewN_self w45]; generalize hq_ : World.drewN w45 _ = w45; have n0_ : Aside0 (Kd.R (Kd.int .u32) 94 w45 w.heap.size (fun _ => True) (.slice (some ad113) x4_1.length co6) x4_1) := ⟨by rw [← hq_]; exact (by (with_reducible repeat (first | apply Kd.R_alloc | apply Kd.R_drewN | apply Kd.R_drew)); exact HO_4.out)⟩; have n1_ : Aside0 (Below w.heap.size w w45) := ⟨by rw [← hq_]; exact (by repeat (first | (with_reducible first | exact HB.out | apply below_alloc | apply pw_below_drewN | apply below_drew1) | exact HB.out))⟩; clear HO_4 HB hq_; have HO_4 := n0_; have HB := n1_; clear n0_ n1_))) | ((with_reducible refine gate_callee (f := 123) rfl ?_); refine goesL_ (some 69) rfl rfl Tryd.func123 (by kernel_rfl) rfl #[.int .u32 (rd x4_1 (ji29)), .int .i64 17] rfl (by (try simp only [List.map_toArray, List.map_cons, List.map_nil]); first | done | (simp only [hji29]; rfl) | rfl | (simp only [List.length_drop, List.length_take]; rfl)) ?_; (with_reducible refine (block_right.calls (rd x4_1 (ji29)) 17 t117 _ A34.out).mono ?_); rintro e w' ⟨rfl, ⟨nd, rfl⟩⟩; refine ⟨_, rfl, ?_⟩; (try (rw [drewN_self w45]; generalize hq_ : World.drewN w45 _ = w45; have n0_ : Aside0 (Kd.R (Kd.int .u32) 94 w45 w.heap.size (fun _ => True) (.slice (some ad113) x4_1.length co6) x4_1) := ⟨by rw [← hq_]; exact (by (with_reducible repeat (first | apply Kd.R_alloc | apply Kd.R_drewN | apply Kd.R_drew)); exact HO_4.out)⟩; have n1_ : Aside0 (Below w.heap.size w w45) := ⟨by rw [← hq_]; exact (by repeat (first | (with_reducible first | exact HB.out | apply below_alloc | apply pw_below_drewN | apply below_drew1) | exact HB.out))⟩; clear HO_4 HB hq_; have HO_4 := n0_; have HB := n1_; clear n0_ n1_))) | ((with_reducible refine gate_callee (f := 123) rfl ?_); refine goesL_ (some 71) rfl rfl Tryd.func123 (by kernel_rfl) rfl #[.int .u32 (rd x4_1 (ji29)), .int .i64 19] rfl (by (try simp only [List.map_toArray, List.map_cons, List.map_nil]); first | done | (simp only [hji29]; rfl) | rfl | (simp only [List.length_drop, List.length_take]; rfl)) ?_; (with_reducible refine (block_right.calls (rd x4_1 (ji29)) 19 t118 _ A35.out).mono ?_); rintro e w' ⟨rfl, ⟨nd, rfl⟩⟩; refine ⟨_, rfl, ?_⟩; (try (rw [drewN_self w45]; generalize hq_ : World.drewN w45 _ = w45; have n0_ : Aside0 (Kd.R (Kd.int .u32) 94 w45 w.heap.size (fun _ => True) (.slice (some ad113) x4_1.length co6) x4_1) := ⟨by rw [← hq_]; exact (by (with_reducible repeat (first | apply Kd.R_alloc | apply Kd.R_drewN | apply Kd.R_drew)); exact HO_4.out)⟩; have n1_ : Aside0 (Below w.heap.size w w45) := ⟨by rw [← hq_]; exact (by repeat (first | (with_reducible first | exact HB.out | apply below_alloc | apply pw_below_drewN | apply below_drew1) | exact HB.out))⟩; clear HO_4 HB hq_; have HO_4 := n0_; have HB := n1_; clear n0_ n1_))))
                                  have n0_ := Aside0.mk (Kd.R_drew HO_4.out)
                                  have n1_ := Aside0.mk (below_drew1 HB.out)
                                  clear HO_4
                                  clear HB
                                  have HO_4 := n0_
                                  have HB := n1_
                                  clear n0_ n1_
                                  have p119 : 0 ≤ ((ji36) : Int) := of_decide_eq_true (by first | (with_reducible assumption) | assumption)
                                  have q119 : (ji36) < (x4_1.length : Int) := of_decide_eq_true (by first | (with_reducible assumption) | assumption)
                                  obtain ⟨ad119, e119, hx119_0⟩ := Kd.at_int (Kd.R_reads' HO_4.out).2.2 (ji36) p119 q119
                                  obtain rfl : ad113 = ad119 := (by injection e119)
                                  replace p119 := eq_true p119
                                  replace q119 := eq_true q119
                                  have p120 : 0 ≤ ((ji39) : Int) := of_decide_eq_true (by first | (with_reducible assumption) | assumption)
                                  have q120 : (ji39) < (x4_1.length : Int) := of_decide_eq_true (by first | (with_reducible assumption) | assumption)
                                  obtain ⟨ad120, e120, hx120_0⟩ := Kd.at_int (Kd.R_reads' HO_4.out).2.2 (ji39) p120 q120
                                  obtain rfl : ad113 = ad120 := (by injection e120)
                                  replace p120 := eq_true p120
                                  replace q120 := eq_true q120
                                  have p44 : 0 ≤ (x17_1 : Int) := of_decide_eq_true (by first | (with_reducible assumption) | assumption)
                                  have q44 : (x17_1 : Int) < ((x4_1.length : Int) : Int) := of_decide_eq_true (by first | (with_reducible assumption) | assumption)
                                  obtain ⟨go44, co44, eo44, gb44, gl44, cl44, HG44⟩ := Kd.R_form HO_4.out (by omega)
                                  (first | cases eo44 | (injection eo44 with ea_ en_ ec_; (first | subst ea_ | (injection ea_ with ea_; subst ea_)); subst ec_; clear en_))
                                  have GB44 := Aside0.mk gb44
                                  have GG44 := Aside0.mk HG44
                                  clear gb44 gl44 HG44
                                  (first | simp only [add_plain] at hx113_0 | skip)
                                  (first | simp only [add_plain] at hx114_0 | skip)
                                  (first | simp only [add_plain] at hx119_0 | skip)
                                  (first | simp only [add_plain] at hx120_0 | skip)
                                  obtain ⟨hx44_0, hf44_0⟩ := Kd.R_celln 0 HO_4.out (x17_1 : Int) p44 q44
                                  replace p44 := eq_true p44
                                  replace q44 := eq_true q44
                                  have HP47 := Kd.R_putn HO_4.out (x17_1 : Int) (((((((rd x4_1 (ji36)) + (Go.bits .xor .u32 (Go.bits .xor .u32 t115 t116) ((rd x4_1 (ji26)) / 8))) % 4294967296) + (rd x4_1 (ji39))) % 4294967296) + (Go.bits .xor .u32 (Go.bits .xor .u32 t117 t118) ((rd x4_1 (ji29)) / 1024))) % 4294967296)
                                  rw [← Ny121.out] at HP47
                                  have HQ47 := Aside0.mk HP47
                                  clear HP47
                                  refine start_ (n := 19) (S := fun w' => w'.cell? ⟨go44, ((ji36)).toNat, none⟩ = some (.int .u32 (rd x4_1 (ji36))) ∧ w'.cell? ⟨go44, ((ji39)).toNat, none⟩ = some (.int .u32 (rd x4_1 (ji39)))) (ds := [18]) #[false, false, false, false, false, false, false, false, false, false, false, false, false, false, false, false, false, false, false] (by kernel_rfl) rfl rfl ⟨hx119_0, hx120_0⟩ (fun hHeld => ?_); refine with_tabW block_Words.tab13 block_Words.bits13 (fun HT_ HW_ => ?_)
                                  generalize w45.drew = w46 at HO_4 HB GG44 HQ47 hf44_0 hx113_0 hx114_0 hx119_0 hx120_0 hx44_0 hHeld ⊢
                                  refine pure_ (i := 0) (N := some 76) (v := ?_) (a' := ?_) #[true, false, false, false, false, false, false, false, false, false, false, false, false, false, false, false, false, false, false] rfl rfl (any_of HT_.out (by kernel_rfl)) (fun _ _ _ h => h) (Or.inl ⟨by rfl, ?_⟩) ?_ ?_
                                  rotate_left
                                  · intro w'
                                    go_simp
                                    with_reducible rfl
                                  rotate_left
                                  · simp only [Act.put, List.setIfInBounds_toArray, List.set_cons_zero, List.set_cons_succ, i64_w, i32_w]
                                    rfl
                                  refine pure_ (i := 1) (N := some 77) (v := ?_) (a' := ?_) #[true, true, false, false, false, false, false, false, false, false, false, false, false, false, false, false, false, false, false] rfl rfl (any_of HT_.out (by kernel_rfl)) (fun _ _ _ h => h) (Or.inl ⟨by rfl, ?_⟩) ?_ ?_
                                  rotate_left
                                  · intro w'
                                    go_simp
                                    with_reducible rfl
                                  rotate_left
                                  · simp only [Act.put, List.setIfInBounds_toArray, List.set_cons_zero, List.set_cons_succ, i64_w, i32_w]
                                    rfl
                                  refine pure_ (i := 2) (N := some 78) (v := ?_) (a' := ?_) #[true, true, true, false, false, false, false, false, false, false, false, false, false, false, false, false, false, false, false] rfl rfl (any_of HT_.out (by kernel_rfl)) (fun _ _ _ h => h) (Or.inl ⟨by rfl, ?_⟩) ?_ ?_
                                  rotate_left
                                  · intro w'
                                    go_simp
                                    with_reducible rfl
                                  rotate_left
                                  · simp only [Act.put, List.setIfInBounds_toArray, List.set_cons_zero, List.set_cons_succ, i64_w, i32_w]
                                    rfl
                                  refine pure_ (i := 3) (N := some 79) (v := ?_) (a' := ?_) #[true, true, true, true, false, false, false, false, false, false, false, false, false, false, false, false, false, false, false] rfl rfl (any_of HT_.out (by kernel_rfl)) (fun _ _ _ h => h) (Or.inl ⟨by rfl, ?_⟩) ?_ ?_
                                  rotate_left
                                  · intro w'
                                    go_simp
                                    with_reducible rfl
                                  rotate_left
                                  · simp only [Act.put, List.setIfInBounds_toArray, List.set_cons_zero, List.set_cons_succ, i64_w, i32_w]
                                    rfl
                                  refine pure_ (i := 4) (N := some 80) (v := ?_) (a' := ?_) #[true, true, true, true, true, false, false, false, false, false, false, false, false, false, false, false, false, false, false] rfl rfl (any_of HT_.out (by kernel_rfl)) (fun _ _ _ h => h) (Or.inl ⟨by rfl, ?_⟩) ?_ ?_
                                  rotate_left
                                  · intro w'
                                    go_simp
                                    with_reducible rfl
                                  rotate_left
                                  · simp only [Act.put, List.setIfInBounds_toArray, List.set_cons_zero, List.set_cons_succ, i64_w, i32_w]
                                    rfl
                                  refine pure_ (i := 5) (N := some 81) (v := ?_) (a' := ?_) #[true, true, true, true, true, true, false, false, false, false, false, false, false, false, false, false, false, false, false] rfl rfl (any_of HT_.out (by kernel_rfl)) (fun _ _ _ h => h) (Or.inl ⟨by rfl, ?_⟩) ?_ ?_
                                  rotate_left
                                  · intro w'
                                    go_simp
                                    with_reducible rfl
                                  rotate_left
                                  · simp only [Act.put, List.setIfInBounds_toArray, List.set_cons_zero, List.set_cons_succ, i64_w, i32_w]
                                    rfl
                                  refine pure_ (i := 7) (N := some 83) (v := ?_) (a' := ?_) #[true, true, true, true, true, true, false, true, false, false, false, false, false, false, false, false, false, false, false] rfl rfl (any_of HT_.out (by kernel_rfl)) (fun _ _ _ h => h) (Or.inl ⟨by rfl, ?_⟩) ?_ ?_
                                  rotate_left
                                  · intro w'
                                    go_simp
                                    with_reducible rfl
                                  rotate_left
                                  · simp only [Act.put, List.setIfInBounds_toArray, List.set_cons_zero, List.set_cons_succ, i64_w, i32_w]
                                    rfl
                                  refine pure_ (i := 9) (N := some 85) (v := ?_) (a' := ?_) #[true, true, true, true, true, true, false, true, false, true, false, false, false, false, false, false, false, false, false] rfl rfl (any_of HT_.out (by kernel_rfl)) (fun _ _ _ h => h) (Or.inl ⟨by rfl, ?_⟩) ?_ ?_
                                  rotate_left
                                  · intro w'
                                    go_simp
                                    with_reducible rfl
                                  rotate_left
                                  · simp only [Act.put, List.setIfInBounds_toArray, List.set_cons_zero, List.set_cons_succ, i64_w, i32_w]
                                    rfl
                                  refine pure_ (i := 10) (N := some 86) (v := ?_) (a' := ?_) #[true, true, true, true, true, true, false, true, false, true, true, false, false, false, false, false, false, false, false] rfl rfl (any_of HT_.out (by kernel_rfl)) (fun _ _ _ h => h) (Or.inl ⟨by rfl, ?_⟩) ?_ ?_
                                  rotate_left
                                  · intro w'
                                    go_simp
                                    with_reducible rfl
                                  rotate_left
                                  · simp only [Act.put, List.setIfInBounds_toArray, List.set_cons_zero, List.set_cons_succ, i64_w, i32_w]
                                    rfl
                                  refine pure_ (i := 11) (N := some 87) (v := ?_) (a' := ?_) #[true, true, true, true, true, true, false, true, false, true, true, true, false, false, false, false, false, false, false] rfl rfl (any_of HT_.out (by kernel_rfl)) (fun _ _ _ h => h) (Or.inl ⟨by rfl, ?_⟩) ?_ ?_
                                  rotate_left
                                  · intro w'
                                    go_simp
                                    with_reducible rfl
                                  rotate_left
                                  · simp only [Act.put, List.setIfInBounds_toArray, List.set_cons_zero, List.set_cons_succ, i64_w, i32_w]
                                    rfl
                                  refine pure_ (i := 12) (N := some 88) (v := ?_) (a' := ?_) #[true, true, true, true, true, true, false, true, false, true, true, true, true, false, false, false, false, false, false] rfl rfl (any_of HT_.out (by kernel_rfl)) (fun _ _ _ h => h) (Or.inl ⟨by rfl, ?_⟩) ?_ ?_
                                  rotate_left
                                  · intro w'
                                    go_simp
                                    with_reducible rfl
                                  rotate_left
                                  · simp only [Act.put, List.setIfInBounds_toArray, List.set_cons_zero, List.set_cons_succ, i64_w, i32_w]
                                    rfl
                                  refine pure_ (i := 15) (N := some 91) (v := ?_) (a' := ?_) #[true, true, true, true, true, true, false, true, false, true, true, true, true, false, false, true, false, false, false] rfl rfl (any_of HT_.out (by kernel_rfl)) (fun _ _ _ h => h) (Or.inl ⟨by rfl, ?_⟩) ?_ ?_
                                  rotate_left
                                  · intro w'
                                    go_simp
                                    with_reducible rfl
                                  rotate_left
                                  · simp only [Act.put, List.setIfInBounds_toArray, List.set_cons_zero, List.set_cons_succ, i64_w, i32_w]
                                    rfl
                                  refine take_ (i := 6) (N := some 82) (v := ?_) (a' := ?_) #[true, true, true, true, true, true, true, true, false, true, true, true, true, false, false, true, false, false, false] rfl rfl (take_ofW HT_.out HW_.out (by kernel_rfl)) (fun _ _ _ h => h) (Or.inl ⟨by rfl, ?_⟩) hHeld ?_ ?_
                                  rotate_left
                                  · rintro w' ⟨s0, s1⟩
                                    go_simp
                                    with_reducible rfl
                                  rotate_left
                                  · simp only [Act.put, List.setIfInBounds_toArray, List.set_cons_zero, List.set_cons_succ, i64_w, i32_w]
                                    rfl
                                  refine pure_ (i := 8) (N := some 84) (v := ?_) (a' := ?_) #[true, true, true, true, true, true, true, true, true, true, true, true, true, false, false, true, false, false, false] rfl rfl (any_of HT_.out (by kernel_rfl)) (fun _ _ _ h => h) (Or.inl ⟨by rfl, ?_⟩) ?_ ?_
                                  rotate_left
                                  · intro w'
                                    go_simp
                                    with_reducible rfl
                                  rotate_left
                                  · simp only [Act.put, List.setIfInBounds_toArray, List.set_cons_zero, List.set_cons_succ, i64_w, i32_w]
                                    rfl
                                  refine take_ (i := 13) (N := some 89) (v := ?_) (a' := ?_) #[true, true, true, true, true, true, true, true, true, true, true, true, true, true, false, true, false, false, false] rfl rfl (take_ofW HT_.out HW_.out (by kernel_rfl)) (fun _ _ _ h => h) (Or.inl ⟨by rfl, ?_⟩) hHeld ?_ ?_
                                  rotate_left
                                  · rintro w' ⟨s0, s1⟩
                                    go_simp
                                    with_reducible rfl
                                  rotate_left
                                  · simp only [Act.put, List.setIfInBounds_toArray, List.set_cons_zero, List.set_cons_succ, i64_w, i32_w]
                                    rfl
                                  refine pure_ (i := 14) (N := some 90) (v := ?_) (a' := ?_) #[true, true, true, true, true, true, true, true, true, true, true, true, true, true, true, true, false, false, false] rfl rfl (any_of HT_.out (by kernel_rfl)) (fun _ _ _ h => h) (Or.inl ⟨by rfl, ?_⟩) ?_ ?_
                                  rotate_left
                                  · intro w'
                                    go_simp
                                    with_reducible rfl
                                  rotate_left
                                  · simp only [Act.put, List.setIfInBounds_toArray, List.set_cons_zero, List.set_cons_succ, i64_w, i32_w]
                                    rfl
                                  refine pure_ (i := 16) (N := some 92) (v := ?_) (a' := ?_) #[true, true, true, true, true, true, true, true, true, true, true, true, true, true, true, true, true, false, false] rfl rfl (any_of HT_.out (by kernel_rfl)) (fun _ _ _ h => h) (Or.inl ⟨by rfl, ?_⟩) ?_ ?_
                                  rotate_left
                                  · intro w'
                                    go_simp
                                    with_reducible rfl
                                  rotate_left
                                  · simp only [Act.put, List.setIfInBounds_toArray, List.set_cons_zero, List.set_cons_succ, i64_w, i32_w]
                                    rfl
                                  refine pure_ (i := 17) (N := some 93) (v := ?_) (a' := ?_) #[true, true, true, true, true, true, true, true, true, true, true, true, true, true, true, true, true, true, false] rfl rfl (any_of HT_.out (by kernel_rfl)) (fun _ _ _ h => h) (Or.inl ⟨by rfl, ?_⟩) ?_ ?_
                                  rotate_left
                                  · intro w'
                                    go_simp
                                    with_reducible rfl
                                  rotate_left
                                  · simp only [Act.put, List.setIfInBounds_toArray, List.set_cons_zero, List.set_cons_succ, i64_w, i32_w]
                                    rfl
                                  refine last_ (i := 18) (N := none) #[true, true, true, true, true, true, true, true, true, true, true, true, true, true, true, true, true, true, true] rfl rfl (one_of HT_.out (by kernel_rfl)) (by decide) (fun K hK => ?_)
                                  refine skip_ (w1 := ?_) (by rfl) rfl ?_ ?_
                                  rotate_left
                                  · go_simp
                                    rfl
                                  refine hK.out _ _ ?_
                                  clear hK K
                                  refine done_ (done_of HT_.out (by kernel_rfl)) ?_
                                  try go_wp2
                                  (try simp only [← hl4_1])
                                  go_roundg k1
                                  case measure => have := HK1.out; omega
                                  case rel => exact ⟨(y121), (wrap64 (x17_1 + 1)), (by first | rfl | (simp; done) | (simp [*]; done)), H', ⟨by have := HK1.out; omega⟩, ⟨by (try simp only [hl4_1]); (with_reducible repeat (first | apply Kd.R_alloc | apply Kd.R_drewN | apply Kd.R_drew)); (first | exact HQ47.out | (have z_ := HQ47.out; simp only [Int.emod_add_emod, Int.add_emod_emod] at z_ ⊢; exact z_))⟩, ⟨by repeat (first | (with_reducible first | exact HB.out | apply below_alloc | apply pw_below_drewN | apply below_drew1 | refine below_set ?_ GB44.out) | exact HB.out)⟩⟩
                                · rw [if_neg c43] at H
                                  exact absurd H (by simp)
                              · rw [if_neg c42] at H
                                exact absurd H (by simp)
                            · rw [if_neg c41] at H
                              exact absurd H (by simp)
                          · rw [if_neg c40] at H
                            exact absurd H (by simp)
                        · rw [if_neg c38] at H
                          exact absurd H (by simp)
                      · rw [if_neg c37] at H
                        exact absurd H (by simp)
                    · rw [if_neg c31] at H
                      exact absurd H (by simp)
                  · rw [if_neg c30] at H
                    exact absurd H (by simp)
                · rw [if_neg c28] at H
                  exact absurd H (by simp)
              · rw [if_neg c27] at H
                exact absurd H (by simp)
          · rw [if_neg c7] at H
            have c7b0 : decide (x17_1 < (y109.length : Int)) = false := decide_eq_false c7
            (try (have c7b0x := c7b0; simp only [hl4_1] at c7b0x))
            clear c7
            simp only [Option.some.injEq, Prod.mk.injEq] at H
            obtain ⟨rfl, rfl⟩ := H
            go_wp2
            go_ret2
            exact ⟨_, by first | rfl | (simp [errW_none, errW_some] <;> rfl) | (simp [*, errW_none, errW_some] <;> rfl), by (with_reducible repeat (first | apply Kd.R_alloc | apply Kd.R_drewN | apply Kd.R_drew)); exact HO_4.out, by repeat (first | (with_reducible first | exact HB.out | apply below_alloc | apply pw_below_drewN | apply below_drew1) | exact HB.out)⟩
    · rw [if_neg c3] at H
      exact absurd H (by simp)
  · rw [if_neg c2] at H
    have c2b0 : ((a0.size : Int) == 64) = false := beq_eq_false_iff_ne.mpr c2
    have c2b1 : ((a0.size : Int) != 64) = true := bne_iff_ne.mpr c2
    simp only [Option.some.injEq, Prod.mk.injEq] at H
    obtain ⟨rfl, rfl⟩ := H
    go_enter Tryd.func114, Tryd.ntmps114
    go_wp2
    go_ret2
    exact ⟨_, by first | rfl | (simp [errW_none, errW_some] <;> rfl) | (simp [*, errW_none, errW_some] <;> rfl), by first | exact Kd.R_nil _ _ _ _ _ | exact Kd.N_nil _ _ _ _ _ | exact Kd.V_nil _ _ _ _ _ | exact Kd.Q_nil _ _ _ _ _ | exact Kd.S_nil _ _ _ _ _, by repeat (first | (with_reducible first | exact HB.out | apply below_alloc | apply pw_below_drewN | apply below_drew1) | exact HB.out)⟩

end Go.Proofs.YtomninikmcmmcaaDoor.PBw
end
section
-- Printed by this session's own program (wip/xprint.py) out of the translation. Lean checks it.
namespace Go.Proofs.YtomninikmcmmcaaDoor.PBw
open Go.RowKit Go.Proofs.YtomninikmcmmcaaDoorW.PrintWords Go.Proofs.YtomninikmcmmcaaDoorW.PrintLast Go.Proofs.YtomninikmcmmcaaDoorW.PrintMore
attribute [local go_sem] max2_int min2_int max_two min_two max_three min_three max_four min_four   -- for this text's walks alone
set_option linter.unusedVariables false
set_option linter.unusedSimpArgs false

end Go.Proofs.YtomninikmcmmcaaDoor.PBw
end
