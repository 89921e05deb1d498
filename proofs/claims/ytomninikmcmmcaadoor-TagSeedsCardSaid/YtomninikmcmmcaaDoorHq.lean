/- Texts of this session, put together: PHsx0, PHsx1, PHsx, HmacN, HmacM. -/
import Derived.Test.YtomninikmcmmcaaDoorProg
import Derived.Below
import Derived.Deep.Draws
import Derived.Deep.AppendLies
import Derived.Maps.AppendAt
import Derived.OwnWalk
import Derived.Laws.BytesArg
import Derived.Laws.MakeOwn
import Derived.Laws.OwnMore
import Derived.Deep.OwnRows
import Derived.Tactics
import Derived.Lib.ConvBytes
import Derived.Laws.Slices
import Derived.WalkKit
import Derived.KernelRfl
import Derived.RowKit3
import Derived.Deep.LoopGhost
import Derived.Deep.QuietTactic
import Derived.BigQuiet
import Derived.WideLaws
import Derived.Deep.DeepCutAuto
import Derived.Deep.CutBlock
import Derived.Deep.RegionHeld3
import Derived.Laws.Rows
import Derived.Lib.AppendStr
import Derived.ArgAppend
import Derived.Laws.IdiomCopy
import Derived.OrdersHeld
import Derived.Laws.BitsLemmas
import Derived.RowKit
import Derived.Test.YtomninikmcmmcaaDoorGivA
import Derived.Test.YtomninikmcmmcaaDoorHm
import Derived.Test.YtomninikmcmmcaaDoorPBwA
import Derived.Test.YtomninikmcmmcaaDoorWWords
import Derived.Test.YtomninikmcmmcaaDoorWLast
import Derived.Test.YtomninikmcmmcaaDoorWTab
import Derived.Test.YtomninikmcmmcaaDoorWQPut
import Derived.Test.YtomninikmcmmcaaDoorWApart
import Derived.Test.YtomninikmcmmcaaDoorWArr
import Derived.Test.YtomninikmcmmcaaDoorWZeros
import Derived.Test.YtomninikmcmmcaaDoorWFoot
import Derived.Test.YtomninikmcmmcaaDoorWKept
import Derived.Test.YtomninikmcmmcaaDoorWShare
import Derived.Test.YtomninikmcmmcaaDoorWN
import Derived.Test.YtomninikmcmmcaaDoorWEqStruct
import Derived.Test.YtomninikmcmmcaaDoorWRepsOne
import Derived.Test.YtomninikmcmmcaaDoorWGuard
import Derived.Test.YtomninikmcmmcaaDoorWNEv
import Derived.Test.YtomninikmcmmcaaDoorWMore
import Derived.Test.YtomninikmcmmcaaDoorMark
section
-- Printed by this session's own program (wip/xprint.py) out of the translation. Lean checks it.
namespace Go.Proofs.YtomninikmcmmcaaDoor.PHs
open Go.RowKit Go.Proofs.YtomninikmcmmcaaDoorW.PrintWords Go.Proofs.YtomninikmcmmcaaDoorW.PrintLast Go.Proofs.YtomninikmcmmcaaDoorW.PrintMore Go.Proofs.YtomninikmcmmcaaDoor.GivH Go.Proofs.YtomninikmcmmcaaDoor.PBw
attribute [local go_sem] max2_int min2_int max_two min_two max_three min_three max_four min_four   -- for this text's walks alone
set_option linter.unusedVariables false
set_option linter.unusedSimpArgs false



end Go.Proofs.YtomninikmcmmcaaDoor.PHs
end
section
-- Printed by this session's own program (wip/xprint.py) out of the translation. Lean checks it.
namespace Go.Proofs.YtomninikmcmmcaaDoor.PHs
open Go.RowKit Go.Proofs.YtomninikmcmmcaaDoorW.PrintWords Go.Proofs.YtomninikmcmmcaaDoorW.PrintLast Go.Proofs.YtomninikmcmmcaaDoorW.PrintMore Go.Proofs.YtomninikmcmmcaaDoor.GivH Go.Proofs.YtomninikmcmmcaaDoor.PBw
attribute [local go_sem] max2_int min2_int max_two min_two max_three min_three max_four min_four   -- for this text's walks alone
set_option linter.unusedVariables false
set_option linter.unusedSimpArgs false

-- GIVEN: function 34 (hmac_Sum)

/-! ### hmac_First: function 37 -/
def hmac_First.f (a0 : ByteArray) (a1 : ByteArray) (a2 : Int) : Option (ByteArray) := (hmac_Sum.f a0 a1).bind fun t101 => (if 0 ≤ (mn (mx a2 0) (t101.size : Int)) then (if (mn (mx a2 0) (t101.size : Int)) ≤ (t101.size : Int) then (some (t101.extract 0 ((mn (mx a2 0) (t101.size : Int)) : Int).toNat)) else (none)) else (none))
set_option maxHeartbeats 8000000 in
set_option maxRecDepth 100000 in
theorem hmac_First.calls (a0 : ByteArray) (a1 : ByteArray) (a2 : Int) (r : ByteArray) (w : World) (hT : GivA.Tab w) (h : hmac_First.f a0 a1 a2 = some r) :
    Calls Tryd.prog 37 #[.string a0, .string a1, .int .i64 a2] w fun e w' => e = .returned (.string r) ∧ Below w.heap.size w w' := by
  have HT := Aside0.mk hT
  clear hT
  have HB := Aside0.mk (Below.refl w.heap.size w)
  have H : ((hmac_Sum.f a0 a1).bind fun t101 => (if 0 ≤ (mn (mx a2 0) (t101.size : Int)) then (if (mn (mx a2 0) (t101.size : Int)) ≤ (t101.size : Int) then (some (t101.extract 0 ((mn (mx a2 0) (t101.size : Int)) : Int).toNat)) else (none)) else (none))) = some r := h
  clear h
  replace H := Option.bind_eq_some_iff.mp H
  obtain ⟨t101, A40, H⟩ := H
  replace H : (if 0 ≤ (mn (mx a2 0) (t101.size : Int)) then (if (mn (mx a2 0) (t101.size : Int)) ≤ (t101.size : Int) then (some (t101.extract 0 ((mn (mx a2 0) (t101.size : Int)) : Int).toNat)) else (none)) else (none)) = some r := H
  have A4 := Aside0.mk A40
  clear A40
  obtain ⟨ji5, hji5⟩ : ∃ j_ : Int, (mx a2 0) = j_ := ⟨_, rfl⟩
  replace H : (if 0 ≤ (mn (ji5) (t101.size : Int)) then (if (mn (ji5) (t101.size : Int)) ≤ (t101.size : Int) then (some (t101.extract 0 ((mn (ji5) (t101.size : Int)) : Int).toNat)) else (none)) else (none)) = some r := by first | (rw [hji5] at H; exact H) | (simp only [hji5] at H ⊢; exact H)
  (try rw [hji5] at A4)
  (try (have hji5l : 0 ≤ ji5 := by (rw [← hji5]; unfold mx; (repeat' split) <;> omega)))
  (try (have hji5m : 0 ≤ ji5 := by omega))
  have hji5_ : (if a2 < 0 then 0 else a2) = ji5 := hji5
  obtain ⟨ji6, hji6⟩ : ∃ j_ : Int, (mn (ji5) (t101.size : Int)) = j_ := ⟨_, rfl⟩
  replace H : (if 0 ≤ (ji6) then (if (ji6) ≤ (t101.size : Int) then (some (t101.extract 0 ((ji6) : Int).toNat)) else (none)) else (none)) = some r := by first | (rw [hji6] at H; exact H) | (simp only [hji6] at H ⊢; exact H)
  (try rw [hji6] at A4)
  have hji6_ : (if (t101.size : Int) < (ji5) then (t101.size : Int) else (ji5)) = ji6 := hji6
  by_cases c7 : 0 ≤ (ji6)
  · rw [if_pos c7] at H
    have c7b0 := eq_true c7
    have c7b1 : decide (0 ≤ (ji6)) = true := decide_eq_true c7
    clear c7
    by_cases c8 : (ji6) ≤ (t101.size : Int)
    · rw [if_pos c8] at H
      have c8b0 := eq_true c8
      have c8b1 : decide ((ji6) ≤ (t101.size : Int)) = true := decide_eq_true c8
      clear c8
      obtain rfl := Option.some.inj H
      go_enter Tryd.func37, Tryd.ntmps37
      go_wp2_with (first | ((with_reducible refine gate_callee (f := 34) rfl ?_); refine goesL_ (some 10) rfl rfl Tryd.func34 (by kernel_rfl) rfl #[.string a0, .string a1] rfl (by (try simp only [List.map_toArray, List.map_cons, List.map_nil]); first | done | rfl | (simp only [List.length_drop, List.length_take]; rfl)) ?_; (with_reducible refine (hmac_Sum.calls a0 a1 t101 _ ?side1 A4.out).mono ?_); (case side1 => exact (GivA.Tab.keep HT.out (by repeat (first | (with_reducible first | exact HB.out | apply below_alloc | apply pw_below_drewN | apply below_drew1) | exact HB.out)))); rintro e w9 ⟨rfl, hb⟩; refine ⟨_, rfl, ?_⟩; have n0_ := Aside0.mk (below_step (by repeat (first | (with_reducible first | exact HB.out | apply below_alloc | apply pw_below_drewN | apply below_drew1) | exact HB.out)) hb); clear HB; have HB := n0_; clear n0_; (try clear hb); (try clear hb2); (try clear hk); (try clear hi)))
      go_ret
      exact ⟨by first | rfl | (simp [errW_none, errW_some] <;> rfl) | (simp only [← hji5, ← hji6]; first | rfl | (simp [errW_none, errW_some] <;> rfl)) | (simp [*, errW_none, errW_some] <;> rfl), by repeat (first | (with_reducible first | exact HB.out | apply below_alloc | apply pw_below_drewN | apply below_drew1) | exact HB.out)⟩
    · rw [if_neg c8] at H
      exact absurd H (by simp)
  · rw [if_neg c7] at H
    exact absurd H (by simp)

end Go.Proofs.YtomninikmcmmcaaDoor.PHs
end
section
-- Printed by this session's own program (wip/xprint.py) out of the translation. Lean checks it.
namespace Go.Proofs.YtomninikmcmmcaaDoor.PHs
open Go.RowKit Go.Proofs.YtomninikmcmmcaaDoorW.PrintWords Go.Proofs.YtomninikmcmmcaaDoorW.PrintLast Go.Proofs.YtomninikmcmmcaaDoorW.PrintMore
attribute [local go_sem] max2_int min2_int max_two min_two max_three min_three max_four min_four   -- for this text's walks alone
set_option linter.unusedVariables false
set_option linter.unusedSimpArgs false

end Go.Proofs.YtomninikmcmmcaaDoor.PHs
end
section
/- A mac's number. -/
namespace Go.Proofs.YtomninikmcmmcaaDoor.Sha
open Go Go.RowKit Go.Proofs.YtomninikmcmmcaaDoor.Mark Go.Proofs.YtomninikmcmmcaaDoorW.PrintWords Go.Proofs.Sp Go.Proofs.YtomninikmcmmcaaDoor.Blk Go.Proofs.YtomninikmcmmcaaDoor.GivA
set_option linter.unusedVariables false
set_option linter.unusedSimpArgs false
theorem wrapU {n : Int} (h0 : 0 ≤ n) (h1 : n < 18446744073709551616) : IntKind.u64.wrap n = n := by
  simp [IntKind.wrap, IntKind.bits, IntKind.signed]; omega
theorem or_byte (x b : Nat) (hx : x < 72057594037927936) (hb : b < 256) : Go.bits .or .u64 (IntKind.u64.wrap ((x : Int) * 256)) (IntKind.u64.wrap (b : Int)) = ((x * 256 + b : Nat) : Int) := by
  rw [wrapU (by omega) (by omega), wrapU (by omega) (by omega), bits_join .u64 64 (by decide) (fun n h0 h1 => wrapU h0 (by omega)) 8 _ _ (by omega) (by omega) (by omega) (by omega) (by omega) (by omega)]
  omega
def num8 (l : List UInt8) : Nat := l.foldl (fun n c => n * 256 + c.toNat) 0
theorem num8_snoc (l : List UInt8) (c : UInt8) : num8 (l ++ [c]) = num8 l * 256 + c.toNat := by simp [num8]
theorem num8_lt : ∀ (l : List UInt8), num8 l < 256 ^ l.length := by
  intro l
  have h : ∀ (r : List UInt8), num8 r.reverse < 256 ^ r.length := by
    intro r
    induction r with
    | nil => simp [num8]
    | cons c r ih =>
      rw [List.reverse_cons, num8_snoc, List.length_cons, Nat.pow_succ]
      have := c.toNat_lt
      omega
  have := h l.reverse
  rwa [List.reverse_reverse, List.length_reverse] at this
end Go.Proofs.YtomninikmcmmcaaDoor.Sha
end
section
/- A mac's number: contract; the reference's block and the number as given functions. -/
namespace Go.Proofs.YtomninikmcmmcaaDoor.Sha
open Go Go.RowKit Go.Proofs.YtomninikmcmmcaaDoor.Mark Go.Proofs.YtomninikmcmmcaaDoorW.PrintWords Go.Proofs.Sp Go.Proofs.YtomninikmcmmcaaDoor.Blk Go.Proofs.YtomninikmcmmcaaDoor.GivA
set_option linter.unusedVariables false
set_option linter.unusedSimpArgs false
def mac8 (key m : ByteArray) : List UInt8 := (mac key m).data.toList.take 8
theorem mac8_length (key m : ByteArray) : (mac8 key m).length = 8 := by
  have h : (mac key m).data.toList.length = 32 := by rw [data_size]; rfl
  unfold mac8
  rw [List.length_take, h]
  rfl
def firstB (key m : ByteArray) (n : Int) : ByteArray := (mac key m).extract 0 (min (max n 0) 32).toNat
theorem mac_size (key m : ByteArray) : (mac key m).size = 32 := rfl
theorem first_some (key m : ByteArray) (n : Int) (hk : key.size ≤ 1073741824) (hs : m.size ≤ 1073741824) : PHs.hmac_First.f key m n = some (firstB key m n) := by
  unfold PHs.hmac_First.f GivH.hmac_Sum.f GivH.big firstB
  rw [decide_eq_true hk, decide_eq_true hs]
  simp only [if_true, Option.bind_some]
  have hz := mac_size key m
  generalize mac key m = d at *
  have e : mn (mx n 0) (d.size : Int) = min (max n 0) 32 := by rw [hz]; unfold mn mx; omega
  rw [e, if_pos (by omega), if_pos (by omega)]
theorem first8_eq (key m : ByteArray) : firstB key m 8 = ⟨(mac8 key m).toArray⟩ := by
  apply ext_list
  unfold firstB mac8
  rw [extract_list]
  rfl
theorem first8_calls (key m : ByteArray) (w : World) (hT : Tab w) (hk : key.size ≤ 1073741824) (hs : m.size ≤ 1073741824) :
    Calls Tryd.prog 37 #[.string key, .string m, .int .i64 8] w fun e w' => e = .returned (.string ⟨(mac8 key m).toArray⟩) ∧ Below w.heap.size w w' :=
  PHs.hmac_First.calls key m 8 _ w hT (by rw [first_some key m 8 hk hs, first8_eq])
set_option maxHeartbeats 2000000 in
set_option maxRecDepth 100000 in
theorem number_calls (key m : ByteArray) (w : World) (hT : Tab w) (hk : key.size ≤ 1073741824) (hs : m.size ≤ 1073741824) :
    Calls Tryd.prog 39 #[.string key, .string m] w fun e w' => e = .returned (.int .u64 (num8 (mac8 key m) : Nat)) ∧ Below w.heap.size w w' := by
  have HF := Aside0.mk (first8_calls key m w hT hk hs)
  have hl := mac8_length key m
  generalize mac8 key m = l at *
  have hsz : (⟨l.toArray⟩ : ByteArray).size = 8 := by show l.toArray.size = 8; simpa using hl
  have HL := Aside0.mk (show (⟨l.toArray⟩ : ByteArray).data.toList = l from by simp)
  generalize (⟨l.toArray⟩ : ByteArray) = s at *
  have hcv := fun w => run_bytes_of_string (P := Tryd.prog) w 9 65 5 s Tryd.underlying9 Tryd.underlying65 Tryd.underlying5
  clear hT hl
  go_enter Tryd.func39, Tryd.ntmps39
  go_wp2_with fail
  refine HF.out.mono ?_
  rintro e w1 ⟨rfl, hb1⟩
  have G0 := Aside0.mk (XRow.start s 0 w1 (grownCap w1 s.size 0 5))
  have B0 := Aside0.mk (hb1.trans (show Below w.heap.size w1 ((w1.alloc (.cells (bytesRow s (grownCap w1 s.size 0 5)) 5 ((bytesRow s (grownCap w1 s.size 0 5)).size, (bytesRow s (grownCap w1 s.size 0 5)).size + 1))).drew) from ((((Below.refl _ _).alloc (Nat.le_refl _) _).drew).mono hb1.size)))
  clear hb1
  go_wp2_with fail
  clear hcv
  rw [hsz] at G0 B0
  have HZ := Aside0.mk hsz
  clear hsz
  go_loopg [5, 13] 8 (fun k n v wr => ∃ t : Nat, t + k = 8 ∧ v = .int .i64 (t : Int) ∧ n = .int .u64 (num8 (l.take t) : Nat) ∧ XRow w1.heap.size s 0 0 wr ∧ Below w.heap.size w wr)
  case atStart => exact ⟨0, rfl, rfl, rfl, G0.out, B0.out⟩
  case round =>
    obtain ⟨t, ht, rfl, rfl, hX, hB⟩ := hrel
    have HX := Aside0.mk hX
    have HB := Aside0.mk hB
    clear hB
    by_cases hlt : t < 8
    · have hc := hX.cell t (by rw [HZ.out]; exact hlt)
      have l1 : (t : Int) < 8 := by omega
      have e0 : mixX s 0 0 t = l.getD t 0 := by unfold mixX; rw [if_neg (Nat.not_lt_zero _), HL.out]
      rw [e0] at hc
      have h1 : t < l.length := by rw [← HL.out, data_size, HZ.out]; exact hlt
      have HS := Aside0.mk (show num8 (l.take (t + 1)) = num8 (l.take t) * 256 + (l.getD t 0).toNat by
        rw [List.take_succ_eq_append_getElem h1, num8_snoc, List.getD_eq_getElem?_getD, List.getElem?_eq_getElem h1]; rfl)
      have hq := num8_lt (l.take t)
      have hq2 : 256 ^ (l.take t).length ≤ 256 ^ 7 := Nat.pow_le_pow_right (by decide) (by rw [List.length_take]; omega)
      have e7 : (256 : Nat) ^ 7 = 72057594037927936 := by decide
      have hn : num8 (l.take t) < 72057594037927936 := by omega
      have hb := (l.getD t 0).toNat_lt
      have ho := or_byte (num8 (l.take t)) (l.getD t 0).toNat hn hb
      rw [wrapU (by omega) (by omega), wrapU (by omega) (by omega)] at ho
      have HO := Aside0.mk ho
      clear ho
      generalize num8 (l.take t) = x at *
      generalize (l.getD t 0) = y at *
      clear hq hq2 e7 hX e0 h1
      go_wp2_with fail
      go_roundg (gk - 1)
      case measure => omega
      case rel =>
        refine ⟨t + 1, by omega, by go_num, ?_, HX.out, HB.out⟩
        rw [HO.out, HS.out]
    · obtain rfl : t = 8 := by omega
      have HE := Aside0.mk (show num8 (l.take 8) = num8 l by rw [List.take_of_length_le (by rw [← HL.out, data_size, HZ.out]; exact Nat.le_refl _)])
      clear hX
      go_wp2_with fail
      go_ret
      refine ⟨?_, HB.out⟩
      rw [← HE.out]
      rfl
end Go.Proofs.YtomninikmcmmcaaDoor.Sha
namespace Go.Proofs.YtomninikmcmmcaaDoor.GivN
open Go Go.RowKit Go.Proofs.YtomninikmcmmcaaDoor.Sha Go.Proofs.YtomninikmcmmcaaDoor.GivA Go.Proofs.YtomninikmcmmcaaDoor.GivH
def hmac_Number.f (a0 a1 : ByteArray) : Option Int := if big a0 = true then (if big a1 = true then some ((num8 (mac8 a0 a1) : Nat) : Int) else none) else none
theorem hmac_Number.calls (a0 a1 : ByteArray) (r : Int) (w : World) (hT : Tab w) (h : hmac_Number.f a0 a1 = some r) :
    Calls Tryd.prog 39 #[.string a0, .string a1] w fun e w' => e = .returned (.int .u64 r) ∧ Below w.heap.size w w' := by
  unfold hmac_Number.f big at h
  split at h
  · rename_i hc
    split at h
    · rename_i hd
      obtain rfl := Option.some.inj h
      exact number_calls a0 a1 w hT (of_decide_eq_true hc) (of_decide_eq_true hd)
    · cases h
  · cases h
end Go.Proofs.YtomninikmcmmcaaDoor.GivN
end
