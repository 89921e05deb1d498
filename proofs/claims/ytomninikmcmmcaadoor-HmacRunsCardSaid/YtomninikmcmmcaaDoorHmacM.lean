/- A mac's number: contract; the reference's block and the number as given functions. -/
import Derived.Test.YtomninikmcmmcaaDoorHn
import Derived.Test.YtomninikmcmmcaaDoorPHsA
namespace Go.Proofs.YtomninikmcmmcaaDoor.Sha
open Go Go.RowKit Go.Proofs.YtomninikmcmmcaaDoor.Mark Go.Proofs.YtomninikmcmmcaaDoorW.PrintWords Go.Proofs.Sp Go.Proofs.YtomninikmcmmcaaDoor.Blk Go.Proofs.YtomninikmcmmcaaDoor.GivA
set_option linter.unusedVariables false
set_option linter.unusedSimpArgs false
def mac8 (key m : ByteArray) : List UInt8 := (mac key m).data.toList.take 8
theorem mac8_length (key m : ByteArray) : (mac8 key m).length = 8 := by
  have h : (mac key m).data.toList.length = 32 := by rw [data_size]; rfl
  unfold mac8
  rw [List.length_take, h]
  rfl
def firstB (key m : ByteArray) (n : Int) : ByteArray := (mac key m).extract 0 (min (max n 0) 32).toNat
theorem mac_size (key m : ByteArray) : (mac key m).size = 32 := rfl
theorem first_some (key m : ByteArray) (n : Int) (hk : key.size ≤ 1073741824) (hs : m.size ≤ 1073741824) : PHs.hmac_First.f key m n = some (firstB key m n) := by
  unfold PHs.hmac_First.f GivH.hmac_Sum.f GivH.big firstB
  rw [decide_eq_true hk, decide_eq_true hs]
  simp only [if_true, Option.bind_some]
  have hz := mac_size key m
  generalize mac key m = d at *
  have e : mn (mx n 0) (d.size : Int) = min (max n 0) 32 := by rw [hz]; unfold mn mx; omega
  rw [e, if_pos (by omega), if_pos (by omega)]
theorem first8_eq (key m : ByteArray) : firstB key m 8 = ⟨(mac8 key m).toArray⟩ := by
  apply ext_list
  unfold firstB mac8
  rw [extract_list]
  rfl
theorem first8_calls (key m : ByteArray) (w : World) (hT : Tab w) (hk : key.size ≤ 1073741824) (hs : m.size ≤ 1073741824) :
    Calls Tryd.prog 37 #[.string key, .string m, .int .i64 8] w fun e w' => e = .returned (.string ⟨(mac8 key m).toArray⟩) ∧ Below w.heap.size w w' :=
  PHs.hmac_First.calls key m 8 _ w hT (by rw [first_some key m 8 hk hs, first8_eq])
set_option maxHeartbeats 2000000 in
set_option maxRecDepth 100000 in
theorem number_calls (key m : ByteArray) (w : World) (hT : Tab w) (hk : key.size ≤ 1073741824) (hs : m.size ≤ 1073741824) :
    Calls Tryd.prog 39 #[.string key, .string m] w fun e w' => e = .returned (.int .u64 (num8 (mac8 key m) : Nat)) ∧ Below w.heap.size w w' := by
  have HF := Aside0.mk (first8_calls key m w hT hk hs)
  have hl := mac8_length key m
  generalize mac8 key m = l at *
  have hsz : (⟨l.toArray⟩ : ByteArray).size = 8 := by show l.toArray.size = 8; simpa using hl
  have HL := Aside0.mk (show (⟨l.toArray⟩ : ByteArray).data.toList = l from by simp)
  generalize (⟨l.toArray⟩ : ByteArray) = s at *
  have hcv := fun w => run_bytes_of_string (P := Tryd.prog) w 9 65 5 s Tryd.underlying9 Tryd.underlying65 Tryd.underlying5
  clear hT hl
  go_enter Tryd.func39, Tryd.ntmps39
  go_wp2_with fail
  refine HF.out.mono ?_
  rintro e w1 ⟨rfl, hb1⟩
  have G0 := Aside0.mk (XRow.start s 0 w1 (grownCap w1 s.size 0 5))
  have B0 := Aside0.mk (hb1.trans (show Below w.heap.size w1 ((w1.alloc (.cells (bytesRow s (grownCap w1 s.size 0 5)) 5 ((bytesRow s (grownCap w1 s.size 0 5)).size, (bytesRow s (grownCap w1 s.size 0 5)).size + 1))).drew) from ((((Below.refl _ _).alloc (Nat.le_refl _) _).drew).mono hb1.size)))
  clear hb1
  go_wp2_with fail
  clear hcv
  rw [hsz] at G0 B0
  have HZ := Aside0.mk hsz
  clear hsz
  go_loopg [5, 13] 8 (fun k n v wr => ∃ t : Nat, t + k = 8 ∧ v = .int .i64 (t : Int) ∧ n = .int .u64 (num8 (l.take t) : Nat) ∧ XRow w1.heap.size s 0 0 wr ∧ Below w.heap.size w wr)
  case atStart => exact ⟨0, rfl, rfl, rfl, G0.out, B0.out⟩
  case round =>
    obtain ⟨t, ht, rfl, rfl, hX, hB⟩ := hrel
    have HX := Aside0.mk hX
    have HB := Aside0.mk hB
    clear hB
    by_cases hlt : t < 8
    · have hc := hX.cell t (by rw [HZ.out]; exact hlt)
      have l1 : (t : Int) < 8 := by omega
      have e0 : mixX s 0 0 t = l.getD t 0 := by unfold mixX; rw [if_neg (Nat.not_lt_zero _), HL.out]
      rw [e0] at hc
      have h1 : t < l.length := by rw [← HL.out, data_size, HZ.out]; exact hlt
      have HS := Aside0.mk (show num8 (l.take (t + 1)) = num8 (l.take t) * 256 + (l.getD t 0).toNat by
        rw [List.take_succ_eq_append_getElem h1, num8_snoc, List.getD_eq_getElem?_getD, List.getElem?_eq_getElem h1]; rfl)
      have hq := num8_lt (l.take t)
      have hq2 : 256 ^ (l.take t).length ≤ 256 ^ 7 := Nat.pow_le_pow_right (by decide) (by rw [List.length_take]; omega)
      have e7 : (256 : Nat) ^ 7 = 72057594037927936 := by decide
      have hn : num8 (l.take t) < 72057594037927936 := by omega
      have hb := (l.getD t 0).toNat_lt
      have ho := or_byte (num8 (l.take t)) (l.getD t 0).toNat hn hb
      rw [wrapU (by omega) (by omega), wrapU (by omega) (by omega)] at ho
      have HO := Aside0.mk ho
      clear ho
      generalize num8 (l.take t) = x at *
      generalize (l.getD t 0) = y at *
      clear hq hq2 e7 hX e0 h1
      go_wp2_with fail
      go_roundg (gk - 1)
      case measure => omega
      case rel =>
        refine ⟨t + 1, by omega, by go_num, ?_, HX.out, HB.out⟩
        rw [HO.out, HS.out]
    · obtain rfl : t = 8 := by omega
      have HE := Aside0.mk (show num8 (l.take 8) = num8 l by rw [List.take_of_length_le (by rw [← HL.out, data_size, HZ.out]; exact Nat.le_refl _)])
      clear hX
      go_wp2_with fail
      go_ret
      refine ⟨?_, HB.out⟩
      rw [← HE.out]
      rfl
end Go.Proofs.YtomninikmcmmcaaDoor.Sha
namespace Go.Proofs.YtomninikmcmmcaaDoor.GivN
open Go Go.RowKit Go.Proofs.YtomninikmcmmcaaDoor.Sha Go.Proofs.YtomninikmcmmcaaDoor.GivA Go.Proofs.YtomninikmcmmcaaDoor.GivH
def paymasterref06_Block.f (a0 : ByteArray) : Option ByteArray := if big a0 = true then some (kBlock a0) else none
theorem paymasterref06_Block.calls (a0 : ByteArray) (r : ByteArray) (w : World) (h : paymasterref06_Block.f a0 = some r) :
    Calls Tryd.prog 36 #[.string a0] w fun e w' => e = .returned (.string r) ∧ Below w.heap.size w w' := by
  unfold paymasterref06_Block.f big at h
  split at h
  · rename_i hc
    obtain rfl := Option.some.inj h
    exact refblock_calls a0 w (by have := of_decide_eq_true hc; omega)
  · cases h
def hmac_Number.f (a0 a1 : ByteArray) : Option Int := if big a0 = true then (if big a1 = true then some ((num8 (mac8 a0 a1) : Nat) : Int) else none) else none
theorem hmac_Number.calls (a0 a1 : ByteArray) (r : Int) (w : World) (hT : Tab w) (h : hmac_Number.f a0 a1 = some r) :
    Calls Tryd.prog 39 #[.string a0, .string a1] w fun e w' => e = .returned (.int .u64 r) ∧ Below w.heap.size w w' := by
  unfold hmac_Number.f big at h
  split at h
  · rename_i hc
    split at h
    · rename_i hd
      obtain rfl := Option.some.inj h
      exact number_calls a0 a1 w hT (of_decide_eq_true hc) (of_decide_eq_true hd)
    · cases h
  · cases h
end Go.Proofs.YtomninikmcmmcaaDoor.GivN
