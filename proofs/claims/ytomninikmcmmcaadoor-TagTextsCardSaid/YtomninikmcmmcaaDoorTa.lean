/- Texts of this session, put together: Bytes, GivT. -/
import Derived.Test.YtomninikmcmmcaaDoorWWords
import Derived.Test.YtomninikmcmmcaaDoorProg
import Derived.Deep.LoopGhost
import Derived.Lib.SlBytesRow
import Derived.WalkKit
section
/- u128.Bytes: the sixteen bytes of a number, the greatest first. -/
namespace Go.Proofs.YtomninikmcmmcaaDoor.Oct
open Go.RowKit Go.Proofs.YtomninikmcmmcaaDoorW.PrintWords
set_option linter.unusedVariables false
set_option linter.unusedSimpArgs false
/-- Byte j of a number's sixteen. -/
def beAt (hi lo j : Nat) : UInt8 := if j < 8 then UInt8.ofNat (hi / 2 ^ (56 - 8 * j)) else UInt8.ofNat (lo / 2 ^ (56 - 8 * (j - 8)))
def be16 (hi lo : Nat) : ByteArray := ⟨#[beAt hi lo 0, beAt hi lo 1, beAt hi lo 2, beAt hi lo 3, beAt hi lo 4, beAt hi lo 5, beAt hi lo 6, beAt hi lo 7, beAt hi lo 8, beAt hi lo 9, beAt hi lo 10, beAt hi lo 11, beAt hi lo 12, beAt hi lo 13, beAt hi lo 14, beAt hi lo 15]⟩
/-- The cells behind i rounds. -/
def cellI (hi lo i j : Nat) : Value := .int .u8 (if j % 8 < i then ((beAt hi lo j).toNat : Int) else 0)
def arrI (hi lo i : Nat) : Array Value := #[cellI hi lo i 0, cellI hi lo i 1, cellI hi lo i 2, cellI hi lo i 3, cellI hi lo i 4, cellI hi lo i 5, cellI hi lo i 6, cellI hi lo i 7, cellI hi lo i 8, cellI hi lo i 9, cellI hi lo i 10, cellI hi lo i 11, cellI hi lo i 12, cellI hi lo i 13, cellI hi lo i 14, cellI hi lo i 15]
theorem be16_at (hi lo j : Nat) (hj : j < 16) : (be16 hi lo)[j]'hj = beAt hi lo j := by
  match j, hj with
  | 0, _ | 1, _ | 2, _ | 3, _ | 4, _ | 5, _ | 6, _ | 7, _ | 8, _ | 9, _ | 10, _ | 11, _ | 12, _ | 13, _ | 14, _ | 15, _ => rfl
  | _ + 16, h => exact absurd h (by omega)
theorem alloc_size (w : World) (o : Obj) : (w.alloc o).heap.size = w.heap.size + 1 := Array.size_push _
theorem arr_size (hi lo i : Nat) : (arrI hi lo i).size = 16 := rfl
theorem arr_at (hi lo i j : Nat) (hj : j < 16) : (arrI hi lo i)[j]? = some (cellI hi lo i j) := by
  match j, hj with
  | 0, _ | 1, _ | 2, _ | 3, _ | 4, _ | 5, _ | 6, _ | 7, _ | 8, _ | 9, _ | 10, _ | 11, _ | 12, _ | 13, _ | 14, _ | 15, _ => rfl
  | _ + 16, h => exact absurd h (by omega)
theorem be_hi (hi lo t : Nat) (h : t < 8) : ((beAt hi lo t).toNat : Int) = (hi : Int) / 2 ^ (56 - 8 * t) % 256 := by
  unfold beAt
  rw [if_pos h, UInt8.toNat_ofNat']
  simp
theorem be_lo (hi lo t : Nat) : ((beAt hi lo (t + 8)).toNat : Int) = (lo : Int) / 2 ^ (56 - 8 * t) % 256 := by
  unfold beAt
  rw [if_neg (by omega), UInt8.toNat_ofNat', Nat.add_sub_cancel]
  simp
theorem arr_step (hi lo t : Nat) (h : t < 8) : ((arrI hi lo t).setIfInBounds t (.int .u8 ((hi : Int) / 2 ^ (56 - 8 * t) % 256))).setIfInBounds (t + 8) (.int .u8 ((lo : Int) / 2 ^ (56 - 8 * t) % 256)) = arrI hi lo (t + 1) := by
  apply Array.ext_getElem?
  intro j
  by_cases hj : j < 16
  · rw [Array.getElem?_setIfInBounds, Array.getElem?_setIfInBounds, arr_at _ _ _ _ hj, arr_at _ _ _ _ hj]
    simp only [Array.size_setIfInBounds, arr_size]
    by_cases e1 : t + 8 = j
    · subst e1
      rw [if_pos rfl, if_pos hj]
      unfold cellI
      rw [if_pos (by omega), be_lo]
    · rw [if_neg e1]
      by_cases e2 : t = j
      · subst e2
        rw [if_pos rfl]
        unfold cellI
        rw [if_pos (by omega : t % 8 < t + 1), be_hi _ _ _ h]
        exact if_pos hj
      · rw [if_neg e2]
        unfold cellI
        by_cases e3 : j % 8 < t
        · rw [if_pos e3, if_pos (by omega)]
        · rw [if_neg e3, if_neg (by omega)]
  · rw [Array.getElem?_eq_none (by simp [arr_size]; omega), Array.getElem?_eq_none (by rw [arr_size]; omega)]
set_option maxHeartbeats 4000000 in
set_option maxRecDepth 100000 in
theorem bytes_calls (hi lo : Nat) (h1 : hi < 18446744073709551616) (h2 : lo < 18446744073709551616) (w : World) :
    Calls Tryd.prog 73 #[.agg #[.int .u64 hi, .int .u64 lo]] w fun e w' => e = .returned (.string (be16 hi lo)) ∧ Below w.heap.size w w' := by
  go_enter Tryd.func73, Tryd.ntmps73
  go_wp2_with fail
  go_loopg [5] 9 (fun k i wr => ∃ t : Nat, t + k = 9 ∧ t ≤ 8 ∧ i = .int .i64 t ∧ wr.heap[w.heap.size]? = some (.cells #[.int .u64 hi, .int .u64 lo] 37 (0, 0)) ∧ wr.heap[w.heap.size + 1]? = some (.cells (arrI hi lo t) 109 (0, 0)) ∧ Below w.heap.size w wr)
  case atStart =>
    have q0 := blk_new w (.cells #[.int .u64 hi, .int .u64 lo] 37)
    have hz := alloc_size w
    refine ⟨0, rfl, by omega, rfl, blk_alloc q0 _, ?_, ?_⟩
    · have q := blk_new (w.alloc (.cells #[.int .u64 hi, .int .u64 lo] 37)) (.cells (arrI hi lo 0) 109)
      rw [hz] at q
      exact q
    · exact ((Below.refl _ _).alloc (Nat.le_refl _) _).alloc (by rw [hz]; omega) _
  case round =>
    obtain ⟨t, hk, ht8, rfl, hA, hB, hb⟩ := hrel
    by_cases hlt : t < 8
    · have l1 : (t : Int) < 8 := by omega
      have cA0 := blk_cell hA 0
      have cA1 := blk_cell hA 1
      have cB : ∀ j, j < 16 → wr.cell? ⟨w.heap.size + 1, j, none⟩ = some (cellI hi lo t j) := fun j hj => (blk_cell hB j).trans (arr_at _ _ _ _ hj)
      have cB0 := cB t (by omega)
      have cB1 := cB (t + 8) (by omega)
      have fB := blk_frozen hB
      generalize cellI hi lo t t = v0 at cB0
      generalize cellI hi lo t (t + 8) = v1 at cB1
      clear cB
      go_wp2_with fail
      go_roundg (gk - 1)
      case measure => omega
      case rel =>
        refine ⟨t + 1, by omega, by omega, by go_num, ?_, ?_, ?_⟩
        · exact blk_far (blk_far hA (by simp) _) (by simp) _
        · exact blk_put (blk_put hB t _ rfl) (t + 8) _ (arr_step hi lo t hlt)
        · exact (hb.setCell (by simp) _).setCell (by simp) _
    · obtain rfl : t = 8 := by omega
      have hcv : (convert 65 9 (.slice (some ⟨w.heap.size + 1, 0, none⟩) 16 16)).run Tryd.prog wr = .ok (.string (be16 hi lo)) wr := by
        refine Lib.run_convert_whole wr 65 5 9 Tryd.underlying65 Tryd.underlying5 Tryd.underlying9 (w.heap.size + 1) 0 (be16 hi lo) (fun j hj => ?_) 16
        have hj' : j < 16 := hj
        rw [Nat.zero_add, blk_cell hB, arr_at _ _ _ _ hj']
        unfold cellI
        rw [if_pos (by omega)]
        exact congrArg (fun x : UInt8 => some (Value.int .u8 (x.toNat : Int))) (be16_at hi lo j hj').symm
      go_wp2_with fail
      go_ret
      exact ⟨rfl, hb⟩
end Go.Proofs.YtomninikmcmmcaaDoor.Oct
end
section
/- The sixteen bytes of a number as a given function. -/
namespace Go.Proofs.YtomninikmcmmcaaDoor.GivT
open Go Go.RowKit Go.Proofs.YtomninikmcmmcaaDoor.Oct
def in64 (n : Int) : Bool := decide (0 ≤ n ∧ n < 18446744073709551616)
def u128_Bytes.f (a0 a1 : Int) : Option ByteArray := if in64 a0 = true then (if in64 a1 = true then some (be16 a0.toNat a1.toNat) else none) else none
theorem u128_Bytes.calls (a0 a1 : Int) (r : ByteArray) (w : World) (h : u128_Bytes.f a0 a1 = some r) :
    Calls Tryd.prog 73 #[.agg #[.int .u64 a0, .int .u64 a1]] w fun e w' => e = .returned (.string r) ∧ Below w.heap.size w w' := by
  unfold u128_Bytes.f in64 at h
  split at h
  · rename_i hc
    split at h
    · rename_i hd
      obtain rfl := Option.some.inj h
      obtain ⟨c1, c2⟩ := of_decide_eq_true hc
      obtain ⟨d1, d2⟩ := of_decide_eq_true hd
      obtain ⟨x, rfl⟩ : ∃ n : Nat, a0 = n := ⟨a0.toNat, by omega⟩
      obtain ⟨y, rfl⟩ : ∃ n : Nat, a1 = n := ⟨a1.toNat, by omega⟩
      exact bytes_calls x y (by omega) (by omega) w
    · cases h
  · cases h
end Go.Proofs.YtomninikmcmmcaaDoor.GivT
end
