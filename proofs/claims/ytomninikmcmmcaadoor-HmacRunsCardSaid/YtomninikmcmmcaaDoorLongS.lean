/- What layer 5's guard says of a list of texts, and the text that a list's first ones are. -/
import Derived.Test.YtomninikmcmmcaaDoorPureHmac
namespace Go.Proofs.YtomninikmcmmcaaDoor.Sha
open Go Go.RowKit Go.Proofs.YtomninikmcmmcaaDoor.PRp Go.Proofs.YtomninikmcmmcaaDoorW.PrintWords
set_option linter.unusedVariables false
set_option linter.unusedSimpArgs false
def tot (l : List ByteArray) : Nat → Nat
  | 0 => 0
  | t + 1 => tot l t + (l.getD t ByteArray.empty).size
def cat (l : List ByteArray) : Nat → ByteArray
  | 0 => ByteArray.empty
  | t + 1 => cat l t ++ l.getD t ByteArray.empty
theorem cat_size (l : List ByteArray) : ∀ t, (cat l t).size = tot l t
  | 0 => rfl
  | t + 1 => by rw [cat, tot, ByteArray.size_append, cat_size l t]
theorem tot_le (l : List ByteArray) {s t : Nat} (h : s ≤ t) : tot l s ≤ tot l t := by
  induction h with
  | refl => exact Nat.le_refl _
  | step _ ih => rw [tot]; omega
theorem tot_bound (l : List ByteArray) (g : ∀ y ∈ l, y.size ≤ 140737488351232) : ∀ t, tot l t ≤ t * 140737488351232
  | 0 => by rw [tot]; omega
  | t + 1 => by
    have h := tot_bound l g t
    have hz : (l.getD t ByteArray.empty).size ≤ 140737488351232 := by
      rw [List.getD_eq_getElem?_getD]
      by_cases ht : t < l.length
      · rw [List.getElem?_eq_getElem ht]; exact g _ (List.getElem_mem ht)
      · rw [List.getElem?_eq_none (by omega)]; exact Nat.zero_le _
    rw [tot]
    omega
theorem long_loop (l : List ByteArray) (g : ∀ y ∈ l, y.size ≤ 140737488351232) (hl : l.length ≤ 40) (d : Nat) : ∀ (k t : Nat), t + d = l.length → d < k →
    paymasterlaw05_Long.l0 k l ((tot l t : Nat) : Int) (t : Int) = some (decide (2000 < tot l l.length)) := by
  induction d with
  | zero =>
    intro k t ht hk
    obtain ⟨k, rfl⟩ : ∃ q, k = q + 1 := ⟨k - 1, by omega⟩
    obtain rfl : t = l.length := by omega
    rw [paymasterlaw05_Long.l0, if_neg (by omega), if_neg (by omega)]
    congr 1
    rw [decide_eq_decide]
    omega
  | succ d ih =>
    intro k t ht hk
    obtain ⟨k, rfl⟩ : ∃ q, k = q + 1 := ⟨k - 1, by omega⟩
    have hb := tot_bound l g (t + 1)
    have hb2 : (t + 1) * 140737488351232 ≤ 40 * 140737488351232 := Nat.mul_le_mul_right _ (by omega)
    have e1 : rdOf ByteArray.empty l (t : Int) = l.getD t ByteArray.empty := by unfold rdOf; rw [Int.toNat_natCast]
    have e2 : wrap64 (((tot l t : Nat) : Int) + ((l.getD t ByteArray.empty).size : Int)) = ((tot l (t + 1) : Nat) : Int) := by
      rw [tot] at hb ⊢
      unfold wrap64
      omega
    have e3 : wrap64 ((t : Int) + 1) = ((t + 1 : Nat) : Int) := by unfold wrap64; omega
    rw [paymasterlaw05_Long.l0, if_pos (by omega), if_pos (by omega), e1, e2, e3]
    exact ih k (t + 1) (by omega) (by omega)
theorem long_big (l : List ByteArray) (hl : 40 < l.length) (hm : l.length ≤ 140737488351232) (d : Nat) : ∀ (k t : Nat) (x : Int), t + d = l.length → d < k →
    paymasterlaw05_Long.l0 k l x (t : Int) = some true := by
  induction d with
  | zero =>
    intro k t x ht hk
    obtain ⟨k, rfl⟩ : ∃ q, k = q + 1 := ⟨k - 1, by omega⟩
    rw [paymasterlaw05_Long.l0, if_neg (by omega), if_pos (by omega)]
  | succ d ih =>
    intro k t x ht hk
    obtain ⟨k, rfl⟩ : ∃ q, k = q + 1 := ⟨k - 1, by omega⟩
    have e3 : wrap64 ((t : Int) + 1) = ((t + 1 : Nat) : Int) := by unfold wrap64; omega
    rw [paymasterlaw05_Long.l0, if_pos (by omega), if_pos (by omega), e3]
    exact ih k (t + 1) _ (by omega) (by omega)
theorem bytes_string : Tryd.prog.bytesOf 9 = 16 := by kernel_rfl
theorem long_calls (A : Option Addr) (c : Nat) (l : List ByteArray) (w : World) (hC : Kd.C Kd.string w A l.length l) (hc : l.length ≤ c) (g : ∀ y ∈ l, y.size ≤ 140737488351232) (b : l.length * Tryd.prog.bytesOf 9 ≤ 140737488351232) :
    Calls Tryd.prog 31 #[.slice A l.length c] w fun e w' => ∃ r, e = .returned (.bool r) ∧ (r = false → l.length ≤ 40 ∧ tot l l.length ≤ 2000) ∧ Below w.heap.size w w' := by
  rw [bytes_string] at b
  by_cases h : l.length ≤ 40
  · refine (paymasterlaw05_Long.calls (l.length + 1) A c l _ w hC hc (long_loop l g h l.length (l.length + 1) 0 (by omega) (by omega))).mono ?_
    rintro e w' ⟨rfl, hd⟩
    refine ⟨_, rfl, fun hf => ⟨h, ?_⟩, hd.below⟩
    have := of_decide_eq_false hf
    omega
  · refine (paymasterlaw05_Long.calls (l.length + 1) A c l _ w hC hc (long_big l (by omega) (by omega) l.length (l.length + 1) 0 0 (by omega) (by omega))).mono ?_
    rintro e w' ⟨rfl, hd⟩
    exact ⟨_, rfl, (fun hf => by cases hf), hd.below⟩
end Go.Proofs.YtomninikmcmmcaaDoor.Sha
