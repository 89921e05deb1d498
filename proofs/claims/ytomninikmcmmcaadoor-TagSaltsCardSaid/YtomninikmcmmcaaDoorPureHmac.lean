/- Plain laws of the printed functions over macs: the reference's are the program's; whether a text is the mac. -/
import Derived.Test.YtomninikmcmmcaaDoorPHlA
namespace Go.Proofs.YtomninikmcmmcaaDoor.Sha
open Go Go.RowKit Go.Proofs.YtomninikmcmmcaaDoor.PRp Go.Proofs.YtomninikmcmmcaaDoor.PHs Go.Proofs.YtomninikmcmmcaaDoor.PHl Go.Proofs.YtomninikmcmmcaaDoor.GivH Go.Proofs.YtomninikmcmmcaaDoor.GivN Go.Proofs.YtomninikmcmmcaaDoorW.PrintWords
set_option linter.unusedVariables false
set_option linter.unusedSimpArgs false
theorem big_of {s : ByteArray} (h : s.size ≤ 1073741824) : big s = true := decide_eq_true h
theorem refmac_some (key m : ByteArray) (hk : key.size ≤ 1000000) (hm : m.size ≤ 1000000) (k : Nat) (h : 2000 ≤ k) : paymasterref06_Sum.f k key m = some (mac key m) := by
  unfold paymasterref06_Sum.f paymasterref06_Block.f
  rw [if_pos (big_of (by omega)), Option.bind_some]
  have hz := kBlock_size key
  have e1 := refwith_some (kBlock key) 92 (by omega) k (by omega)
  have e2 := refwith_some (kBlock key) 54 (by omega) k (by omega)
  have f1 : (((92 : UInt8).toNat : Nat) : Int) = 92 := rfl
  have f2 : (((54 : UInt8).toNat : Nat) : Int) = 54 := rfl
  rw [f1] at e1
  rw [f2] at e2
  rw [e1, Option.bind_some, e2, Option.bind_some]
  have s1 := xorB_size (kBlock key) 54
  have s2 := xorB_size (kBlock key) 92
  rw [if_pos (by omega)]
  unfold paymasterref05_Sum.f
  rw [if_pos (big_of (by rw [ByteArray.size_append]; omega)), Option.bind_some, if_pos (by rw [sha_size]; omega), if_pos (big_of (by rw [ByteArray.size_append, sha_size]; omega)), Option.bind_some]
  rfl
theorem reffirst_some (key m : ByteArray) (n : Int) (hk : key.size ≤ 1000000) (hm : m.size ≤ 1000000) (k : Nat) (h : 2000 ≤ k) : paymasterref06_First.f k key m n = some (firstB key m n) := by
  unfold paymasterref06_First.f firstB
  rw [refmac_some key m hk hm k h, Option.bind_some]
  have hz := mac_size key m
  generalize mac key m = d at *
  by_cases h1 : n < 0
  · rw [if_pos h1]
    have e : (min (max n 0) 32).toNat = 0 := by omega
    rw [e]
    congr 1
    apply ext_list
    rw [extract_list]
    rfl
  · rw [if_neg h1]
    by_cases h2 : n > 32
    · rw [if_pos h2]
      have e : (min (max n 0) 32).toNat = 32 := by omega
      rw [e]
      congr 1
      apply ext_list
      rw [extract_list, List.drop_zero, List.take_of_length_le (by rw [data_size]; omega)]
    · rw [if_neg h2, if_pos (by omega), if_pos (by omega)]
      have e : min (max n 0) 32 = n := by omega
      rw [e]
theorem refnumber_go (d : ByteArray) (hz : d.size = 32) (e : Nat) : ∀ (k i : Nat), i + e = 8 → e < k → paymasterref06_Number.l0 k d ((num8 (d.data.toList.take i) : Nat) : Int) (i : Int) = some ((num8 (d.data.toList.take 8) : Nat) : Int) := by
  induction e with
  | zero =>
    intro k i hi hk
    obtain ⟨k, rfl⟩ : ∃ m, k = m + 1 := ⟨k - 1, by omega⟩
    obtain rfl : i = 8 := by omega
    rw [paymasterref06_Number.l0, if_neg (by omega)]
  | succ e ih =>
    intro k i hi hk
    obtain ⟨k, rfl⟩ : ∃ m, k = m + 1 := ⟨k - 1, by omega⟩
    have h1 : i < d.data.toList.length := by rw [data_size]; omega
    have hs : num8 (d.data.toList.take (i + 1)) = num8 (d.data.toList.take i) * 256 + (d.data.toList.getD i 0).toNat := by
      rw [List.take_succ_eq_append_getElem h1, num8_snoc, List.getD_eq_getElem?_getD, List.getElem?_eq_getElem h1]; rfl
    have hq := num8_lt (d.data.toList.take i)
    have hq2 : 256 ^ (d.data.toList.take i).length ≤ 256 ^ 7 := Nat.pow_le_pow_right (by decide) (by rw [List.length_take]; omega)
    have e7 : (256 : Nat) ^ 7 = 72057594037927936 := by decide
    have hn : num8 (d.data.toList.take i) < 72057594037927936 := by omega
    have hb := (d.data.toList.getD i 0).toNat_lt
    have IH := ih k (i + 1) (by omega) (by omega)
    rw [hs] at IH
    rw [paymasterref06_Number.l0, if_pos (by omega), if_pos (by omega), if_pos (by omega), bt_byte]
    generalize num8 (d.data.toList.take i) = x at *
    generalize (d.data.toList.getD i 0).toNat = y at *
    have w1 : IntKind.u64.wrap (256 * (x : Int)) = 256 * (x : Int) := wrapU (by omega) (by omega)
    have w2 : IntKind.u64.wrap (y : Int) = (y : Int) := wrapU (by omega) (by omega)
    have w3 : IntKind.u64.wrap (256 * (x : Int) + (y : Int)) = ((x * 256 + y : Nat) : Int) := by rw [wrapU (by omega) (by omega)]; omega
    have w4 : wrap64 ((i : Int) + 1) = ((i + 1 : Nat) : Int) := wrap_succ i (by omega)
    rw [w1, w2, w3, w4]
    exact IH
theorem refnumber_some (key m : ByteArray) (hk : key.size ≤ 1000000) (hm : m.size ≤ 1000000) (k : Nat) (h : 2000 ≤ k) : paymasterref06_Number.f k key m = some ((num8 (mac8 key m) : Nat) : Int) := by
  unfold paymasterref06_Number.f
  rw [refmac_some key m hk hm k h, Option.bind_some]
  exact refnumber_go (mac key m) (mac_size key m) 8 k 0 rfl (by omega)
/-! whether a text is the mac -/
theorem or_u8 (a c : UInt8) : Go.bits .or .u8 (a.toNat : Int) (c.toNat : Int) = ((a ||| c).toNat : Int) := by
  have e : ∀ x : UInt8, BitVec.ofInt 8 (x.toNat : Int) = x.toBitVec := fun x => by
    apply BitVec.eq_of_toNat_eq
    rw [BitVec.toNat_ofInt]
    have := x.toNat_lt
    show ((x.toNat : Int) % ((2 ^ 8 : Nat) : Int)).toNat = x.toNat
    omega
  have e1 : ∀ x : UInt8, BitVec.ofInt IntKind.u8.bits (x.toNat : Int) = x.toBitVec := e
  simp only [Go.bits, e1]
  show IntKind.u8.wrap (((a.toBitVec ||| c.toBitVec).toNat : Nat) : Int) = _
  have h : (a.toBitVec ||| c.toBitVec).toNat < 256 := (a.toBitVec ||| c.toBitVec).isLt
  simp only [IntKind.wrap, IntKind.bits, IntKind.signed]
  show (((a.toBitVec ||| c.toBitVec).toNat : Nat) : Int) % (2 ^ 8) = ((a.toBitVec ||| c.toBitVec).toNat : Int)
  omega
def isAcc (s t : List UInt8) : Nat → UInt8
  | 0 => 0
  | i + 1 => isAcc s t i ||| (s.getD i 0 ^^^ t.getD i 0)
theorem isAcc_zero (s t : List UInt8) : ∀ n, isAcc s t n = 0 ↔ ∀ j, j < n → s.getD j 0 = t.getD j 0
  | 0 => ⟨fun _ j hj => absurd hj (Nat.not_lt_zero _), fun _ => rfl⟩
  | n + 1 => by
    have ih := isAcc_zero s t n
    rw [isAcc, UInt8.or_eq_zero_iff, UInt8.xor_eq_zero_iff, ih]
    constructor
    · rintro ⟨h1, h2⟩ j hj
      by_cases e : j = n
      · rw [e]; exact h2
      · exact h1 j (by omega)
    · exact fun h => ⟨fun j hj => h j (by omega), h n (by omega)⟩
theorem is_go (x own : ByteArray) (hz : own.size = 32) (hx : x.size = 32) (e : Nat) : ∀ (k i : Nat), i + e = 32 → e < k → hmac_Is.l0 k x own ((isAcc own.data.toList x.data.toList i).toNat : Int) 32 (i : Int) = some (((isAcc own.data.toList x.data.toList 32).toNat : Int) == 0) := by
  induction e with
  | zero =>
    intro k i hi hk
    obtain ⟨k, rfl⟩ : ∃ m, k = m + 1 := ⟨k - 1, by omega⟩
    obtain rfl : i = 32 := by omega
    rw [hmac_Is.l0, if_neg (by omega)]
  | succ e ih =>
    intro k i hi hk
    obtain ⟨k, rfl⟩ : ∃ m, k = m + 1 := ⟨k - 1, by omega⟩
    have w4 : wrap64 ((i : Int) + 1) = ((i + 1 : Nat) : Int) := wrap_succ i (by omega)
    rw [hmac_Is.l0, if_pos (by omega), if_pos (by omega), if_pos (by omega), if_pos (by omega), bt_byte, bt_byte, xor_u8, or_u8, w4]
    exact ih k (i + 1) (by omega) (by omega)
theorem is_some (key m x : ByteArray) (hk : key.size ≤ 1000000) (hm : m.size ≤ 1000000) (k : Nat) (h : 2000 ≤ k) : hmac_Is.f k key m x = some (decide (x = mac key m)) := by
  unfold hmac_Is.f hmac_Sum.f
  rw [if_pos (big_of (by omega)), if_pos (big_of (by omega)), Option.bind_some]
  have hz := mac_size key m
  generalize mac key m = d at *
  by_cases hx : x.size = 32
  · rw [if_pos (by omega), hz]
    have hg := is_go x d hz hx 32 k 0 rfl (by omega)
    refine Eq.trans hg ?_
    congr 1
    by_cases hq : x = d
    · rw [decide_eq_true hq]
      have h0 : isAcc d.data.toList x.data.toList 32 = 0 := (isAcc_zero _ _ 32).2 fun j _ => by rw [hq]
      rw [h0]
      rfl
    · rw [decide_eq_false hq]
      have h0 : ¬ isAcc d.data.toList x.data.toList 32 = 0 := fun h0 => hq (by
        have h1 := (isAcc_zero _ _ 32).1 h0
        apply ext_list
        apply List.ext_getElem
        · rw [data_size, data_size, hx, hz]
        · intro j h2 h3
          have h4 : j < 32 := by rw [data_size] at h3; omega
          have h5 := h1 j h4
          rw [List.getD_eq_getElem?_getD, List.getD_eq_getElem?_getD, List.getElem?_eq_getElem h2, List.getElem?_eq_getElem h3] at h5
          exact h5.symm)
      have h1 : ¬ (isAcc d.data.toList x.data.toList 32).toNat = 0 := fun h1 => h0 (UInt8.toNat_inj.1 h1)
      simp only [beq_eq_false_iff_ne, ne_eq]
      omega
  · rw [if_neg (by omega)]
    have hq : ¬ x = d := fun h => hx (by rw [h]; exact hz)
    rw [decide_eq_false hq]
theorem toList_loop (b : ByteArray) (d : Nat) : ∀ (i : Nat) (r : List UInt8), i + d = b.size → ByteArray.toList.loop b i r = r.reverse ++ b.data.toList.drop i := by
  have hsz : b.data.toList.length = b.size := by rw [Array.length_toList]; rfl
  induction d with
  | zero =>
    intro i r h
    rw [ByteArray.toList.loop, if_neg (by omega), List.drop_eq_nil_of_le (by omega), List.append_nil]
  | succ d ih =>
    intro i r h
    have hi : i < b.data.toList.length := by omega
    rw [ByteArray.toList.loop, if_pos (by omega), ih (i + 1) _ (by omega), List.reverse_cons, List.append_assoc, List.drop_eq_getElem_cons hi]
    have e : b.get! i = b.data.toList[i] := by
      show b.data[i]! = _
      rw [getElem!_pos b.data i (by rw [Array.length_toList] at hi; exact hi)]
      rfl
    rw [e]
    rfl
theorem toList_data (b : ByteArray) : b.toList = b.data.toList := by
  unfold ByteArray.toList
  rw [toList_loop b b.size 0 [] (by omega)]
  rfl
theorem list_eq (a b : ByteArray) : (a.toList == b.toList) = decide (a = b) := by
  rw [toList_data, toList_data]
  by_cases h : a = b
  · rw [h, decide_eq_true rfl]; exact beq_self_eq_true _
  · rw [decide_eq_false h, beq_eq_false_iff_ne]
    exact fun e => h (ext_list e)
theorem hmacSums_some (key m x : ByteArray) (n : Int) (k : Nat) (h : 5000 ≤ k) : paymasterlaw06_HmacSums.f k key m x n = some true := by
  have hj : ∀ k, 1 ≤ k → paymasterlaw06_HmacSums.j0 k key m x n true = some true := fun k hk => by
    obtain ⟨k, rfl⟩ : ∃ q, k = q + 1 := ⟨k - 1, by omega⟩
    rw [paymasterlaw06_HmacSums.j0, if_pos rfl]
  unfold paymasterlaw06_HmacSums.f
  by_cases h1 : (key.size : Int) > 1000
  · rw [if_pos h1]; exact hj k (by omega)
  rw [if_neg h1]
  by_cases h2 : (m.size : Int) > 1000
  · rw [if_pos h2]; exact hj k (by omega)
  rw [if_neg h2]
  by_cases h3 : (x.size : Int) > 1000
  · rw [decide_eq_true h3]; exact hj k (by omega)
  rw [decide_eq_false h3]
  obtain ⟨k, rfl⟩ : ∃ q, k = q + 2 := ⟨k - 2, by omega⟩
  rw [paymasterlaw06_HmacSums.j0, if_neg (by decide), refmac_some key m (by omega) (by omega) _ (by omega), Option.bind_some]
  unfold hmac_Sum.f hmac_Block.f paymasterref06_Block.f
  rw [if_pos (big_of (by omega)), if_pos (big_of (by omega)), Option.bind_some, if_pos rfl, if_pos (big_of (by omega)), Option.bind_some, Option.bind_some, if_pos rfl, first_some key m n (by omega) (by omega), Option.bind_some, reffirst_some key m n (by omega) (by omega) _ (by omega), Option.bind_some]
  rw [paymasterlaw06_HmacSums.j1, if_neg (by simp)]
  unfold hmac_Number.f
  rw [if_pos (big_of (by omega)), if_pos (big_of (by omega)), Option.bind_some, refnumber_some key m (by omega) (by omega) _ (by omega), Option.bind_some, if_pos rfl, is_some key m x (by omega) (by omega) _ (by omega), Option.bind_some, list_eq, if_pos (by simp), is_some key m (mac key m) (by omega) (by omega) _ (by omega), Option.bind_some, decide_eq_true rfl]
end Go.Proofs.YtomninikmcmmcaaDoor.Sha
