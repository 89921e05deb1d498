/- Texts of this session, put together: NumA, NumB, NumC, ReadS. -/
import Derived.Lib.BitFns
import Derived.Lib.ItoaNum
import Derived.Test.YtdjpcogkpnemlaaOutX
import Derived.Laws.BitsLemmas
section
/- Numbers as bytes, the greatest first: plain lemmas. -/
namespace Go.Proofs.Ytdjpcogkpnemlaa.Oct
open Go
set_option linter.unusedVariables false
theorem snoc_ind {α : Type} {P : List α → Prop} (h0 : P []) (h1 : ∀ l c, P l → P (l ++ [c])) (l : List α) : P l := by
  have key : ∀ n (l : List α), l.length = n → P l := by
    intro n
    induction n with
    | zero => intro l hl; rw [List.eq_nil_of_length_eq_zero hl]; exact h0
    | succ n ih =>
      intro l hl
      rcases List.eq_nil_or_concat l with rfl | ⟨l', c, rfl⟩
      · exact h0
      · exact (List.concat_eq_append ▸ h1 l' c (ih l' (by simpa using hl)))
  exact key _ l rfl
/-- The number of bytes. -/
def valN (l : List UInt8) : Nat := l.foldl (fun a c => a * 256 + c.toNat) 0
theorem valN_nil : valN [] = 0 := rfl
theorem valN_snoc (l : List UInt8) (c : UInt8) : valN (l ++ [c]) = valN l * 256 + c.toNat := by simp [valN, List.foldl_append]
theorem valN_append (a b : List UInt8) : valN (a ++ b) = valN a * 256 ^ b.length + valN b := by
  induction b using snoc_ind with
  | h0 => simp [valN]
  | h1 b c ih =>
    rw [← List.append_assoc, valN_snoc, ih, valN_snoc, List.length_append, List.length_singleton, Nat.pow_succ, Nat.add_mul, Nat.mul_assoc]
    omega
theorem valN_lt (l : List UInt8) : valN l < 256 ^ l.length := by
  induction l using snoc_ind with
  | h0 => simp [valN]
  | h1 b c ih =>
    rw [valN_snoc, List.length_append, List.length_singleton, Nat.pow_succ]
    have := c.toNat_lt
    omega
theorem valN_zeros (n : Nat) (l : List UInt8) : valN (List.replicate n 0 ++ l) = valN l := by
  induction n with
  | zero => simp
  | succ n ih =>
    rw [show List.replicate (n + 1) (0 : UInt8) ++ l = [0] ++ (List.replicate n 0 ++ l) from rfl, valN_append, ih]
    simp [valN]
/-- So many bytes of a number. -/
def beN (v : Nat) : Nat → List UInt8
  | 0 => []
  | n + 1 => beN (v / 256) n ++ [UInt8.ofNat v]
theorem beN_length (v n : Nat) : (beN v n).length = n := by
  induction n generalizing v with
  | zero => rfl
  | succ n ih => simp [beN, ih]
theorem valN_beN (v n : Nat) : valN (beN v n) = v % 256 ^ n := by
  induction n generalizing v with
  | zero => simp [beN, valN, Nat.mod_one]
  | succ n ih =>
    rw [beN, valN_snoc, ih, UInt8.toNat_ofNat', show (256 : Nat) ^ (n + 1) = 256 * 256 ^ n by rw [Nat.pow_succ, Nat.mul_comm], Nat.mod_mul]
    omega
theorem valN_inj (a b : List UInt8) (hl : a.length = b.length) (h : valN a = valN b) : a = b := by
  induction a using snoc_ind generalizing b with
  | h0 => symm; apply List.eq_nil_of_length_eq_zero; simpa using hl.symm
  | h1 a c ih =>
    rcases List.eq_nil_or_concat b with rfl | ⟨b', d, rfl⟩
    · simp at hl
    · rw [valN_snoc] at h
      rw [List.concat_eq_append] at h hl ⊢
      rw [valN_snoc] at h
      have hc := c.toNat_lt
      have hd := d.toNat_lt
      have h1 : valN a = valN b' := by omega
      have h2 : c.toNat = d.toNat := by omega
      rw [ih b' (by simpa using hl) h1, UInt8.toNat_inj.1 h2]
theorem beN_valN (l : List UInt8) : beN (valN l) l.length = l :=
  valN_inj _ _ (beN_length _ _) (by rw [valN_beN]; exact Nat.mod_eq_of_lt (valN_lt l))
theorem beN_zeros (v m : Nat) : ∀ n, v < 256 ^ n → beN v (m + n) = List.replicate m 0 ++ beN v n := by
  intro n h
  refine valN_inj _ _ (by simp [beN_length]) ?_
  rw [valN_zeros, valN_beN, valN_beN, Nat.mod_eq_of_lt h, Nat.mod_eq_of_lt]
  refine Nat.lt_of_lt_of_le h (Nat.pow_le_pow_right (by omega) (by omega))
theorem beN_head (v n : Nat) (h0 : 256 ^ n ≤ v) (h1 : v < 256 ^ (n + 1)) : ∃ c l, beN v (n + 1) = c :: l ∧ c ≠ 0 := by
  have hl := beN_length v (n + 1)
  match hb : beN v (n + 1), hl with
  | c :: l, hl =>
    refine ⟨c, l, rfl, ?_⟩
    rintro rfl
    have h2 : valN (beN v (n + 1)) = v := by rw [valN_beN, Nat.mod_eq_of_lt h1]
    rw [hb, show (0 : UInt8) :: l = List.replicate 1 0 ++ l from rfl, valN_zeros] at h2
    have h3 := valN_lt l
    have h4 : l.length = n := by simpa using hl
    rw [h4] at h3
    omega
/-- How many bytes a number needs. -/
def needN (v : Nat) : Nat := (Lib.bitLen v + 7) / 8
theorem bitLen_pos {x : Nat} (h0 : x ≠ 0) (h : x < 18446744073709551616) : 1 ≤ Lib.bitLen x := by
  rw [Lib.bitLen_half x h0 h]; omega
theorem bitLen_ge {x k : Nat} (h0 : 2 ^ k ≤ x) (h : x < 18446744073709551616) : k + 1 ≤ Lib.bitLen x := by
  rw [Lib.bitLen_shift k x h0 h]
  have h1 : 1 ≤ x / 2 ^ k := Nat.div_pos h0 (Nat.pow_pos (by omega))
  have h2 : x / 2 ^ k ≤ x := Nat.div_le_self _ _
  have := bitLen_pos (x := x / 2 ^ k) (by omega) (by omega)
  omega
theorem pow256 (n : Nat) : 256 ^ n = 2 ^ (8 * n) := by rw [Nat.pow_mul]
theorem needN_lt {v : Nat} (h : v < 18446744073709551616) : v < 256 ^ needN v := by
  rw [pow256]
  rcases Nat.lt_or_ge v (2 ^ (8 * needN v)) with h1 | h1
  · exact h1
  · have := bitLen_ge h1 h
    unfold needN at this
    omega
theorem needN_le {v n : Nat} (h : v < 256 ^ n) (hn : n ≤ 8) : needN v ≤ n := by
  rw [pow256] at h
  have := Lib.bitLen_le v (8 * n) (by omega) h
  unfold needN
  omega
theorem needN_ge {v n : Nat} (hn : needN v = n + 1) (hn8 : n ≤ 7) : 256 ^ n ≤ v := by
  rcases Nat.lt_or_ge v (256 ^ n) with h1 | h1
  · have := needN_le h1 (by omega)
    omega
  · exact h1
end Go.Proofs.Ytdjpcogkpnemlaa.Oct
end
section
/- The reference's bytes of a number, and its number of bytes, are those of the plain lemmas; so are the program's. -/
namespace Go.Proofs.Ytdjpcogkpnemlaa.Oct
open Go Go.RowKit Go.Proofs.YtdjpcogkpnemlaaW.PrintWords Go.Proofs.Ytdjpcogkpnemlaa.POr
set_option linter.unusedVariables false
set_option linter.unusedSimpArgs false
set_option maxRecDepth 100000
theorem wrap64_in {n : Int} (h0 : -9223372036854775808 ≤ n) (h1 : n ≤ 9223372036854775807) : wrap64 n = n := by
  unfold wrap64; omega
theorem wrapU {n : Int} (h0 : 0 ≤ n) (h1 : n < 18446744073709551616) : IntKind.u64.wrap n = n := by
  simp [IntKind.wrap, IntKind.bits, IntKind.signed]; omega
theorem n256 : (256 : Nat) ^ 8 = 18446744073709551616 := by decide
def v128 (hi lo : Nat) : Nat := hi * 18446744073709551616 + lo
theorem beN_get (n : Nat) : ∀ (v j : Nat), j < n → (beN v n)[j]? = some (UInt8.ofNat (v / 256 ^ (n - 1 - j))) := by
  induction n with
  | zero => intro v j hj; omega
  | succ n ih =>
    intro v j hj
    rw [beN]
    by_cases h : j < n
    · rw [List.getElem?_append_left (by rw [beN_length]; exact h), ih _ _ h, Nat.div_div_eq_div_mul, show n + 1 - 1 - j = (n - 1 - j) + 1 by omega, Nat.pow_succ, Nat.mul_comm (256 ^ (n - 1 - j))]
    · obtain rfl : j = n := by omega
      rw [List.getElem?_append_right (by rw [beN_length]; omega), beN_length]
      simp
theorem be16_list (hi lo : Nat) (h1 : hi < 18446744073709551616) (h2 : lo < 18446744073709551616) : (be16 hi lo).data.toList = beN (v128 hi lo) 16 := by
  apply List.ext_getElem?
  intro j
  by_cases hj : j < 16
  · rw [beN_get 16 _ _ hj]
    have e : (be16 hi lo).data.toList[j]? = some (beAt hi lo j) := by
      match j, hj with
      | 0, _ | 1, _ | 2, _ | 3, _ | 4, _ | 5, _ | 6, _ | 7, _ | 8, _ | 9, _ | 10, _ | 11, _ | 12, _ | 13, _ | 14, _ | 15, _ => rfl
      | _ + 16, h => exact absurd h (by omega)
    rw [e]
    congr 1
    unfold beAt v128
    match j, hj with
    | 0, _ | 1, _ | 2, _ | 3, _ | 4, _ | 5, _ | 6, _ | 7, _ =>
      rw [if_pos (by decide)]
      apply UInt8.toNat_inj.1
      simp only [UInt8.toNat_ofNat', Nat.reduceSub, Nat.reduceMul, Nat.reducePow]
      omega
    | 8, _ | 9, _ | 10, _ | 11, _ | 12, _ | 13, _ | 14, _ | 15, _ =>
      rw [if_neg (by decide)]
      apply UInt8.toNat_inj.1
      simp only [UInt8.toNat_ofNat', Nat.reduceSub, Nat.reduceMul, Nat.reducePow]
      omega
    | _ + 16, h => exact absurd h (by omega)
  · have h3 : (be16 hi lo).data.toList.length = 16 := rfl
    rw [List.getElem?_eq_none (by omega), List.getElem?_eq_none (by rw [beN_length]; omega)]
theorem least_lt (hi lo : Nat) (h1 : hi < 18446744073709551616) (h2 : lo < 18446744073709551616) : v128 hi lo < 256 ^ leastN hi lo := by
  unfold leastN v128
  by_cases h : 0 < hi
  · rw [if_pos h]
    have := needN_lt h1
    unfold needN at this
    rw [Nat.pow_add, n256]
    have h3 : hi + 1 ≤ 256 ^ ((Lib.bitLen hi + 7) / 8) := this
    have := Nat.mul_le_mul_left 18446744073709551616 h3
    omega
  · rw [if_neg h]
    have := needN_lt h2
    unfold needN at this
    have h4 : hi = 0 := by omega
    rw [h4]; omega
theorem least_ge (hi lo n : Nat) (h1 : hi < 18446744073709551616) (h2 : lo < 18446744073709551616) (hn : leastN hi lo = n + 1) : 256 ^ n ≤ v128 hi lo := by
  unfold leastN at hn
  unfold v128
  by_cases h : 0 < hi
  · rw [if_pos h] at hn
    have hp : needN hi ≠ 0 := by
      have := bitLen_pos (x := hi) (by omega) h1
      unfold needN; omega
    obtain ⟨m, hm⟩ := Nat.exists_eq_succ_of_ne_zero hp
    have hb := Lib.bitLen_le hi 64 (by omega) h1
    have hm8 : m ≤ 7 := by unfold needN at hm; omega
    have := needN_ge hm hm8
    have e : n = 8 + m := by unfold needN at hm; omega
    rw [e, Nat.pow_add, n256]
    have := Nat.mul_le_mul_left 18446744073709551616 this
    omega
  · rw [if_neg h] at hn
    have hb := Lib.bitLen_le lo 64 (by omega) h2
    have := needN_ge (v := lo) (n := n) hn (by omega)
    omega
theorem ofList_size (l : List UInt8) : (⟨l.toArray⟩ : ByteArray).size = l.length := rfl
theorem ba_ext {a b : ByteArray} (h : a.data.toList = b.data.toList) : a = b := by
  apply ByteArray.ext
  exact Array.toList_inj.1 h
theorem ba_of (a : ByteArray) : a = ⟨a.data.toList.toArray⟩ := by apply ba_ext; simp
theorem size_list (s : ByteArray) : s.size = s.data.toList.length := (Array.length_toList (xs := s.data)).symm
theorem extract_list (s : ByteArray) (i j : Nat) : (s.extract i j).data.toList = (s.data.toList.drop i).take (j - i) := by
  rw [Lib.extract_data]
/-- A number's bytes, as a list. -/
def encL (hi lo : Nat) : List UInt8 := UInt8.ofNat (leastN hi lo) :: beN (v128 hi lo) (leastN hi lo)
theorem wide_list (hi lo : Nat) (h1 : hi < 18446744073709551616) (h2 : lo < 18446744073709551616) : (wideEnc hi lo).data.toList = encL hi lo := by
  unfold wideEnc encL
  have hn := leastN_le hi lo h1 h2
  rw [ByteArray.data_append, Array.toList_append, extract_list, be16_list hi lo h1 h2]
  show UInt8.ofNat (leastN hi lo) :: ([] ++ _) = _
  rw [List.nil_append]
  congr 1
  have hz := beN_zeros (v128 hi lo) (16 - leastN hi lo) (leastN hi lo) (least_lt hi lo h1 h2)
  rw [show 16 - leastN hi lo + leastN hi lo = 16 by omega] at hz
  rw [hz, List.drop_left' (by simp), List.take_of_length_le (by rw [beN_length]; omega)]
/-! the reference's digits -/
theorem dig_mod (n : Nat) : Int.tmod (n : Int) 65536 = ((n % 65536 : Nat) : Int) := by
  rw [Int.tmod_eq_emod_of_nonneg (by omega)]; omega
theorem dig_div (n : Nat) (h : n < 18446744073709551616) : IntKind.u64.wrap (Int.tdiv (n : Int) 65536) = ((n / 65536 : Nat) : Int) := by
  rw [Int.tdiv_eq_ediv_of_nonneg (by omega), wrapU (by omega) (by omega)]; omega
theorem dig_l0 (k : Nat) (xs : List Int) (j : Int) (hi lo : Nat) (hx : xs.length < 100) (h0 : 0 ≤ j) (h4 : j < 4) (h : lo < 18446744073709551616) :
    paymasterref01_digits.l0 (k + 1) xs j hi lo = paymasterref01_digits.l0 k (xs ++ [((lo % 65536 : Nat) : Int)]) (j + 1) hi ((lo / 65536 : Nat) : Int) := by
  rw [paymasterref01_digits.l0, if_pos (by omega), if_pos (by omega), dig_mod, dig_div _ h, wrap64_in (by omega) (by omega)]
theorem dig_l1 (k : Nat) (xs : List Int) (j : Int) (hi : Nat) (lo : Int) (hx : xs.length < 100) (h0 : 0 ≤ j) (h4 : j < 4) (h : hi < 18446744073709551616) :
    paymasterref01_digits.l1 (k + 1) xs j hi lo = paymasterref01_digits.l1 k (xs ++ [((hi % 65536 : Nat) : Int)]) (j + 1) ((hi / 65536 : Nat) : Int) lo := by
  rw [paymasterref01_digits.l1, if_pos (by omega), if_pos (by omega), dig_mod, dig_div _ h, wrap64_in (by omega) (by omega)]
def digL (hi lo : Nat) : List Int := [((lo % 65536 : Nat) : Int), ((lo / 65536 % 65536 : Nat) : Int), ((lo / 65536 / 65536 % 65536 : Nat) : Int), ((lo / 65536 / 65536 / 65536 % 65536 : Nat) : Int), ((hi % 65536 : Nat) : Int), ((hi / 65536 % 65536 : Nat) : Int), ((hi / 65536 / 65536 % 65536 : Nat) : Int), ((hi / 65536 / 65536 / 65536 % 65536 : Nat) : Int)]
theorem digits_eq (k hi lo : Nat) (h1 : hi < 18446744073709551616) (h2 : lo < 18446744073709551616) : paymasterref01_digits.f (k + 10) hi lo = some (digL hi lo) := by
  unfold paymasterref01_digits.f
  rw [dig_l0 (k + 9) _ _ _ _ (by simp) (by omega) (by omega) h2, dig_l0 (k + 8) _ _ _ _ (by simp) (by omega) (by omega) (by omega), dig_l0 (k + 7) _ _ _ _ (by simp) (by omega) (by omega) (by omega), dig_l0 (k + 6) _ _ _ _ (by simp) (by omega) (by omega) (by omega)]
  rw [paymasterref01_digits.l0, if_neg (by omega)]
  rw [dig_l1 (k + 4) _ _ _ _ (by simp) (by omega) (by omega) h1, dig_l1 (k + 3) _ _ _ _ (by simp) (by omega) (by omega) (by omega), dig_l1 (k + 2) _ _ _ _ (by simp) (by omega) (by omega) (by omega), dig_l1 (k + 1) _ _ _ _ (by simp) (by omega) (by omega) (by omega)]
  rw [paymasterref01_digits.l1, if_neg (by omega)]
  rfl
theorem byt (n : Nat) (h : n < 65536) : (IntKind.u64.wrap (Int.tdiv (n : Int) 256)) % 256 = ((n / 256 : Nat) : Int) := by
  rw [Int.tdiv_eq_ediv_of_nonneg (by omega), wrapU (by omega) (by omega)]; omega
theorem byt2 (n : Nat) : (Int.tmod (n : Int) 256) % 256 = ((n % 256 : Nat) : Int) := by
  rw [Int.tmod_eq_emod_of_nonneg (by omega)]; omega
theorem by_l0 (k : Nat) (L xs : List Int) (j : Int) (n : Nat) (hx : xs.length < 100) (hL : L.length = 8) (h0 : 0 ≤ j) (h8 : j < 8) (hd : rd L j = (n : Int)) (hn : n < 65536) :
    paymasterref01_Bytes.l0 (k + 1) L xs j = paymasterref01_Bytes.l0 k L (xs ++ [((n / 256 : Nat) : Int), ((n % 256 : Nat) : Int)]) (j - 1) := by
  rw [paymasterref01_Bytes.l0, if_pos (by omega), if_pos (by omega), if_pos (by omega), hd, byt _ hn, byt2, Option.bind_some, if_pos (by simp; omega), wrap64_in (by omega) (by omega)]
theorem refBytes (k hi lo : Nat) (h1 : hi < 18446744073709551616) (h2 : lo < 18446744073709551616) : paymasterref01_Bytes.f (k + 10) hi lo = some (be16 hi lo) := by
  unfold paymasterref01_Bytes.f
  rw [digits_eq k hi lo h1 h2, Option.bind_some]
  have hL : (digL hi lo).length = 8 := rfl
  rw [by_l0 (k + 9) _ _ _ (hi / 65536 / 65536 / 65536 % 65536) (by simp) hL (by omega) (by omega) rfl (by omega),
    by_l0 (k + 8) _ _ _ (hi / 65536 / 65536 % 65536) (by simp) hL (by omega) (by omega) rfl (by omega),
    by_l0 (k + 7) _ _ _ (hi / 65536 % 65536) (by simp) hL (by omega) (by omega) rfl (by omega),
    by_l0 (k + 6) _ _ _ (hi % 65536) (by simp) hL (by omega) (by omega) rfl (by omega),
    by_l0 (k + 5) _ _ _ (lo / 65536 / 65536 / 65536 % 65536) (by simp) hL (by omega) (by omega) rfl (by omega),
    by_l0 (k + 4) _ _ _ (lo / 65536 / 65536 % 65536) (by simp) hL (by omega) (by omega) rfl (by omega),
    by_l0 (k + 3) _ _ _ (lo / 65536 % 65536) (by simp) hL (by omega) (by omega) rfl (by omega),
    by_l0 (k + 2) _ _ _ (lo % 65536) (by simp) hL (by omega) (by omega) rfl (by omega)]
  rw [paymasterref01_Bytes.l0, if_neg (by omega)]
  congr 1
  apply ba_ext
  rw [strOfNums_data]
  show [_, _, _, _, _, _, _, _, _, _, _, _, _, _, _, _] = [_, _, _, _, _, _, _, _, _, _, _, _, _, _, _, _]
  simp only [List.cons.injEq, and_true]
  refine ⟨?_, ?_, ?_, ?_, ?_, ?_, ?_, ?_, ?_, ?_, ?_, ?_, ?_, ?_, ?_, ?_⟩
  all_goals
    unfold beAt
    apply UInt8.toNat_inj.1
    simp only [UInt8.toNat_ofNat', Nat.reduceSub, Nat.reduceMul, Nat.reducePow, Nat.reduceLT, if_true, if_false, Int.toNat_natCast]
    omega
theorem strip (m : Nat) : ∀ (k : Nat) (t : List UInt8), m < k → t.length < 256 → m < 1000 → (∀ c l, t = c :: l → c ≠ 0) →
    paymasterref08_Wide.l0 k ⟨(List.replicate m 0 ++ t).toArray⟩ = some ⟨(UInt8.ofNat t.length :: t).toArray⟩ := by
  induction m with
  | zero =>
    intro k t hk ht hm hc
    obtain ⟨k, rfl⟩ : ∃ m, k = m + 1 := ⟨k - 1, by omega⟩
    rw [List.replicate_zero, List.nil_append]
    match t with
    | [] =>
      rw [paymasterref08_Wide.l0, if_neg (by simp [ByteArray.size]), Option.bind_some, if_pos (by simp [strOfNums, ByteArray.size])]
      rfl
    | c :: l =>
      have hs : (⟨(c :: l).toArray⟩ : ByteArray).size = l.length + 1 := by simp [ByteArray.size]
      have hb : bt ⟨(c :: l).toArray⟩ 0 = (c.toNat : Int) := by simp [bt, hs]; rfl
      have hn : ¬ (c.toNat : Int) = 0 := by
        intro h
        apply hc c l rfl
        apply UInt8.toNat_inj.1
        simpa using h
      simp only [List.length_cons] at ht
      rw [paymasterref08_Wide.l0, if_pos (by rw [hs]; omega), if_pos (by rw [hs]; omega), hb, if_neg hn, Option.bind_some, hs, if_pos (by rw [strOfNums_size]; simp; omega)]
      congr 1
      apply ba_ext
      rw [ByteArray.data_append, Array.toList_append, strOfNums_data]
      simp only [List.map_cons, List.map_nil, List.length_cons]
      show _ :: _ = _ :: _
      congr 1
      congr 1
      omega
  | succ m ih =>
    intro k t hk ht hm hc
    obtain ⟨k, rfl⟩ : ∃ m, k = m + 1 := ⟨k - 1, by omega⟩
    have hs : (⟨(List.replicate (m + 1) 0 ++ t).toArray⟩ : ByteArray).size = m + 1 + t.length := by simp [ByteArray.size]
    have hb : bt ⟨(List.replicate (m + 1) 0 ++ t).toArray⟩ 0 = 0 := by
      simp only [bt, List.replicate_succ, List.cons_append]
      split <;> rfl
    rw [paymasterref08_Wide.l0, if_pos (by rw [hs]; omega), if_pos (by rw [hs]; omega), if_pos hb, if_pos (by rw [hs]; omega)]
    rw [← ih k t (by omega) ht (by omega) hc]
    congr 1
    apply ba_ext
    rw [extract_list, hs]
    simp only [List.replicate_succ, List.cons_append, List.drop_succ_cons, List.drop_zero]
    rw [List.take_of_length_le (by simp)]
theorem refWide (k hi lo : Nat) (h1 : hi < 18446744073709551616) (h2 : lo < 18446744073709551616) : paymasterref08_Wide.f (k + 20) hi lo = some (wideEnc hi lo) := by
  unfold paymasterref08_Wide.f
  rw [refBytes (k + 10) hi lo h1 h2, Option.bind_some]
  have hn := leastN_le hi lo h1 h2
  have hz := beN_zeros (v128 hi lo) (16 - leastN hi lo) (leastN hi lo) (least_lt hi lo h1 h2)
  rw [show 16 - leastN hi lo + leastN hi lo = 16 by omega] at hz
  rw [ba_of (be16 hi lo), be16_list hi lo h1 h2, hz, strip _ _ _ (by omega) (by rw [beN_length]; omega) (by omega), ba_of (wideEnc hi lo), wide_list hi lo h1 h2, beN_length]
  · rfl
  · intro c l e
    cases hl : leastN hi lo with
    | zero => rw [hl] at e; simp [beN] at e
    | succ n =>
      rw [hl] at e
      obtain ⟨c2, l2, e2, hc⟩ := beN_head (v128 hi lo) n (least_ge hi lo n h1 h2 hl) (by rw [← hl]; exact least_lt hi lo h1 h2)
      rw [e2] at e
      injection e with e3 e4
      rw [← e3]; exact hc
theorem refNum (k n : Nat) (h : n < 18446744073709551616) : paymasterref08_Num.f (k + 20) n = some (wideEnc 0 n) := by
  unfold paymasterref08_Num.f
  have := refWide k 0 n (by omega) h
  rw [show ((0 : Nat) : Int) = 0 from rfl] at this
  rw [this, Option.bind_some]
end Go.Proofs.Ytdjpcogkpnemlaa.Oct
end
section
/- Reading a number: what the reference's reader answers, and what the program's does, as plain functions of bytes. -/
namespace Go.Proofs.Ytdjpcogkpnemlaa.Oct
open Go Go.RowKit Go.Proofs.YtdjpcogkpnemlaaW.PrintWords Go.Proofs.Ytdjpcogkpnemlaa.POr
set_option linter.unusedVariables false
set_option linter.unusedSimpArgs false
set_option maxRecDepth 100000
theorem or_byte (x b : Nat) (hx : x < 72057594037927936) (hb : b < 256) : Go.bits .or .u64 (IntKind.u64.wrap ((x : Int) * 256)) (IntKind.u64.wrap (b : Int)) = ((x * 256 + b : Nat) : Int) := by
  rw [wrapU (by omega) (by omega), wrapU (by omega) (by omega), bits_join .u64 64 (by decide) (fun n h0 h1 => wrapU h0 (by omega)) 8 _ _ (by omega) (by omega) (by omega) (by omega) (by omega) (by omega)]
  omega
theorem bt_list (l : List UInt8) (i : Nat) (h : i < l.length) : bt ⟨l.toArray⟩ (i : Int) = ((l[i]'h).toNat : Int) := by
  unfold bt
  rw [dif_pos (show (i : Int).toNat < (⟨l.toArray⟩ : ByteArray).size by rw [ofList_size]; omega)]
  rfl
theorem take_snoc' (l : List UInt8) (i : Nat) (h : i < l.length) : l.take (i + 1) = l.take i ++ [l[i]'h] := by
  rw [List.take_succ_eq_append_getElem h]
theorem from_l0 (l : List UInt8) (hl : l.length = 16) (d : Nat) : ∀ (k i : Nat), i + d = 8 → d < k →
    u128_From.l0 k ⟨l.toArray⟩ (i : Int) (valN (l.take i) : Nat) (valN ((l.drop 8).take i) : Nat) = some (((valN (l.take 8) : Nat) : Int), ((valN ((l.drop 8).take 8) : Nat) : Int), 0) := by
  have hs : (⟨l.toArray⟩ : ByteArray).size = 16 := by rw [ofList_size]; exact hl
  induction d with
  | zero =>
    intro k i hi hk
    obtain ⟨k, rfl⟩ : ∃ m, k = m + 1 := ⟨k - 1, by omega⟩
    obtain rfl : i = 8 := by omega
    rw [u128_From.l0, if_neg (by omega)]
  | succ d ih =>
    intro k i hi hk
    obtain ⟨k, rfl⟩ : ∃ m, k = m + 1 := ⟨k - 1, by omega⟩
    have R := ih k (i + 1) (by omega) (by omega)
    have h1 : i < l.length := by omega
    have h2 : i < (l.drop 8).length := by simp; omega
    rw [take_snoc' l i h1, take_snoc' _ i h2, valN_snoc, valN_snoc] at R
    have p : ∀ m : List UInt8, m.length ≤ 7 → valN m < 72057594037927936 := by
      intro m hm
      have := valN_lt m
      have q : 256 ^ m.length ≤ 256 ^ 7 := Nat.pow_le_pow_right (by omega) hm
      have e7 : (256 : Nat) ^ 7 = 72057594037927936 := by decide
      omega
    have p1 := p (l.take i) (by simp; omega)
    have p2 := p ((l.drop 8).take i) (by simp; omega)
    have e8 : wrap64 ((i : Int) + 8) = ((i + 8 : Nat) : Int) := by rw [wrap64_in (by omega) (by omega)]; omega
    have e1 : wrap64 ((i : Int) + 1) = ((i + 1 : Nat) : Int) := by rw [wrap64_in (by omega) (by omega)]; omega
    have b1 := bt_list l i h1
    have b2 := bt_list l (i + 8) (by omega)
    have t1 := (l[i]'h1).toNat_lt
    have t2 := (l[i + 8]'(by omega)).toNat_lt
    have e3 : (l.drop 8)[i]'h2 = l[i + 8]'(by omega) := by rw [List.getElem_drop]; congr 1; omega
    rw [e3] at R
    rw [u128_From.l0, if_pos (by omega), if_pos (by omega), if_pos (by rw [hs]; omega), e8, if_pos (by omega), if_pos (by rw [hs]; omega), e1, b1, b2, or_byte _ _ p1 t1, or_byte _ _ p2 t2]
    exact R
theorem uFrom (k : Nat) (l : List UInt8) (hl : l.length = 16) (hk : 9 ≤ k) : u128_From.f k ⟨l.toArray⟩ = some (((valN l / 18446744073709551616 : Nat) : Int), ((valN l % 18446744073709551616 : Nat) : Int), 0) := by
  unfold u128_From.f
  rw [if_pos (by rw [ofList_size, hl]; rfl)]
  have R := from_l0 l hl 8 k 0 rfl (by omega)
  have e : valN l = valN (l.take 8) * 18446744073709551616 + valN ((l.drop 8).take 8) := by
    have h8 : (l.drop 8).take 8 = l.drop 8 := List.take_of_length_le (by simp; omega)
    conv => lhs; rw [← List.take_append_drop 8 l]
    rw [valN_append, h8, List.length_drop, hl, n256]
  have hlt : valN ((l.drop 8).take 8) < 18446744073709551616 := by
    have := valN_lt ((l.drop 8).take 8)
    rw [show ((l.drop 8).take 8).length = 8 by simp; omega, n256] at this
    exact this
  rw [show valN l / 18446744073709551616 = valN (l.take 8) by omega, show valN l % 18446744073709551616 = valN ((l.drop 8).take 8) by omega]
  exact R
theorem fr_l0 (k : Nat) (s : ByteArray) (xs : List Int) (j : Int) (b0 b1 : Nat) (hs : s.size = 16) (hx : xs.length < 100) (h0 : 0 ≤ j) (h8 : j < 8) (e0 : bt s (2 * j) = b0) (e1 : bt s (2 * j + 1) = b1) (hb0 : b0 < 256) (hb1 : b1 < 256) :
    paymasterref01_From.l0 (k + 1) s xs j = paymasterref01_From.l0 k s (xs ++ [((b0 * 256 + b1 : Nat) : Int)]) (j - 1) := by
  have w1 : wrap64 (2 * j) = 2 * j := wrap64_in (by omega) (by omega)
  have w2 : wrap64 (2 * j + 1) = 2 * j + 1 := wrap64_in (by omega) (by omega)
  have w3 : wrap64 (j - 1) = j - 1 := wrap64_in (by omega) (by omega)
  have v : IntKind.u64.wrap (IntKind.u64.wrap (256 * IntKind.u64.wrap (b0 : Int)) + IntKind.u64.wrap (b1 : Int)) = ((b0 * 256 + b1 : Nat) : Int) := by
    rw [wrapU (n := (b0 : Int)) (by omega) (by omega), wrapU (n := (b1 : Int)) (by omega) (by omega), wrapU (n := 256 * (b0 : Int)) (by omega) (by omega), wrapU (by omega) (by omega)]
    omega
  rw [paymasterref01_From.l0, if_pos (by omega), w1, w2, w3, e0, e1, v, if_pos (by omega), if_pos (by rw [hs]; omega), if_pos (by omega), if_pos (by rw [hs]; omega), if_pos (by omega)]
theorem nm_hi (k : Nat) (L : List Int) (j : Int) (n hi : Nat) (lo : Int) (hL : L.length = 8) (h0 : 4 ≤ j) (h8 : j < 8) (e : rd L j = n) (hn : n < 65536) (hh : hi < 281474976710656) :
    paymasterref01_number.l0 (k + 3) L j hi lo = paymasterref01_number.l0 k L (j - 1) ((hi * 65536 + n : Nat) : Int) lo := by
  have w3 : wrap64 (j - 1) = j - 1 := wrap64_in (by omega) (by omega)
  have v : IntKind.u64.wrap (IntKind.u64.wrap ((hi : Int) * 65536) + (n : Int)) = ((hi * 65536 + n : Nat) : Int) := by
    rw [wrapU (n := (hi : Int) * 65536) (by omega) (by omega), wrapU (by omega) (by omega)]; omega
  rw [paymasterref01_number.l0, if_pos (by omega), if_neg (by omega), paymasterref01_number.j1, if_neg (by simp), if_pos (by omega), paymasterref01_number.j2, if_pos (by simpa using h0), if_pos (by omega), if_pos (by omega), if_neg (by omega), w3, e, v]
theorem nm_lo (k : Nat) (L : List Int) (j : Int) (n lo : Nat) (hi : Int) (hL : L.length = 8) (h0 : 0 ≤ j) (h8 : j < 4) (e : rd L j = n) (hn : n < 65536) (hh : lo < 281474976710656) :
    paymasterref01_number.l0 (k + 3) L j hi lo = paymasterref01_number.l0 k L (j - 1) hi ((lo * 65536 + n : Nat) : Int) := by
  have w3 : wrap64 (j - 1) = j - 1 := wrap64_in (by omega) (by omega)
  have v : IntKind.u64.wrap (IntKind.u64.wrap ((lo : Int) * 65536) + (n : Int)) = ((lo * 65536 + n : Nat) : Int) := by
    rw [wrapU (n := (lo : Int) * 65536) (by omega) (by omega), wrapU (by omega) (by omega)]; omega
  rw [paymasterref01_number.l0, if_pos (by omega), if_neg (by omega), paymasterref01_number.j1, if_neg (by simp), if_pos (by omega), paymasterref01_number.j2, if_neg (by simp; omega), if_pos (by omega), if_pos (by omega), if_pos (by omega), w3, e, v]
theorem list16 (l : List UInt8) (h : l.length = 16) : ∃ c0 c1 c2 c3 c4 c5 c6 c7 c8 c9 c10 c11 c12 c13 c14 c15, l = [c0, c1, c2, c3, c4, c5, c6, c7, c8, c9, c10, c11, c12, c13, c14, c15] := by
  match l, h with
  | [c0, c1, c2, c3, c4, c5, c6, c7, c8, c9, c10, c11, c12, c13, c14, c15], _ => exact ⟨c0, c1, c2, c3, c4, c5, c6, c7, c8, c9, c10, c11, c12, c13, c14, c15, rfl⟩
theorem pairUp {a b c d : Nat} (h : a = b) (k : c = d) : some ((a : Int), (c : Int), true) = some ((b : Int), (d : Int), true) := by rw [h, k]
theorem val16 (c0 c1 c2 c3 c4 c5 c6 c7 c8 c9 c10 c11 c12 c13 c14 c15 : UInt8) : valN [c0, c1, c2, c3, c4, c5, c6, c7, c8, c9, c10, c11, c12, c13, c14, c15] = valN [c0, c1, c2, c3, c4, c5, c6, c7] * 18446744073709551616 + valN [c8, c9, c10, c11, c12, c13, c14, c15] := by
  have h := valN_append [c0, c1, c2, c3, c4, c5, c6, c7] [c8, c9, c10, c11, c12, c13, c14, c15]
  have e : 256 ^ ([c8, c9, c10, c11, c12, c13, c14, c15] : List UInt8).length = 18446744073709551616 := n256
  rw [e] at h
  exact h
theorem horner_nat (a b c d e f g h : Nat) : ((((0 * 65536 + (a * 256 + b)) * 65536 + (c * 256 + d)) * 65536 + (e * 256 + f)) * 65536 + (g * 256 + h)) = ((((((((0 * 256 + a) * 256 + b) * 256 + c) * 256 + d) * 256 + e) * 256 + f) * 256 + g) * 256 + h) := by omega
theorem horner (a b c d e f g h : UInt8) : ((((0 * 65536 + (a.toNat * 256 + b.toNat)) * 65536 + (c.toNat * 256 + d.toNat)) * 65536 + (e.toNat * 256 + f.toNat)) * 65536 + (g.toNat * 256 + h.toNat)) = valN [a, b, c, d, e, f, g, h] := horner_nat _ _ _ _ _ _ _ _
set_option maxHeartbeats 2000000 in
theorem refFrom (k : Nat) (l : List UInt8) (hl : l.length = 16) : paymasterref01_From.f (k + 40) ⟨l.toArray⟩ = some (((valN l / 18446744073709551616 : Nat) : Int), ((valN l % 18446744073709551616 : Nat) : Int), 0) := by
  unfold paymasterref01_From.f
  have hs : (⟨l.toArray⟩ : ByteArray).size = 16 := by rw [ofList_size]; exact hl
  rw [if_pos (by rw [hs]; rfl)]
  obtain ⟨c0, c1, c2, c3, c4, c5, c6, c7, c8, c9, c10, c11, c12, c13, c14, c15, rfl⟩ := list16 l hl
  have t0 := c0.toNat_lt
  have t1 := c1.toNat_lt
  have t2 := c2.toNat_lt
  have t3 := c3.toNat_lt
  have t4 := c4.toNat_lt
  have t5 := c5.toNat_lt
  have t6 := c6.toNat_lt
  have t7 := c7.toNat_lt
  have t8 := c8.toNat_lt
  have t9 := c9.toNat_lt
  have t10 := c10.toNat_lt
  have t11 := c11.toNat_lt
  have t12 := c12.toNat_lt
  have t13 := c13.toNat_lt
  have t14 := c14.toNat_lt
  have t15 := c15.toNat_lt
  rw [fr_l0 (k + 39) _ _ _ c14.toNat c15.toNat hs (by simp) (by omega) (by omega) rfl rfl t14 t15,
    fr_l0 (k + 38) _ _ _ c12.toNat c13.toNat hs (by simp) (by omega) (by omega) rfl rfl t12 t13,
    fr_l0 (k + 37) _ _ _ c10.toNat c11.toNat hs (by simp) (by omega) (by omega) rfl rfl t10 t11,
    fr_l0 (k + 36) _ _ _ c8.toNat c9.toNat hs (by simp) (by omega) (by omega) rfl rfl t8 t9,
    fr_l0 (k + 35) _ _ _ c6.toNat c7.toNat hs (by simp) (by omega) (by omega) rfl rfl t6 t7,
    fr_l0 (k + 34) _ _ _ c4.toNat c5.toNat hs (by simp) (by omega) (by omega) rfl rfl t4 t5,
    fr_l0 (k + 33) _ _ _ c2.toNat c3.toNat hs (by simp) (by omega) (by omega) rfl rfl t2 t3,
    fr_l0 (k + 32) _ _ _ c0.toNat c1.toNat hs (by simp) (by omega) (by omega) rfl rfl t0 t1]
  rw [paymasterref01_From.l0, if_neg (by omega)]
  have hL : ([((c14.toNat * 256 + c15.toNat : Nat) : Int), ((c12.toNat * 256 + c13.toNat : Nat) : Int), ((c10.toNat * 256 + c11.toNat : Nat) : Int), ((c8.toNat * 256 + c9.toNat : Nat) : Int), ((c6.toNat * 256 + c7.toNat : Nat) : Int), ((c4.toNat * 256 + c5.toNat : Nat) : Int), ((c2.toNat * 256 + c3.toNat : Nat) : Int), ((c0.toNat * 256 + c1.toNat : Nat) : Int)]).length = 8 := rfl
  have key : paymasterref01_number.f (k + 31) [((c14.toNat * 256 + c15.toNat : Nat) : Int), ((c12.toNat * 256 + c13.toNat : Nat) : Int), ((c10.toNat * 256 + c11.toNat : Nat) : Int), ((c8.toNat * 256 + c9.toNat : Nat) : Int), ((c6.toNat * 256 + c7.toNat : Nat) : Int), ((c4.toNat * 256 + c5.toNat : Nat) : Int), ((c2.toNat * 256 + c3.toNat : Nat) : Int), ((c0.toNat * 256 + c1.toNat : Nat) : Int)] = some (((valN [c0, c1, c2, c3, c4, c5, c6, c7] : Nat) : Int), ((valN [c8, c9, c10, c11, c12, c13, c14, c15] : Nat) : Int), true) := by
    unfold paymasterref01_number.f
    rw [hL, show wrap64 (((8 : Nat) : Int) - 1) = 7 from wrap64_in (by omega) (by omega)]
    have z : (0 : Int) = ((0 : Nat) : Int) := rfl
    rw [z]
    rw [nm_hi (k + 28) _ _ (c0.toNat * 256 + c1.toNat) _ _ hL (by omega) (by omega) rfl (by omega) (by omega),
      nm_hi (k + 25) _ _ (c2.toNat * 256 + c3.toNat) _ _ hL (by omega) (by omega) rfl (by omega) (by omega),
      nm_hi (k + 22) _ _ (c4.toNat * 256 + c5.toNat) _ _ hL (by omega) (by omega) rfl (by omega) (by omega),
      nm_hi (k + 19) _ _ (c6.toNat * 256 + c7.toNat) _ _ hL (by omega) (by omega) rfl (by omega) (by omega),
      nm_lo (k + 16) _ _ (c8.toNat * 256 + c9.toNat) _ _ hL (by omega) (by omega) rfl (by omega) (by omega),
      nm_lo (k + 13) _ _ (c10.toNat * 256 + c11.toNat) _ _ hL (by omega) (by omega) rfl (by omega) (by omega),
      nm_lo (k + 10) _ _ (c12.toNat * 256 + c13.toNat) _ _ hL (by omega) (by omega) rfl (by omega) (by omega),
      nm_lo (k + 7) _ _ (c14.toNat * 256 + c15.toNat) _ _ hL (by omega) (by omega) rfl (by omega) (by omega)]
    rw [paymasterref01_number.l0, if_neg (by omega)]
    exact pairUp (horner c0 c1 c2 c3 c4 c5 c6 c7) (horner c8 c9 c10 c11 c12 c13 c14 c15)
  have e := val16 c0 c1 c2 c3 c4 c5 c6 c7 c8 c9 c10 c11 c12 c13 c14 c15
  have hlt : valN [c8, c9, c10, c11, c12, c13, c14, c15] < 18446744073709551616 := by
    have := valN_lt [c8, c9, c10, c11, c12, c13, c14, c15]
    rw [show ([c8, c9, c10, c11, c12, c13, c14, c15]).length = 8 from rfl, n256] at this
    exact this
  rw [show valN [c0, c1, c2, c3, c4, c5, c6, c7, c8, c9, c10, c11, c12, c13, c14, c15] / 18446744073709551616 = valN [c0, c1, c2, c3, c4, c5, c6, c7] by omega, show valN [c0, c1, c2, c3, c4, c5, c6, c7, c8, c9, c10, c11, c12, c13, c14, c15] % 18446744073709551616 = valN [c8, c9, c10, c11, c12, c13, c14, c15] by omega]
  simp only [List.nil_append, List.cons_append]
  rw [key, Option.bind_some]
end Go.Proofs.Ytdjpcogkpnemlaa.Oct
end
section
/- What is read of bytes: plain functions, and the reference's reader answers by them. -/
namespace Go.Proofs.Ytdjpcogkpnemlaa.Oct
open Go Go.RowKit Go.Proofs.YtdjpcogkpnemlaaW.PrintWords Go.Proofs.Ytdjpcogkpnemlaa.POr
set_option linter.unusedVariables false
set_option linter.unusedSimpArgs false
set_option maxRecDepth 100000
/-- The first byte's number. -/
def b0 (s : ByteArray) : Nat := match s.data.toList with | [] => 0 | c :: _ => c.toNat
theorem bt_zero (s : ByteArray) : bt s 0 = (b0 s : Int) := by
  rw [ba_of s]
  generalize s.data.toList = l
  unfold b0
  match l with
  | [] => rfl
  | c :: l => exact bt_list (c :: l) 0 (by simp)
theorem b0_lt (s : ByteArray) : b0 s < 256 := by
  unfold b0
  split
  · omega
  · exact UInt8.toNat_lt _
abbrev noB : ByteArray := ⟨#[]⟩
def takeS (b : ByteArray) (sp : Bool) (n : Nat) : ByteArray × ByteArray × Bool :=
  if sp = true ∨ b.size < n then (noB, noB, true) else (b.extract 0 n, b.extract n b.size, false)
def byteS (b : ByteArray) (sp : Bool) : Nat × ByteArray × Bool := (b0 (takeS b sp 1).1, (takeS b sp 1).2)
def numS (most : Nat) (b : ByteArray) (sp : Bool) : Nat × Nat × ByteArray × Bool :=
  if most < (byteS b sp).1 then (0, 0, noB, true)
  else if (takeS (byteS b sp).2.1 (byteS b sp).2.2 (byteS b sp).1).2.2 = true ∨ ((takeS (byteS b sp).2.1 (byteS b sp).2.2 (byteS b sp).1).1.size ≠ 0 ∧ b0 (takeS (byteS b sp).2.1 (byteS b sp).2.2 (byteS b sp).1).1 = 0) then (0, 0, noB, true)
  else (valN (takeS (byteS b sp).2.1 (byteS b sp).2.2 (byteS b sp).1).1.data.toList / 18446744073709551616, valN (takeS (byteS b sp).2.1 (byteS b sp).2.2 (byteS b sp).1).1.data.toList % 18446744073709551616, (takeS (byteS b sp).2.1 (byteS b sp).2.2 (byteS b sp).1).2)
def flagS (b : ByteArray) (sp : Bool) : Bool × ByteArray × Bool := if 1 < (byteS b sp).1 then (false, noB, true) else ((byteS b sp).1 == 1, (byteS b sp).2)
def textS (most : Int) (b : ByteArray) (sp : Bool) : ByteArray × ByteArray × Bool :=
  if max most 0 < ((numS 8 b sp).2.1 : Int) then (noB, noB, true) else takeS (numS 8 b sp).2.2.1 (numS 8 b sp).2.2.2 (numS 8 b sp).2.1
/-- Once it is spoilt, nothing is left. -/
def OkIn (b : ByteArray) (sp : Bool) : Prop := b.size ≤ 140737488351232 ∧ (sp = true → b = noB)
theorem takeS_ok {b : ByteArray} {sp : Bool} (n : Nat) (h : OkIn b sp) : OkIn (takeS b sp n).2.1 (takeS b sp n).2.2 ∧ (takeS b sp n).2.1.size ≤ b.size ∧ (takeS b sp n).1.size ≤ b.size := by
  unfold takeS
  split
  · exact ⟨⟨by show 0 ≤ _; omega, fun _ => rfl⟩, Nat.zero_le _, Nat.zero_le _⟩
  · have h2 := h.1
    refine ⟨⟨?_, fun h => by cases h⟩, ?_, ?_⟩
    · show (b.extract n b.size).size ≤ _; rw [ByteArray.size_extract]; omega
    · show (b.extract n b.size).size ≤ _; rw [ByteArray.size_extract]; omega
    · show (b.extract 0 n).size ≤ _; rw [ByteArray.size_extract]; omega
theorem takeS_size {b : ByteArray} {sp : Bool} (n : Nat) (h : (takeS b sp n).2.2 = false) : (takeS b sp n).1.size = n := by
  unfold takeS at h ⊢
  split at h
  · cases h
  · rename_i hc
    rw [if_neg hc]
    show (b.extract 0 n).size = n
    rw [ByteArray.size_extract]
    omega
theorem takeS_lt {b : ByteArray} {sp : Bool} (n : Nat) : (takeS b sp n).1.size ≤ n := by
  unfold takeS
  split
  · exact Nat.zero_le _
  · show (b.extract 0 n).size ≤ n
    rw [ByteArray.size_extract]; omega
theorem takeS_sp {b : ByteArray} {sp : Bool} {n : Nat} (h : (takeS b sp n).2.2 = true) : takeS b sp n = (noB, noB, true) := by
  unfold takeS at h ⊢
  split
  · rfl
  · rename_i hc; rw [if_neg hc] at h; cases h
theorem byteS_lt (b : ByteArray) (sp : Bool) : (byteS b sp).1 < 256 := b0_lt _
theorem byteS_ok {b : ByteArray} {sp : Bool} (h : OkIn b sp) : OkIn (byteS b sp).2.1 (byteS b sp).2.2 ∧ (byteS b sp).2.1.size ≤ b.size := ⟨(takeS_ok 1 h).1, (takeS_ok 1 h).2.1⟩
theorem numS_ok {b : ByteArray} {sp : Bool} (most : Nat) (h : OkIn b sp) : OkIn (numS most b sp).2.2.1 (numS most b sp).2.2.2 ∧ (numS most b sp).2.2.1.size ≤ b.size := by
  have hz : OkIn noB true ∧ noB.size ≤ b.size := ⟨⟨by show 0 ≤ _; omega, fun _ => rfl⟩, Nat.zero_le _⟩
  have h1 := byteS_ok h
  have h2 := takeS_ok (byteS b sp).1 h1.1
  unfold numS
  split
  · exact hz
  · split
    · exact hz
    · exact ⟨h2.1, Nat.le_trans h2.2.1 h1.2⟩
theorem numS_lt (most : Nat) (b : ByteArray) (sp : Bool) : (numS most b sp).2.1 < 18446744073709551616 := by
  unfold numS
  split
  · show 0 < _; omega
  · split
    · show 0 < _; omega
    · exact Nat.mod_lt _ (by omega)
theorem numS_hi (most : Nat) (b : ByteArray) (sp : Bool) (hm : most ≤ 16) : (numS most b sp).1 < 18446744073709551616 := by
  unfold numS
  split
  · show 0 < _; omega
  · split
    · show 0 < _; omega
    · rename_i h1 h2
      have h3 := valN_lt (takeS (byteS b sp).2.1 (byteS b sp).2.2 (byteS b sp).1).1.data.toList
      rw [← size_list] at h3
      have h4 := takeS_lt (b := (byteS b sp).2.1) (sp := (byteS b sp).2.2) (byteS b sp).1
      have h5 : 256 ^ (takeS (byteS b sp).2.1 (byteS b sp).2.2 (byteS b sp).1).1.size ≤ 256 ^ 16 := Nat.pow_le_pow_right (by omega) (by omega)
      have h6 : (256 : Nat) ^ 16 = 18446744073709551616 * 18446744073709551616 := by decide
      exact Nat.div_lt_of_lt_mul (by omega)
theorem flagS_ok {b : ByteArray} {sp : Bool} (h : OkIn b sp) : OkIn (flagS b sp).2.1 (flagS b sp).2.2 ∧ (flagS b sp).2.1.size ≤ b.size := by
  unfold flagS
  split
  · exact ⟨⟨by show 0 ≤ _; omega, fun _ => rfl⟩, Nat.zero_le _⟩
  · exact byteS_ok h
theorem textS_ok {b : ByteArray} {sp : Bool} (most : Int) (h : OkIn b sp) : OkIn (textS most b sp).2.1 (textS most b sp).2.2 ∧ (textS most b sp).2.1.size ≤ b.size ∧ (textS most b sp).1.size ≤ b.size := by
  unfold textS
  split
  · exact ⟨⟨by show 0 ≤ _; omega, fun _ => rfl⟩, Nat.zero_le _, Nat.zero_le _⟩
  · have h1 := numS_ok 8 h
    have h2 := takeS_ok (numS 8 b sp).2.1 h1.1
    exact ⟨h2.1, Nat.le_trans h2.2.1 h1.2, Nat.le_trans h2.2.2 h1.2⟩
/-! the reference's reader -/
theorem refTake (b : ByteArray) (sp : Bool) (n : Nat) (h : OkIn b sp) : paymasterref08_In_take.f b sp (n : Int) = some ((takeS b sp n).1, (takeS b sp n).2.1, (takeS b sp n).2.2) := by
  have hb := h.1
  unfold paymasterref08_In_take.f paymasterref08_In_Spoil.f takeS
  cases sp with
  | true => simp
  | false =>
    rw [if_neg (by simp), wrapU (by omega) (by omega)]
    by_cases h1 : b.size < n
    · rw [if_pos (by omega), if_pos (.inr h1)]; rfl
    · rw [if_neg (by omega), if_pos (by omega), if_pos (by omega), if_neg (by simp; omega)]; rfl
theorem refByte (b : ByteArray) (sp : Bool) (h : OkIn b sp) : paymasterref08_In_Byte.f b sp = some (((byteS b sp).1 : Int), (byteS b sp).2.1, (byteS b sp).2.2) := by
  unfold paymasterref08_In_Byte.f byteS
  have e := refTake b sp 1 h
  rw [show ((1 : Nat) : Int) = 1 from rfl] at e
  rw [e, Option.bind_some]
  generalize takeS b sp 1 = t
  obtain ⟨s, b2, sp2⟩ := t
  simp only
  by_cases h1 : (s.size : Int) = 0
  · rw [if_pos h1]
    have : b0 s = 0 := by
      unfold b0
      have h2 := List.eq_nil_of_length_eq_zero (l := s.data.toList) (by rw [← size_list]; omega)
      rw [h2]
    rw [this]; rfl
  · rw [if_neg h1, if_pos (by omega), bt_zero]
theorem refPad (d : Nat) : ∀ (k : Nat) (l : List UInt8) (b : ByteArray) (sp : Bool), l.length + d = 16 → d + 45 ≤ k →
    paymasterref08_In_number.l0 k ⟨l.toArray⟩ b sp = some (((valN l / 18446744073709551616 : Nat) : Int), ((valN l % 18446744073709551616 : Nat) : Int), b, sp) := by
  induction d with
  | zero =>
    intro k l b sp hl hk
    obtain ⟨k, rfl⟩ : ∃ m, k = m + 40 + 1 := ⟨k - 41, by omega⟩
    have hs : (⟨l.toArray⟩ : ByteArray).size = 16 := by rw [ofList_size]; omega
    rw [paymasterref08_In_number.l0, if_neg (by rw [hs]; omega), refFrom k l (by omega)]; rfl
  | succ d ih =>
    intro k l b sp hl hk
    obtain ⟨k, rfl⟩ : ∃ m, k = m + 1 := ⟨k - 1, by omega⟩
    have hs : (⟨l.toArray⟩ : ByteArray).size = l.length := ofList_size l
    have e : (⟨#[0]⟩ : ByteArray) ++ ⟨l.toArray⟩ = ⟨(0 :: l).toArray⟩ := by
      apply ba_ext
      rw [ByteArray.data_append, Array.toList_append]; rfl
    rw [paymasterref08_In_number.l0, if_pos (by rw [hs]; omega), if_pos (by rw [hs]; omega), e, ih k (0 :: l) b sp (by simp; omega) (by omega)]
    rw [show (0 : UInt8) :: l = List.replicate 1 0 ++ l from rfl, valN_zeros]
theorem refNumber (k most : Nat) (b : ByteArray) (sp : Bool) (h : OkIn b sp) (hm : most ≤ 16) (hk : 70 ≤ k) :
    paymasterref08_In_number.f k b sp (most : Int) = some (((numS most b sp).1 : Int), ((numS most b sp).2.1 : Int), (numS most b sp).2.2.1, (numS most b sp).2.2.2) := by
  obtain ⟨k, rfl⟩ : ∃ m, k = m + 1 := ⟨k - 1, by omega⟩
  have h1 := byteS_ok h
  have hlt := byteS_lt b sp
  have e := refByte b sp h
  unfold paymasterref08_In_number.f numS
  rw [e, Option.bind_some]
  generalize byteS b sp = x at *
  obtain ⟨n, b2, sp2⟩ := x
  simp only at *
  rw [wrap64_in (by omega) (by omega)]
  by_cases hc : most < n
  · rw [if_pos (by omega), if_pos hc]; rfl
  · have hT := takeS_lt (b := b2) (sp := sp2) n
    rw [if_neg (by omega), if_neg hc, wrapU (by omega) (by omega), refTake b2 sp2 n h1.1, Option.bind_some]
    generalize takeS b2 sp2 n = t at *
    obtain ⟨s, b3, sp3⟩ := t
    simp only at *
    have pad : paymasterref08_In_number.l0 k s b3 sp3 = some (((valN s.data.toList / 18446744073709551616 : Nat) : Int), ((valN s.data.toList % 18446744073709551616 : Nat) : Int), b3, sp3) := by
      conv => lhs; rw [ba_of s]
      exact refPad (16 - s.size) k _ b3 sp3 (by rw [← size_list]; omega) (by omega)
    cases sp3 with
    | true => rw [if_pos rfl, paymasterref08_In_number.j0, if_pos rfl, if_pos (.inl rfl)]; rfl
    | false =>
      rw [if_neg (by simp)]
      by_cases hs : s.size = 0
      · rw [if_neg (by omega), paymasterref08_In_number.j0, if_neg (by simp), if_neg (by simp [hs]), pad]
      · rw [if_pos (by omega), if_pos (by omega), paymasterref08_In_number.j0, bt_zero]
        by_cases hz : b0 s = 0
        · rw [if_pos (by simp [hz]), if_pos (.inr ⟨hs, hz⟩)]; rfl
        · rw [if_neg (by simpa using hz), if_neg (by simp [hz]), pad]
theorem refNumR (k : Nat) (b : ByteArray) (sp : Bool) (h : OkIn b sp) (hk : 70 ≤ k) : paymasterref08_In_Num.f k b sp = some (((numS 8 b sp).2.1 : Int), (numS 8 b sp).2.2.1, (numS 8 b sp).2.2.2) := by
  unfold paymasterref08_In_Num.f
  have e := refNumber k 8 b sp h (by omega) hk
  rw [show ((8 : Nat) : Int) = 8 from rfl] at e
  rw [e]; rfl
theorem refWideR (k : Nat) (b : ByteArray) (sp : Bool) (h : OkIn b sp) (hk : 70 ≤ k) : paymasterref08_In_Wide.f k b sp = some (((numS 16 b sp).1 : Int), ((numS 16 b sp).2.1 : Int), (numS 16 b sp).2.2.1, (numS 16 b sp).2.2.2) := by
  unfold paymasterref08_In_Wide.f
  have e := refNumber k 16 b sp h (by omega) hk
  rw [show ((16 : Nat) : Int) = 16 from rfl] at e
  rw [e]; rfl
theorem refFlagR (b : ByteArray) (sp : Bool) (h : OkIn b sp) : paymasterref08_In_Flag.f b sp = some ((flagS b sp).1, (flagS b sp).2.1, (flagS b sp).2.2) := by
  unfold paymasterref08_In_Flag.f flagS
  rw [refByte b sp h, Option.bind_some]
  by_cases hc : 1 < (byteS b sp).1
  · rw [if_pos (by show ((byteS b sp).1 : Int) > 1; omega), if_pos hc]; rfl
  · rw [if_neg (by show ¬ ((byteS b sp).1 : Int) > 1; omega), if_neg hc]
    congr 2
    show (((byteS b sp).1 : Int) == 1) = ((byteS b sp).1 == 1)
    rw [Bool.eq_iff_iff]; simp; omega
theorem refTextR (k : Nat) (most : Int) (b : ByteArray) (sp : Bool) (h : OkIn b sp) (hk : 70 ≤ k) (hm : -9223372036854775808 ≤ most ∧ most ≤ 9223372036854775807) :
    paymasterref08_In_Text.f k b sp most = some ((textS most b sp).1, (textS most b sp).2.1, (textS most b sp).2.2) := by
  obtain ⟨k, rfl⟩ : ∃ m, k = m + 1 := ⟨k - 1, by omega⟩
  have h1 := numS_ok 8 h
  unfold paymasterref08_In_Text.f textS
  rw [refNumR (k + 1) b sp h hk, Option.bind_some]
  generalize numS 8 b sp = x at *
  obtain ⟨hi, n, b2, sp2⟩ := x
  simp only at *
  have ta := refTake b2 sp2 n h1.1
  by_cases hneg : most < 0
  · rw [if_pos hneg]
    by_cases hn : n = 0
    · rw [if_neg (show ¬ (n : Int) > 0 by omega), if_neg (show ¬ most ≥ 0 by omega), paymasterref08_In_Text.j0, if_neg (by simp), ta, if_neg (show ¬ max most 0 < (n : Int) by omega)]; rfl
    · rw [if_pos (show (n : Int) > 0 by omega), paymasterref08_In_Text.j0, if_pos rfl, if_pos (show max most 0 < (n : Int) by omega)]; rfl
  · rw [if_neg hneg, if_pos (show most ≥ 0 by omega), paymasterref08_In_Text.j0, wrapU (by omega) (by omega)]
    by_cases hn : most < (n : Int)
    · rw [if_pos (by simpa using hn), if_pos (show max most 0 < (n : Int) by omega)]; rfl
    · rw [if_neg (by simpa using hn), if_neg (show ¬ max most 0 < (n : Int) by omega), ta]; rfl
end Go.Proofs.Ytdjpcogkpnemlaa.Oct
end
