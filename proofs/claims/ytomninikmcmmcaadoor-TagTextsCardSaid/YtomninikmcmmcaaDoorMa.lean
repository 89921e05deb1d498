/- Texts of this session, put together: PureTa, NumT. -/
import Derived.Test.YtomninikmcmmcaaDoorPTgA
import Derived.Test.YtomninikmcmmcaaDoorMi
import Derived.Test.YtomninikmcmmcaaDoorIdA
import Derived.Test.YtomninikmcmmcaaDoorTa
import Derived.Laws.BitsLemmas
section
/- Plain law of chapter 07: the reference's rune is the model's decoder's. -/
namespace Go.Proofs.YtomninikmcmmcaaDoor.Tag
open Go Go.RowKit Go.Proofs.YtomninikmcmmcaaDoorW.PrintWords Go.Proofs.YtomninikmcmmcaaDoor.PTg Go.Proofs.YtomninikmcmmcaaDoor.GivU Go.Proofs.YtomninikmcmmcaaDoor.GivT Go.Proofs.YtomninikmcmmcaaDoor.Ids Go.Proofs.YtomninikmcmmcaaDoor.Oct
set_option linter.unusedVariables false
set_option linter.unusedSimpArgs false
theorem wrap64_in {n : Int} (h0 : -9223372036854775808 ≤ n) (h1 : n ≤ 9223372036854775807) : wrap64 n = n := by
  unfold wrap64; omega
theorem bt_get (s : ByteArray) (i : Nat) (h : i < s.size) : bt s (i : Int) = ((s.get! i).toNat : Int) := by
  unfold bt
  rw [dif_pos (by omega)]
  have : s.get! i = s[i]'h := by
    simp [ByteArray.get!, getElem!_pos, h]
    rfl
  rw [this]
  rfl
theorem get_lt (s : ByteArray) (i : Nat) : (s.get! i).toNat < 256 := (s.get! i).toNat_lt
end Go.Proofs.YtomninikmcmmcaaDoor.Tag
end
section
/- A number's sixteen bytes, and back: the program's and the reference's (chapter 07's print). Printed by tools/mk_numt.py. -/
namespace Go.Proofs.YtomninikmcmmcaaDoor.Tag
open Go Go.RowKit Go.Proofs.YtomninikmcmmcaaDoorW.PrintWords Go.Proofs.YtomninikmcmmcaaDoor.GivT Go.Proofs.YtomninikmcmmcaaDoor.Oct
set_option linter.unusedVariables false
set_option linter.unusedSimpArgs false
set_option maxRecDepth 100000
theorem snoc_ind {α : Type} {P : List α → Prop} (h0 : P []) (h1 : ∀ l c, P l → P (l ++ [c])) (l : List α) : P l := by
  have key : ∀ n (l : List α), l.length = n → P l := by
    intro n
    induction n with
    | zero => intro l hl; rw [List.eq_nil_of_length_eq_zero hl]; exact h0
    | succ n ih =>
      intro l hl
      rcases List.eq_nil_or_concat l with rfl | ⟨l', c, rfl⟩
      · exact h0
      · exact (List.concat_eq_append ▸ h1 l' c (ih l' (by simpa using hl)))
  exact key _ l rfl
/-- The number of bytes. -/
def valN (l : List UInt8) : Nat := l.foldl (fun a c => a * 256 + c.toNat) 0
theorem valN_snoc (l : List UInt8) (c : UInt8) : valN (l ++ [c]) = valN l * 256 + c.toNat := by simp [valN, List.foldl_append]
theorem valN_append (a b : List UInt8) : valN (a ++ b) = valN a * 256 ^ b.length + valN b := by
  induction b using snoc_ind with
  | h0 => simp [valN]
  | h1 b c ih =>
    rw [← List.append_assoc, valN_snoc, ih, valN_snoc, List.length_append, List.length_singleton, Nat.pow_succ, Nat.add_mul, Nat.mul_assoc]
    omega
theorem valN_lt (l : List UInt8) : valN l < 256 ^ l.length := by
  induction l using snoc_ind with
  | h0 => simp [valN]
  | h1 b c ih =>
    rw [valN_snoc, List.length_append, List.length_singleton, Nat.pow_succ]
    have := c.toNat_lt
    omega
/-- So many bytes of a number. -/
def beN (v : Nat) : Nat → List UInt8
  | 0 => []
  | n + 1 => beN (v / 256) n ++ [UInt8.ofNat v]
theorem beN_length (v n : Nat) : (beN v n).length = n := by
  induction n generalizing v with
  | zero => rfl
  | succ n ih => simp [beN, ih]
theorem valN_beN (v n : Nat) : valN (beN v n) = v % 256 ^ n := by
  induction n generalizing v with
  | zero => simp [beN, valN, Nat.mod_one]
  | succ n ih =>
    rw [beN, valN_snoc, ih, UInt8.toNat_ofNat', show (256 : Nat) ^ (n + 1) = 256 * 256 ^ n by rw [Nat.pow_succ, Nat.mul_comm], Nat.mod_mul]
    omega
theorem valN_inj (a b : List UInt8) (hl : a.length = b.length) (h : valN a = valN b) : a = b := by
  induction a using snoc_ind generalizing b with
  | h0 => symm; apply List.eq_nil_of_length_eq_zero; simpa using hl.symm
  | h1 a c ih =>
    rcases List.eq_nil_or_concat b with rfl | ⟨b', d, rfl⟩
    · simp at hl
    · rw [valN_snoc] at h
      rw [List.concat_eq_append] at h hl ⊢
      rw [valN_snoc] at h
      have hc := c.toNat_lt
      have hd := d.toNat_lt
      have h1 : valN a = valN b' := by omega
      have h2 : c.toNat = d.toNat := by omega
      rw [ih b' (by simpa using hl) h1, UInt8.toNat_inj.1 h2]
theorem beN_valN (l : List UInt8) : beN (valN l) l.length = l :=
  valN_inj _ _ (beN_length _ _) (by rw [valN_beN]; exact Nat.mod_eq_of_lt (valN_lt l))
theorem wrapU {n : Int} (h0 : 0 ≤ n) (h1 : n < 18446744073709551616) : IntKind.u64.wrap n = n := by
  simp [IntKind.wrap, IntKind.bits, IntKind.signed]; omega
theorem n256 : (256 : Nat) ^ 8 = 18446744073709551616 := by decide
def v128 (hi lo : Nat) : Nat := hi * 18446744073709551616 + lo
theorem beN_get (n : Nat) : ∀ (v j : Nat), j < n → (beN v n)[j]? = some (UInt8.ofNat (v / 256 ^ (n - 1 - j))) := by
  induction n with
  | zero => intro v j hj; omega
  | succ n ih =>
    intro v j hj
    rw [beN]
    by_cases h : j < n
    · rw [List.getElem?_append_left (by rw [beN_length]; exact h), ih _ _ h, Nat.div_div_eq_div_mul, show n + 1 - 1 - j = (n - 1 - j) + 1 by omega, Nat.pow_succ, Nat.mul_comm (256 ^ (n - 1 - j))]
    · obtain rfl : j = n := by omega
      rw [List.getElem?_append_right (by rw [beN_length]; omega), beN_length]
      simp
theorem be16_list (hi lo : Nat) (h1 : hi < 18446744073709551616) (h2 : lo < 18446744073709551616) : (be16 hi lo).data.toList = beN (v128 hi lo) 16 := by
  apply List.ext_getElem?
  intro j
  by_cases hj : j < 16
  · rw [beN_get 16 _ _ hj]
    have e : (be16 hi lo).data.toList[j]? = some (beAt hi lo j) := by
      match j, hj with
      | 0, _ | 1, _ | 2, _ | 3, _ | 4, _ | 5, _ | 6, _ | 7, _ | 8, _ | 9, _ | 10, _ | 11, _ | 12, _ | 13, _ | 14, _ | 15, _ => rfl
      | _ + 16, h => exact absurd h (by omega)
    rw [e]
    congr 1
    unfold beAt v128
    match j, hj with
    | 0, _ | 1, _ | 2, _ | 3, _ | 4, _ | 5, _ | 6, _ | 7, _ =>
      rw [if_pos (by decide)]
      apply UInt8.toNat_inj.1
      simp only [UInt8.toNat_ofNat', Nat.reduceSub, Nat.reduceMul, Nat.reducePow]
      omega
    | 8, _ | 9, _ | 10, _ | 11, _ | 12, _ | 13, _ | 14, _ | 15, _ =>
      rw [if_neg (by decide)]
      apply UInt8.toNat_inj.1
      simp only [UInt8.toNat_ofNat', Nat.reduceSub, Nat.reduceMul, Nat.reducePow]
      omega
    | _ + 16, h => exact absurd h (by omega)
  · have h3 : (be16 hi lo).data.toList.length = 16 := rfl
    rw [List.getElem?_eq_none (by omega), List.getElem?_eq_none (by rw [beN_length]; omega)]
theorem ofList_size (l : List UInt8) : (⟨l.toArray⟩ : ByteArray).size = l.length := rfl
theorem ba_ext {a b : ByteArray} (h : a.data.toList = b.data.toList) : a = b := by
  apply ByteArray.ext
  exact Array.toList_inj.1 h
theorem ba_of (a : ByteArray) : a = ⟨a.data.toList.toArray⟩ := by apply ba_ext; simp
theorem size_list (s : ByteArray) : s.size = s.data.toList.length := (Array.length_toList (xs := s.data)).symm
theorem extract_list (s : ByteArray) (i j : Nat) : (s.extract i j).data.toList = (s.data.toList.drop i).take (j - i) := by
  rw [Lib.extract_data]
theorem be16_size (hi lo : Nat) : (be16 hi lo).size = 16 := rfl
end Go.Proofs.YtomninikmcmmcaaDoor.Tag
end
