/- Plain law of the digest: what a running digest holds behind a text, and that whatever pieces make the same (plain Lean). -/
import Derived.Test.YtomninikmcmmcaaDoorSBlk
namespace Go.Proofs.YtomninikmcmmcaaDoor.Sha
open Go.Proofs.Sp Go.Proofs.YtomninikmcmmcaaDoor.GivA Go.Proofs.YtomninikmcmmcaaDoor.Blk
set_option linter.unusedVariables false
/-- What comes of a state by so many blocks of a text. -/
def eat (s : St) (l : List UInt8) : Nat → St
  | 0 => s
  | k + 1 => next (eat s l k) ((l.drop (64 * k)).take 64)
theorem eat_append (s : St) (l t : List UInt8) : ∀ k, 64 * k ≤ l.length → eat s (l ++ t) k = eat s l k
  | 0, _ => rfl
  | k + 1, h => by
    rw [eat, eat, eat_append s l t k (by omega), List.drop_append_of_le_length (by omega), List.take_append_of_le_length (by rw [List.length_drop]; omega)]
theorem eat_add (s : St) (l : List UInt8) (i : Nat) : ∀ j, eat s l (i + j) = eat (eat s l i) (l.drop (64 * i)) j
  | 0 => rfl
  | j + 1 => by
    show next (eat s l (i + j)) _ = next (eat (eat s l i) (l.drop (64 * i)) j) _
    rw [eat_add s l i j, List.drop_drop, show 64 * i + 64 * j = 64 * (i + j) by omega]
    rfl
/-- The state behind the whole blocks of a text, and what is left of it. -/
def sT (m : ByteArray) : St := eat st0 m.data.toList (m.size / 64)
def rT (m : ByteArray) : ByteArray := m.extract (64 * (m.size / 64)) m.size
theorem data_size (m : ByteArray) : m.data.toList.length = m.size := by rw [Array.length_toList]; rfl
theorem extract_list (m : ByteArray) (a b : Nat) : (m.extract a b).data.toList = (m.data.toList.drop a).take (b - a) := by
  rw [ByteArray.data_extract, Array.toList_extract, List.extract_eq_take_drop]
theorem append_list (a b : ByteArray) : (a ++ b).data.toList = a.data.toList ++ b.data.toList := by
  rw [ByteArray.data_append, Array.toList_append]
theorem ext_list {a b : ByteArray} (h : a.data.toList = b.data.toList) : a = b := ByteArray.ext (Array.toList_inj.1 h)
theorem rT_list (m : ByteArray) : (rT m).data.toList = m.data.toList.drop (64 * (m.size / 64)) := by
  unfold rT
  rw [extract_list, List.take_of_length_le]
  rw [List.length_drop, data_size]
  omega
theorem rT_size (m : ByteArray) : (rT m).size = m.size - 64 * (m.size / 64) := by
  unfold rT
  rw [ByteArray.size_extract]
  omega
theorem rT_lt (m : ByteArray) : (rT m).size < 64 := by rw [rT_size]; omega
theorem cut_div (m t : ByteArray) : (m ++ t).size / 64 = m.size / 64 + (rT m ++ t).size / 64 := by
  rw [ByteArray.size_append, ByteArray.size_append, rT_size]
  omega
theorem sT_append (m t : ByteArray) : sT (m ++ t) = eat (sT m) (rT m ++ t).data.toList ((rT m ++ t).size / 64) := by
  unfold sT
  rw [cut_div, eat_add, append_list, eat_append st0 m.data.toList _ _ (by rw [data_size]; omega), List.drop_append_of_le_length (by rw [data_size]; omega), append_list, rT_list]
theorem rT_append (m t : ByteArray) : rT (m ++ t) = (rT m ++ t).extract (64 * ((rT m ++ t).size / 64)) (rT m ++ t).size := by
  apply ext_list
  rw [rT_list, cut_div, append_list, extract_list, append_list, rT_list, List.take_of_length_le (by rw [List.length_drop, List.length_append, List.length_drop, data_size, data_size, ByteArray.size_append, rT_size]; omega)]
  rw [show 64 * (m.size / 64 + (rT m ++ t).size / 64) = 64 * (m.size / 64) + 64 * ((rT m ++ t).size / 64) by omega, ← List.drop_drop, List.drop_append_of_le_length (by rw [data_size]; omega)]
theorem sT_empty : sT ByteArray.empty = st0 := rfl
theorem rT_empty : rT ByteArray.empty = ByteArray.empty := rfl
theorem rT_nil {m : ByteArray} (h : m.size = 0) : rT m = ByteArray.empty := by
  apply ext_list
  rw [rT_list, List.drop_eq_nil_of_le (by rw [data_size]; omega)]
  rfl
/-- The bytes of a word, the greatest first; of a number of 64 bits; of a state. -/
def b4 (x : W32) : List UInt8 := [UInt8.ofNat (x.toNat / 16777216), UInt8.ofNat (x.toNat / 65536 % 256), UInt8.ofNat (x.toNat / 256 % 256), UInt8.ofNat (x.toNat % 256)]
def dgL (s : St) : List UInt8 := b4 s.a ++ b4 s.b ++ b4 s.c ++ b4 s.d ++ b4 s.e ++ b4 s.f ++ b4 s.g ++ b4 s.h
def dg (s : St) : ByteArray := ⟨(dgL s).toArray⟩
theorem dg_size (s : St) : (dg s).size = 32 := rfl
/-- What is put behind a text of n bytes. -/
def be8L (n : Nat) : List UInt8 := (List.range 8).map fun i => UInt8.ofNat (n / 2 ^ (56 - 8 * i) % 256)
def padL (n : Nat) : List UInt8 := 128 :: (List.replicate ((119 - n % 64) % 64) 0 ++ be8L (n * 8 % 18446744073709551616))
def pad (n : Nat) : ByteArray := ⟨(padL n).toArray⟩
theorem pad_size (n : Nat) : (pad n).size = 9 + (119 - n % 64) % 64 := by
  show (padL n).toArray.size = _
  simp [padL, be8L]; omega
/-- The digest of a text. -/
def sha (m : ByteArray) : ByteArray := dg (sT (m ++ pad m.size))
theorem sha_size (m : ByteArray) : (sha m).size = 32 := rfl
end Go.Proofs.YtomninikmcmmcaaDoor.Sha
