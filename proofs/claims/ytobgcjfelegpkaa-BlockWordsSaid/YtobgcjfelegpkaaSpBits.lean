/- Plain facts on 32-bit words as the machine holds them: its bit operations, and one round of the document's own bit-by-bit xor. -/
import Derived.Test.YtobgcjfelegpkaaSp
import Derived.Laws.Entries
import Derived.Laws.BitsLemmas
import Derived.RowKit
namespace Go.Proofs.Sp
open Go.RowKit

theorem ofInt_wd (x : W32) : BitVec.ofInt IntKind.u32.bits (wd x) = x := by
  apply BitVec.eq_of_toNat_eq
  unfold wd
  show (BitVec.ofInt 32 (x.toNat : Int)).toNat = x.toNat
  simp
theorem wrap_u32_toNat (x : W32) : IntKind.u32.wrap (x.toNat : Int) = wd x := by
  rw [IntKind.wrap_u32]; unfold wd; have := x.isLt; omega
theorem bits_xor (x y : W32) : Go.bits .xor .u32 (wd x) (wd y) = wd (x ^^^ y) := by
  simp only [Go.bits, ofInt_wd]; exact wrap_u32_toNat _
theorem bits_or (x y : W32) : Go.bits .or .u32 (wd x) (wd y) = wd (x ||| y) := by
  simp only [Go.bits, ofInt_wd]; exact wrap_u32_toNat _
theorem bits_and (x y : W32) : Go.bits .and .u32 (wd x) (wd y) = wd (x &&& y) := by
  simp only [Go.bits, ofInt_wd]; exact wrap_u32_toNat _
theorem shl_wd (x : W32) (n : Nat) : IntKind.u32.wrap (wd x * 2 ^ n) = wd (x <<< n) := by
  rw [IntKind.wrap_u32]; unfold wd
  rw [BitVec.toNat_shiftLeft, Nat.shiftLeft_eq]
  show ((x.toNat : Int) * 2 ^ n) % 4294967296 = ((x.toNat * 2 ^ n % 4294967296 : Nat) : Int)
  rw [Int.natCast_emod, Int.natCast_mul, Int.natCast_pow]
  rfl
theorem wrap64_in {n : Int} (h0 : -9223372036854775808 ≤ n) (h1 : n ≤ 9223372036854775807) : wrap64 n = n := by
  unfold wrap64; omega

/-- One bit of a word, as the document's code asks for it. -/
theorem bit_wd (x : W32) (i : Nat) : ((Int.tdiv (wd x) ((2 ^ i : Nat) : Int)) % 4294967296) % 2 = ((x.toNat / 2 ^ i % 2 : Nat) : Int) := by
  rw [Int.tdiv_eq_ediv_of_nonneg (wd_nonneg x)]
  unfold wd
  rw [← Int.natCast_ediv]
  have : x.toNat / 2 ^ i ≤ x.toNat := Nat.div_le_self _ _
  have := x.isLt
  omega
def gx (a b c : W32) : Nat → Nat
  | 0 => 0
  | i + 1 => gx a b c i + 2 ^ i * ((a.toNat / 2 ^ i % 2 + b.toNat / 2 ^ i % 2 + c.toNat / 2 ^ i % 2) % 2)
theorem gx_lt (a b c : W32) (n : Nat) : gx a b c n < 2 ^ n := by
  refine (bits_sum (fun i => (a.toNat.testBit i ^^ b.toNat.testBit i ^^ c.toNat.testBit i)) (gx a b c) rfl (fun i => ?_) n).1
  show gx a b c i + 2 ^ i * _ = _
  rw [testBit_of, testBit_of, testBit_of]
  cases a.toNat.testBit i <;> cases b.toNat.testBit i <;> cases c.toNat.testBit i <;> simp
theorem gx_end (a b c : W32) : ((gx a b c 32 : Nat) : Int) = wd (a ^^^ b ^^^ c) := by
  unfold wd
  rw [xor3_bits _ _ _ a.isLt b.isLt c.isLt (gx a b c) rfl (fun _ => rfl), BitVec.toNat_xor, BitVec.toNat_xor]
theorem pow_lt32 {i : Nat} (hi : i < 32) : 2 ^ i < 4294967296 := by
  have : 2 ^ i < 2 ^ 32 := Nat.pow_lt_pow_right (by decide) hi
  exact this
theorem gx_step (a b c : W32) (i : Nat) (hi : i < 32) :
    (((gx a b c i : Nat) : Int) + ((((2 ^ i : Nat) : Int) * ((((((Int.tdiv (wd a) ((2 ^ i : Nat) : Int)) % 4294967296) % 2) + (((Int.tdiv (wd b) ((2 ^ i : Nat) : Int)) % 4294967296) % 2)) + (((Int.tdiv (wd c) ((2 ^ i : Nat) : Int)) % 4294967296) % 2)) % 2)) % 4294967296)) % 4294967296 = ((gx a b c (i + 1) : Nat) : Int) := by
  rw [bit_wd a i, bit_wd b i, bit_wd c i]
  have h1 := gx_lt a b c (i + 1)
  have h2 : 2 ^ (i + 1) ≤ 4294967296 := Nat.pow_le_pow_right (n := 2) (by decide) (show i + 1 ≤ 32 by omega)
  have h3 := pow_lt32 hi
  have e : gx a b c (i + 1) = gx a b c i + 2 ^ i * ((a.toNat / 2 ^ i % 2 + b.toNat / 2 ^ i % 2 + c.toNat / 2 ^ i % 2) % 2) := rfl
  rw [e] at h1 ⊢
  generalize a.toNat / 2 ^ i % 2 = x at *
  generalize b.toNat / 2 ^ i % 2 = y at *
  generalize c.toNat / 2 ^ i % 2 = z at *
  generalize hq : (x + y + z) % 2 = q at *
  have hq2 : q < 2 := by omega
  have e2 : ((x : Int) + (y : Int) + (z : Int)) % 2 = (q : Int) := by omega
  rw [e2]
  rcases (show q = 0 ∨ q = 1 by omega) with rfl | rfl
  · simp only [Nat.mul_zero, Nat.add_zero, Int.natCast_zero, Int.mul_zero] at *
    omega
  · simp only [Nat.mul_one, Int.natCast_one, Int.mul_one] at *
    omega
end Go.Proofs.Sp
