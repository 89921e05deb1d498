/- Texts of this session, put together: Sp, SpBits. -/
import Derived.Laws.Entries
import Derived.Laws.BitsLemmas
import Derived.RowKit
section
/- Plain facts on 32-bit words, and the words of a block (the schedule), in plain Lean. -/
namespace Go.Proofs.Sp

abbrev W32 := BitVec 32

/-- A word as the machine holds it. -/
def wd (x : W32) : Int := (x.toNat : Int)
theorem wd_nonneg (x : W32) : 0 ≤ wd x := Int.natCast_nonneg _
theorem wd_lt (x : W32) : wd x < 4294967296 := by unfold wd; have := x.isLt; omega
theorem wd_add (x y : W32) : (wd x + wd y) % 4294967296 = wd (x + y) := by
  unfold wd; rw [BitVec.toNat_add]; omega
theorem shr_wd (x : W32) (n : Nat) : wd x / 2 ^ n = wd (x >>> n) := by
  unfold wd
  rw [BitVec.toNat_ushiftRight, Nat.shiftRight_eq_div_pow]
  push_cast
  rfl

/-! ### Bit by bit -/
/-! ### The words of a block -/
def ss0 (x : W32) : W32 := x.rotateRight 7 ^^^ x.rotateRight 18 ^^^ (x >>> (3 : Nat))
def ss1 (x : W32) : W32 := x.rotateRight 17 ^^^ x.rotateRight 19 ^^^ (x >>> (10 : Nat))
def be4 (b : List UInt8) (i : Nat) : W32 :=
  BitVec.ofNat 32 (16777216 * (b.getD i 0).toNat + 65536 * (b.getD (i + 1) 0).toNat + 256 * (b.getD (i + 2) 0).toNat + (b.getD (i + 3) 0).toNat)
def nextWord (b : List UInt8) (l : List W32) : W32 :=
  if l.length < 16 then be4 b (4 * l.length)
  else l.getD (l.length - 16) 0 + ss0 (l.getD (l.length - 15) 0) + l.getD (l.length - 7) 0 + ss1 (l.getD (l.length - 2) 0)
def sched (b : List UInt8) : Nat → List W32
  | 0 => []
  | t + 1 => sched b t ++ [nextWord b (sched b t)]
theorem sched_length (b : List UInt8) (t : Nat) : (sched b t).length = t := by
  induction t with
  | zero => rfl
  | succ t ih => simp [sched, ih]
def words (b : List UInt8) : List W32 := sched b 64

/-! ### Rounds -/
def bs0 (x : W32) : W32 := x.rotateRight 2 ^^^ x.rotateRight 13 ^^^ x.rotateRight 22
def bs1 (x : W32) : W32 := x.rotateRight 6 ^^^ x.rotateRight 11 ^^^ x.rotateRight 25
def ch (e f g : W32) : W32 := (e &&& f) ^^^ (~~~e &&& g)
def maj (a b c : W32) : W32 := (a &&& b) ^^^ (a &&& c) ^^^ (b &&& c)
structure St where
  a : W32
  b : W32
  c : W32
  d : W32
  e : W32
  f : W32
  g : W32
  h : W32
  deriving DecidableEq
def tOf (s : St) (k w : W32) : W32 := s.h + (bs1 s.e + ch s.e s.f s.g) + k + w
def rnd (s : St) (k w : W32) : St := ⟨tOf s k w + (bs0 s.a + maj s.a s.b s.c), s.a, s.b, s.c, s.d + tOf s k w, s.e, s.f, s.g⟩
def addSt (s t : St) : St := ⟨s.a + t.a, s.b + t.b, s.c + t.c, s.d + t.d, s.e + t.e, s.f + t.f, s.g + t.g, s.h + t.h⟩
def st0 : St := ⟨0x6a09e667, 0xbb67ae85, 0x3c6ef372, 0xa54ff53a, 0x510e527f, 0x9b05688c, 0x1f83d9ab, 0x5be0cd19⟩
def zeroSt : St := ⟨0, 0, 0, 0, 0, 0, 0, 0⟩
end Go.Proofs.Sp
end
section
/- Plain facts on 32-bit words as the machine holds them: its bit operations, and one round of the document's own bit-by-bit xor. -/
namespace Go.Proofs.Sp
open Go.RowKit

theorem ofInt_wd (x : W32) : BitVec.ofInt IntKind.u32.bits (wd x) = x := by
  apply BitVec.eq_of_toNat_eq
  unfold wd
  show (BitVec.ofInt 32 (x.toNat : Int)).toNat = x.toNat
  simp
theorem wrap_u32_toNat (x : W32) : IntKind.u32.wrap (x.toNat : Int) = wd x := by
  rw [IntKind.wrap_u32]; unfold wd; have := x.isLt; omega
theorem bits_xor (x y : W32) : Go.bits .xor .u32 (wd x) (wd y) = wd (x ^^^ y) := by
  simp only [Go.bits, ofInt_wd]; exact wrap_u32_toNat _
theorem bits_or (x y : W32) : Go.bits .or .u32 (wd x) (wd y) = wd (x ||| y) := by
  simp only [Go.bits, ofInt_wd]; exact wrap_u32_toNat _
theorem bits_and (x y : W32) : Go.bits .and .u32 (wd x) (wd y) = wd (x &&& y) := by
  simp only [Go.bits, ofInt_wd]; exact wrap_u32_toNat _
theorem shl_wd (x : W32) (n : Nat) : IntKind.u32.wrap (wd x * 2 ^ n) = wd (x <<< n) := by
  rw [IntKind.wrap_u32]; unfold wd
  rw [BitVec.toNat_shiftLeft, Nat.shiftLeft_eq]
  show ((x.toNat : Int) * 2 ^ n) % 4294967296 = ((x.toNat * 2 ^ n % 4294967296 : Nat) : Int)
  rw [Int.natCast_emod, Int.natCast_mul, Int.natCast_pow]
  rfl
theorem wrap64_in {n : Int} (h0 : -9223372036854775808 ≤ n) (h1 : n ≤ 9223372036854775807) : wrap64 n = n := by
  unfold wrap64; omega

def gx (a b c : W32) : Nat → Nat
  | 0 => 0
  | i + 1 => gx a b c i + 2 ^ i * ((a.toNat / 2 ^ i % 2 + b.toNat / 2 ^ i % 2 + c.toNat / 2 ^ i % 2) % 2)
end Go.Proofs.Sp
end
