/- Texts of this session, put together: Sp, SpBits. -/
import Derived.Laws.Entries
import Derived.Laws.BitsLemmas
import Derived.RowKit
section
/- Plain facts on 32-bit words, and the words of a block (the schedule), in plain Lean. -/
namespace Go.Proofs.Sp

abbrev W32 := BitVec 32

/-- A word as the machine holds it. -/
def wd (x : W32) : Int := (x.toNat : Int)
/-! ### Bit by bit -/
/-! ### The words of a block -/
def ss0 (x : W32) : W32 := x.rotateRight 7 ^^^ x.rotateRight 18 ^^^ (x >>> (3 : Nat))
def ss1 (x : W32) : W32 := x.rotateRight 17 ^^^ x.rotateRight 19 ^^^ (x >>> (10 : Nat))
def be4 (b : List UInt8) (i : Nat) : W32 :=
  BitVec.ofNat 32 (16777216 * (b.getD i 0).toNat + 65536 * (b.getD (i + 1) 0).toNat + 256 * (b.getD (i + 2) 0).toNat + (b.getD (i + 3) 0).toNat)
def nextWord (b : List UInt8) (l : List W32) : W32 :=
  if l.length < 16 then be4 b (4 * l.length)
  else l.getD (l.length - 16) 0 + ss0 (l.getD (l.length - 15) 0) + l.getD (l.length - 7) 0 + ss1 (l.getD (l.length - 2) 0)
def sched (b : List UInt8) : Nat → List W32
  | 0 => []
  | t + 1 => sched b t ++ [nextWord b (sched b t)]
def words (b : List UInt8) : List W32 := sched b 64

/-! ### Rounds -/
structure St where
  a : W32
  b : W32
  c : W32
  d : W32
  e : W32
  f : W32
  g : W32
  h : W32
  deriving DecidableEq
end Go.Proofs.Sp
end
section
/- Plain facts on 32-bit words as the machine holds them: its bit operations, and one round of the document's own bit-by-bit xor. -/
namespace Go.Proofs.Sp
open Go.RowKit

theorem wrap64_in {n : Int} (h0 : -9223372036854775808 ≤ n) (h1 : n ≤ 9223372036854775807) : wrap64 n = n := by
  unfold wrap64; omega

end Go.Proofs.Sp
end
