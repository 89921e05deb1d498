/- Texts of this session, put together: Sp, SpBits. -/
import Derived.Laws.Entries
import Derived.Laws.BitsLemmas
import Derived.RowKit
section
/- Plain facts on 32-bit words, and the words of a block (the schedule), in plain Lean. -/
namespace Go.Proofs.Sp

abbrev W32 := BitVec 32

/-- A word as the machine holds it. -/
def wd (x : W32) : Int := (x.toNat : Int)
theorem wd_nonneg (x : W32) : 0 ≤ wd x := Int.natCast_nonneg _
theorem wd_lt (x : W32) : wd x < 4294967296 := by unfold wd; have := x.isLt; omega
theorem wd_inj {x y : W32} (h : wd x = wd y) : x = y := BitVec.eq_of_toNat_eq (by unfold wd at h; omega)
theorem wd_of {n : Int} (h0 : 0 ≤ n) (h1 : n < 4294967296) : ∃ x : W32, n = wd x :=
  ⟨BitVec.ofNat 32 n.toNat, by unfold wd; rw [BitVec.toNat_ofNat]; omega⟩
theorem wd_add (x y : W32) : (wd x + wd y) % 4294967296 = wd (x + y) := by
  unfold wd; rw [BitVec.toNat_add]; omega
theorem wd_sub (x y : W32) : (wd x - wd y) % 4294967296 = wd (x - y) := by
  unfold wd; rw [BitVec.toNat_sub]; have := x.isLt; have := y.isLt; omega

def rot1 (x : W32) : W32 := (x >>> 1) ||| (x <<< 31)
theorem rot_succ (x : W32) (n : Nat) (h : n + 1 < 32) : rot1 (x.rotateRight n) = x.rotateRight (n + 1) := by
  unfold rot1
  apply BitVec.eq_of_getLsbD_eq
  intro i hi
  simp only [BitVec.getLsbD_or, BitVec.getLsbD_ushiftRight, BitVec.getLsbD_shiftLeft, BitVec.getLsbD_rotateRight, Nat.mod_eq_of_lt h, Nat.mod_eq_of_lt (show n < 32 by omega), Bool.cond_decide]
  by_cases h31 : i < 31
  · simp only [h31, decide_true, Bool.not_true, Bool.and_false, Bool.or_false, Bool.false_and]
    by_cases a : 1 + i < 32 - n
    · rw [if_pos a, if_pos (by omega)]; congr 1; omega
    · rw [if_neg a, if_neg (by omega)]
      have : 1 + i < 32 := by omega
      simp only [this, hi, decide_true, Bool.true_and]
      congr 1; omega
  · have : i = 31 := by omega
    subst this
    rw [if_neg (show ¬ (1 + 31 < 32 - n) by omega), if_neg (show ¬ (31 < 32 - (n + 1)) by omega)]
    simp only [show ¬ (1 + 31 < 32) by omega, decide_false, Bool.false_and, Bool.false_or, show ¬ (31 < 31) by omega, Bool.not_false, Bool.and_true, show 31 - 31 = 0 by rfl]
    by_cases hn : 0 < 32 - n
    · rw [if_pos hn]; simp; congr 1; omega
    · omega
theorem rot1_wd (x : W32) : ((Int.tdiv (wd x) 2) % 4294967296 + ((Int.tmod (wd x) 2) * 2147483648) % 4294967296) % 4294967296 = wd (rot1 x) := by
  have h0 := wd_nonneg x
  rw [Int.tdiv_eq_ediv_of_nonneg h0, Int.tmod_eq_emod_of_nonneg h0]
  have h1 := wd_lt x
  unfold rot1 wd at *
  have e : (x >>> 1 ||| x <<< 31).toNat = x.toNat / 2 + (x.toNat % 2) * 2147483648 := by
    rw [BitVec.toNat_or, BitVec.toNat_ushiftRight, BitVec.toNat_shiftLeft, Nat.shiftRight_eq_div_pow, Nat.shiftLeft_eq]
    have e1 : x.toNat * 2 ^ 31 % 2 ^ 32 = 2 ^ 31 * (x.toNat % 2) := by omega
    rw [e1, Nat.or_comm, ← Nat.two_pow_add_eq_or_of_lt (by omega)]
    omega
  rw [e]
  omega
theorem shr1_wd (x : W32) : (Int.tdiv (wd x) 2) % (4294967296 : Int) = wd (x >>> 1) := by
  have h0 := wd_nonneg x
  rw [Int.tdiv_eq_ediv_of_nonneg h0]
  have h1 := wd_lt x
  unfold wd at *
  rw [BitVec.toNat_ushiftRight, Nat.shiftRight_eq_div_pow]
  omega
theorem shr_wd (x : W32) (n : Nat) : wd x / 2 ^ n = wd (x >>> n) := by
  unfold wd
  rw [BitVec.toNat_ushiftRight, Nat.shiftRight_eq_div_pow]
  push_cast
  rfl

/-! ### Bit by bit -/
theorem testBit_of {n i : Nat} : n / 2 ^ i % 2 = if n.testBit i then 1 else 0 := by
  rw [Nat.testBit_eq_decide_div_mod_eq]
  have := Nat.mod_two_eq_zero_or_one (n / 2 ^ i)
  rcases this with h | h <;> simp [h]
/-- A number that is put together bit by bit. -/
theorem bits_sum (f : Nat → Bool) (g : Nat → Nat) (h0 : g 0 = 0) (h : ∀ i, g (i + 1) = g i + (if f i then 2 ^ i else 0)) (n : Nat) :
    g n < 2 ^ n ∧ ∀ i, (g n).testBit i = (decide (i < n) && f i) := by
  induction n with
  | zero => rw [h0]; exact ⟨by decide, fun i => by simp⟩
  | succ n ih =>
    rw [h n]
    obtain ⟨hl, ht⟩ := ih
    by_cases hf : f n = true
    · rw [if_pos hf]
      refine ⟨by rw [Nat.pow_succ]; omega, fun i => ?_⟩
      have e : g n + 2 ^ n = 2 ^ n * 1 ||| g n := by rw [← Nat.two_pow_add_eq_or_of_lt hl]; omega
      rw [e, Nat.testBit_or, ht, Nat.mul_one, Nat.testBit_two_pow]
      by_cases hi : i = n
      · subst hi; simp [hf]
      · have a : decide (i < n + 1) = decide (i < n) := by simp; omega
        have b : ¬ n = i := fun h => hi h.symm
        simp [a, b]
    · rw [if_neg hf]
      refine ⟨by rw [Nat.pow_succ]; omega, fun i => ?_⟩
      rw [Nat.add_zero, ht]
      by_cases hi : i = n
      · subst hi; simp [hf]
      · have : (i < n + 1) = (i < n) := by simp; omega
        simp [this]
theorem xor3_bits (a b c : Nat) (ha : a < 2 ^ 32) (hb : b < 2 ^ 32) (hc : c < 2 ^ 32) (g : Nat → Nat) (h0 : g 0 = 0)
    (h : ∀ i, g (i + 1) = g i + 2 ^ i * ((a / 2 ^ i % 2 + b / 2 ^ i % 2 + c / 2 ^ i % 2) % 2)) : g 32 = a ^^^ b ^^^ c := by
  have hs := bits_sum (fun i => (a.testBit i ^^ b.testBit i ^^ c.testBit i)) g h0 (fun i => by
    rw [h i, testBit_of, testBit_of, testBit_of]
    cases a.testBit i <;> cases b.testBit i <;> cases c.testBit i <;> simp) 32
  apply Nat.eq_of_testBit_eq
  intro i
  rw [hs.2 i, Nat.testBit_xor, Nat.testBit_xor]
  by_cases hi : i < 32
  · simp [hi]
  · have f : ∀ n, n < 2 ^ 32 → n.testBit i = false := fun n hn => Nat.testBit_lt_two_pow (Nat.lt_of_lt_of_le hn (Nat.pow_le_pow_right (by decide) (by omega)))
    simp [hi, f a ha, f b hb, f c hc]

/-! ### The words of a block -/
def ss0 (x : W32) : W32 := x.rotateRight 7 ^^^ x.rotateRight 18 ^^^ (x >>> (3 : Nat))
def ss1 (x : W32) : W32 := x.rotateRight 17 ^^^ x.rotateRight 19 ^^^ (x >>> (10 : Nat))
def be4 (b : List UInt8) (i : Nat) : W32 :=
  BitVec.ofNat 32 (16777216 * (b.getD i 0).toNat + 65536 * (b.getD (i + 1) 0).toNat + 256 * (b.getD (i + 2) 0).toNat + (b.getD (i + 3) 0).toNat)
def nextWord (b : List UInt8) (l : List W32) : W32 :=
  if l.length < 16 then be4 b (4 * l.length)
  else l.getD (l.length - 16) 0 + ss0 (l.getD (l.length - 15) 0) + l.getD (l.length - 7) 0 + ss1 (l.getD (l.length - 2) 0)
def sched (b : List UInt8) : Nat → List W32
  | 0 => []
  | t + 1 => sched b t ++ [nextWord b (sched b t)]
theorem sched_length (b : List UInt8) (t : Nat) : (sched b t).length = t := by
  induction t with
  | zero => rfl
  | succ t ih => simp [sched, ih]
def words (b : List UInt8) : List W32 := sched b 64

/-! ### Rounds -/
def bs0 (x : W32) : W32 := x.rotateRight 2 ^^^ x.rotateRight 13 ^^^ x.rotateRight 22
def bs1 (x : W32) : W32 := x.rotateRight 6 ^^^ x.rotateRight 11 ^^^ x.rotateRight 25
def ch (e f g : W32) : W32 := (e &&& f) ^^^ (~~~e &&& g)
def maj (a b c : W32) : W32 := (a &&& b) ^^^ (a &&& c) ^^^ (b &&& c)
structure St where
  a : W32
  b : W32
  c : W32
  d : W32
  e : W32
  f : W32
  g : W32
  h : W32
  deriving DecidableEq
def tOf (s : St) (k w : W32) : W32 := s.h + (bs1 s.e + ch s.e s.f s.g) + k + w
def rnd (s : St) (k w : W32) : St := ⟨tOf s k w + (bs0 s.a + maj s.a s.b s.c), s.a, s.b, s.c, s.d + tOf s k w, s.e, s.f, s.g⟩
def tBack (s : St) : W32 := s.a - (bs0 s.b + maj s.b s.c s.d)
def unrnd (s : St) (k w : W32) : St := ⟨s.b, s.c, s.d, s.e - tBack s, s.f, s.g, s.h, tBack s - (bs1 s.f + ch s.f s.g s.h) - k - w⟩
theorem bv_add4 (h x k w : W32) : h + x + k + w - x - k - w = h := by
  have e : h + x + k + w = h + w + k + x := by ac_rfl
  rw [e, BitVec.add_sub_cancel, BitVec.add_sub_cancel, BitVec.add_sub_cancel]
theorem bv_sub4 (t x k w : W32) : t - x - k - w + x + k + w = t := by
  have e : t - x - k - w + x + k + w = t - x - k - w + w + k + x := by ac_rfl
  rw [e, BitVec.sub_add_cancel, BitVec.sub_add_cancel, BitVec.sub_add_cancel]
theorem unrnd_rnd (s : St) (k w : W32) : unrnd (rnd s k w) k w = s := by
  have e : tBack (rnd s k w) = tOf s k w := by
    show tOf s k w + (bs0 s.a + maj s.a s.b s.c) - (bs0 s.a + maj s.a s.b s.c) = tOf s k w
    exact BitVec.add_sub_cancel ..
  have e2 : tOf s k w - (bs1 s.e + ch s.e s.f s.g) - k - w = s.h := bv_add4 _ _ _ _
  have e3 : s.d + tOf s k w - tOf s k w = s.d := BitVec.add_sub_cancel ..
  unfold unrnd
  rw [e]
  show (⟨s.a, s.b, s.c, s.d + tOf s k w - tOf s k w, s.e, s.f, s.g, tOf s k w - (bs1 s.e + ch s.e s.f s.g) - k - w⟩ : St) = s
  rw [e2, e3]
theorem rnd_unrnd (s : St) (k w : W32) : rnd (unrnd s k w) k w = s := by
  have e : tOf (unrnd s k w) k w = tBack s := bv_sub4 _ _ _ _
  have e3 : s.e - tBack s + tBack s = s.e := BitVec.sub_add_cancel ..
  have e4 : tBack s + (bs0 s.b + maj s.b s.c s.d) = s.a := BitVec.sub_add_cancel ..
  unfold rnd
  rw [e]
  show (⟨tBack s + (bs0 s.b + maj s.b s.c s.d), s.b, s.c, s.d, s.e - tBack s + tBack s, s.f, s.g, s.h⟩ : St) = s
  rw [e3, e4]
def addSt (s t : St) : St := ⟨s.a + t.a, s.b + t.b, s.c + t.c, s.d + t.d, s.e + t.e, s.f + t.f, s.g + t.g, s.h + t.h⟩
def st0 : St := ⟨0x6a09e667, 0xbb67ae85, 0x3c6ef372, 0xa54ff53a, 0x510e527f, 0x9b05688c, 0x1f83d9ab, 0x5be0cd19⟩
def zeroSt : St := ⟨0, 0, 0, 0, 0, 0, 0, 0⟩
end Go.Proofs.Sp
end
section
/- Plain facts on 32-bit words as the machine holds them: its bit operations, and one round of the document's own bit-by-bit xor. -/
namespace Go.Proofs.Sp
open Go.RowKit

theorem ofInt_wd (x : W32) : BitVec.ofInt IntKind.u32.bits (wd x) = x := by
  apply BitVec.eq_of_toNat_eq
  unfold wd
  show (BitVec.ofInt 32 (x.toNat : Int)).toNat = x.toNat
  simp
theorem wrap_u32_toNat (x : W32) : IntKind.u32.wrap (x.toNat : Int) = wd x := by
  rw [IntKind.wrap_u32]; unfold wd; have := x.isLt; omega
theorem bits_xor (x y : W32) : Go.bits .xor .u32 (wd x) (wd y) = wd (x ^^^ y) := by
  simp only [Go.bits, ofInt_wd]; exact wrap_u32_toNat _
theorem bits_or (x y : W32) : Go.bits .or .u32 (wd x) (wd y) = wd (x ||| y) := by
  simp only [Go.bits, ofInt_wd]; exact wrap_u32_toNat _
theorem bits_and (x y : W32) : Go.bits .and .u32 (wd x) (wd y) = wd (x &&& y) := by
  simp only [Go.bits, ofInt_wd]; exact wrap_u32_toNat _
theorem shl_wd (x : W32) (n : Nat) : IntKind.u32.wrap (wd x * 2 ^ n) = wd (x <<< n) := by
  rw [IntKind.wrap_u32]; unfold wd
  rw [BitVec.toNat_shiftLeft, Nat.shiftLeft_eq]
  show ((x.toNat : Int) * 2 ^ n) % 4294967296 = ((x.toNat * 2 ^ n % 4294967296 : Nat) : Int)
  rw [Int.natCast_emod, Int.natCast_mul, Int.natCast_pow]
  rfl
theorem wrap64_in {n : Int} (h0 : -9223372036854775808 ≤ n) (h1 : n ≤ 9223372036854775807) : wrap64 n = n := by
  unfold wrap64; omega

/-- One bit of a word, as the document's code asks for it. -/
theorem bit_wd (x : W32) (i : Nat) : ((Int.tdiv (wd x) ((2 ^ i : Nat) : Int)) % 4294967296) % 2 = ((x.toNat / 2 ^ i % 2 : Nat) : Int) := by
  rw [Int.tdiv_eq_ediv_of_nonneg (wd_nonneg x)]
  unfold wd
  rw [← Int.natCast_ediv]
  have : x.toNat / 2 ^ i ≤ x.toNat := Nat.div_le_self _ _
  have := x.isLt
  omega
def gx (a b c : W32) : Nat → Nat
  | 0 => 0
  | i + 1 => gx a b c i + 2 ^ i * ((a.toNat / 2 ^ i % 2 + b.toNat / 2 ^ i % 2 + c.toNat / 2 ^ i % 2) % 2)
theorem gx_lt (a b c : W32) (n : Nat) : gx a b c n < 2 ^ n := by
  refine (bits_sum (fun i => (a.toNat.testBit i ^^ b.toNat.testBit i ^^ c.toNat.testBit i)) (gx a b c) rfl (fun i => ?_) n).1
  show gx a b c i + 2 ^ i * _ = _
  rw [testBit_of, testBit_of, testBit_of]
  cases a.toNat.testBit i <;> cases b.toNat.testBit i <;> cases c.toNat.testBit i <;> simp
theorem gx_end (a b c : W32) : ((gx a b c 32 : Nat) : Int) = wd (a ^^^ b ^^^ c) := by
  unfold wd
  rw [xor3_bits _ _ _ a.isLt b.isLt c.isLt (gx a b c) rfl (fun _ => rfl), BitVec.toNat_xor, BitVec.toNat_xor]
theorem pow_lt32 {i : Nat} (hi : i < 32) : 2 ^ i < 4294967296 := by
  have : 2 ^ i < 2 ^ 32 := Nat.pow_lt_pow_right (by decide) hi
  exact this
theorem gx_step (a b c : W32) (i : Nat) (hi : i < 32) :
    (((gx a b c i : Nat) : Int) + ((((2 ^ i : Nat) : Int) * ((((((Int.tdiv (wd a) ((2 ^ i : Nat) : Int)) % 4294967296) % 2) + (((Int.tdiv (wd b) ((2 ^ i : Nat) : Int)) % 4294967296) % 2)) + (((Int.tdiv (wd c) ((2 ^ i : Nat) : Int)) % 4294967296) % 2)) % 2)) % 4294967296)) % 4294967296 = ((gx a b c (i + 1) : Nat) : Int) := by
  rw [bit_wd a i, bit_wd b i, bit_wd c i]
  have h1 := gx_lt a b c (i + 1)
  have h2 : 2 ^ (i + 1) ≤ 4294967296 := Nat.pow_le_pow_right (n := 2) (by decide) (show i + 1 ≤ 32 by omega)
  have h3 := pow_lt32 hi
  have e : gx a b c (i + 1) = gx a b c i + 2 ^ i * ((a.toNat / 2 ^ i % 2 + b.toNat / 2 ^ i % 2 + c.toNat / 2 ^ i % 2) % 2) := rfl
  rw [e] at h1 ⊢
  generalize a.toNat / 2 ^ i % 2 = x at *
  generalize b.toNat / 2 ^ i % 2 = y at *
  generalize c.toNat / 2 ^ i % 2 = z at *
  generalize hq : (x + y + z) % 2 = q at *
  have hq2 : q < 2 := by omega
  have e2 : ((x : Int) + (y : Int) + (z : Int)) % 2 = (q : Int) := by omega
  rw [e2]
  rcases (show q = 0 ∨ q = 1 by omega) with rfl | rfl
  · simp only [Nat.mul_zero, Nat.add_zero, Int.natCast_zero, Int.mul_zero] at *
    omega
  · simp only [Nat.mul_one, Int.natCast_one, Int.mul_one] at *
    omega
end Go.Proofs.Sp
end
