/- Plain facts on 32-bit words, and the words of a block (the schedule), in plain Lean. -/
namespace Go.Proofs.Sp

abbrev W32 := BitVec 32

/-- A word as the machine holds it. -/
def wd (x : W32) : Int := (x.toNat : Int)
theorem wd_nonneg (x : W32) : 0 ≤ wd x := Int.natCast_nonneg _
theorem wd_lt (x : W32) : wd x < 4294967296 := by unfold wd; have := x.isLt; omega
theorem wd_inj {x y : W32} (h : wd x = wd y) : x = y := BitVec.eq_of_toNat_eq (by unfold wd at h; omega)
theorem wd_of {n : Int} (h0 : 0 ≤ n) (h1 : n < 4294967296) : ∃ x : W32, n = wd x :=
  ⟨BitVec.ofNat 32 n.toNat, by unfold wd; rw [BitVec.toNat_ofNat]; omega⟩
theorem wd_add (x y : W32) : (wd x + wd y) % 4294967296 = wd (x + y) := by
  unfold wd; rw [BitVec.toNat_add]; omega
theorem wd_sub (x y : W32) : (wd x - wd y) % 4294967296 = wd (x - y) := by
  unfold wd; rw [BitVec.toNat_sub]; have := x.isLt; have := y.isLt; omega

def rot1 (x : W32) : W32 := (x >>> 1) ||| (x <<< 31)
theorem rot_succ (x : W32) (n : Nat) (h : n + 1 < 32) : rot1 (x.rotateRight n) = x.rotateRight (n + 1) := by
  unfold rot1
  apply BitVec.eq_of_getLsbD_eq
  intro i hi
  simp only [BitVec.getLsbD_or, BitVec.getLsbD_ushiftRight, BitVec.getLsbD_shiftLeft, BitVec.getLsbD_rotateRight, Nat.mod_eq_of_lt h, Nat.mod_eq_of_lt (show n < 32 by omega), Bool.cond_decide]
  by_cases h31 : i < 31
  · simp only [h31, decide_true, Bool.not_true, Bool.and_false, Bool.or_false, Bool.false_and]
    by_cases a : 1 + i < 32 - n
    · rw [if_pos a, if_pos (by omega)]; congr 1; omega
    · rw [if_neg a, if_neg (by omega)]
      have : 1 + i < 32 := by omega
      simp only [this, hi, decide_true, Bool.true_and]
      congr 1; omega
  · have : i = 31 := by omega
    subst this
    rw [if_neg (show ¬ (1 + 31 < 32 - n) by omega), if_neg (show ¬ (31 < 32 - (n + 1)) by omega)]
    simp only [show ¬ (1 + 31 < 32) by omega, decide_false, Bool.false_and, Bool.false_or, show ¬ (31 < 31) by omega, Bool.not_false, Bool.and_true, show 31 - 31 = 0 by rfl]
    by_cases hn : 0 < 32 - n
    · rw [if_pos hn]; simp; congr 1; omega
    · omega
theorem rot1_wd (x : W32) : ((Int.tdiv (wd x) 2) % 4294967296 + ((Int.tmod (wd x) 2) * 2147483648) % 4294967296) % 4294967296 = wd (rot1 x) := by
  have h0 := wd_nonneg x
  rw [Int.tdiv_eq_ediv_of_nonneg h0, Int.tmod_eq_emod_of_nonneg h0]
  have h1 := wd_lt x
  unfold rot1 wd at *
  have e : (x >>> 1 ||| x <<< 31).toNat = x.toNat / 2 + (x.toNat % 2) * 2147483648 := by
    rw [BitVec.toNat_or, BitVec.toNat_ushiftRight, BitVec.toNat_shiftLeft, Nat.shiftRight_eq_div_pow, Nat.shiftLeft_eq]
    have e1 : x.toNat * 2 ^ 31 % 2 ^ 32 = 2 ^ 31 * (x.toNat % 2) := by omega
    rw [e1, Nat.or_comm, ← Nat.two_pow_add_eq_or_of_lt (by omega)]
    omega
  rw [e]
  omega
theorem shr1_wd (x : W32) : (Int.tdiv (wd x) 2) % (4294967296 : Int) = wd (x >>> 1) := by
  have h0 := wd_nonneg x
  rw [Int.tdiv_eq_ediv_of_nonneg h0]
  have h1 := wd_lt x
  unfold wd at *
  rw [BitVec.toNat_ushiftRight, Nat.shiftRight_eq_div_pow]
  omega
theorem shr_wd (x : W32) (n : Nat) : wd x / 2 ^ n = wd (x >>> n) := by
  unfold wd
  rw [BitVec.toNat_ushiftRight, Nat.shiftRight_eq_div_pow]
  push_cast
  rfl

/-! ### Bit by bit -/
theorem testBit_of {n i : Nat} : n / 2 ^ i % 2 = if n.testBit i then 1 else 0 := by
  rw [Nat.testBit_eq_decide_div_mod_eq]
  have := Nat.mod_two_eq_zero_or_one (n / 2 ^ i)
  rcases this with h | h <;> simp [h]
/-- A number that is put together bit by bit. -/
theorem bits_sum (f : Nat → Bool) (g : Nat → Nat) (h0 : g 0 = 0) (h : ∀ i, g (i + 1) = g i + (if f i then 2 ^ i else 0)) (n : Nat) :
    g n < 2 ^ n ∧ ∀ i, (g n).testBit i = (decide (i < n) && f i) := by
  induction n with
  | zero => rw [h0]; exact ⟨by decide, fun i => by simp⟩
  | succ n ih =>
    rw [h n]
    obtain ⟨hl, ht⟩ := ih
    by_cases hf : f n = true
    · rw [if_pos hf]
      refine ⟨by rw [Nat.pow_succ]; omega, fun i => ?_⟩
      have e : g n + 2 ^ n = 2 ^ n * 1 ||| g n := by rw [← Nat.two_pow_add_eq_or_of_lt hl]; omega
      rw [e, Nat.testBit_or, ht, Nat.mul_one, Nat.testBit_two_pow]
      by_cases hi : i = n
      · subst hi; simp [hf]
      · have a : decide (i < n + 1) = decide (i < n) := by simp; omega
        have b : ¬ n = i := fun h => hi h.symm
        simp [a, b]
    · rw [if_neg hf]
      refine ⟨by rw [Nat.pow_succ]; omega, fun i => ?_⟩
      rw [Nat.add_zero, ht]
      by_cases hi : i = n
      · subst hi; simp [hf]
      · have : (i < n + 1) = (i < n) := by simp; omega
        simp [this]
theorem xor3_bits (a b c : Nat) (ha : a < 2 ^ 32) (hb : b < 2 ^ 32) (hc : c < 2 ^ 32) (g : Nat → Nat) (h0 : g 0 = 0)
    (h : ∀ i, g (i + 1) = g i + 2 ^ i * ((a / 2 ^ i % 2 + b / 2 ^ i % 2 + c / 2 ^ i % 2) % 2)) : g 32 = a ^^^ b ^^^ c := by
  have hs := bits_sum (fun i => (a.testBit i ^^ b.testBit i ^^ c.testBit i)) g h0 (fun i => by
    rw [h i, testBit_of, testBit_of, testBit_of]
    cases a.testBit i <;> cases b.testBit i <;> cases c.testBit i <;> simp) 32
  apply Nat.eq_of_testBit_eq
  intro i
  rw [hs.2 i, Nat.testBit_xor, Nat.testBit_xor]
  by_cases hi : i < 32
  · simp [hi]
  · have f : ∀ n, n < 2 ^ 32 → n.testBit i = false := fun n hn => Nat.testBit_lt_two_pow (Nat.lt_of_lt_of_le hn (Nat.pow_le_pow_right (by decide) (by omega)))
    simp [hi, f a ha, f b hb, f c hc]

/-! ### The words of a block -/
def ss0 (x : W32) : W32 := x.rotateRight 7 ^^^ x.rotateRight 18 ^^^ (x >>> (3 : Nat))
def ss1 (x : W32) : W32 := x.rotateRight 17 ^^^ x.rotateRight 19 ^^^ (x >>> (10 : Nat))
def be4 (b : List UInt8) (i : Nat) : W32 :=
  BitVec.ofNat 32 (16777216 * (b.getD i 0).toNat + 65536 * (b.getD (i + 1) 0).toNat + 256 * (b.getD (i + 2) 0).toNat + (b.getD (i + 3) 0).toNat)
def nextWord (b : List UInt8) (l : List W32) : W32 :=
  if l.length < 16 then be4 b (4 * l.length)
  else l.getD (l.length - 16) 0 + ss0 (l.getD (l.length - 15) 0) + l.getD (l.length - 7) 0 + ss1 (l.getD (l.length - 2) 0)
def sched (b : List UInt8) : Nat → List W32
  | 0 => []
  | t + 1 => sched b t ++ [nextWord b (sched b t)]
theorem sched_length (b : List UInt8) (t : Nat) : (sched b t).length = t := by
  induction t with
  | zero => rfl
  | succ t ih => simp [sched, ih]
def words (b : List UInt8) : List W32 := sched b 64
end Go.Proofs.Sp
