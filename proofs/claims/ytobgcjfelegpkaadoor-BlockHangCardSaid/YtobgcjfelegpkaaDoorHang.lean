/- Sixteen words of a block's, put in as a block, begin the words behind them (plain Lean). -/
import Derived.Test.YtobgcjfelegpkaaDoorWords
namespace Go.Proofs.YtobgcjfelegpkaaDoor.Pure
open Go.RowKit Go.Proofs.Sp
set_option linter.unusedVariables false
theorem sched_at (b : List UInt8) : ∀ (n q : Nat), q < n → (sched b n).getD q 0 = nextWord b (sched b q)
  | 0, q, h => absurd h (Nat.not_lt_zero _)
  | n + 1, q, h => by
    have hl := sched_length b n
    rw [sched, List.getD_eq_getElem?_getD]
    by_cases hq : q < n
    · rw [List.getElem?_append_left (by omega), ← List.getD_eq_getElem?_getD]
      exact sched_at b n q hq
    · obtain rfl : q = n := by omega
      rw [List.getElem?_append_right (by omega), hl]
      simp
def wAt (b : List UInt8) (q : Nat) : W32 := (words b).getD q 0
theorem wAt_head (b : List UInt8) (q : Nat) (h : q < 16) : wAt b q = be4 b (4 * q) := by
  unfold wAt words
  rw [sched_at b 64 q (by omega), nextWord, sched_length, if_pos h]
theorem sched_wAt (b : List UInt8) (n q : Nat) (h : q < n) (hn : n ≤ 64) : (sched b n).getD q 0 = wAt b q := by
  unfold wAt words
  rw [sched_at b n q h, sched_at b 64 q (by omega)]
theorem wAt_tail (b : List UInt8) (q : Nat) (h : 16 ≤ q) (h2 : q < 64) : wAt b q = wAt b (q - 16) + ss0 (wAt b (q - 15)) + wAt b (q - 7) + ss1 (wAt b (q - 2)) := by
  have e : wAt b q = nextWord b (sched b q) := by unfold wAt words; exact sched_at b 64 q h2
  rw [e, nextWord, sched_length, if_neg (by omega), sched_wAt b q _ (by omega) (by omega), sched_wAt b q _ (by omega) (by omega), sched_wAt b q _ (by omega) (by omega), sched_wAt b q _ (by omega) (by omega)]
/-- The bytes of a word, the greatest first. -/
def wByte (x : W32) (r : Nat) : UInt8 := UInt8.ofNat (x.toNat / 2 ^ (24 - 8 * r) % 256)
theorem wByte_nat (x : W32) (r : Nat) : (wByte x r).toNat = x.toNat / 2 ^ (24 - 8 * r) % 256 := by
  unfold wByte
  rw [UInt8.toNat_ofNat']
  omega
theorem be4_bytes (b : List UInt8) (i : Nat) (x : W32) (h0 : b.getD i 0 = wByte x 0) (h1 : b.getD (i + 1) 0 = wByte x 1) (h2 : b.getD (i + 2) 0 = wByte x 2) (h3 : b.getD (i + 3) 0 = wByte x 3) : be4 b i = x := by
  unfold be4
  rw [h0, h1, h2, h3, wByte_nat, wByte_nat, wByte_nat, wByte_nat]
  apply BitVec.eq_of_toNat_eq
  rw [BitVec.toNat_ofNat]
  have := x.isLt
  simp only [Nat.mul_zero, Nat.sub_zero, show 24 - 8 * 1 = 16 from rfl, show 24 - 8 * 2 = 8 from rfl, show 24 - 8 * 3 = 0 from rfl]
  omega
def tgt (w : List W32) (a : Nat) : List UInt8 := (List.range 64).map fun i => wByte (w.getD (a + i / 4) 0) (i % 4)
theorem tgt_length (w : List W32) (a : Nat) : (tgt w a).length = 64 := by simp [tgt]
theorem tgt_at (w : List W32) (a i : Nat) (h : i < 64) : (tgt w a).getD i 0 = wByte (w.getD (a + i / 4) 0) (i % 4) := by
  unfold tgt
  rw [List.getD_eq_getElem?_getD, List.getElem?_map, List.getElem?_range h]
  rfl
theorem tgt_words (b : List UInt8) (a : Nat) (ha : a ≤ 48) : ∀ (t : Nat), t < 64 - a → wAt (tgt (words b) a) t = wAt b (a + t) := by
  intro t
  induction t using Nat.strongRecOn with
  | _ t ih =>
    intro ht
    by_cases h : t < 16
    · rw [wAt_head _ t h]
      have e : ∀ r, r < 4 → (tgt (words b) a).getD (4 * t + r) 0 = wByte (wAt b (a + t)) r := fun r hr => by
        rw [tgt_at _ _ _ (by omega)]
        have e1 : (4 * t + r) / 4 = t := by omega
        have e2 : (4 * t + r) % 4 = r := by omega
        rw [e1, e2]
        rfl
      exact be4_bytes _ _ _ (e 0 (by decide)) (e 1 (by decide)) (e 2 (by decide)) (e 3 (by decide))
    · rw [wAt_tail _ t (by omega) (by omega), wAt_tail b (a + t) (by omega) (by omega), ih (t - 16) (by omega) (by omega), ih (t - 15) (by omega) (by omega), ih (t - 7) (by omega) (by omega), ih (t - 2) (by omega) (by omega)]
      rw [show a + (t - 16) = a + t - 16 from by omega, show a + (t - 15) = a + t - 15 from by omega, show a + (t - 7) = a + t - 7 from by omega, show a + (t - 2) = a + t - 2 from by omega]
theorem words_length (b : List UInt8) : (words b).length = 64 := sched_length b 64
theorem tgt_same (b : List UInt8) (a : Nat) (ha : a ≤ 48) : ((words (tgt (words b) a)).map wd).take (64 - a) = ((words b).map wd).drop a := by
  apply List.ext_getElem?
  intro i
  by_cases hi : i < 64 - a
  · rw [List.getElem?_take, if_pos hi, List.getElem?_drop, List.getElem?_map, List.getElem?_map]
    have h1 : i < (words (tgt (words b) a)).length := by rw [words_length]; omega
    have h2 : a + i < (words b).length := by rw [words_length]; omega
    have h := tgt_words b a ha i hi
    unfold wAt at h
    rw [List.getD_eq_getElem?_getD, List.getD_eq_getElem?_getD, List.getElem?_eq_getElem h1, List.getElem?_eq_getElem h2] at h
    rw [List.getElem?_eq_getElem h1, List.getElem?_eq_getElem h2]
    simp only [Option.getD_some] at h
    rw [h]
  · rw [List.getElem?_eq_none (by rw [List.length_take, List.length_map, words_length]; omega), List.getElem?_eq_none (by rw [List.length_drop, List.length_map, words_length]; omega)]
/-- The first 16 words are the block's own bytes. -/
theorem head_byte (b : List UInt8) (t : Nat) (ht : t < 64) : ((b.getD t 0).toNat : Int) = wd ((words b).getD (t / 4) 0) / ((2 ^ (24 - 8 * (t % 4)) : Nat) : Int) % 256 := by
  have h := wAt_head b (t / 4) (by omega)
  unfold wAt at h
  rw [h, be4_wd]
  have b0 := byte_lt b (4 * (t / 4))
  have b1 := byte_lt b (4 * (t / 4) + 1)
  have b2 := byte_lt b (4 * (t / 4) + 2)
  have b3 := byte_lt b (4 * (t / 4) + 3)
  rcases (show t % 4 = 0 ∨ t % 4 = 1 ∨ t % 4 = 2 ∨ t % 4 = 3 by omega) with hr | hr | hr | hr
  · have e : t = 4 * (t / 4) := by omega
    rw [hr]
    generalize hx : t / 4 = q at *
    subst e
    simp only [Nat.mul_zero, Nat.sub_zero]
    omega
  · have e : t = 4 * (t / 4) + 1 := by omega
    rw [hr]
    generalize hx : t / 4 = q at *
    subst e
    simp only [show 24 - 8 * 1 = 16 from rfl]
    omega
  · have e : t = 4 * (t / 4) + 2 := by omega
    rw [hr]
    generalize hx : t / 4 = q at *
    subst e
    simp only [show 24 - 8 * 2 = 8 from rfl]
    omega
  · have e : t = 4 * (t / 4) + 3 := by omega
    rw [hr]
    generalize hx : t / 4 = q at *
    subst e
    simp only [show 24 - 8 * 3 = 0 from rfl]
    omega
end Go.Proofs.YtobgcjfelegpkaaDoor.Pure
