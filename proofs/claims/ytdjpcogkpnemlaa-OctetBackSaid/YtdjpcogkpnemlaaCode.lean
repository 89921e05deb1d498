/- What is written is read, and what is read is what was written: numbers, flags, texts. -/
import Derived.Test.YtdjpcogkpnemlaaLawOrder
namespace Go.Proofs.Ytdjpcogkpnemlaa.Oct
open Go Go.RowKit Go.Proofs.YtdjpcogkpnemlaaW.PrintWords Go.Proofs.Ytdjpcogkpnemlaa.POr
set_option linter.unusedVariables false
set_option linter.unusedSimpArgs false
set_option maxRecDepth 100000
abbrev toL (b : ByteArray) : List UInt8 := b.data.toList
theorem toL_append (a b : ByteArray) : toL (a ++ b) = toL a ++ toL b := by rw [toL, ByteArray.data_append, Array.toList_append]
theorem toL_len (b : ByteArray) : (toL b).length = b.size := (size_list b).symm
/-- take, when there is enough. -/
theorem takeS_app (a r : ByteArray) (n : Nat) (h : a.size = n) : takeS (a ++ r) false n = (a, r, false) := by
  unfold takeS
  rw [if_neg (by rw [ByteArray.size_append]; intro h2; rcases h2 with h2 | h2; (cases h2); omega)]
  have h1 : (a ++ r).extract 0 n = a := by
    apply ba_ext
    rw [extract_list, List.drop_zero, Nat.sub_zero]
    show (toL (a ++ r)).take n = _
    rw [toL_append, ← h, ← toL_len, List.take_left' rfl]
  have h2 : (a ++ r).extract n (a ++ r).size = r := by
    apply ba_ext
    rw [extract_list]
    show ((toL (a ++ r)).drop n).take _ = _
    rw [toL_append, ← h, ← toL_len a, List.drop_left' rfl, List.take_of_length_le]
    rw [toL_len, ByteArray.size_append, toL_len]; omega
  rw [h1, h2]
theorem takeS_inv {b s r : ByteArray} {sp : Bool} {n : Nat} (h : takeS b sp n = (s, r, false)) : b = s ++ r ∧ s.size = n ∧ sp = false := by
  unfold takeS at h
  split at h
  · injection h with _ h; injection h with _ h; cases h
  · rename_i hc
    injection h with h1 h; injection h with h2 h
    have hsp : sp = false := by
      cases sp with
      | false => rfl
      | true => exact absurd (.inl rfl) hc
    have hn : n ≤ b.size := by
      have := fun h => hc (.inr h); omega
    refine ⟨?_, ?_, hsp⟩
    · rw [← h1, ← h2]
      apply ba_ext
      rw [ByteArray.data_append, Array.toList_append, extract_list, extract_list, List.drop_zero, Nat.sub_zero, List.take_of_length_le (l := b.data.toList.drop n)]
      · rw [List.take_append_drop]
      · rw [List.length_drop, ← size_list]; omega
    · rw [← h1, ByteArray.size_extract]; omega
def byB (n : Nat) : ByteArray := ⟨#[UInt8.ofNat n]⟩
theorem byteS_app (n : Nat) (r : ByteArray) (h : n < 256) : byteS (byB n ++ r) false = (n, r, false) := by
  unfold byteS
  rw [takeS_app (byB n) r 1 rfl]
  have : b0 (byB n) = n := by
    show (UInt8.ofNat n).toNat = n
    rw [UInt8.toNat_ofNat']; omega
  rw [this]
theorem byteS_inv {b r : ByteArray} {sp : Bool} {n : Nat} (h : byteS b sp = (n, r, false)) : b = byB n ++ r ∧ n < 256 ∧ sp = false := by
  unfold byteS at h
  injection h with h1 h2
  have h3 : takeS b sp 1 = ((takeS b sp 1).1, r, false) := by rw [← h2]
  obtain ⟨e1, e2, e3⟩ := takeS_inv h3
  have h4 : n < 256 := by rw [← h1]; exact b0_lt _
  refine ⟨?_, h4, e3⟩
  rw [e1]
  congr 1
  apply ba_ext
  have h5 : ((takeS b sp 1).1).data.toList.length = 1 := by rw [← size_list]; exact e2
  match hl : ((takeS b sp 1).1).data.toList, h5 with
  | [c], _ =>
    have : b0 (takeS b sp 1).1 = c.toNat := by unfold b0; rw [hl]
    rw [this] at h1
    rw [← h1]
    show [c] = [UInt8.ofNat c.toNat]
    rw [UInt8.ofNat_toNat]
theorem byteS_sp {b : ByteArray} {sp : Bool} (h : (byteS b sp).2.2 = true) : byteS b sp = (0, noB, true) := by
  unfold byteS at h ⊢
  rw [takeS_sp h]; rfl
theorem wide_cons (hi lo : Nat) (h1 : hi < 18446744073709551616) (h2 : lo < 18446744073709551616) : wideEnc hi lo = byB (leastN hi lo) ++ ⟨(beN (v128 hi lo) (leastN hi lo)).toArray⟩ := by
  apply ba_ext
  rw [wide_list hi lo h1 h2, ByteArray.data_append, Array.toList_append]
  rfl
theorem ba_assoc (a b c : ByteArray) : a ++ b ++ c = a ++ (b ++ c) := by
  apply ba_ext
  simp only [ByteArray.data_append, Array.toList_append, List.append_assoc]
theorem b0_head (c : UInt8) (l : List UInt8) : b0 ⟨(c :: l).toArray⟩ = c.toNat := rfl
theorem numS_app (most hi lo : Nat) (r : ByteArray) (h1 : hi < 18446744073709551616) (h2 : lo < 18446744073709551616) (hm : leastN hi lo ≤ most) : numS most (wideEnc hi lo ++ r) false = (hi, lo, r, false) := by
  have hn := leastN_le hi lo h1 h2
  have hlt := least_lt hi lo h1 h2
  unfold numS
  rw [wide_cons hi lo h1 h2, ba_assoc, byteS_app _ _ (by omega)]
  simp only
  have ht := takeS_app ⟨(beN (v128 hi lo) (leastN hi lo)).toArray⟩ r (leastN hi lo) (by rw [ofList_size, beN_length])
  rw [if_neg (by omega), ht]
  simp only
  have hv : valN (beN (v128 hi lo) (leastN hi lo)) = v128 hi lo := by rw [valN_beN]; exact Nat.mod_eq_of_lt hlt
  rw [if_neg, hv]
  · unfold v128
    rw [show (hi * 18446744073709551616 + lo) / 18446744073709551616 = hi by omega, show (hi * 18446744073709551616 + lo) % 18446744073709551616 = lo by omega]
  · rintro (h | ⟨h3, h4⟩)
    · cases h
    · rw [ofList_size, beN_length] at h3
      obtain ⟨n, hnn⟩ := Nat.exists_eq_succ_of_ne_zero h3
      obtain ⟨c, l, e, hc⟩ := beN_head (v128 hi lo) n (least_ge hi lo n h1 h2 hnn) (by rw [← Nat.succ_eq_add_one, ← hnn]; exact hlt)
      rw [hnn, Nat.succ_eq_add_one, e, b0_head] at h4
      exact hc (UInt8.toNat_inj.1 h4)
theorem least_of (v n : Nat) (hn : n ≤ 16) (h1 : v < 256 ^ n) (h2 : ∀ m, n = m + 1 → 256 ^ m ≤ v) : leastN (v / 18446744073709551616) (v % 18446744073709551616) = n := by
  have e16 : (256 : Nat) ^ 16 = 18446744073709551616 * 18446744073709551616 := by decide
  have hle : 256 ^ n ≤ 256 ^ 16 := Nat.pow_le_pow_right (by omega) hn
  have b1 : v / 18446744073709551616 < 18446744073709551616 := Nat.div_lt_of_lt_mul (by omega)
  have b2 : v % 18446744073709551616 < 18446744073709551616 := Nat.mod_lt _ (by omega)
  have ev : v128 (v / 18446744073709551616) (v % 18446744073709551616) = v := by unfold v128; omega
  have k1 := least_lt _ _ b1 b2
  rw [ev] at k1
  rcases Nat.lt_trichotomy (leastN (v / 18446744073709551616) (v % 18446744073709551616)) n with h | h | h
  · obtain ⟨m, rfl⟩ : ∃ m, n = m + 1 := ⟨n - 1, by omega⟩
    have := h2 m rfl
    have := Nat.pow_le_pow_right (n := 256) (by omega) (show leastN (v / 18446744073709551616) (v % 18446744073709551616) ≤ m by omega)
    omega
  · exact h
  · obtain ⟨m, hm⟩ : ∃ m, leastN (v / 18446744073709551616) (v % 18446744073709551616) = m + 1 := ⟨leastN (v / 18446744073709551616) (v % 18446744073709551616) - 1, by omega⟩
    have k2 := least_ge _ _ m b1 b2 hm
    rw [ev] at k2
    have := Nat.pow_le_pow_right (n := 256) (by omega) (show n ≤ m by omega)
    omega
theorem numS_inv {most : Nat} {b r : ByteArray} {sp : Bool} {hi lo : Nat} (hm : most ≤ 16) (h : numS most b sp = (hi, lo, r, false)) : b = wideEnc hi lo ++ r ∧ hi < 18446744073709551616 ∧ lo < 18446744073709551616 ∧ leastN hi lo ≤ most ∧ sp = false := by
  unfold numS at h
  generalize hx : byteS b sp = x at h
  obtain ⟨n, b1, sp1⟩ := x
  simp only at h
  split at h
  · injection h with _ h; injection h with _ h; injection h with _ h; cases h
  · rename_i hmn
    generalize ht : takeS b1 sp1 n = t at h
    obtain ⟨s, b2, sp2⟩ := t
    simp only at h
    split at h
    · injection h with _ h; injection h with _ h; injection h with _ h; cases h
    · rename_i hz
      injection h with e1 h; injection h with e2 h; injection h with e3 e4
      subst e3 e4
      obtain ⟨f1, f2, f3⟩ := takeS_inv ht
      subst f3
      obtain ⟨g1, g2, g3⟩ := byteS_inv hx
      have hn16 : n ≤ 16 := by omega
      have hlen : s.data.toList.length = n := by rw [← size_list]; exact f2
      have hv := valN_lt s.data.toList
      rw [hlen] at hv
      have hl : leastN hi lo = n := by
        rw [← e1, ← e2]
        refine least_of _ n hn16 hv fun m hmm => ?_
        have hb : b0 s ≠ 0 := fun h0 => hz (.inr ⟨by omega, h0⟩)
        match hs : s.data.toList, hlen with
        | [], hlen => simp at hlen; omega
        | c :: l, hlen =>
          have hc : b0 s = c.toNat := by unfold b0; rw [hs]
          rw [hc] at hb
          rw [show c :: l = [c] ++ l from rfl, valN_append]
          have : l.length = m := by simp at hlen; omega
          rw [this]
          have e : valN [c] = c.toNat := by simp [valN]
          rw [e]
          have := Nat.mul_le_mul_right (256 ^ m) (show 1 ≤ c.toNat by omega)
          omega
      have e16 : (256 : Nat) ^ 16 = 18446744073709551616 * 18446744073709551616 := by decide
      have hle : 256 ^ n ≤ 256 ^ 16 := Nat.pow_le_pow_right (by omega) hn16
      have hi' : hi < 18446744073709551616 := by rw [← e1]; exact Nat.div_lt_of_lt_mul (by omega)
      have lo' : lo < 18446744073709551616 := by rw [← e2]; exact Nat.mod_lt _ (by omega)
      refine ⟨?_, hi', lo', by omega, g3⟩
      rw [g1, f1, wide_cons hi lo hi' lo', hl, ba_assoc]
      congr 1
      congr 1
      have ev : v128 hi lo = valN s.data.toList := by unfold v128; omega
      apply ba_ext
      rw [ev]
      show s.data.toList = beN (valN s.data.toList) n
      rw [← hlen, beN_valN]
theorem numS_sp {most : Nat} {b : ByteArray} {sp : Bool} (h : (numS most b sp).2.2.2 = true) : numS most b sp = (0, 0, noB, true) := by
  unfold numS at h ⊢
  split
  · rfl
  · rename_i h1
    rw [if_neg h1] at h
    split
    · rfl
    · rename_i h2
      rw [if_neg h2] at h
      exact absurd (.inl h) h2
theorem hi_zero {hi lo : Nat} (h1 : hi < 18446744073709551616) (h2 : lo < 18446744073709551616) (h : leastN hi lo ≤ 8) : hi = 0 := by
  have := least_lt hi lo h1 h2
  have h3 := Nat.pow_le_pow_right (n := 256) (by omega) h
  rw [n256] at h3
  unfold v128 at this
  omega
theorem least8 {lo : Nat} (h2 : lo < 18446744073709551616) : leastN 0 lo ≤ 8 := by
  have := Lib.bitLen_le lo 64 (by omega) h2
  unfold leastN
  rw [if_neg (by omega)]; omega
theorem textS_app (most : Int) (s r : ByteArray) (hs : s.size < 18446744073709551616) (hm : (s.size : Int) ≤ max most 0) : textS most (textEnc s ++ r) false = (s, r, false) := by
  unfold textS textEnc
  rw [ba_assoc, numS_app 8 0 s.size _ (by omega) hs (least8 hs)]
  simp only
  rw [if_neg (by omega), takeS_app s r s.size rfl]
theorem textS_long (most : Int) (s r : ByteArray) (hs : s.size < 18446744073709551616) (hm : max most 0 < (s.size : Int)) : textS most (textEnc s ++ r) false = (noB, noB, true) := by
  unfold textS textEnc
  rw [ba_assoc, numS_app 8 0 s.size _ (by omega) hs (least8 hs)]
  simp only
  rw [if_pos hm]
theorem textS_inv {most : Int} {b s r : ByteArray} {sp : Bool} (h : textS most b sp = (s, r, false)) : b = textEnc s ++ r ∧ (s.size : Int) ≤ max most 0 ∧ sp = false := by
  unfold textS at h
  generalize hx : numS 8 b sp = x at h
  obtain ⟨hi, n, b1, sp1⟩ := x
  simp only at h
  split at h
  · injection h with _ h; injection h with _ h; cases h
  · rename_i hc
    obtain ⟨f1, f2, f3⟩ := takeS_inv h
    subst f3
    obtain ⟨g1, g2, g3, g4, g5⟩ := numS_inv (by omega) hx
    have := hi_zero g2 g3 g4
    subst this
    refine ⟨?_, by omega, g5⟩
    unfold textEnc
    rw [g1, f1, f2, ba_assoc]
theorem textS_sp {most : Int} {b : ByteArray} {sp : Bool} (h : (textS most b sp).2.2 = true) : textS most b sp = (noB, noB, true) := by
  unfold textS at h ⊢
  split
  · rfl
  · rename_i h1
    rw [if_neg h1] at h
    exact takeS_sp h
theorem flagS_app (f : Bool) (r : ByteArray) : flagS (⟨#[flagB f]⟩ ++ r) false = (f, r, false) := by
  have e : (⟨#[flagB f]⟩ : ByteArray) = byB (if f then 1 else 0) := by cases f <;> rfl
  unfold flagS
  rw [e, byteS_app _ _ (by cases f <;> decide)]
  cases f <;> rfl
theorem flagS_inv {b r : ByteArray} {sp f : Bool} (h : flagS b sp = (f, r, false)) : b = ⟨#[flagB f]⟩ ++ r ∧ sp = false := by
  unfold flagS at h
  generalize hx : byteS b sp = x at h
  obtain ⟨n, b1, sp1⟩ := x
  simp only at h
  split at h
  · injection h with _ h; injection h with _ h; cases h
  · rename_i hc
    injection h with h1 h; injection h with h2 h3
    subst h2 h3
    obtain ⟨g1, g2, g3⟩ := byteS_inv hx
    refine ⟨?_, g3⟩
    rw [g1, ← h1]
    have : n = 0 ∨ n = 1 := by omega
    rcases this with rfl | rfl <;> rfl
theorem flagS_sp {b : ByteArray} {sp : Bool} (h : (flagS b sp).2.2 = true) : flagS b sp = (false, noB, true) := by
  unfold flagS at h ⊢
  split
  · rfl
  · rename_i h1
    rw [if_neg h1] at h
    have := byteS_sp h
    rw [this]; rfl
end Go.Proofs.Ytdjpcogkpnemlaa.Oct
