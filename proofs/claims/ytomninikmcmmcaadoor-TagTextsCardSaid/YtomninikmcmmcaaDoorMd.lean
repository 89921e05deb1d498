/- Texts of this session, put together: PureRa, NumR, PureRt, PureRb, GivR. -/
import Derived.Test.YtomninikmcmmcaaDoorPTrB
import Derived.Test.YtomninikmcmmcaaDoorMb
import Derived.Test.YtomninikmcmmcaaDoorMa
import Derived.Test.YtomninikmcmmcaaDoorMg
section
/- The reference's rune is the model's decoder's. -/
namespace Go.Proofs.YtomninikmcmmcaaDoor.Tag
open Go Go.RowKit Go.Proofs.YtomninikmcmmcaaDoorW.PrintWords Go.Proofs.YtomninikmcmmcaaDoor.PTg Go.Proofs.YtomninikmcmmcaaDoor.PTr Go.Proofs.YtomninikmcmmcaaDoor.GivU Go.Proofs.YtomninikmcmmcaaDoor.GivT Go.Proofs.YtomninikmcmmcaaDoor.Ids Go.Proofs.YtomninikmcmmcaaDoor.Oct
set_option linter.unusedVariables false
set_option linter.unusedSimpArgs false
/-! the reference's rune -/
/-- A further byte. -/
theorem more_some (s : ByteArray) (hs : s.size < 4611686018427387904) (k at_ many i : Nat) (n least : Int) (hat : at_ < s.size) (hi : i < many) (hm : many ≤ 4) (hn0 : 0 ≤ n) (hn : n < 1000000000000) :
    paymasterref07_Rune.l0 (k + 1) s at_ many n least i =
      if i < s.size - at_ ∧ (s.get! (at_ + i)).toNat / 64 = 2 then paymasterref07_Rune.l0 k s at_ many (64 * n + ((s.get! (at_ + i)).toNat : Int) - 128) least ((i + 1 : Nat) : Int) else some (0, 0) := by
  rw [paymasterref07_Rune.l0, if_pos (by omega), wrap64_in (n := (at_ : Int) + i) (by omega) (by omega)]
  by_cases h1 : i < s.size - at_
  · have hg := get_lt s (at_ + i)
    rw [if_neg (by omega), if_pos (by omega), if_pos (by omega), show (at_ : Int) + (i : Int) = ((at_ + i : Nat) : Int) by omega, bt_get s (at_ + i) (by omega)]
    generalize (s.get! (at_ + i)).toNat = b at *
    by_cases h2 : b / 64 = 2
    · rw [if_neg (by omega), if_neg (by omega), if_pos ⟨h1, h2⟩, wrap64_in (n := 64 * n) (by omega) (by omega), wrap64_in (n := (b : Int)) (by omega) (by omega), wrap64_in (n := 64 * n + b) (by omega) (by omega), wrap64_in (n := 64 * n + b - 128) (by omega) (by omega), wrap64_in (n := (i : Int) + 1) (by omega) (by omega)]
      rfl
    · by_cases h3 : b < 128
      · rw [if_pos (by omega), if_neg (fun h => h2 h.2)]
      · rw [if_neg (by omega), if_pos (by omega), if_neg (fun h => h2 h.2)]
  · rw [if_pos (by omega), if_neg (fun h => h1 h.1)]
/-- No further byte: the rune, if it may be. -/
theorem last_some (s : ByteArray) (k : Nat) (a m n least i : Int) (hi : ¬ i < m) :
    paymasterref07_Rune.l0 (k + 1) s a m n least i = if n < least ∨ n > 1114111 ∨ (55296 ≤ n ∧ n < 57344) then some (0, 0) else some (n, m) := by
  rw [paymasterref07_Rune.l0, if_neg hi]
  repeat' split
  all_goals first | rfl | (exfalso; omega)
theorem runeN2 (n b0 b1 b2 b3 : Nat) (c1 : ¬ b0 < 128) (c2 : b0 / 32 = 6) : runeN n b0 b1 b2 b3 = if 1 < n ∧ b1 / 64 = 2 then (if 64 * (b0 - 192) + b1 - 128 < 128 then (0, 0) else (64 * (b0 - 192) + b1 - 128, 2)) else (0, 0) := by
  unfold runeN
  rw [if_neg c1, if_pos c2]
theorem runeN3 (n b0 b1 b2 b3 : Nat) (c1 : ¬ b0 < 128) (c2 : ¬ b0 / 32 = 6) (c3 : b0 / 16 = 14) : runeN n b0 b1 b2 b3 = if (1 < n ∧ b1 / 64 = 2) ∧ (2 < n ∧ b2 / 64 = 2) then
      (if 64 * (64 * (b0 - 224) + b1 - 128) + b2 - 128 < 2048 ∨ (55296 ≤ 64 * (64 * (b0 - 224) + b1 - 128) + b2 - 128 ∧ 64 * (64 * (b0 - 224) + b1 - 128) + b2 - 128 < 57344) then (0, 0) else (64 * (64 * (b0 - 224) + b1 - 128) + b2 - 128, 3)) else (0, 0) := by
  unfold runeN
  rw [if_neg c1, if_neg c2, if_pos c3]
theorem runeN4 (n b0 b1 b2 b3 : Nat) (c1 : ¬ b0 < 128) (c2 : ¬ b0 / 32 = 6) (c3 : ¬ b0 / 16 = 14) (c4 : b0 / 8 = 30) : runeN n b0 b1 b2 b3 = if (1 < n ∧ b1 / 64 = 2) ∧ (2 < n ∧ b2 / 64 = 2) ∧ (3 < n ∧ b3 / 64 = 2) then
      (if 64 * (64 * (64 * (b0 - 240) + b1 - 128) + b2 - 128) + b3 - 128 < 65536 ∨ 1114111 < 64 * (64 * (64 * (b0 - 240) + b1 - 128) + b2 - 128) + b3 - 128 then (0, 0) else (64 * (64 * (64 * (b0 - 240) + b1 - 128) + b2 - 128) + b3 - 128, 4)) else (0, 0) := by
  unfold runeN
  rw [if_neg c1, if_neg c2, if_neg c3, if_pos c4]
/-- THE REFERENCE's RUNE is the model's decoder's. -/
theorem rune_some (s : ByteArray) (hs : s.size < 4611686018427387904) (k at_ : Nat) (hat : at_ < s.size) (hk : 20 ≤ k) :
    paymasterref07_Rune.f k s at_ = some (((told (Utf8.decode s at_)).1 : Int), ((told (Utf8.decode s at_)).2 : Int)) := by
  obtain ⟨k, rfl⟩ : ∃ q, k = q + 20 := ⟨k - 20, by omega⟩
  rw [← runeN_at]
  have hb0 := get_lt s at_; have hb1 := get_lt s (at_ + 1); have hb2 := get_lt s (at_ + 2); have hb3 := get_lt s (at_ + 3)
  unfold paymasterref07_Rune.f
  rw [if_neg (by omega), decide_eq_false (by omega), paymasterref07_Rune.j0, if_neg (by decide), if_pos (by omega), if_pos (by omega), bt_get s at_ hat]
  have M1 := fun (k many : Nat) (n least : Int) (hm1 : 1 < many) (hm : many ≤ 4) (hn0 : 0 ≤ n) (hn : n < 1000000000000) => more_some s hs k at_ many 1 n least hat hm1 hm hn0 hn
  have M2 := fun (k many : Nat) (n least : Int) (hm1 : 2 < many) (hm : many ≤ 4) (hn0 : 0 ≤ n) (hn : n < 1000000000000) => more_some s hs k at_ many 2 n least hat hm1 hm hn0 hn
  have M3 := fun (k many : Nat) (n least : Int) (hm1 : 3 < many) (hm : many ≤ 4) (hn0 : 0 ≤ n) (hn : n < 1000000000000) => more_some s hs k at_ many 3 n least hat hm1 hm hn0 hn
  generalize (s.get! at_).toNat = b0 at *
  generalize (s.get! (at_ + 1)).toNat = b1 at *
  generalize (s.get! (at_ + 2)).toNat = b2 at *
  generalize (s.get! (at_ + 3)).toNat = b3 at *
  rw [wrap64_in (n := (b0 : Int)) (by omega) (by omega)]
  by_cases c1 : b0 < 128
  · rw [if_pos (by omega)]
    unfold runeN
    rw [if_pos c1]
    rfl
  rw [if_neg (by omega)]
  by_cases c2 : b0 / 32 = 6
  · rw [if_pos (by omega), decide_eq_true (by omega), paymasterref07_Rune.j1, if_pos rfl, paymasterref07_Rune.j3, wrap64_in (by omega) (by omega), runeN2 _ _ _ _ _ c1 c2]
    have m1 := M1 (k + 16) 2 ((b0 : Int) - 192) 128 (by omega) (by omega) (by omega) (by omega)
    refine m1.trans ?_
    by_cases e : 1 < s.size - at_ ∧ b1 / 64 = 2
    · rw [if_pos e, if_pos e, last_some _ _ _ _ _ _ _ (by omega)]
      by_cases f : 64 * (b0 - 192) + b1 - 128 < 128
      · rw [if_pos f, if_pos (by omega)]
        rfl
      · rw [if_neg f, if_neg (by omega)]
        refine congrArg some (Prod.ext ?_ rfl)
        simp only
        omega
    · rw [if_neg e, if_neg e]
      rfl
  by_cases c3 : b0 / 16 = 14
  · rw [if_pos (by omega), decide_eq_false (by omega), paymasterref07_Rune.j1, if_neg (by decide), if_pos (by omega), decide_eq_true (by omega), paymasterref07_Rune.j2, if_pos rfl, paymasterref07_Rune.j3, wrap64_in (by omega) (by omega), runeN3 _ _ _ _ _ c1 c2 c3]
    refine (M1 (k + 15) 3 ((b0 : Int) - 224) 2048 (by omega) (by omega) (by omega) (by omega)).trans ?_
    by_cases e : 1 < s.size - at_ ∧ b1 / 64 = 2
    · rw [if_pos e]
      refine (M2 (k + 14) 3 _ 2048 (by omega) (by omega) (by omega) (by omega)).trans ?_
      by_cases e2 : 2 < s.size - at_ ∧ b2 / 64 = 2
      · rw [if_pos e2, if_pos ⟨e, e2⟩, last_some _ _ _ _ _ _ _ (by omega)]
        by_cases f : 64 * (64 * (b0 - 224) + b1 - 128) + b2 - 128 < 2048 ∨ (55296 ≤ 64 * (64 * (b0 - 224) + b1 - 128) + b2 - 128 ∧ 64 * (64 * (b0 - 224) + b1 - 128) + b2 - 128 < 57344)
        · rw [if_pos f, if_pos (by omega)]
          rfl
        · rw [if_neg f, if_neg (by omega)]
          refine congrArg some (Prod.ext ?_ rfl)
          simp only
          omega
      · rw [if_neg e2, if_neg (fun h => e2 h.2)]
        rfl
    · rw [if_neg e, if_neg (fun h => e h.1)]
      rfl
  by_cases c4 : b0 / 8 = 30
  · rw [if_pos (by omega), decide_eq_false (by omega), paymasterref07_Rune.j1, if_neg (by decide), if_pos (by omega), decide_eq_false (by omega), paymasterref07_Rune.j2, if_neg (by decide), if_pos (by omega), if_pos (by omega), paymasterref07_Rune.j3, wrap64_in (by omega) (by omega), runeN4 _ _ _ _ _ c1 c2 c3 c4]
    refine (M1 (k + 15) 4 ((b0 : Int) - 240) 65536 (by omega) (by omega) (by omega) (by omega)).trans ?_
    by_cases e : 1 < s.size - at_ ∧ b1 / 64 = 2
    · rw [if_pos e]
      refine (M2 (k + 14) 4 _ 65536 (by omega) (by omega) (by omega) (by omega)).trans ?_
      by_cases e2 : 2 < s.size - at_ ∧ b2 / 64 = 2
      · rw [if_pos e2]
        refine (M3 (k + 13) 4 _ 65536 (by omega) (by omega) (by omega) (by omega)).trans ?_
        by_cases e3 : 3 < s.size - at_ ∧ b3 / 64 = 2
        · rw [if_pos e3, if_pos ⟨e, e2, e3⟩, last_some _ _ _ _ _ _ _ (by omega)]
          by_cases f : 64 * (64 * (64 * (b0 - 240) + b1 - 128) + b2 - 128) + b3 - 128 < 65536 ∨ 1114111 < 64 * (64 * (64 * (b0 - 240) + b1 - 128) + b2 - 128) + b3 - 128
          · rw [if_pos f, if_pos (by omega)]
            rfl
          · rw [if_neg f, if_neg (by omega)]
            refine congrArg some (Prod.ext ?_ rfl)
            simp only
            omega
        · rw [if_neg e3, if_neg (fun h => e3 h.2.2)]
          rfl
      · rw [if_neg e2, if_neg (fun h => e2 h.2.1)]
        rfl
    · rw [if_neg e, if_neg (fun h => e h.1)]
      rfl
  · have hz : runeN (s.size - at_) b0 b1 b2 b3 = (0, 0) := by
      unfold runeN
      rw [if_neg c1, if_neg c2, if_neg c3, if_neg c4]
    rw [hz]
    by_cases d : b0 ≥ 192
    · rw [if_pos (by omega), decide_eq_false (by omega), paymasterref07_Rune.j1, if_neg (by decide)]
      rw [if_pos (by omega), decide_eq_false (by omega), paymasterref07_Rune.j2, if_neg (by decide), if_pos (by omega), if_neg (by omega)]
      rfl
    · rw [if_neg (by omega), paymasterref07_Rune.j1, if_neg (by decide), if_neg (by omega), paymasterref07_Rune.j2, if_neg (by decide), if_neg (by omega)]
      rfl
end Go.Proofs.YtomninikmcmmcaaDoor.Tag
end
section
/- The reference's sixteen bytes. -/
namespace Go.Proofs.YtomninikmcmmcaaDoor.Tag
open Go Go.RowKit Go.Proofs.YtomninikmcmmcaaDoorW.PrintWords Go.Proofs.YtomninikmcmmcaaDoor.PTg Go.Proofs.YtomninikmcmmcaaDoor.PTr Go.Proofs.YtomninikmcmmcaaDoor.GivT Go.Proofs.YtomninikmcmmcaaDoor.Oct
set_option linter.unusedVariables false
set_option linter.unusedSimpArgs false
/-- A number's bytes, as a list. -/
theorem dig_mod (n : Nat) : Int.tmod (n : Int) 65536 = ((n % 65536 : Nat) : Int) := by
  rw [Int.tmod_eq_emod_of_nonneg (by omega)]; omega
theorem dig_div (n : Nat) (h : n < 18446744073709551616) : IntKind.u64.wrap (Int.tdiv (n : Int) 65536) = ((n / 65536 : Nat) : Int) := by
  rw [Int.tdiv_eq_ediv_of_nonneg (by omega), wrapU (by omega) (by omega)]; omega
theorem dig_l0 (k : Nat) (xs : List Int) (j : Int) (hi lo : Nat) (hx : xs.length < 100) (h0 : 0 ≤ j) (h4 : j < 4) (h : lo < 18446744073709551616) :
    paymasterref01_digits.l0 (k + 1) xs j hi lo = paymasterref01_digits.l0 k (xs ++ [((lo % 65536 : Nat) : Int)]) (j + 1) hi ((lo / 65536 : Nat) : Int) := by
  rw [paymasterref01_digits.l0, if_pos (by omega), if_pos (by omega), dig_mod, dig_div _ h, wrap64_in (by omega) (by omega)]
theorem dig_l1 (k : Nat) (xs : List Int) (j : Int) (hi : Nat) (lo : Int) (hx : xs.length < 100) (h0 : 0 ≤ j) (h4 : j < 4) (h : hi < 18446744073709551616) :
    paymasterref01_digits.l1 (k + 1) xs j hi lo = paymasterref01_digits.l1 k (xs ++ [((hi % 65536 : Nat) : Int)]) (j + 1) ((hi / 65536 : Nat) : Int) lo := by
  rw [paymasterref01_digits.l1, if_pos (by omega), if_pos (by omega), dig_mod, dig_div _ h, wrap64_in (by omega) (by omega)]
def digL (hi lo : Nat) : List Int := [((lo % 65536 : Nat) : Int), ((lo / 65536 % 65536 : Nat) : Int), ((lo / 65536 / 65536 % 65536 : Nat) : Int), ((lo / 65536 / 65536 / 65536 % 65536 : Nat) : Int), ((hi % 65536 : Nat) : Int), ((hi / 65536 % 65536 : Nat) : Int), ((hi / 65536 / 65536 % 65536 : Nat) : Int), ((hi / 65536 / 65536 / 65536 % 65536 : Nat) : Int)]
theorem digits_eq (k hi lo : Nat) (h1 : hi < 18446744073709551616) (h2 : lo < 18446744073709551616) : paymasterref01_digits.f (k + 10) hi lo = some (digL hi lo) := by
  unfold paymasterref01_digits.f
  rw [dig_l0 (k + 9) _ _ _ _ (by simp) (by omega) (by omega) h2, dig_l0 (k + 8) _ _ _ _ (by simp) (by omega) (by omega) (by omega), dig_l0 (k + 7) _ _ _ _ (by simp) (by omega) (by omega) (by omega), dig_l0 (k + 6) _ _ _ _ (by simp) (by omega) (by omega) (by omega)]
  rw [paymasterref01_digits.l0, if_neg (by omega)]
  rw [dig_l1 (k + 4) _ _ _ _ (by simp) (by omega) (by omega) h1, dig_l1 (k + 3) _ _ _ _ (by simp) (by omega) (by omega) (by omega), dig_l1 (k + 2) _ _ _ _ (by simp) (by omega) (by omega) (by omega), dig_l1 (k + 1) _ _ _ _ (by simp) (by omega) (by omega) (by omega)]
  rw [paymasterref01_digits.l1, if_neg (by omega)]
  rfl
theorem byt (n : Nat) (h : n < 65536) : (IntKind.u64.wrap (Int.tdiv (n : Int) 256)) % 256 = ((n / 256 : Nat) : Int) := by
  rw [Int.tdiv_eq_ediv_of_nonneg (by omega), wrapU (by omega) (by omega)]; omega
theorem byt2 (n : Nat) : (Int.tmod (n : Int) 256) % 256 = ((n % 256 : Nat) : Int) := by
  rw [Int.tmod_eq_emod_of_nonneg (by omega)]; omega
theorem by_l0 (k : Nat) (L xs : List Int) (j : Int) (n : Nat) (hx : xs.length < 100) (hL : L.length = 8) (h0 : 0 ≤ j) (h8 : j < 8) (hd : rd L j = (n : Int)) (hn : n < 65536) :
    paymasterref01_Bytes.l0 (k + 1) L xs j = paymasterref01_Bytes.l0 k L (xs ++ [((n / 256 : Nat) : Int), ((n % 256 : Nat) : Int)]) (j - 1) := by
  rw [paymasterref01_Bytes.l0, if_pos (by omega), if_pos (by omega), if_pos (by omega), hd, byt _ hn, byt2, Option.bind_some, if_pos (by simp; omega), wrap64_in (by omega) (by omega)]
theorem refBytes (k hi lo : Nat) (h1 : hi < 18446744073709551616) (h2 : lo < 18446744073709551616) : paymasterref01_Bytes.f (k + 10) hi lo = some (be16 hi lo) := by
  unfold paymasterref01_Bytes.f
  rw [digits_eq k hi lo h1 h2, Option.bind_some]
  have hL : (digL hi lo).length = 8 := rfl
  rw [by_l0 (k + 9) _ _ _ (hi / 65536 / 65536 / 65536 % 65536) (by simp) hL (by omega) (by omega) rfl (by omega),
    by_l0 (k + 8) _ _ _ (hi / 65536 / 65536 % 65536) (by simp) hL (by omega) (by omega) rfl (by omega),
    by_l0 (k + 7) _ _ _ (hi / 65536 % 65536) (by simp) hL (by omega) (by omega) rfl (by omega),
    by_l0 (k + 6) _ _ _ (hi % 65536) (by simp) hL (by omega) (by omega) rfl (by omega),
    by_l0 (k + 5) _ _ _ (lo / 65536 / 65536 / 65536 % 65536) (by simp) hL (by omega) (by omega) rfl (by omega),
    by_l0 (k + 4) _ _ _ (lo / 65536 / 65536 % 65536) (by simp) hL (by omega) (by omega) rfl (by omega),
    by_l0 (k + 3) _ _ _ (lo / 65536 % 65536) (by simp) hL (by omega) (by omega) rfl (by omega),
    by_l0 (k + 2) _ _ _ (lo % 65536) (by simp) hL (by omega) (by omega) rfl (by omega)]
  rw [paymasterref01_Bytes.l0, if_neg (by omega)]
  congr 1
  apply ba_ext
  rw [strOfNums_data]
  show [_, _, _, _, _, _, _, _, _, _, _, _, _, _, _, _] = [_, _, _, _, _, _, _, _, _, _, _, _, _, _, _, _]
  simp only [List.cons.injEq, and_true]
  refine ⟨?_, ?_, ?_, ?_, ?_, ?_, ?_, ?_, ?_, ?_, ?_, ?_, ?_, ?_, ?_, ?_⟩
  all_goals
    unfold beAt
    apply UInt8.toNat_inj.1
    simp only [UInt8.toNat_ofNat', Nat.reduceSub, Nat.reduceMul, Nat.reducePow, Nat.reduceLT, if_true, if_false, Int.toNat_natCast]
    omega
end Go.Proofs.YtomninikmcmmcaaDoor.Tag
end
section
/- The reference's leaves that may be. -/
namespace Go.Proofs.YtomninikmcmmcaaDoor.Tag
open Go Go.RowKit Go.Proofs.YtomninikmcmmcaaDoorW.PrintWords Go.Proofs.YtomninikmcmmcaaDoor.PTg Go.Proofs.YtomninikmcmmcaaDoor.PTr Go.Proofs.YtomninikmcmmcaaDoor.GivU Go.Proofs.YtomninikmcmmcaaDoor.GivT Go.Proofs.YtomninikmcmmcaaDoor.Ids Go.Proofs.YtomninikmcmmcaaDoor.Oct
set_option linter.unusedVariables false
set_option linter.unusedSimpArgs false
theorem within_some (c : Int) : paymasterref07_within.f c = some (withinR c) := by
  unfold paymasterref07_within.f withinR
  repeat' split
  all_goals first
    | exact congrArg some (decide_eq_true (by omega)).symm
    | exact congrArg some (decide_eq_decide.2 ⟨fun h => by omega, fun h => by omega⟩)
theorem told_ok {d : Nat × Nat} (h : ¬ (d.1 = 65533 ∧ d.2 = 1)) : told d = d := by
  unfold told
  rw [if_neg h]
theorem mayid_l0 (s : ByteArray) (hs : s.size < 4611686018427387904) : ∀ (b k pos n : Nat), s.size ≤ pos + b → b + 21 ≤ k → pos ≤ s.size + 4 → n ≤ pos →
    paymasterref07_MayId.l0 k s n pos = some (decide (1 ≤ n + Lib.runeCountFrom s b pos) && decide (n + Lib.runeCountFrom s b pos ≤ 24) && okFrom s b pos)
  | 0, k, pos, n, hb, hk, hp, hn => by
    obtain ⟨k, rfl⟩ : ∃ q, k = q + 1 := ⟨k - 1, by omega⟩
    rw [paymasterref07_MayId.l0, if_neg (by omega), Lib.runeCountFrom_end s 0 pos (by omega), okFrom_end s 0 pos (by omega), Nat.add_zero, Bool.and_true]
    by_cases h1 : 1 ≤ n
    · rw [if_pos (by omega), decide_eq_true h1, Bool.true_and]
      by_cases h2 : n ≤ 24
      · rw [decide_eq_true h2, decide_eq_true (by omega)]
      · rw [decide_eq_false h2, decide_eq_false (by omega)]
    · rw [if_neg (by omega), decide_eq_false h1, Bool.false_and]
  | b + 1, k, pos, n, hb, hk, hp, hn => by
    obtain ⟨k, rfl⟩ : ∃ q, k = q + 1 := ⟨k - 1, by omega⟩
    by_cases hlt : pos < s.size
    · rw [paymasterref07_MayId.l0, if_pos (by omega), rune_some s hs k pos hlt (by omega), Option.bind_some]
      by_cases hbad : (Utf8.decode s pos).1 = 65533 ∧ (Utf8.decode s pos).2 = 1
      · rw [okFrom_bad s b pos hlt hbad, Bool.and_false]
        unfold told
        rw [if_pos hbad]
        exact if_pos rfl
      · have hw := Lib.decode_width_pos s pos hlt
        have hw4 := decode_width_le s pos
        rw [told_ok hbad]
        simp only
        rw [if_neg (by omega), within_some, Option.bind_some]
        cases hwi : withinR ((Utf8.decode s pos).1 : Int)
        · rw [if_neg (by decide), okFrom_out s b pos hlt hwi, Bool.and_false]
        · rw [if_pos rfl, wrap64_in (by omega) (by omega), wrap64_in (by omega) (by omega)]
          have ih := mayid_l0 s hs b k (pos + (Utf8.decode s pos).2) (n + 1) (by omega) (by omega) (by omega) (by omega)
          rw [okFrom_in s b pos hlt hbad hwi, Lib.runeCountFrom, if_pos hlt]
          refine Eq.trans ?_ (ih.trans ?_)
          · rfl
          · rw [Nat.add_assoc]
    · rw [paymasterref07_MayId.l0, if_neg (by omega), Lib.runeCountFrom_end s (b + 1) pos hlt, okFrom_end s (b + 1) pos hlt, Nat.add_zero, Bool.and_true]
      by_cases h1 : 1 ≤ n
      · rw [if_pos (by omega), decide_eq_true h1, Bool.true_and]
        by_cases h2 : n ≤ 24
        · rw [decide_eq_true h2, decide_eq_true (by omega)]
        · rw [decide_eq_false h2, decide_eq_false (by omega)]
      · rw [if_neg (by omega), decide_eq_false h1, Bool.false_and]
/-- THE REFERENCE's MayId. -/
theorem refmayid_some (s : ByteArray) (hs : s.size < 4611686018427387904) (k : Nat) (hk : s.size + 30 ≤ k) : paymasterref07_MayId.f k s = some (mayId s) := by
  unfold paymasterref07_MayId.f mayId Lib.runeCount
  have h := mayid_l0 s hs s.size k 0 0 (by omega) (by omega) (by omega) (by omega)
  rw [Nat.zero_add] at h
  exact h
theorem refmayleaf_some (p : Bool) (i s : ByteArray) (h l : Int) (hi : i.size < 4611686018427387904) (k : Nat) (hk : i.size + 30 ≤ k) : paymasterref07_MayLeaf.f k p i s h l = some (mayL p i s h l) := by
  unfold paymasterref07_MayLeaf.f mayL
  have hd : (decide ((s.size : Int) ≤ 32)) = decide (s.size ≤ 32) := by
    by_cases hs : s.size ≤ 32
    · rw [decide_eq_true hs, decide_eq_true (by omega)]
    · rw [decide_eq_false hs, decide_eq_false (by omega)]
  rw [hd]
  cases p
  · rw [if_neg (by decide), if_neg (by decide), refmayid_some i hi k hk, Option.bind_some]
    cases mayId i
    · rw [if_neg (by decide), Bool.and_false]
    · rw [if_pos rfl, Bool.and_true]
  · rw [if_pos rfl, if_pos rfl]
    by_cases hz : i.size = 0
    · rw [if_pos ((empty_list i).2 hz), decide_eq_true hz, Bool.true_and]
      cases h == 0 <;> cases l == 0 <;> simp
    · rw [if_neg (fun h => hz ((empty_list i).1 h)), decide_eq_false hz, Bool.false_and, Bool.and_false]
end Go.Proofs.YtomninikmcmmcaaDoor.Tag
end
section
/- The reference's sixteen bytes, widths. -/
namespace Go.Proofs.YtomninikmcmmcaaDoor.Tag
open Go Go.RowKit Go.Proofs.YtomninikmcmmcaaDoorW.PrintWords Go.Proofs.YtomninikmcmmcaaDoor.PTg Go.Proofs.YtomninikmcmmcaaDoor.PTr Go.Proofs.YtomninikmcmmcaaDoor.GivU Go.Proofs.YtomninikmcmmcaaDoor.GivT Go.Proofs.YtomninikmcmmcaaDoor.Ids Go.Proofs.YtomninikmcmmcaaDoor.Oct
set_option linter.unusedVariables false
set_option linter.unusedSimpArgs false
theorem refbytes_some (k : Nat) (hk : 10 ≤ k) (h l : Int) (h0 : 0 ≤ h) (h1 : h < 18446744073709551616) (l0 : 0 ≤ l) (l1 : l < 18446744073709551616) : paymasterref01_Bytes.f k h l = some (be16 h.toNat l.toNat) := by
  obtain ⟨q, rfl⟩ : ∃ q, k = q + 10 := ⟨k - 10, by omega⟩
  have hb := refBytes q h.toNat l.toNat (by omega) (by omega)
  rw [Int.toNat_of_nonneg h0, Int.toNat_of_nonneg l0] at hb
  exact hb
theorem refwidth_some (n : Int) : paymasterref07_MayWidth.f n = some (decide (1 ≤ n ∧ n ≤ 32)) := width_some n
end Go.Proofs.YtomninikmcmmcaaDoor.Tag
end
section
/- The reference's LeafText and NodeText as given functions, by hand. -/
namespace Go.Proofs.YtomninikmcmmcaaDoor.GivR
open Go Go.RowKit Go.Proofs.YtomninikmcmmcaaDoorW.PrintWords Go.Proofs.YtomninikmcmmcaaDoor.PTr Go.Proofs.YtomninikmcmmcaaDoor.GivL Go.Proofs.YtomninikmcmmcaaDoor.GivT Go.Proofs.YtomninikmcmmcaaDoor.Ids Go.Proofs.YtomninikmcmmcaaDoor.Oct Go.Proofs.YtomninikmcmmcaaDoor.Tag
set_option linter.unusedVariables false
set_option linter.unusedSimpArgs false
def two (n : Nat) : ByteArray := ⟨#[UInt8.ofNat 0, UInt8.ofNat n]⟩
theorem two_size (n : Nat) : (two n).size = 2 := rfl
theorem two_eq (n : Nat) : two n = one 0 ++ one n := by
  apply ba_ext
  rw [app_list]
  rfl
theorem conv2n (W : World) (g n : Nat) (hn : n < 256) (h : W.heap[g]? = some (.cells #[.int .u8 0, .int .u8 (n : Int)] 5 (0, 0))) :
    (convert 65 9 (.slice (some ⟨g, 0, none⟩) 2 2)).run Tryd.prog W = .ok (.string (two n)) W := by
  refine Lib.run_convert_whole W 65 5 9 Tryd.underlying65 Tryd.underlying5 Tryd.underlying9 g 0 (two n) (fun j hj => ?_) 2
  have hj' : j < 2 := hj
  rcases (show j = 0 ∨ j = 1 by omega) with rfl | rfl
  · rw [blk_cell h]
    rfl
  · rw [blk_cell h]
    show some (Value.int .u8 (n : Int)) = some (Value.int .u8 ((UInt8.ofNat n).toNat : Int))
    rw [UInt8.toNat_ofNat', show n % 2 ^ 8 = n by omega]
def RRa (g : Nat) (i s : ByteArray) (h l : Int) : Nat → Value → World → Prop
  | 0, v, _ => v = .pointer (some ⟨g, 1, none⟩)
  | 1, v, _ => v = .string i
  | 2, v, _ => v = .int .i64 (i.size : Nat)
  | 3, v, _ => v = .int .u8 (i.size : Nat)
  | 4, v, w => ∃ A, v = .slice (some ⟨A, 0, none⟩) 2 2 ∧ w.heap[A]? = some (.cells #[.int .u8 (0), .int .u8 ((i.size : Nat))] 5 (0, 0))
  | 5, v, _ => v = .string (two i.size)
  | 6, v, _ => v = .pointer (some ⟨g, 1, none⟩)
  | 7, v, _ => v = .string i
  | 8, v, _ => v = .string (two i.size ++ i)
  | 9, v, _ => v = .string (one s.size ++ s)
  | 10, v, _ => v = .string (two i.size ++ i ++ (one s.size ++ s))
  | 11, v, _ => v = .pointer (some ⟨g, 3, none⟩)
  | 12, v, _ => v = .agg #[.int .u64 h, .int .u64 l]
  | 13, v, _ => v = .string (be16 h.toNat l.toNat)
  | 14, v, _ => v = .string (two i.size ++ i ++ (one s.size ++ s) ++ be16 h.toNat l.toNat)
  | _, _, _ => True
theorem RRa_later (g : Nat) (i s : ByteArray) (h l : Int) : ∀ jj v w w', RRa g i s h l jj v w → Below w.heap.size w w' → RRa g i s h l jj v w' := by
  intro jj v w w' h hb
  match jj with
  | 4 => obtain ⟨A, h1, h2⟩ := h; exact ⟨A, h1, blk_below h2 hb⟩
  | 0 | 1 | 2 | 3 | 5 | 6 | 7 | 8 | 9 | 10 | 11 | 12 | 13 | 14 | _ + 15 => exact h
def RRn (g q : Nat) (a b : ByteArray) (x y z0 w0 : Int) : Nat → Value → World → Prop
  | 0, v, _ => v = .pointer (some ⟨g, 0, none⟩)
  | 1, v, _ => v = .string a
  | 2, v, _ => v = .string (⟨#[1]⟩ ++ a)
  | 3, v, _ => v = .pointer (some ⟨g, 1, none⟩)
  | 4, v, _ => v = .agg #[.int .u64 x, .int .u64 y]
  | 5, v, _ => v = .string (be16 x.toNat y.toNat)
  | 6, v, _ => v = .string (⟨#[1]⟩ ++ a ++ be16 x.toNat y.toNat)
  | 7, v, _ => v = .pointer (some ⟨q, 0, none⟩)
  | 8, v, _ => v = .string b
  | 9, v, _ => v = .string (⟨#[1]⟩ ++ a ++ be16 x.toNat y.toNat ++ b)
  | 10, v, _ => v = .pointer (some ⟨q, 1, none⟩)
  | 11, v, _ => v = .agg #[.int .u64 z0, .int .u64 w0]
  | 12, v, _ => v = .string (be16 z0.toNat w0.toNat)
  | 13, v, _ => v = .string (⟨#[1]⟩ ++ a ++ be16 x.toNat y.toNat ++ b ++ be16 z0.toNat w0.toNat)
  | _, _, _ => True
theorem RRn_later (g q : Nat) (a b : ByteArray) (x y z0 w0 : Int) : ∀ jj v w w', RRn g q a b x y z0 w0 jj v w → Below w.heap.size w w' → RRn g q a b x y z0 w0 jj v w' := by
  intro jj v w w' h hb
  match jj with
  | 0 | 1 | 2 | 3 | 4 | 5 | 6 | 7 | 8 | 9 | 10 | 11 | 12 | 13 | _ + 14 => exact h
set_option maxHeartbeats 8000000 in
set_option maxRecDepth 100000 in
theorem refleaf_calls (p : Bool) (i s : ByteArray) (h l : Int) (hi : i.size < 4611686018427387904) (h0 : 0 ≤ h) (h1 : h < 18446744073709551616) (l0 : 0 ≤ l) (l1 : l < 18446744073709551616) (w : World) :
    Calls Tryd.prog 30 #[.agg #[.bool p, .string i, .string s, .int .u64 h, .int .u64 l]] w fun e w' => e = .returned (.string (if mayL p i s h l = true then leafT p i s h l else ⟨#[]⟩)) ∧ Below w.heap.size w w' := by
  have HM := Aside0.mk (paymasterref07_MayLeaf.calls (i.size + 30) p i s h l _ (w.alloc (.cells #[.bool p, .string i, .string s, .int .u64 h, .int .u64 l] 39)) (refmayleaf_some p i s h l hi _ (Nat.le_refl _)))
  have HB := Aside0.mk (fun w => paymasterref01_Bytes.calls 10 h l _ w (refbytes_some 10 (Nat.le_refl _) h l h0 h1 l0 l1))
  have hshort := may_short p i s h l
  unfold leafT
  obtain ⟨m, hm⟩ : ∃ m, mayL p i s h l = m := ⟨_, rfl⟩
  rw [hm] at HM hshort ⊢
  clear hm h0 h1 l0 l1 hi
  go_enter Tryd.func30, Tryd.ntmps30
  go_wp2_with fail
  refine HM.out.mono ?_
  rintro e w1 ⟨rfl, b1⟩
  have B1 : Aside0 (Below w.heap.size w w1) := Aside0.mk (((Below.refl _ w).alloc (Nat.le_refl _) _).trans (b1.mono (by simp)))
  have A1 : Aside0 (w1.heap[w.heap.size]? = some (.cells #[.bool p, .string i, .string s, .int .u64 h, .int .u64 l] 39 (0, 0))) := Aside0.mk (blk_below (blk_new w _) b1)
  clear b1 HM
  generalize w.heap.size = g at A1 ⊢
  have c2 := (blk_cell A1.out 2).trans rfl
  cases m
  · go_wp2_with fail
    go_ret
    exact ⟨rfl, B1.out⟩
  obtain ⟨hs0, hp0⟩ := hshort rfl
  have hs : s.size < 256 := by omega
  have hm : (s.size : Int) % 256 = s.size := by omega
  have hc := conv1n (w1.alloc (.cells #[.int .u8 (s.size : Int)] 5)) w1.heap.size s.size hs (blk_new _ _)
  have hq : ¬ (9223372036854775807 < (one s.size).size + s.size) := by simp only [one_size]; omega
  have A2 := Aside0.mk (blk_alloc A1.out (.cells #[.int .u8 (s.size : Int)] 5))
  have B2 := Aside0.mk (B1.out.alloc B1.out.size (.cells #[.int .u8 (s.size : Int)] 5))
  have c2b := (blk_cell A2.out 2).trans rfl
  have c0b := (blk_cell A2.out 0).trans rfl
  clear A1 B1
  cases p
  · rw [if_neg (by decide)] at hp0
    have hi2 : i.size < 256 := by omega
    clear hshort hp0 hs0
    go_wp2_with fail
    clear hc c2 c2b c0b hq hm
    have A1 := A2
    clear A2
    generalize w1.alloc (.cells #[.int .u8 (s.size : Int)] 5) = w2 at A1 B2 ⊢
    refine Rel.region_rel [] (fun _ => .cells #[] 0 (0, 0)) (RRa g i s h l) 15 [] (by kernel_rfl) (by kernel_rfl) (by decide) (fun i hi => by cases hi) (RRa_later g i s h l) (fun i hi => by cases hi) ?_ ?_
    · simp only [List.take_succ_cons, List.take_zero]
      refine ⟨?_, ?_, ?_, ?_, ?_, ?_, ?_, ?_, ?_, ?_, ?_, ?_, ?_, ?_, ?_, trivial⟩
      · refine Rel.Upon.of [] (by kernel_rfl) ?_
        intro vals z hb hN hd
        simp only [Rel.rp]
        go_wp2_with fail
        exact ⟨Below.refl _ _, rfl⟩
      · refine Rel.Upon.of [0] (by kernel_rfl) ?_
        intro vals z hb hN hd
        simp only [Rel.ra] at hd
        have d0 := hd
        replace d0 : vals 0 = .pointer (some ⟨g, 1, none⟩) := d0
        have c1 := (blk_cell (blk_below A1.out hb) 1).trans rfl
        simp only [Rel.rp, d0]
        go_wp2_with fail
        exact ⟨Below.refl _ _, rfl⟩
      · refine Rel.Upon.of [1] (by kernel_rfl) ?_
        intro vals z hb hN hd
        simp only [Rel.ra] at hd
        have d1 := hd
        replace d1 : vals 1 = .string i := d1
        simp only [Rel.rp, d1]
        go_wp2_with fail
        exact ⟨Below.refl _ _, rfl⟩
      · refine Rel.Upon.of [2] (by kernel_rfl) ?_
        intro vals z hb hN hd
        simp only [Rel.ra] at hd
        have d2 := hd
        replace d2 : vals 2 = .int .i64 (i.size : Nat) := d2
        have hm : (i.size : Int) % 256 = i.size := by omega
        simp only [Rel.rp, d2]
        go_wp2_with fail
        exact ⟨Below.refl _ _, rfl⟩
      · refine Rel.Upon.of [3] (by kernel_rfl) ?_
        intro vals z hb hN hd
        simp only [Rel.ra] at hd
        have d3 := hd
        replace d3 : vals 3 = .int .u8 (i.size : Nat) := d3
        simp only [Rel.rp, d3]
        go_wp2_with fail
        exact ⟨(Below.refl _ _).alloc (Nat.le_refl _) _, z.heap.size, rfl, blk_new _ _⟩
      · refine Rel.Upon.of [4] (by kernel_rfl) ?_
        intro vals z hb hN hd
        simp only [Rel.ra] at hd
        have d4 := hd
        replace d4 : ∃ A, vals 4 = .slice (some ⟨A, 0, none⟩) 2 2 ∧ z.heap[A]? = some (.cells #[.int .u8 (0), .int .u8 ((i.size : Nat))] 5 (0, 0)) := d4
        obtain ⟨A4, e4, h4⟩ := d4
        have hc4 := conv2n z A4 _ (by omega) h4
        simp only [Rel.rp, e4]
        go_wp2_with fail
        exact ⟨Below.refl _ _, rfl⟩
      · refine Rel.Upon.of [] (by kernel_rfl) ?_
        intro vals z hb hN hd
        simp only [Rel.rp]
        go_wp2_with fail
        exact ⟨Below.refl _ _, rfl⟩
      · refine Rel.Upon.of [6] (by kernel_rfl) ?_
        intro vals z hb hN hd
        simp only [Rel.ra] at hd
        have d6 := hd
        replace d6 : vals 6 = .pointer (some ⟨g, 1, none⟩) := d6
        have c1 := (blk_cell (blk_below A1.out hb) 1).trans rfl
        simp only [Rel.rp, d6]
        go_wp2_with fail
        exact ⟨Below.refl _ _, rfl⟩
      · refine Rel.Upon.of [5, 7] (by kernel_rfl) ?_
        intro vals z hb hN hd
        simp only [Rel.ra] at hd
        obtain ⟨d5, d7⟩ := hd
        replace d5 : vals 5 = .string (two i.size) := d5
        replace d7 : vals 7 = .string i := d7
        have hq : ¬ (9223372036854775807 < (two i.size).size + i.size) := by simp only [one_size, two_size, be16_size]; omega
        simp only [Rel.rp, d5, d7]
        go_wp2_with fail
        exact ⟨Below.refl _ _, rfl⟩
      · refine Rel.Upon.of [] (by kernel_rfl) ?_
        intro vals z hb hN hd
        simp only [Rel.rp]
        go_wp2_with fail
        exact ⟨Below.refl _ _, rfl⟩
      · refine Rel.Upon.of [8, 9] (by kernel_rfl) ?_
        intro vals z hb hN hd
        simp only [Rel.ra] at hd
        obtain ⟨d8, d9⟩ := hd
        replace d8 : vals 8 = .string (two i.size ++ i) := d8
        replace d9 : vals 9 = .string (one s.size ++ s) := d9
        have hq : ¬ (9223372036854775807 < (two i.size).size + i.size + ((one s.size).size + s.size)) := by simp only [one_size, two_size, be16_size]; omega
        simp only [Rel.rp, d8, d9]
        go_wp2_with fail
        exact ⟨Below.refl _ _, rfl⟩
      · refine Rel.Upon.of [] (by kernel_rfl) ?_
        intro vals z hb hN hd
        simp only [Rel.rp]
        go_wp2_with fail
        exact ⟨Below.refl _ _, rfl⟩
      · refine Rel.Upon.of [11] (by kernel_rfl) ?_
        intro vals z hb hN hd
        simp only [Rel.ra] at hd
        have d11 := hd
        replace d11 : vals 11 = .pointer (some ⟨g, 3, none⟩) := d11
        have c3 := (blk_cell (blk_below A1.out hb) 3).trans rfl
        have c4 := (blk_cell (blk_below A1.out hb) 4).trans rfl
        simp only [Rel.rp, d11]
        go_wp2_with fail
        exact ⟨Below.refl _ _, rfl⟩
      · refine Rel.Upon.of [12] (by kernel_rfl) ?_
        intro vals z hb hN hd
        simp only [Rel.ra] at hd
        have d12 := hd
        replace d12 : vals 12 = .agg #[.int .u64 h, .int .u64 l] := d12
        simp only [Rel.rp, d12]
        go_wp2_with fail
        refine (HB.out _).mono ?_; rintro e z1 ⟨rfl, hbz⟩
        go_wp2_with fail
        first | rfl | exact ⟨hbz, rfl⟩
      · refine Rel.Upon.of [10, 13] (by kernel_rfl) ?_
        intro vals z hb hN hd
        simp only [Rel.ra] at hd
        obtain ⟨d10, d13⟩ := hd
        replace d10 : vals 10 = .string (two i.size ++ i ++ (one s.size ++ s)) := d10
        replace d13 : vals 13 = .string (be16 h.toNat l.toNat) := d13
        have hq : ¬ (9223372036854775807 < (two i.size).size + i.size + ((one s.size).size + s.size) + (be16 h.toNat l.toNat).size) := by simp only [one_size, two_size, be16_size]; omega
        simp only [Rel.rp, d10, d13]
        go_wp2_with fail
        exact ⟨Below.refl _ _, rfl⟩
    · intro vals wf hb hN hrel _
      have d0 : vals 0 = .pointer (some ⟨g, 1, none⟩) := hrel 0 (by decide)
      have d1 : vals 1 = .string i := hrel 1 (by decide)
      have d2 : vals 2 = .int .i64 (i.size : Nat) := hrel 2 (by decide)
      have d3 : vals 3 = .int .u8 (i.size : Nat) := hrel 3 (by decide)
      generalize ev4 : vals 4 = v4
      have d5 : vals 5 = .string (two i.size) := hrel 5 (by decide)
      have d6 : vals 6 = .pointer (some ⟨g, 1, none⟩) := hrel 6 (by decide)
      have d7 : vals 7 = .string i := hrel 7 (by decide)
      have d8 : vals 8 = .string (two i.size ++ i) := hrel 8 (by decide)
      have d9 : vals 9 = .string (one s.size ++ s) := hrel 9 (by decide)
      have d10 : vals 10 = .string (two i.size ++ i ++ (one s.size ++ s)) := hrel 10 (by decide)
      have d11 : vals 11 = .pointer (some ⟨g, 3, none⟩) := hrel 11 (by decide)
      have d12 : vals 12 = .agg #[.int .u64 h, .int .u64 l] := hrel 12 (by decide)
      have d13 : vals 13 = .string (be16 h.toNat l.toNat) := hrel 13 (by decide)
      have d14 : vals 14 = .string (two i.size ++ i ++ (one s.size ++ s) ++ be16 h.toNat l.toNat) := hrel 14 (by decide)
      simp only [List.drop_succ_cons, List.drop_zero]
      rw [show List.range 15 = [0, 1, 2, 3, 4, 5, 6, 7, 8, 9, 10, 11, 12, 13, 14] from rfl]
      simp only [Rel.rp, d0, d1, d2, d3, ev4, d5, d6, d7, d8, d9, d10, d11, d12, d13, d14]
      clear hrel hN
      go_wp2_with fail
      go_ret
      refine ⟨congrArg (fun x : ByteArray => Ending.returned (Value.string x)) ?_, B2.out.trans (hb.mono B2.out.size)⟩
      rw [two_eq]
      simp only [app_assoc]
  · have hq2 : ¬ (9223372036854775807 < 1 + ((one s.size).size + s.size)) := by simp only [one_size]; omega
    clear hshort hp0 hs0
    go_wp2_with fail
    go_ret
    exact ⟨rfl, B2.out⟩
def paymasterref07_LeafText.f (k : Nat) (p : Bool) (i s : ByteArray) (h l : Int) : Option ByteArray :=
  if (decide (i.size < 4611686018427387904) && (in64 h && in64 l)) = true then some (if mayL p i s h l = true then leafT p i s h l else ⟨#[]⟩) else none
theorem paymasterref07_LeafText.calls (k : Nat) (p : Bool) (i s : ByteArray) (h l : Int) (r : ByteArray) (w : World) (e : paymasterref07_LeafText.f k p i s h l = some r) :
    Calls Tryd.prog 30 #[.agg #[.bool p, .string i, .string s, .int .u64 h, .int .u64 l]] w fun e w' => e = .returned (.string r) ∧ Below w.heap.size w w' := by
  unfold paymasterref07_LeafText.f in64 at e
  split at e
  · rename_i hc
    simp only [Bool.and_eq_true, decide_eq_true_eq] at hc
    obtain rfl := Option.some.inj e
    exact refleaf_calls p i s h l hc.1 hc.2.1.1 hc.2.1.2 hc.2.2.1 hc.2.2.2 w
  · cases e
theorem refleaftext_some (p : Bool) (i s : ByteArray) (h l : Int) (hi : i.size < 4611686018427387904) (h0 : 0 ≤ h) (h1 : h < 18446744073709551616) (l0 : 0 ≤ l) (l1 : l < 18446744073709551616) (k : Nat) (hk : i.size + 30 ≤ k) :
    paymasterref07_LeafText.f k p i s h l = some (if mayL p i s h l = true then leafT p i s h l else ⟨#[]⟩) := by
  unfold paymasterref07_LeafText.f in64
  rw [decide_eq_true hi, decide_eq_true ⟨h0, h1⟩, decide_eq_true ⟨l0, l1⟩]
  rfl
set_option maxHeartbeats 8000000 in
set_option maxRecDepth 100000 in
theorem refnode_calls (a : ByteArray) (x y : Int) (b : ByteArray) (z0 w0 : Int) (ha : a.size ≤ 1000000) (hb0 : b.size ≤ 1000000) (x0 : 0 ≤ x) (x1 : x < 18446744073709551616) (y0 : 0 ≤ y) (y1 : y < 18446744073709551616) (hz0 : 0 ≤ z0) (hz1 : z0 < 18446744073709551616) (hw0 : 0 ≤ w0) (hw1 : w0 < 18446744073709551616) (w : World) :
    Calls Tryd.prog 43 #[.agg #[.string a, .int .u64 x, .int .u64 y], .agg #[.string b, .int .u64 z0, .int .u64 w0]] w fun e w' => e = .returned (.string (nodeT a x y b z0 w0)) ∧ Below w.heap.size w w' := by
  have HB1 := Aside0.mk (fun w => paymasterref01_Bytes.calls 10 x y _ w (refbytes_some 10 (Nat.le_refl _) x y x0 x1 y0 y1))
  have HB2 := Aside0.mk (fun w => paymasterref01_Bytes.calls 10 z0 w0 _ w (refbytes_some 10 (Nat.le_refl _) z0 w0 hz0 hz1 hw0 hw1))
  clear x0 x1 y0 y1 hz0 hz1 hw0 hw1
  unfold nodeT
  go_enter Tryd.func43, Tryd.ntmps43
  go_wp2_with fail
  have A1 := Aside0.mk (blk_alloc (blk_new w (.cells #[.string a, .int .u64 x, .int .u64 y] 57)) (.cells #[.string b, .int .u64 z0, .int .u64 w0] 57))
  have A2 := Aside0.mk (blk_new (w.alloc (.cells #[.string a, .int .u64 x, .int .u64 y] 57)) (.cells #[.string b, .int .u64 z0, .int .u64 w0] 57))
  have B1 : Aside0 (Below w.heap.size w _) := Aside0.mk (((Below.refl _ w).alloc (Nat.le_refl _) (.cells #[.string a, .int .u64 x, .int .u64 y] 57)).alloc (by simp) (.cells #[.string b, .int .u64 z0, .int .u64 w0] 57))
  simp only [alloc_size] at A1 A2 B1 ⊢
  generalize (w.alloc (.cells #[.string a, .int .u64 x, .int .u64 y] 57)).alloc (.cells #[.string b, .int .u64 z0, .int .u64 w0] 57) = w1 at A1 A2 B1 ⊢
  generalize w.heap.size + 1 = q at A2 ⊢
  generalize w.heap.size = g at A1 ⊢
  refine Rel.region_rel [] (fun _ => .cells #[] 0 (0, 0)) (RRn g q a b x y z0 w0) 14 [] (by kernel_rfl) (by kernel_rfl) (by decide) (fun i hi => by cases hi) (RRn_later g q a b x y z0 w0) (fun i hi => by cases hi) ?_ ?_
  · simp only [List.take_succ_cons, List.take_zero]
    refine ⟨?_, ?_, ?_, ?_, ?_, ?_, ?_, ?_, ?_, ?_, ?_, ?_, ?_, ?_, trivial⟩
    · refine Rel.Upon.of [] (by kernel_rfl) ?_
      intro vals z hb hN hd
      simp only [Rel.rp]
      go_wp2_with fail
      exact ⟨Below.refl _ _, rfl⟩
    · refine Rel.Upon.of [0] (by kernel_rfl) ?_
      intro vals z hb hN hd
      simp only [Rel.ra] at hd
      have d0 := hd
      replace d0 : vals 0 = .pointer (some ⟨g, 0, none⟩) := d0
      have c2 := (blk_cell (blk_below A1.out hb) 0).trans rfl
      simp only [Rel.rp, d0]
      go_wp2_with fail
      exact ⟨Below.refl _ _, rfl⟩
    · refine Rel.Upon.of [1] (by kernel_rfl) ?_
      intro vals z hb hN hd
      simp only [Rel.ra] at hd
      have d1 := hd
      replace d1 : vals 1 = .string a := d1
      have hq : ¬ (9223372036854775807 < 1 + a.size) := by (try simp only [be16_size]); omega
      simp only [Rel.rp, d1]
      go_wp2_with fail
      exact ⟨Below.refl _ _, rfl⟩
    · refine Rel.Upon.of [] (by kernel_rfl) ?_
      intro vals z hb hN hd
      simp only [Rel.rp]
      go_wp2_with fail
      exact ⟨Below.refl _ _, rfl⟩
    · refine Rel.Upon.of [3] (by kernel_rfl) ?_
      intro vals z hb hN hd
      simp only [Rel.ra] at hd
      have d3 := hd
      replace d3 : vals 3 = .pointer (some ⟨g, 1, none⟩) := d3
      have c3 := (blk_cell (blk_below A1.out hb) 1).trans rfl
      have c4 := (blk_cell (blk_below A1.out hb) 2).trans rfl
      simp only [Rel.rp, d3]
      go_wp2_with fail
      exact ⟨Below.refl _ _, rfl⟩
    · refine Rel.Upon.of [4] (by kernel_rfl) ?_
      intro vals z hb hN hd
      simp only [Rel.ra] at hd
      have d4 := hd
      replace d4 : vals 4 = .agg #[.int .u64 x, .int .u64 y] := d4
      simp only [Rel.rp, d4]
      go_wp2_with fail
      refine (HB1.out _).mono ?_; rintro e z1 ⟨rfl, hbz⟩
      go_wp2_with fail
      first | rfl | exact ⟨hbz, rfl⟩
    · refine Rel.Upon.of [2, 5] (by kernel_rfl) ?_
      intro vals z hb hN hd
      simp only [Rel.ra] at hd
      obtain ⟨d2, d5⟩ := hd
      replace d2 : vals 2 = .string (⟨#[1]⟩ ++ a) := d2
      replace d5 : vals 5 = .string (be16 x.toNat y.toNat) := d5
      have hq : ¬ (9223372036854775807 < 1 + a.size + (be16 x.toNat y.toNat).size) := by (try simp only [be16_size]); omega
      simp only [Rel.rp, d2, d5]
      go_wp2_with fail
      exact ⟨Below.refl _ _, rfl⟩
    · refine Rel.Upon.of [] (by kernel_rfl) ?_
      intro vals z hb hN hd
      simp only [Rel.rp]
      go_wp2_with fail
      exact ⟨Below.refl _ _, rfl⟩
    · refine Rel.Upon.of [7] (by kernel_rfl) ?_
      intro vals z hb hN hd
      simp only [Rel.ra] at hd
      have d7 := hd
      replace d7 : vals 7 = .pointer (some ⟨q, 0, none⟩) := d7
      have c2 := (blk_cell (blk_below A2.out hb) 0).trans rfl
      simp only [Rel.rp, d7]
      go_wp2_with fail
      exact ⟨Below.refl _ _, rfl⟩
    · refine Rel.Upon.of [6, 8] (by kernel_rfl) ?_
      intro vals z hb hN hd
      simp only [Rel.ra] at hd
      obtain ⟨d6, d8⟩ := hd
      replace d6 : vals 6 = .string (⟨#[1]⟩ ++ a ++ be16 x.toNat y.toNat) := d6
      replace d8 : vals 8 = .string b := d8
      have hq : ¬ (9223372036854775807 < 1 + a.size + (be16 x.toNat y.toNat).size + b.size) := by (try simp only [be16_size]); omega
      simp only [Rel.rp, d6, d8]
      go_wp2_with fail
      exact ⟨Below.refl _ _, rfl⟩
    · refine Rel.Upon.of [] (by kernel_rfl) ?_
      intro vals z hb hN hd
      simp only [Rel.rp]
      go_wp2_with fail
      exact ⟨Below.refl _ _, rfl⟩
    · refine Rel.Upon.of [10] (by kernel_rfl) ?_
      intro vals z hb hN hd
      simp only [Rel.ra] at hd
      have d10 := hd
      replace d10 : vals 10 = .pointer (some ⟨q, 1, none⟩) := d10
      have c3 := (blk_cell (blk_below A2.out hb) 1).trans rfl
      have c4 := (blk_cell (blk_below A2.out hb) 2).trans rfl
      simp only [Rel.rp, d10]
      go_wp2_with fail
      exact ⟨Below.refl _ _, rfl⟩
    · refine Rel.Upon.of [11] (by kernel_rfl) ?_
      intro vals z hb hN hd
      simp only [Rel.ra] at hd
      have d11 := hd
      replace d11 : vals 11 = .agg #[.int .u64 z0, .int .u64 w0] := d11
      simp only [Rel.rp, d11]
      go_wp2_with fail
      refine (HB2.out _).mono ?_; rintro e z1 ⟨rfl, hbz⟩
      go_wp2_with fail
      first | rfl | exact ⟨hbz, rfl⟩
    · refine Rel.Upon.of [9, 12] (by kernel_rfl) ?_
      intro vals z hb hN hd
      simp only [Rel.ra] at hd
      obtain ⟨d9, d12⟩ := hd
      replace d9 : vals 9 = .string (⟨#[1]⟩ ++ a ++ be16 x.toNat y.toNat ++ b) := d9
      replace d12 : vals 12 = .string (be16 z0.toNat w0.toNat) := d12
      have hq : ¬ (9223372036854775807 < 1 + a.size + (be16 x.toNat y.toNat).size + b.size + (be16 z0.toNat w0.toNat).size) := by (try simp only [be16_size]); omega
      simp only [Rel.rp, d9, d12]
      go_wp2_with fail
      exact ⟨Below.refl _ _, rfl⟩
  · intro vals wf hb hN hrel _
    have d0 : vals 0 = .pointer (some ⟨g, 0, none⟩) := hrel 0 (by decide)
    have d1 : vals 1 = .string a := hrel 1 (by decide)
    have d2 : vals 2 = .string (⟨#[1]⟩ ++ a) := hrel 2 (by decide)
    have d3 : vals 3 = .pointer (some ⟨g, 1, none⟩) := hrel 3 (by decide)
    have d4 : vals 4 = .agg #[.int .u64 x, .int .u64 y] := hrel 4 (by decide)
    have d5 : vals 5 = .string (be16 x.toNat y.toNat) := hrel 5 (by decide)
    have d6 : vals 6 = .string (⟨#[1]⟩ ++ a ++ be16 x.toNat y.toNat) := hrel 6 (by decide)
    have d7 : vals 7 = .pointer (some ⟨q, 0, none⟩) := hrel 7 (by decide)
    have d8 : vals 8 = .string b := hrel 8 (by decide)
    have d9 : vals 9 = .string (⟨#[1]⟩ ++ a ++ be16 x.toNat y.toNat ++ b) := hrel 9 (by decide)
    have d10 : vals 10 = .pointer (some ⟨q, 1, none⟩) := hrel 10 (by decide)
    have d11 : vals 11 = .agg #[.int .u64 z0, .int .u64 w0] := hrel 11 (by decide)
    have d12 : vals 12 = .string (be16 z0.toNat w0.toNat) := hrel 12 (by decide)
    have d13 : vals 13 = .string (⟨#[1]⟩ ++ a ++ be16 x.toNat y.toNat ++ b ++ be16 z0.toNat w0.toNat) := hrel 13 (by decide)
    simp only [List.drop_succ_cons, List.drop_zero]
    rw [show List.range 14 = [0, 1, 2, 3, 4, 5, 6, 7, 8, 9, 10, 11, 12, 13] from rfl]
    simp only [Rel.rp, d0, d1, d2, d3, d4, d5, d6, d7, d8, d9, d10, d11, d12, d13]
    clear hrel hN
    go_wp2_with fail
    go_ret
    refine ⟨congrArg (fun x : ByteArray => Ending.returned (Value.string x)) ?_, B1.out.trans (hb.mono B1.out.size)⟩
    rw [show (⟨#[1]⟩ : ByteArray) = one 1 from rfl]
    simp only [app_assoc]
def paymasterref07_NodeText.f (k : Nat) (a : ByteArray) (x y : Int) (b : ByteArray) (z w : Int) : Option ByteArray :=
  if (decide (a.size ≤ 1000000 ∧ b.size ≤ 1000000) && (in64 x && (in64 y && (in64 z && in64 w)))) = true then some (nodeT a x y b z w) else none
theorem paymasterref07_NodeText.calls (k : Nat) (a : ByteArray) (x y : Int) (b : ByteArray) (z0 w0 : Int) (r : ByteArray) (w : World) (e : paymasterref07_NodeText.f k a x y b z0 w0 = some r) :
    Calls Tryd.prog 43 #[.agg #[.string a, .int .u64 x, .int .u64 y], .agg #[.string b, .int .u64 z0, .int .u64 w0]] w fun e w' => e = .returned (.string r) ∧ Below w.heap.size w w' := by
  unfold paymasterref07_NodeText.f in64 at e
  split at e
  · rename_i hc
    simp only [Bool.and_eq_true, decide_eq_true_eq] at hc
    obtain rfl := Option.some.inj e
    obtain ⟨⟨c1, c2⟩, ⟨c3, c4⟩, ⟨c5, c6⟩, ⟨c7, c8⟩, c9, c10⟩ := hc
    exact refnode_calls a x y b z0 w0 c1 c2 c3 c4 c5 c6 c7 c8 c9 c10 w
  · cases e
end Go.Proofs.YtomninikmcmmcaaDoor.GivR
end
