/- Texts of this session, put together: PureTs, LawSalts. -/
import Derived.Test.YtomninikmcmmcaaDoorPTsA
import Derived.Test.YtomninikmcmmcaaDoorPTbA
import Derived.Test.YtomninikmcmmcaaDoorPureHmac
import Derived.Laws.BitsLemmas
section
/- The reference's sixteen bytes, the salts and the first slots: plain laws of the printed functions. -/
namespace Go.Proofs.YtomninikmcmmcaaDoor.Sha
open Go Go.RowKit Go.Proofs.YtomninikmcmmcaaDoorW.PrintWords Go.Proofs.YtomninikmcmmcaaDoor.PTs Go.Proofs.YtomninikmcmmcaaDoor.PTb Go.Proofs.YtomninikmcmmcaaDoor.GivP Go.Proofs.YtomninikmcmmcaaDoor.Oct Go.Proofs.YtomninikmcmmcaaDoor.GivT Go.Proofs.YtomninikmcmmcaaDoor.GivH Go.Proofs.YtomninikmcmmcaaDoor.GivN Go.Proofs.YtomninikmcmmcaaDoor.PHs Go.Proofs.YtomninikmcmmcaaDoor.PHl
set_option linter.unusedVariables false
set_option linter.unusedSimpArgs false
set_option maxRecDepth 100000
theorem wrap64_in {n : Int} (h0 : -9223372036854775808 ≤ n) (h1 : n ≤ 9223372036854775807) : wrap64 n = n := by
  unfold wrap64; omega
theorem dig_mod (n : Nat) : Int.tmod (n : Int) 65536 = ((n % 65536 : Nat) : Int) := by
  rw [Int.tmod_eq_emod_of_nonneg (by omega)]; omega
theorem dig_div (n : Nat) (h : n < 18446744073709551616) : IntKind.u64.wrap (Int.tdiv (n : Int) 65536) = ((n / 65536 : Nat) : Int) := by
  rw [Int.tdiv_eq_ediv_of_nonneg (by omega), wrapU (by omega) (by omega)]; omega
theorem dig_l0 (k : Nat) (xs : List Int) (j : Int) (hi lo : Nat) (hx : xs.length < 100) (h0 : 0 ≤ j) (h4 : j < 4) (h : lo < 18446744073709551616) :
    paymasterref01_digits.l0 (k + 1) xs j hi lo = paymasterref01_digits.l0 k (xs ++ [((lo % 65536 : Nat) : Int)]) (j + 1) hi ((lo / 65536 : Nat) : Int) := by
  rw [paymasterref01_digits.l0, if_pos (by omega), if_pos (by omega), dig_mod, dig_div _ h, wrap64_in (by omega) (by omega)]
theorem dig_l1 (k : Nat) (xs : List Int) (j : Int) (hi : Nat) (lo : Int) (hx : xs.length < 100) (h0 : 0 ≤ j) (h4 : j < 4) (h : hi < 18446744073709551616) :
    paymasterref01_digits.l1 (k + 1) xs j hi lo = paymasterref01_digits.l1 k (xs ++ [((hi % 65536 : Nat) : Int)]) (j + 1) ((hi / 65536 : Nat) : Int) lo := by
  rw [paymasterref01_digits.l1, if_pos (by omega), if_pos (by omega), dig_mod, dig_div _ h, wrap64_in (by omega) (by omega)]
def digL (hi lo : Nat) : List Int := [((lo % 65536 : Nat) : Int), ((lo / 65536 % 65536 : Nat) : Int), ((lo / 65536 / 65536 % 65536 : Nat) : Int), ((lo / 65536 / 65536 / 65536 % 65536 : Nat) : Int), ((hi % 65536 : Nat) : Int), ((hi / 65536 % 65536 : Nat) : Int), ((hi / 65536 / 65536 % 65536 : Nat) : Int), ((hi / 65536 / 65536 / 65536 % 65536 : Nat) : Int)]
theorem digits_eq (k hi lo : Nat) (h1 : hi < 18446744073709551616) (h2 : lo < 18446744073709551616) : paymasterref01_digits.f (k + 10) hi lo = some (digL hi lo) := by
  unfold paymasterref01_digits.f
  rw [dig_l0 (k + 9) _ _ _ _ (by simp) (by omega) (by omega) h2, dig_l0 (k + 8) _ _ _ _ (by simp) (by omega) (by omega) (by omega), dig_l0 (k + 7) _ _ _ _ (by simp) (by omega) (by omega) (by omega), dig_l0 (k + 6) _ _ _ _ (by simp) (by omega) (by omega) (by omega)]
  rw [paymasterref01_digits.l0, if_neg (by omega)]
  rw [dig_l1 (k + 4) _ _ _ _ (by simp) (by omega) (by omega) h1, dig_l1 (k + 3) _ _ _ _ (by simp) (by omega) (by omega) (by omega), dig_l1 (k + 2) _ _ _ _ (by simp) (by omega) (by omega) (by omega), dig_l1 (k + 1) _ _ _ _ (by simp) (by omega) (by omega) (by omega)]
  rw [paymasterref01_digits.l1, if_neg (by omega)]
  rfl
theorem byt (n : Nat) (h : n < 65536) : (IntKind.u64.wrap (Int.tdiv (n : Int) 256)) % 256 = ((n / 256 : Nat) : Int) := by
  rw [Int.tdiv_eq_ediv_of_nonneg (by omega), wrapU (by omega) (by omega)]; omega
theorem byt2 (n : Nat) : (Int.tmod (n : Int) 256) % 256 = ((n % 256 : Nat) : Int) := by
  rw [Int.tmod_eq_emod_of_nonneg (by omega)]; omega
theorem by_l0 (k : Nat) (L xs : List Int) (j : Int) (n : Nat) (hx : xs.length < 100) (hL : L.length = 8) (h0 : 0 ≤ j) (h8 : j < 8) (hd : rd L j = (n : Int)) (hn : n < 65536) :
    paymasterref01_Bytes.l0 (k + 1) L xs j = paymasterref01_Bytes.l0 k L (xs ++ [((n / 256 : Nat) : Int), ((n % 256 : Nat) : Int)]) (j - 1) := by
  rw [paymasterref01_Bytes.l0, if_pos (by omega), if_pos (by omega), if_pos (by omega), hd, byt _ hn, byt2, Option.bind_some, if_pos (by simp; omega), wrap64_in (by omega) (by omega)]
theorem refBytes (k hi lo : Nat) (h1 : hi < 18446744073709551616) (h2 : lo < 18446744073709551616) : paymasterref01_Bytes.f (k + 10) hi lo = some (be16 hi lo) := by
  unfold paymasterref01_Bytes.f
  rw [digits_eq k hi lo h1 h2, Option.bind_some]
  have hL : (digL hi lo).length = 8 := rfl
  rw [by_l0 (k + 9) _ _ _ (hi / 65536 / 65536 / 65536 % 65536) (by simp) hL (by omega) (by omega) rfl (by omega),
    by_l0 (k + 8) _ _ _ (hi / 65536 / 65536 % 65536) (by simp) hL (by omega) (by omega) rfl (by omega),
    by_l0 (k + 7) _ _ _ (hi / 65536 % 65536) (by simp) hL (by omega) (by omega) rfl (by omega),
    by_l0 (k + 6) _ _ _ (hi % 65536) (by simp) hL (by omega) (by omega) rfl (by omega),
    by_l0 (k + 5) _ _ _ (lo / 65536 / 65536 / 65536 % 65536) (by simp) hL (by omega) (by omega) rfl (by omega),
    by_l0 (k + 4) _ _ _ (lo / 65536 / 65536 % 65536) (by simp) hL (by omega) (by omega) rfl (by omega),
    by_l0 (k + 3) _ _ _ (lo / 65536 % 65536) (by simp) hL (by omega) (by omega) rfl (by omega),
    by_l0 (k + 2) _ _ _ (lo % 65536) (by simp) hL (by omega) (by omega) rfl (by omega)]
  rw [paymasterref01_Bytes.l0, if_neg (by omega)]
  congr 1
  apply ext_list
  rw [strOfNums_data]
  show [_, _, _, _, _, _, _, _, _, _, _, _, _, _, _, _] = [_, _, _, _, _, _, _, _, _, _, _, _, _, _, _, _]
  simp only [List.cons.injEq, and_true]
  refine ⟨?_, ?_, ?_, ?_, ?_, ?_, ?_, ?_, ?_, ?_, ?_, ?_, ?_, ?_, ?_, ?_⟩
  all_goals
    unfold beAt
    apply UInt8.toNat_inj.1
    simp only [UInt8.toNat_ofNat', Nat.reduceSub, Nat.reduceMul, Nat.reducePow, Nat.reduceLT, if_true, if_false, Int.toNat_natCast]
    omega
theorem be16_size (hi lo : Nat) : (be16 hi lo).size = 16 := rfl
theorem eight_some (p : Nat) (h : p < 18446744073709551616) : tag_eight.f (p : Int) = some ((be16 0 p).extract 8 16) := by
  unfold tag_eight.f u128_Of.f
  rw [Option.bind_some]
  unfold u128_Bytes.f in64
  rw [if_pos (decide_eq_true ⟨by show (0 : Int) ≤ 0; decide, by show (0 : Int) < 18446744073709551616; decide⟩), if_pos (decide_eq_true ⟨by show (0 : Int) ≤ (p : Int); omega, by show (p : Int) < 18446744073709551616; omega⟩), Option.bind_some]
  rw [if_pos (by rw [be16_size]; decide), be16_size]
  rfl
theorem salt_some (a b : ByteArray) (ha : a.size ≤ 300) (hb : b.size ≤ 300) : tag_Salt.f a b = some (firstB a (⟨#[3]⟩ ++ b) 16) := by
  unfold tag_Salt.f
  have e : strOfNums [3] = ⟨#[3]⟩ := by rfl
  have hz : ((⟨#[3]⟩ : ByteArray) ++ b).size = 1 + b.size := ByteArray.size_append ..
  rw [Option.bind_some, e, if_pos (by show 1 + b.size ≤ _; omega), first_some _ _ _ (by omega) (by omega), Option.bind_some]
theorem refsalt_some (a b : ByteArray) (ha : a.size ≤ 300) (hb : b.size ≤ 300) (k : Nat) (hk : 2000 ≤ k) : paymasterref07_Salt.f k a b = some (firstB a (⟨#[3]⟩ ++ b) 16) := by
  unfold paymasterref07_Salt.f
  have hz : ((⟨#[3]⟩ : ByteArray) ++ b).size = 1 + b.size := ByteArray.size_append ..
  rw [if_pos (by omega), reffirst_some _ _ _ (by omega) (by omega) _ hk, Option.bind_some]
theorem tail8_size (p : Nat) : ((be16 0 p).extract 8 16).size = 8 := by rw [ByteArray.size_extract, be16_size]; rfl
theorem padsalt_some (a : ByteArray) (p : Nat) (ha : a.size ≤ 300) (h : p < 18446744073709551616) : tag_PadSalt.f a (p : Int) = some (firstB a (⟨#[4]⟩ ++ (be16 0 p).extract 8 16) 16) := by
  unfold tag_PadSalt.f
  have e : strOfNums [4] = ⟨#[4]⟩ := by rfl
  have hz : ((⟨#[4]⟩ : ByteArray) ++ (be16 0 p).extract 8 16).size = 1 + 8 := by rw [ByteArray.size_append, tail8_size]; rfl
  rw [Option.bind_some, eight_some p h, Option.bind_some, e, if_pos (by rw [tail8_size]; decide), first_some _ _ _ (by omega) (by omega), Option.bind_some]
theorem refpadsalt_some (a : ByteArray) (p : Nat) (ha : a.size ≤ 300) (h : p < 18446744073709551616) (k : Nat) (hk : 2000 ≤ k) : paymasterref07_PadSalt.f k a (p : Int) = some (firstB a (⟨#[4]⟩ ++ (be16 0 p).extract 8 16) 16) := by
  unfold paymasterref07_PadSalt.f
  have hz : ((⟨#[4]⟩ : ByteArray) ++ (be16 0 p).extract 8 16).size = 1 + 8 := by rw [ByteArray.size_append, tail8_size]; rfl
  have hb : paymasterref01_Bytes.f k 0 (p : Int) = some (be16 0 p) := by
    obtain ⟨q, rfl⟩ : ∃ q, k = q + 10 := ⟨k - 10, by omega⟩
    have hb := refBytes q 0 p (by decide) h
    rw [show ((0 : Nat) : Int) = 0 from rfl] at hb
    exact hb
  rw [hb, Option.bind_some, if_pos (be16_size 0 p), reffirst_some _ _ _ (by omega) (by omega) _ hk]
theorem tpad_some (a : ByteArray) (p : Nat) (ha : a.size ≤ 300) (h : p < 18446744073709551616) : tag_Pad.f a (p : Int) = some (true, ⟨#[]⟩, firstB a (⟨#[4]⟩ ++ (be16 0 p).extract 8 16) 16, 0, 0) := by
  unfold tag_Pad.f
  rw [padsalt_some a p ha h, Option.bind_some]
theorem rtpad_some (a : ByteArray) (p : Nat) (ha : a.size ≤ 300) (h : p < 18446744073709551616) (k : Nat) (hk : 2000 ≤ k) : paymasterref07_Pad.f k a (p : Int) = some (true, ⟨#[]⟩, firstB a (⟨#[4]⟩ ++ (be16 0 p).extract 8 16) 16, 0, 0) := by
  unfold paymasterref07_Pad.f
  rw [refpadsalt_some a p ha h k hk, Option.bind_some]
theorem pow_in (t : Nat) (h : t ≤ 63) : 1 ≤ 2 ^ t ∧ 2 ^ t ≤ 9223372036854775808 := by
  refine ⟨Nat.one_le_two_pow, ?_⟩
  have := Nat.pow_le_pow_right (n := 2) (by decide) h
  exact Nat.le_trans this (by decide)
theorem first_l0 (a b : ByteArray) (ha : a.size ≤ 300) (hb : b.size ≤ 300) (h : Nat) (hh : h ≤ 63) (d : Nat) : ∀ (k t : Nat), t + d = h → d + 2001 ≤ k →
    paymasterref07_First.l0 k a b (h : Int) ((2 ^ t : Nat) : Int) (t : Int) = some (((num8 (mac8 a (⟨#[5]⟩ ++ b)) % 2 ^ h : Nat)) : Int) := by
  have hz : ((⟨#[5]⟩ : ByteArray) ++ b).size = 1 + b.size := ByteArray.size_append ..
  induction d with
  | zero =>
    intro k t ht hk
    obtain rfl : t = h := by omega
    obtain ⟨k, rfl⟩ : ∃ q, k = q + 1 := ⟨k - 1, by omega⟩
    have hp := pow_in t hh
    rw [paymasterref07_First.l0, if_neg (by omega), if_pos (by omega), refnumber_some _ _ (by omega) (by omega) _ (by omega), Option.bind_some]
    generalize 2 ^ t = p at *
    generalize num8 _ = x at *
    rw [if_neg (by omega), Int.tmod_eq_emod_of_nonneg (by omega)]
    rfl
  | succ d ih =>
    intro k t ht hk
    obtain ⟨k, rfl⟩ : ∃ q, k = q + 1 := ⟨k - 1, by omega⟩
    have hp := pow_in (t + 1) (by omega)
    have e1 : IntKind.u64.wrap (2 * ((2 ^ t : Nat) : Int)) = ((2 ^ (t + 1) : Nat) : Int) := by
      rw [Nat.pow_succ] at hp ⊢
      generalize 2 ^ t = p at *
      rw [wrapU (by omega) (by omega)]
      omega
    have e2 : wrap64 ((t : Int) + 1) = ((t + 1 : Nat) : Int) := by rw [wrap64_in (by omega) (by omega)]; omega
    rw [paymasterref07_First.l0, if_pos (by omega), e1, e2]
    exact ih k (t + 1) (by omega) (by omega)
/-- An Id's first slot. -/
def slot1 (a b : ByteArray) (h : Int) : Nat := if h < 0 ∨ 63 < h then 0 else num8 (mac8 a (⟨#[5]⟩ ++ b)) % 2 ^ h.toNat
theorem reffirst07_some (a b : ByteArray) (ha : a.size ≤ 300) (hb : b.size ≤ 300) (h : Int) (k : Nat) (hk : 3000 ≤ k) : paymasterref07_First.f k a b h = some (slot1 a b h : Int) := by
  obtain ⟨k, rfl⟩ : ∃ q, k = q + 1 := ⟨k - 1, by omega⟩
  unfold paymasterref07_First.f slot1
  by_cases h0 : h < 0
  · rw [if_pos h0, if_pos (.inl h0), paymasterref07_First.j0, if_pos rfl]; rfl
  rw [if_neg h0]
  by_cases h1 : h > 63
  · rw [decide_eq_true h1, if_pos (.inr h1), paymasterref07_First.j0, if_pos rfl]; rfl
  rw [decide_eq_false h1, if_neg (by omega), paymasterref07_First.j0, if_neg (by decide)]
  obtain ⟨n, rfl⟩ : ∃ n : Nat, h = n := ⟨h.toNat, by omega⟩
  rw [Int.toNat_natCast]
  exact first_l0 a b ha hb n (by omega) n k 0 (by omega) (by omega)
theorem mask_wrap (n : Nat) (h : n ≤ 63) : IntKind.u64.wrap (shl .u64 1 (n : Int) - 1) = 2 ^ n - 1 := by
  have hp := pow_in n h
  have e : ((2 : Int) ^ n) = ((2 ^ n : Nat) : Int) := by simp
  unfold shl
  rw [Int.toNat_natCast, show min n IntKind.u64.bits = n from Nat.min_eq_left (by show n ≤ 64; omega), Int.one_mul, e]
  generalize 2 ^ n = p at *
  rw [wrapU (n := (p : Int)) (by omega) (by omega), wrapU (by omega) (by omega)]
theorem first07_some (a b : ByteArray) (ha : a.size ≤ 300) (hb : b.size ≤ 300) (h : Int) : tag_First.f a b h = some (slot1 a b h : Int) := by
  unfold tag_First.f slot1
  by_cases h0 : h < 0
  · rw [if_pos h0, if_pos (.inl h0)]; rfl
  rw [if_neg h0]
  by_cases h1 : h > 63
  · rw [if_pos h1, if_pos (.inr h1)]; rfl
  rw [if_neg h1, if_neg (by omega)]
  obtain ⟨n, rfl⟩ : ∃ n : Nat, h = n := ⟨h.toNat, by omega⟩
  have e : strOfNums [5] = ⟨#[5]⟩ := by rfl
  have hz : ((⟨#[5]⟩ : ByteArray) ++ b).size = 1 + b.size := ByteArray.size_append ..
  rw [Option.bind_some, e, if_pos (by show 1 + b.size ≤ _; omega)]
  unfold hmac_Number.f
  have hl := num8_lt (mac8 a (⟨#[5]⟩ ++ b))
  rw [mac8_length] at hl
  rw [if_pos (big_of (by omega)), if_pos (big_of (by omega)), Option.bind_some, if_pos (by omega), mask_wrap n (by omega), Int.toNat_natCast]
  rw [bits_mask .u64 64 (by decide) (fun x h1 h2 => wrapU h1 (by simpa using h2)) n (by omega) _ (by omega) (by
    have e8 : (256 : Nat) ^ 8 = 18446744073709551616 := by decide
    rw [e8] at hl
    have : ((num8 (mac8 a (⟨#[5]⟩ ++ b)) : Nat) : Int) < 18446744073709551616 := by omega
    simpa using this)]
  congr 1
end Go.Proofs.YtomninikmcmmcaaDoor.Sha
end
section
/- The law TagSalts: it answers true for every input. -/
namespace Go.Proofs.YtomninikmcmmcaaDoor.Sha
open Go Go.RowKit Go.Proofs.YtomninikmcmmcaaDoorW.PrintWords Go.Proofs.YtomninikmcmmcaaDoor.PTs Go.Proofs.YtomninikmcmmcaaDoor.PTb Go.Proofs.YtomninikmcmmcaaDoor.GivA Go.Proofs.YtomninikmcmmcaaDoor.GivP Go.Proofs.YtomninikmcmmcaaDoor.Oct
set_option linter.unusedVariables false
set_option linter.unusedSimpArgs false
set_option maxHeartbeats 4000000 in
set_option maxRecDepth 100000 in
theorem tagSalts_row (a : ByteArray) (ha : a.size ≤ 140737488351232) (b : ByteArray) (hb : b.size ≤ 140737488351232) (p : Int) (hp : (Lit.int .u64 p).wf = true) (h : Int) (hh : (Lit.int .i64 h).wf = true) (w : World) (hT : Tab w) :
    Calls Tryd.prog 12 #[.string a, .string b, .int .u64 p, .int .i64 h] w fun e w' => e = .returned (.bool true) ∧ Below w.heap.size w w' := by
  have hp' : 0 ≤ p ∧ p < 18446744073709551616 := by simp [Lit.wf, IntKind.min, IntKind.max, IntKind.signed, IntKind.bits] at hp; omega
  obtain ⟨n, rfl⟩ : ∃ n : Nat, p = n := ⟨p.toNat, by omega⟩
  have HT := Aside0.mk hT
  clear hT hh hp
  by_cases h1 : (a.size : Int) > 300
  · go_enter Tryd.func12, Tryd.ntmps12
    go_wp2
    go_ret
    exact ⟨rfl, Below.refl _ _⟩
  by_cases h2 : (b.size : Int) > 300
  · go_enter Tryd.func12, Tryd.ntmps12
    go_wp2
    go_ret
    exact ⟨rfl, Below.refl _ _⟩
  have H1 := Aside0.mk (fun w h => tag_Salt.calls a b _ w h (salt_some a b (by omega) (by omega)))
  have H2 := Aside0.mk (fun w => paymasterref07_Salt.calls 2000 a b _ w (refsalt_some a b (by omega) (by omega) 2000 (Nat.le_refl _)))
  have H3 := Aside0.mk (fun w h => tag_PadSalt.calls a n _ w h (padsalt_some a n (by omega) (by omega)))
  have H4 := Aside0.mk (fun w => paymasterref07_PadSalt.calls 2000 a n _ w (refpadsalt_some a n (by omega) (by omega) 2000 (Nat.le_refl _)))
  have H5 := Aside0.mk (fun w hT => tag_Pad.calls a n _ _ _ _ _ w hT (tpad_some a n (by omega) (by omega)))
  have H6 := Aside0.mk (fun w => paymasterref07_Pad.calls 2000 a n _ _ _ _ _ w (rtpad_some a n (by omega) (by omega) 2000 (Nat.le_refl _)))
  have H7 := Aside0.mk (fun w hT => tag_First.calls a b h _ w hT (first07_some a b (by omega) (by omega) h))
  have H8 := Aside0.mk (fun w => paymasterref07_First.calls 3000 a b h _ w (reffirst07_some a b (by omega) (by omega) h 3000 (Nat.le_refl _)))
  generalize firstB a (⟨#[4]⟩ ++ (be16 0 n).extract 8 16) 16 = x at *
  generalize firstB a (⟨#[3]⟩ ++ b) 16 = y at *
  generalize slot1 a b h = z at *
  go_enter Tryd.func12, Tryd.ntmps12
  go_wp2_with fail
  refine (H1.out _ HT.out).mono ?_
  rintro e w1 ⟨rfl, b1⟩
  have B1 := Aside0.mk b1
  clear b1 H1
  go_wp2_with fail
  refine (H2.out _).mono ?_
  rintro e w2 ⟨rfl, b2⟩
  have B2 := Aside0.mk (B1.out.trans (b2.mono B1.out.size))
  clear b2 B1 H2
  go_wp2_with fail
  refine (H3.out _ (HT.out.keep B2.out)).mono ?_
  rintro e w3 ⟨rfl, b3⟩
  have B3 := Aside0.mk (B2.out.trans (b3.mono B2.out.size))
  clear b3 B2 H3
  go_wp2_with fail
  refine (H4.out _).mono ?_
  rintro e w4 ⟨rfl, b4⟩
  have B4 := Aside0.mk (B3.out.trans (b4.mono B3.out.size))
  clear b4 B3 H4
  go_wp2_with fail
  refine (H5.out _ (HT.out.keep B4.out)).mono ?_
  rintro e w5 ⟨rfl, b5⟩
  have B5 := Aside0.mk (B4.out.trans (b5.mono B4.out.size))
  clear b5 B4 H5
  go_wp2_with fail
  refine (H6.out _).mono ?_
  rintro e w6 ⟨rfl, b6⟩
  have B6 := Aside0.mk (B5.out.trans (b6.mono B5.out.size))
  clear b6 B5 H6
  go_wp2_with fail
  refine (H7.out _ (HT.out.keep B6.out)).mono ?_
  rintro e w7 ⟨rfl, b7⟩
  have B7 := Aside0.mk (B6.out.trans (b7.mono B6.out.size))
  clear b7 B6 H7
  go_wp2_with fail
  refine (H8.out _).mono ?_
  rintro e w8 ⟨rfl, b8⟩
  have B8 := Aside0.mk (B7.out.trans (b8.mono B7.out.size))
  clear b8 B7 H8
  go_wp2_with fail
  go_ret
  exact ⟨rfl, B8.out⟩
end Go.Proofs.YtomninikmcmmcaaDoor.Sha
end
