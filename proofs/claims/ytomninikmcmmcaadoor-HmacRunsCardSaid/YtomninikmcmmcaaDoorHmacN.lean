/- A mac's number, and the reference's way to put a text together with a byte. -/
import Derived.Test.YtomninikmcmmcaaDoorRef06
import Derived.Laws.BitsLemmas
namespace Go.Proofs.YtomninikmcmmcaaDoor.Sha
open Go Go.RowKit Go.Proofs.YtomninikmcmmcaaDoor.PRp Go.Proofs.YtomninikmcmmcaaDoor.Mark Go.Proofs.YtomninikmcmmcaaDoorW.PrintWords Go.Proofs.Sp Go.Proofs.YtomninikmcmmcaaDoor.Blk Go.Proofs.YtomninikmcmmcaaDoor.GivA
set_option linter.unusedVariables false
set_option linter.unusedSimpArgs false
theorem wrapU {n : Int} (h0 : 0 ≤ n) (h1 : n < 18446744073709551616) : IntKind.u64.wrap n = n := by
  simp [IntKind.wrap, IntKind.bits, IntKind.signed]; omega
theorem or_byte (x b : Nat) (hx : x < 72057594037927936) (hb : b < 256) : Go.bits .or .u64 (IntKind.u64.wrap ((x : Int) * 256)) (IntKind.u64.wrap (b : Int)) = ((x * 256 + b : Nat) : Int) := by
  rw [wrapU (by omega) (by omega), wrapU (by omega) (by omega), bits_join .u64 64 (by decide) (fun n h0 h1 => wrapU h0 (by omega)) 8 _ _ (by omega) (by omega) (by omega) (by omega) (by omega) (by omega)]
  omega
def num8 (l : List UInt8) : Nat := l.foldl (fun n c => n * 256 + c.toNat) 0
theorem num8_snoc (l : List UInt8) (c : UInt8) : num8 (l ++ [c]) = num8 l * 256 + c.toNat := by simp [num8]
theorem num8_lt : ∀ (l : List UInt8), num8 l < 256 ^ l.length := by
  intro l
  have h : ∀ (r : List UInt8), num8 r.reverse < 256 ^ r.length := by
    intro r
    induction r with
    | nil => simp [num8]
    | cons c r ih =>
      rw [List.reverse_cons, num8_snoc, List.length_cons, Nat.pow_succ]
      have := c.toNat_lt
      omega
  have := h l.reverse
  rwa [List.reverse_reverse, List.length_reverse] at this
theorem bt_byte (s : ByteArray) (i : Nat) : bt s (i : Int) = ((s.data.toList.getD i 0).toNat : Int) := Pure.bt_list s i
/-! the texts put together bit by bit -/
theorem bit_eq (x i : Nat) (hi : i < 8) (hx : x < 256) : (Int.tdiv (x : Int) ((2 ^ i : Nat) : Int)) % 256 % 2 = ((x / 2 ^ i % 2 : Nat) : Int) := by
  have h0 : x / 2 ^ i ≤ x := Nat.div_le_self _ _
  have e : Int.tdiv (x : Int) ((2 ^ i : Nat) : Int) = ((x / 2 ^ i : Nat) : Int) := by rw [Int.tdiv_eq_ediv_of_nonneg (by omega)]; exact (Int.natCast_ediv x (2 ^ i)).symm
  rw [e]
  generalize x / 2 ^ i = y at *
  omega
theorem xor_step (a c i : Nat) : (a ^^^ c) % 2 ^ (i + 1) = (a ^^^ c) % 2 ^ i + (if a / 2 ^ i % 2 = c / 2 ^ i % 2 then 0 else 2 ^ i) := by
  rw [Nat.mod_pow_succ]
  have h : (a ^^^ c) / 2 ^ i % 2 = if a / 2 ^ i % 2 = c / 2 ^ i % 2 then 0 else 1 := by
    rw [testBit_of, testBit_of, testBit_of, Nat.testBit_xor]
    cases a.testBit i <;> cases c.testBit i <;> simp
  rw [h]
  split <;> simp
theorem two_pow_lt8 {i : Nat} (h : i < 8) : 2 ^ i < 256 := by
  have := Nat.pow_lt_pow_right (show 1 < 2 by decide) h
  exact this
theorem wrap_succ (i : Nat) (h : i < 1099511627776) : wrap64 ((i : Int) + 1) = ((i + 1 : Nat) : Int) := by unfold wrap64; omega
theorem dbl (q : Nat) : ((q : Int) * 2) % 256 = ((q * 2 % 256 : Nat) : Int) := by omega
theorem add_mod (p q : Nat) (h : p + q < 256) : ((p : Int) + (q : Int)) % 256 = ((p + q : Nat) : Int) := by omega
theorem refwith_bits (s : ByteArray) (c : UInt8) (x5 : List Int) (j : Nat) (hj : j < s.size) (hs : s.size < 1099511627776) (hx5 : x5.length < 1099511627776) (d : Nat) : ∀ (k i : Nat), i + d = 8 → ∀ r, (∀ k', k ≤ k' + d + 1 → paymasterref06_with.l0 k' s (c.toNat : Int) (x5 ++ [(((s.data.toList.getD j 0).toNat ^^^ c.toNat : Nat) : Int)]) ((j + 1 : Nat) : Int) = some r) → d + 1 ≤ k →
    paymasterref06_with.l1 k s (c.toNat : Int) x5 (j : Int) ((((s.data.toList.getD j 0).toNat ^^^ c.toNat) % 2 ^ i : Nat) : Int) (((2 ^ i % 256 : Nat)) : Int) (i : Int) = some r := by
  have hb := (s.data.toList.getD j 0).toNat_lt
  have hc := c.toNat_lt
  have hxl : (s.data.toList.getD j 0).toNat ^^^ c.toNat < 2 ^ 8 := Nat.xor_lt_two_pow (by omega) (by omega)
  induction d with
  | zero =>
    intro k i hi r hr hk
    obtain ⟨k, rfl⟩ : ∃ m, k = m + 1 := ⟨k - 1, by omega⟩
    obtain rfl : i = 8 := by omega
    rw [paymasterref06_with.l1, if_neg (by decide), if_pos (by omega), Nat.mod_eq_of_lt hxl]
    have e1 : wrap64 ((j : Int) + 1) = ((j + 1 : Nat) : Int) := by unfold wrap64; omega
    rw [e1]
    exact hr k (by omega)
  | succ d ih =>
    intro k i hi r hr hk
    obtain ⟨k, rfl⟩ : ∃ m, k = m + 1 := ⟨k - 1, by omega⟩
    have q1 : (i : Int) < 8 := by omega
    have q2 : (0 : Int) ≤ j := by omega
    have q3 : (j : Int) < s.size := by omega
    have hi8 : i < 8 := by omega
    have hi9 : i + 1 + d = 8 := by omega
    have hk9 : d + 1 ≤ k := by omega
    have hi10 : i < 1099511627776 := by omega
    have hr9 : ∀ k', k ≤ k' + d + 1 → paymasterref06_with.l0 k' s (c.toNat : Int) (x5 ++ [(((s.data.toList.getD j 0).toNat ^^^ c.toNat : Nat) : Int)]) ((j + 1 : Nat) : Int) = some r := fun k' hk' => hr k' (by omega)
    have h2 := two_pow_lt8 hi8
    have hp : 0 < 2 ^ i := Nat.two_pow_pos i
    have e1 : wrap64 ((i : Int) + 1) = ((i + 1 : Nat) : Int) := wrap_succ i hi10
    have e2 : (((2 ^ i % 256 : Nat)) : Int) = ((2 ^ i : Nat) : Int) := by rw [Nat.mod_eq_of_lt h2]
    have e3 : (((2 ^ i : Nat) : Int) * 2) % 256 = ((2 ^ (i + 1) % 256 : Nat) : Int) := by rw [Nat.pow_succ]; exact dbl _
    have q4 : ¬ ((2 ^ i : Nat) : Int) = 0 := fun h => Nat.ne_of_gt hp (Int.ofNat.inj h)
    rw [e2, paymasterref06_with.l1, if_pos q1, if_pos q2, if_pos q3, if_neg q4, bt_byte, bit_eq _ i hi8 hb, bit_eq _ i hi8 hc, e1, e3]
    have hstep := xor_step (s.data.toList.getD j 0).toNat c.toNat i
    have IH := ih k (i + 1) hi9 r hr9 hk9
    clear hr hr9 ih
    generalize (s.data.toList.getD j 0).toNat = a at *
    have hm : (a ^^^ c.toNat) % 2 ^ i < 2 ^ i := Nat.mod_lt _ hp
    by_cases hq : a / 2 ^ i % 2 = c.toNat / 2 ^ i % 2
    · rw [if_pos (by rw [hq])]
      rw [if_pos hq, Nat.add_zero] at hstep
      rw [hstep] at IH
      exact IH
    · have hq' : ¬ ((a / 2 ^ i % 2 : Nat) : Int) = ((c.toNat / 2 ^ i % 2 : Nat) : Int) := fun h => hq (Int.ofNat.inj h)
      rw [if_neg hq']
      rw [if_neg hq] at hstep
      rw [hstep] at IH
      have h3 : (a ^^^ c.toNat) % 2 ^ i + 2 ^ i < 256 := by rw [← hstep]; exact Nat.lt_of_le_of_lt (Nat.mod_le _ _) hxl
      have e4 : ((((a ^^^ c.toNat) % 2 ^ i : Nat) : Int) + ((2 ^ i : Nat) : Int)) % 256 = (((a ^^^ c.toNat) % 2 ^ i + 2 ^ i : Nat) : Int) := add_mod _ _ h3
      rw [e4]
      exact IH
def xorI (s : ByteArray) (c : UInt8) (j : Nat) : List Int := (s.data.toList.take j).map fun b => ((b.toNat ^^^ c.toNat : Nat) : Int)
theorem refwith_go (s : ByteArray) (c : UInt8) (hs : s.size < 1099511627776) (d : Nat) : ∀ (k j : Nat), j + d = s.size → 12 * d + 12 ≤ k → paymasterref06_with.l0 k s (c.toNat : Int) (xorI s c j) (j : Int) = some (xorB s c) := by
  induction d with
  | zero =>
    intro k j hj hk
    obtain ⟨k, rfl⟩ : ∃ m, k = m + 1 := ⟨k - 1, by omega⟩
    rw [paymasterref06_with.l0, if_neg (by omega)]
    have e : xorI s c j = (s.data.toList.map (· ^^^ c)).map fun b => (b.toNat : Int) := by
      unfold xorI
      rw [List.take_of_length_le (by rw [data_size]; omega), List.map_map]
      apply List.map_congr_left
      intro b _
      simp
    rw [e, strOf_bytes]
    rfl
  | succ d ih =>
    intro k j hj hk
    obtain ⟨k, rfl⟩ : ∃ m, k = m + 1 := ⟨k - 1, by omega⟩
    have hl : (xorI s c j).length = j := by unfold xorI; rw [List.length_map, List.length_take, data_size]; omega
    rw [paymasterref06_with.l0, if_pos (by omega)]
    have h := refwith_bits s c (xorI s c j) j (by omega) hs (by omega) 8 k 0 rfl (xorB s c) (fun k' hk' => ?_) (by omega)
    · rw [Nat.pow_zero, Nat.mod_one] at h
      exact h
    have e : xorI s c j ++ [(((s.data.toList.getD j 0).toNat ^^^ c.toNat : Nat) : Int)] = xorI s c (j + 1) := by
      unfold xorI
      have h1 : j < s.data.toList.length := by rw [data_size]; omega
      rw [List.take_succ_eq_append_getElem h1, List.map_append, List.getD_eq_getElem?_getD, List.getElem?_eq_getElem h1]
      rfl
    rw [e]
    exact ih k' (j + 1) (by omega) (by omega)
theorem refwith_some (s : ByteArray) (c : UInt8) (hs : s.size < 1099511627776) (k : Nat) (hk : 12 * s.size + 12 ≤ k) : paymasterref06_with.f k s (c.toNat : Int) = some (xorB s c) :=
  refwith_go s c hs s.size k 0 (by omega) hk
end Go.Proofs.YtomninikmcmmcaaDoor.Sha
