/- The words of a block (of XWords, what a seat without chapter 04's laws needs). -/
import Derived.Test.YtomninikmcmmcaaDoorPBwA
import Derived.Test.YtomninikmcmmcaaDoorSpA
namespace Go.Proofs.YtomninikmcmmcaaDoor.Pure
open Go.RowKit Go.Proofs.YtomninikmcmmcaaDoor.PBw Go.Proofs.YtomninikmcmmcaaDoorW.PrintWords Go.Proofs.YtomninikmcmmcaaDoorW.PrintLast Go.Proofs.YtomninikmcmmcaaDoorW.PrintMore Go.Proofs.Sp
set_option linter.unusedVariables false
set_option linter.unusedSimpArgs false

theorem wd_zero : wd 0 = 0 := rfl
theorem rd_map (l : List W32) (i : Nat) : rd (l.map wd) (i : Int) = wd (l.getD i 0) := by
  unfold rd
  rw [Int.toNat_natCast, List.getD_eq_getElem?_getD, List.getElem?_map, List.getD_eq_getElem?_getD]
  cases l[i]? <;> simp
  rfl
theorem bt_list (s : ByteArray) (i : Nat) : bt s (i : Int) = ((s.data.toList.getD i 0).toNat : Int) := by
  unfold bt
  rw [Int.toNat_natCast, List.getD_eq_getElem?_getD, Array.getElem?_toList]
  split
  · rename_i h
    have h' : i < s.data.size := h
    rw [Array.getElem?_eq_getElem h']
    rfl
  · rename_i h
    have h' : ¬ i < s.data.size := h
    rw [Array.getElem?_eq_none (by omega)]
    rfl

theorem byte_lt (b : List UInt8) (i : Nat) : (b.getD i 0).toNat < 256 := (b.getD i 0).toNat_lt
theorem be4_wd (b : List UInt8) (i : Nat) :
    wd (be4 b i) = 16777216 * ((b.getD i 0).toNat : Int) + 65536 * ((b.getD (i + 1) 0).toNat : Int) + 256 * ((b.getD (i + 2) 0).toNat : Int) + ((b.getD (i + 3) 0).toNat : Int) := by
  unfold be4 wd
  rw [BitVec.toNat_ofNat]
  have := byte_lt b i; have := byte_lt b (i + 1); have := byte_lt b (i + 2); have := byte_lt b (i + 3)
  omega
theorem sched_head (b : List UInt8) (t : Nat) (h : t < 16) : (sched b t).map wd ++ [wd (be4 b (4 * t))] = (sched b (t + 1)).map wd := by
  rw [sched, List.map_append, nextWord, sched_length, if_pos h]
  rfl

theorem and31 (n : Nat) (hn : n < 32) (h0 : 0 < n) : Go.bits .and .u64 (IntKind.u64.wrap (wrap64 (-(n : Int)))) 31 = ((32 - n : Nat) : Int) := by
  have e : IntKind.u64.wrap (wrap64 (-(n : Int))) = ((18446744073709551616 - n : Nat) : Int) := by
    rw [wrap64_in (by omega) (by omega)]
    simp [IntKind.wrap, IntKind.bits, IntKind.signed]
    omega
  rw [e]
  have h := bits_mask .u64 64 (by decide) (fun m h0 h1 => by simp [IntKind.wrap, IntKind.bits, IntKind.signed]; omega) 5 (by decide) ((18446744073709551616 - n : Nat) : Int) (by omega) (by omega)
  have e2 : (2 : Int) ^ 5 - 1 = 31 := by decide
  rw [e2] at h
  rw [h]
  omega
theorem right_some (x : W32) (n : Nat) (m : Int) (hm : m = (n : Int)) (hn : n < 32) (h0 : 0 < n) : block_right.f (wd x) m = some (wd (x.rotateRight n)) := by
  subst hm
  unfold block_right.f bits_RotateLeft32.f
  rw [and31 n hn h0]
  have e2 : IntKind.u64.wrap (32 - ((32 - n : Nat) : Int)) = (n : Int) := by simp [IntKind.wrap, IntKind.bits, IntKind.signed]; omega
  rw [e2, if_pos (by omega), if_pos (by omega)]
  simp only [Option.bind_some]
  congr 1
  unfold shl shr
  have e3 : min ((32 - n : Nat) : Int).toNat IntKind.u32.bits = 32 - n := by show min _ 32 = _; omega
  have e4 : min (n : Int).toNat IntKind.u32.bits = n := by show min _ 32 = _; omega
  rw [e3, e4, shl_wd, shr_wd, bits_or]
  congr 1
  apply BitVec.eq_of_getLsbD_eq
  intro i hi
  simp only [BitVec.getLsbD_or, BitVec.getLsbD_ushiftRight, BitVec.getLsbD_shiftLeft, BitVec.getLsbD_rotateRight, Nat.mod_eq_of_lt hn, Bool.cond_decide]
  by_cases a : i < 32 - n
  · simp [a, hi]
  · rw [if_neg a]
    have : x.getLsbD (n + i) = false := BitVec.getLsbD_of_ge _ _ (by omega)
    simp [a, this]

theorem bt_cut (s : ByteArray) (a b i : Nat) (hb : b ≤ s.size) (h : a + i < b) : bt (s.extract a b) (i : Int) = bt s ((a + i : Nat) : Int) := by
  unfold bt
  rw [Int.toNat_natCast, Int.toNat_natCast, dif_pos (by rw [ByteArray.size_extract]; omega), dif_pos (by omega)]
  congr 2
  exact ByteArray.getElem_extract ..
theorem or4 (a b c d : Nat) (ha : a < 256) (hb : b < 256) (hc : c < 256) (hd : d < 256) :
    Go.bits .or .u32 (Go.bits .or .u32 (Go.bits .or .u32 ((((a : Int) % 4294967296) * 16777216) % 4294967296) ((((b : Int) % 4294967296) * 65536) % 4294967296)) ((((c : Int) % 4294967296) * 256) % 4294967296)) ((d : Int) % 4294967296) =
      16777216 * (a : Int) + 65536 * (b : Int) + 256 * (c : Int) + (d : Int) := by
  have w : ∀ n : Nat, n < 4294967296 → (n : Int) = wd (BitVec.ofNat 32 n) := fun n hn => by unfold wd; rw [BitVec.toNat_ofNat]; omega
  have e1 : (((a : Int) % 4294967296) * 16777216) % 4294967296 = ((a * 16777216 : Nat) : Int) := by omega
  have e2 : (((b : Int) % 4294967296) * 65536) % 4294967296 = ((b * 65536 : Nat) : Int) := by omega
  have e3 : (((c : Int) % 4294967296) * 256) % 4294967296 = ((c * 256 : Nat) : Int) := by omega
  have e4 : ((d : Int) % 4294967296) = ((d : Nat) : Int) := by omega
  rw [e1, e2, e3, e4, w _ (by omega), w _ (by omega), w _ (by omega), w _ (by omega), bits_or, bits_or, bits_or]
  unfold wd
  simp only [BitVec.toNat_or, BitVec.toNat_ofNat]
  rw [Nat.mod_eq_of_lt (by omega), Nat.mod_eq_of_lt (by omega), Nat.mod_eq_of_lt (by omega), Nat.mod_eq_of_lt (by omega)]
  have h1 : a * 16777216 ||| b * 65536 = a * 16777216 + b * 65536 := by
    have := Nat.two_pow_add_eq_or_of_lt (i := 24) (b := b * 65536) (by omega) a
    rw [show a * 16777216 = 2 ^ 24 * a by omega, ← this]
  have h2 : (a * 256 + b) * 65536 ||| c * 256 = (a * 256 + b) * 65536 + c * 256 := by
    have := Nat.two_pow_add_eq_or_of_lt (i := 16) (b := c * 256) (by omega) (a * 256 + b)
    rw [show (a * 256 + b) * 65536 = 2 ^ 16 * (a * 256 + b) by omega, ← this]
  have h3 : ((a * 256 + b) * 256 + c) * 256 ||| d = ((a * 256 + b) * 256 + c) * 256 + d := by
    have := Nat.two_pow_add_eq_or_of_lt (i := 8) (b := d) (by omega) ((a * 256 + b) * 256 + c)
    rw [show ((a * 256 + b) * 256 + c) * 256 = 2 ^ 8 * ((a * 256 + b) * 256 + c) by omega, ← this]
  rw [h1, show a * 16777216 + b * 65536 = (a * 256 + b) * 65536 by omega, h2, show (a * 256 + b) * 65536 + c * 256 = ((a * 256 + b) * 256 + c) * 256 by omega, h3]
  omega
/-- The row after t rounds: the words so far, noughts behind. -/
def rowAt (b : List UInt8) (t : Nat) : List Int := (sched b t).map wd ++ List.replicate (64 - t) 0
theorem rowAt_length (b : List UInt8) (t : Nat) (h : t ≤ 64) : (rowAt b t).length = 64 := by
  unfold rowAt; rw [List.length_append, List.length_map, sched_length, List.length_replicate]; omega
theorem rd_rowAt (b : List UInt8) (t i : Nat) (h : i < t) : rd (rowAt b t) (i : Int) = wd ((sched b t).getD i 0) := by
  rw [← rd_map]
  unfold rowAt rd
  rw [Int.toNat_natCast, List.getD_eq_getElem?_getD, List.getElem?_append_left (by rw [List.length_map, sched_length]; exact h), ← List.getD_eq_getElem?_getD]
theorem rowAt_set (b : List UInt8) (t : Nat) (h : t < 64) : (rowAt b t).set t (wd (nextWord b (sched b t))) = rowAt b (t + 1) := by
  unfold rowAt
  obtain ⟨m, hm⟩ : ∃ m, 64 - t = m + 1 := ⟨63 - t, by omega⟩
  rw [hm, List.replicate_succ, List.set_append_right _ _ (by rw [List.length_map, sched_length]; omega), List.length_map, sched_length, Nat.sub_self, List.set_cons_zero, sched, List.map_append,
    show 64 - (t + 1) = m by omega, List.append_assoc]
  rfl
theorem word_head (s : ByteArray) (t : Nat) (h : t < 16) (hs : s.size = 64) :
    Go.bits .or .u32 (Go.bits .or .u32 (Go.bits .or .u32 ((((bt (s.extract (4 * t) (4 * t + 4)) 0) % 4294967296) * 16777216) % 4294967296) ((((bt (s.extract (4 * t) (4 * t + 4)) 1) % 4294967296) * 65536) % 4294967296)) ((((bt (s.extract (4 * t) (4 * t + 4)) 2) % 4294967296) * 256) % 4294967296)) ((bt (s.extract (4 * t) (4 * t + 4)) 3) % 4294967296) =
      wd (nextWord s.data.toList (sched s.data.toList t)) := by
  have b0 := bt_cut s (4 * t) (4 * t + 4) 0 (by omega) (by omega)
  have b1 := bt_cut s (4 * t) (4 * t + 4) 1 (by omega) (by omega)
  have b2 := bt_cut s (4 * t) (4 * t + 4) 2 (by omega) (by omega)
  have b3 := bt_cut s (4 * t) (4 * t + 4) 3 (by omega) (by omega)
  rw [nextWord, sched_length, if_pos h, be4_wd]
  have e0 : bt (s.extract (4 * t) (4 * t + 4)) 0 = ((s.data.toList.getD (4 * t) 0).toNat : Int) := b0.trans (bt_list s _)
  have e1 : bt (s.extract (4 * t) (4 * t + 4)) 1 = ((s.data.toList.getD (4 * t + 1) 0).toNat : Int) := b1.trans (bt_list s _)
  have e2 : bt (s.extract (4 * t) (4 * t + 4)) 2 = ((s.data.toList.getD (4 * t + 2) 0).toNat : Int) := b2.trans (bt_list s _)
  have e3 : bt (s.extract (4 * t) (4 * t + 4)) 3 = ((s.data.toList.getD (4 * t + 3) 0).toNat : Int) := b3.trans (bt_list s _)
  rw [e0, e1, e2, e3]
  exact or4 _ _ _ _ (byte_lt _ _) (byte_lt _ _) (byte_lt _ _) (byte_lt _ _)
theorem word_tail (b : List UInt8) (t : Nat) (h : 16 ≤ t) :
    ((((wd ((sched b t).getD (t - 16) 0) + Go.bits .xor .u32 (Go.bits .xor .u32 (wd (((sched b t).getD (t - 15) 0).rotateRight 7)) (wd (((sched b t).getD (t - 15) 0).rotateRight 18))) (wd ((sched b t).getD (t - 15) 0) / 8)) % 4294967296 + wd ((sched b t).getD (t - 7) 0)) % 4294967296 + Go.bits .xor .u32 (Go.bits .xor .u32 (wd (((sched b t).getD (t - 2) 0).rotateRight 17)) (wd (((sched b t).getD (t - 2) 0).rotateRight 19))) (wd ((sched b t).getD (t - 2) 0) / 1024)) % 4294967296) =
      wd (nextWord b (sched b t)) := by
  have s3 := shr_wd ((sched b t).getD (t - 15) 0) 3
  have s10 := shr_wd ((sched b t).getD (t - 2) 0) 10
  have e3 : wd ((sched b t).getD (t - 15) 0) / 8 = wd ((sched b t).getD (t - 15) 0 >>> (3 : Nat)) := s3
  have e10 : wd ((sched b t).getD (t - 2) 0) / 1024 = wd ((sched b t).getD (t - 2) 0 >>> (10 : Nat)) := s10
  rw [e3, e10, bits_xor, bits_xor, bits_xor, bits_xor, wd_add, wd_add, wd_add, nextWord, sched_length, if_neg (by omega)]
  rfl
theorem words_go (s : ByteArray) (hs : s.size = 64) (d : Nat) : ∀ (k t : Nat), t + d = 64 → d < k →
    block_Words.l0 k s (rowAt s.data.toList t) 64 (t : Int) = some (rowAt s.data.toList 64, 0) := by
  induction d with
  | zero =>
    intro k t ht hk
    obtain ⟨k, rfl⟩ : ∃ m, k = m + 1 := ⟨k - 1, by omega⟩
    obtain rfl : t = 64 := by omega
    simp only [block_Words.l0]
    rw [if_neg (by omega)]
  | succ d ih =>
    intro k t ht hk
    obtain ⟨k, rfl⟩ : ∃ m, k = m + 1 := ⟨k - 1, by omega⟩
    have hl := rowAt_length s.data.toList t (by omega)
    have c1 : (t : Int) < 64 := by omega
    have n0 : (0 : Int) ≤ (t : Int) := by omega
    have hsz : (s.size : Int) = 64 := by omega
    have R := ih k (t + 1) (by omega) (by omega)
    by_cases h16 : t < 16
    · have c2 : (t : Int) < 16 := by omega
      have a0 : (0 : Int) ≤ ((4 * t : Nat) : Int) := by omega
      have a1 : ((4 * t : Nat) : Int) ≤ ((4 * t + 4 : Nat) : Int) := by omega
      have a2 : ((4 * t + 4 : Nat) : Int) ≤ 64 := by omega
      have z : (s.extract (4 * t) (4 * t + 4)).size = 4 := by rw [ByteArray.size_extract]; omega
      have z0 : (0 : Int) < ((s.extract (4 * t) (4 * t + 4)).size : Int) := by omega
      have z1 : (1 : Int) < ((s.extract (4 * t) (4 * t + 4)).size : Int) := by omega
      have z2 : (2 : Int) < ((s.extract (4 * t) (4 * t + 4)).size : Int) := by omega
      have z3 : (3 : Int) < ((s.extract (4 * t) (4 * t + 4)).size : Int) := by omega
      have e1 : wrap64 (4 * (t : Int)) = ((4 * t : Nat) : Int) := by rw [wrap64_in (by omega) (by omega)]; omega
      have e2 : wrap64 (((4 * t : Nat) : Int) + 4) = ((4 * t + 4 : Nat) : Int) := by rw [wrap64_in (by omega) (by omega)]; omega
      have e3 : wrap64 ((t : Int) + 1) = ((t + 1 : Nat) : Int) := by rw [wrap64_in (by omega) (by omega)]; omega
      have cl : (t : Int) < ((rowAt s.data.toList t).length : Int) := by omega
      simp only [block_Words.l0, c1, c2, e1, e2, e3, a0, a1, a2, hsz, Int.toNat_natCast, z0, z1, z2, z3, n0, cl, if_true, word_head s t h16 hs]
      rw [rowAt_set _ _ (by omega)]
      exact R
    · have c2 : ¬ (t : Int) < 16 := by omega
      have n1 : (0 : Int) ≤ ((t - 15 : Nat) : Int) := by omega
      have n2 : (0 : Int) ≤ ((t - 2 : Nat) : Int) := by omega
      have n3 : (0 : Int) ≤ ((t - 16 : Nat) : Int) := by omega
      have n4 : (0 : Int) ≤ ((t - 7 : Nat) : Int) := by omega
      have v1 : ((t - 15 : Nat) : Int) < 64 := by omega
      have v2 : ((t - 2 : Nat) : Int) < 64 := by omega
      have v3 : ((t - 16 : Nat) : Int) < 64 := by omega
      have v4 : ((t - 7 : Nat) : Int) < 64 := by omega
      have hl2 : ((rowAt s.data.toList t).length : Int) = 64 := by omega
      have g1 := rd_rowAt s.data.toList t (t - 15) (by omega)
      have g2 := rd_rowAt s.data.toList t (t - 2) (by omega)
      have g3 := rd_rowAt s.data.toList t (t - 16) (by omega)
      have g4 := rd_rowAt s.data.toList t (t - 7) (by omega)
      have r7 : ∀ x, block_right.f (wd x) 7 = some (wd (x.rotateRight 7)) := fun x => right_some x 7 7 rfl (by decide) (by decide)
      have r18 : ∀ x, block_right.f (wd x) 18 = some (wd (x.rotateRight 18)) := fun x => right_some x 18 18 rfl (by decide) (by decide)
      have r17 : ∀ x, block_right.f (wd x) 17 = some (wd (x.rotateRight 17)) := fun x => right_some x 17 17 rfl (by decide) (by decide)
      have r19 : ∀ x, block_right.f (wd x) 19 = some (wd (x.rotateRight 19)) := fun x => right_some x 19 19 rfl (by decide) (by decide)
      have hset := rowAt_set s.data.toList t (by omega)
      have hwt := word_tail s.data.toList t (by omega)
      have e15 : wrap64 ((t : Int) - 15) = ((t - 15 : Nat) : Int) := by rw [wrap64_in (by omega) (by omega)]; omega
      have e2 : wrap64 ((t : Int) - 2) = ((t - 2 : Nat) : Int) := by rw [wrap64_in (by omega) (by omega)]; omega
      have e16 : wrap64 ((t : Int) - 16) = ((t - 16 : Nat) : Int) := by rw [wrap64_in (by omega) (by omega)]; omega
      have e7 : wrap64 ((t : Int) - 7) = ((t - 7 : Nat) : Int) := by rw [wrap64_in (by omega) (by omega)]; omega
      have e1 : wrap64 ((t : Int) + 1) = ((t + 1 : Nat) : Int) := by rw [wrap64_in (by omega) (by omega)]; omega
      simp only [block_Words.l0, c1, c2, e15, e2, e16, e7, e1, n0, n1, n2, n3, n4, hl2, v1, v2, v3, v4, g1, g2, g3, g4, r7, r18, r17, r19, Option.bind_some, if_true, if_false, Int.toNat_natCast]
      rw [hwt, hset]
      exact R
theorem words_some (s : ByteArray) (hs : s.size = 64) (k : Nat) (hk : 64 < k) : block_Words.f k s = some ((words s.data.toList).map wd, 0) := by
  unfold block_Words.f
  rw [if_pos (by omega), if_pos (by decide)]
  simp only [Option.bind_some, List.length_replicate]
  have h := words_go s hs 64 k 0 (by omega) hk
  have e : rowAt s.data.toList 64 = (words s.data.toList).map wd := by simp [rowAt, words]
  rw [e] at h
  exact h

/-! ### The law -/
end Go.Proofs.YtomninikmcmmcaaDoor.Pure

