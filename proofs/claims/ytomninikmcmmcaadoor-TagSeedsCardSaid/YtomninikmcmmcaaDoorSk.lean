/- Texts of this session, put together: SWords, SBlk, ShaP. -/
import Derived.Test.YtomninikmcmmcaaDoorPBwA
import Derived.Test.YtomninikmcmmcaaDoorSpA
import Derived.Test.YtomninikmcmmcaaDoorGivA
import Derived.Deep.QuietTactic
import Derived.BigQuiet
import Derived.WalkKit
import Derived.StillTailTactics
import Derived.Deep.LoopGhost
import Derived.RegionTactic
import Derived.ChangeAlike
import Derived.BigRegion
import Derived.Test.YtomninikmcmmcaaDoorTl
section
/- The words of a block (of XWords, what a seat without chapter 04's laws needs). -/
namespace Go.Proofs.YtomninikmcmmcaaDoor.Pure
open Go.RowKit Go.Proofs.YtomninikmcmmcaaDoor.PBw Go.Proofs.YtomninikmcmmcaaDoorW.PrintWords Go.Proofs.YtomninikmcmmcaaDoorW.PrintLast Go.Proofs.YtomninikmcmmcaaDoorW.PrintMore Go.Proofs.Sp
set_option linter.unusedVariables false
set_option linter.unusedSimpArgs false

theorem rd_map (l : List W32) (i : Nat) : rd (l.map wd) (i : Int) = wd (l.getD i 0) := by
  unfold rd
  rw [Int.toNat_natCast, List.getD_eq_getElem?_getD, List.getElem?_map, List.getD_eq_getElem?_getD]
  cases l[i]? <;> simp
  rfl
theorem bt_list (s : ByteArray) (i : Nat) : bt s (i : Int) = ((s.data.toList.getD i 0).toNat : Int) := by
  unfold bt
  rw [Int.toNat_natCast, List.getD_eq_getElem?_getD, Array.getElem?_toList]
  split
  · rename_i h
    have h' : i < s.data.size := h
    rw [Array.getElem?_eq_getElem h']
    rfl
  · rename_i h
    have h' : ¬ i < s.data.size := h
    rw [Array.getElem?_eq_none (by omega)]
    rfl

theorem byte_lt (b : List UInt8) (i : Nat) : (b.getD i 0).toNat < 256 := (b.getD i 0).toNat_lt
theorem be4_wd (b : List UInt8) (i : Nat) :
    wd (be4 b i) = 16777216 * ((b.getD i 0).toNat : Int) + 65536 * ((b.getD (i + 1) 0).toNat : Int) + 256 * ((b.getD (i + 2) 0).toNat : Int) + ((b.getD (i + 3) 0).toNat : Int) := by
  unfold be4 wd
  rw [BitVec.toNat_ofNat]
  have := byte_lt b i; have := byte_lt b (i + 1); have := byte_lt b (i + 2); have := byte_lt b (i + 3)
  omega
theorem and31 (n : Nat) (hn : n < 32) (h0 : 0 < n) : Go.bits .and .u64 (IntKind.u64.wrap (wrap64 (-(n : Int)))) 31 = ((32 - n : Nat) : Int) := by
  have e : IntKind.u64.wrap (wrap64 (-(n : Int))) = ((18446744073709551616 - n : Nat) : Int) := by
    rw [wrap64_in (by omega) (by omega)]
    simp [IntKind.wrap, IntKind.bits, IntKind.signed]
    omega
  rw [e]
  have h := bits_mask .u64 64 (by decide) (fun m h0 h1 => by simp [IntKind.wrap, IntKind.bits, IntKind.signed]; omega) 5 (by decide) ((18446744073709551616 - n : Nat) : Int) (by omega) (by omega)
  have e2 : (2 : Int) ^ 5 - 1 = 31 := by decide
  rw [e2] at h
  rw [h]
  omega
theorem right_some (x : W32) (n : Nat) (m : Int) (hm : m = (n : Int)) (hn : n < 32) (h0 : 0 < n) : block_right.f (wd x) m = some (wd (x.rotateRight n)) := by
  subst hm
  unfold block_right.f bits_RotateLeft32.f
  rw [and31 n hn h0]
  have e2 : IntKind.u64.wrap (32 - ((32 - n : Nat) : Int)) = (n : Int) := by simp [IntKind.wrap, IntKind.bits, IntKind.signed]; omega
  rw [e2, if_pos (by omega), if_pos (by omega)]
  simp only [Option.bind_some]
  congr 1
  unfold shl shr
  have e3 : min ((32 - n : Nat) : Int).toNat IntKind.u32.bits = 32 - n := by show min _ 32 = _; omega
  have e4 : min (n : Int).toNat IntKind.u32.bits = n := by show min _ 32 = _; omega
  rw [e3, e4, shl_wd, shr_wd, bits_or]
  congr 1
  apply BitVec.eq_of_getLsbD_eq
  intro i hi
  simp only [BitVec.getLsbD_or, BitVec.getLsbD_ushiftRight, BitVec.getLsbD_shiftLeft, BitVec.getLsbD_rotateRight, Nat.mod_eq_of_lt hn, Bool.cond_decide]
  by_cases a : i < 32 - n
  · simp [a, hi]
  · rw [if_neg a]
    have : x.getLsbD (n + i) = false := BitVec.getLsbD_of_ge _ _ (by omega)
    simp [a, this]

theorem bt_cut (s : ByteArray) (a b i : Nat) (hb : b ≤ s.size) (h : a + i < b) : bt (s.extract a b) (i : Int) = bt s ((a + i : Nat) : Int) := by
  unfold bt
  rw [Int.toNat_natCast, Int.toNat_natCast, dif_pos (by rw [ByteArray.size_extract]; omega), dif_pos (by omega)]
  congr 2
  exact ByteArray.getElem_extract ..
theorem or4 (a b c d : Nat) (ha : a < 256) (hb : b < 256) (hc : c < 256) (hd : d < 256) :
    Go.bits .or .u32 (Go.bits .or .u32 (Go.bits .or .u32 ((((a : Int) % 4294967296) * 16777216) % 4294967296) ((((b : Int) % 4294967296) * 65536) % 4294967296)) ((((c : Int) % 4294967296) * 256) % 4294967296)) ((d : Int) % 4294967296) =
      16777216 * (a : Int) + 65536 * (b : Int) + 256 * (c : Int) + (d : Int) := by
  have w : ∀ n : Nat, n < 4294967296 → (n : Int) = wd (BitVec.ofNat 32 n) := fun n hn => by unfold wd; rw [BitVec.toNat_ofNat]; omega
  have e1 : (((a : Int) % 4294967296) * 16777216) % 4294967296 = ((a * 16777216 : Nat) : Int) := by omega
  have e2 : (((b : Int) % 4294967296) * 65536) % 4294967296 = ((b * 65536 : Nat) : Int) := by omega
  have e3 : (((c : Int) % 4294967296) * 256) % 4294967296 = ((c * 256 : Nat) : Int) := by omega
  have e4 : ((d : Int) % 4294967296) = ((d : Nat) : Int) := by omega
  rw [e1, e2, e3, e4, w _ (by omega), w _ (by omega), w _ (by omega), w _ (by omega), bits_or, bits_or, bits_or]
  unfold wd
  simp only [BitVec.toNat_or, BitVec.toNat_ofNat]
  rw [Nat.mod_eq_of_lt (by omega), Nat.mod_eq_of_lt (by omega), Nat.mod_eq_of_lt (by omega), Nat.mod_eq_of_lt (by omega)]
  have h1 : a * 16777216 ||| b * 65536 = a * 16777216 + b * 65536 := by
    have := Nat.two_pow_add_eq_or_of_lt (i := 24) (b := b * 65536) (by omega) a
    rw [show a * 16777216 = 2 ^ 24 * a by omega, ← this]
  have h2 : (a * 256 + b) * 65536 ||| c * 256 = (a * 256 + b) * 65536 + c * 256 := by
    have := Nat.two_pow_add_eq_or_of_lt (i := 16) (b := c * 256) (by omega) (a * 256 + b)
    rw [show (a * 256 + b) * 65536 = 2 ^ 16 * (a * 256 + b) by omega, ← this]
  have h3 : ((a * 256 + b) * 256 + c) * 256 ||| d = ((a * 256 + b) * 256 + c) * 256 + d := by
    have := Nat.two_pow_add_eq_or_of_lt (i := 8) (b := d) (by omega) ((a * 256 + b) * 256 + c)
    rw [show ((a * 256 + b) * 256 + c) * 256 = 2 ^ 8 * ((a * 256 + b) * 256 + c) by omega, ← this]
  rw [h1, show a * 16777216 + b * 65536 = (a * 256 + b) * 65536 by omega, h2, show (a * 256 + b) * 65536 + c * 256 = ((a * 256 + b) * 256 + c) * 256 by omega, h3]
  omega
/-- The row after t rounds: the words so far, noughts behind. -/
def rowAt (b : List UInt8) (t : Nat) : List Int := (sched b t).map wd ++ List.replicate (64 - t) 0
theorem rowAt_length (b : List UInt8) (t : Nat) (h : t ≤ 64) : (rowAt b t).length = 64 := by
  unfold rowAt; rw [List.length_append, List.length_map, sched_length, List.length_replicate]; omega
theorem rd_rowAt (b : List UInt8) (t i : Nat) (h : i < t) : rd (rowAt b t) (i : Int) = wd ((sched b t).getD i 0) := by
  rw [← rd_map]
  unfold rowAt rd
  rw [Int.toNat_natCast, List.getD_eq_getElem?_getD, List.getElem?_append_left (by rw [List.length_map, sched_length]; exact h), ← List.getD_eq_getElem?_getD]
theorem rowAt_set (b : List UInt8) (t : Nat) (h : t < 64) : (rowAt b t).set t (wd (nextWord b (sched b t))) = rowAt b (t + 1) := by
  unfold rowAt
  obtain ⟨m, hm⟩ : ∃ m, 64 - t = m + 1 := ⟨63 - t, by omega⟩
  rw [hm, List.replicate_succ, List.set_append_right _ _ (by rw [List.length_map, sched_length]; omega), List.length_map, sched_length, Nat.sub_self, List.set_cons_zero, sched, List.map_append,
    show 64 - (t + 1) = m by omega, List.append_assoc]
  rfl
theorem word_head (s : ByteArray) (t : Nat) (h : t < 16) (hs : s.size = 64) :
    Go.bits .or .u32 (Go.bits .or .u32 (Go.bits .or .u32 ((((bt (s.extract (4 * t) (4 * t + 4)) 0) % 4294967296) * 16777216) % 4294967296) ((((bt (s.extract (4 * t) (4 * t + 4)) 1) % 4294967296) * 65536) % 4294967296)) ((((bt (s.extract (4 * t) (4 * t + 4)) 2) % 4294967296) * 256) % 4294967296)) ((bt (s.extract (4 * t) (4 * t + 4)) 3) % 4294967296) =
      wd (nextWord s.data.toList (sched s.data.toList t)) := by
  have b0 := bt_cut s (4 * t) (4 * t + 4) 0 (by omega) (by omega)
  have b1 := bt_cut s (4 * t) (4 * t + 4) 1 (by omega) (by omega)
  have b2 := bt_cut s (4 * t) (4 * t + 4) 2 (by omega) (by omega)
  have b3 := bt_cut s (4 * t) (4 * t + 4) 3 (by omega) (by omega)
  rw [nextWord, sched_length, if_pos h, be4_wd]
  have e0 : bt (s.extract (4 * t) (4 * t + 4)) 0 = ((s.data.toList.getD (4 * t) 0).toNat : Int) := b0.trans (bt_list s _)
  have e1 : bt (s.extract (4 * t) (4 * t + 4)) 1 = ((s.data.toList.getD (4 * t + 1) 0).toNat : Int) := b1.trans (bt_list s _)
  have e2 : bt (s.extract (4 * t) (4 * t + 4)) 2 = ((s.data.toList.getD (4 * t + 2) 0).toNat : Int) := b2.trans (bt_list s _)
  have e3 : bt (s.extract (4 * t) (4 * t + 4)) 3 = ((s.data.toList.getD (4 * t + 3) 0).toNat : Int) := b3.trans (bt_list s _)
  rw [e0, e1, e2, e3]
  exact or4 _ _ _ _ (byte_lt _ _) (byte_lt _ _) (byte_lt _ _) (byte_lt _ _)
theorem word_tail (b : List UInt8) (t : Nat) (h : 16 ≤ t) :
    ((((wd ((sched b t).getD (t - 16) 0) + Go.bits .xor .u32 (Go.bits .xor .u32 (wd (((sched b t).getD (t - 15) 0).rotateRight 7)) (wd (((sched b t).getD (t - 15) 0).rotateRight 18))) (wd ((sched b t).getD (t - 15) 0) / 8)) % 4294967296 + wd ((sched b t).getD (t - 7) 0)) % 4294967296 + Go.bits .xor .u32 (Go.bits .xor .u32 (wd (((sched b t).getD (t - 2) 0).rotateRight 17)) (wd (((sched b t).getD (t - 2) 0).rotateRight 19))) (wd ((sched b t).getD (t - 2) 0) / 1024)) % 4294967296) =
      wd (nextWord b (sched b t)) := by
  have s3 := shr_wd ((sched b t).getD (t - 15) 0) 3
  have s10 := shr_wd ((sched b t).getD (t - 2) 0) 10
  have e3 : wd ((sched b t).getD (t - 15) 0) / 8 = wd ((sched b t).getD (t - 15) 0 >>> (3 : Nat)) := s3
  have e10 : wd ((sched b t).getD (t - 2) 0) / 1024 = wd ((sched b t).getD (t - 2) 0 >>> (10 : Nat)) := s10
  rw [e3, e10, bits_xor, bits_xor, bits_xor, bits_xor, wd_add, wd_add, wd_add, nextWord, sched_length, if_neg (by omega)]
  rfl
theorem words_go (s : ByteArray) (hs : s.size = 64) (d : Nat) : ∀ (k t : Nat), t + d = 64 → d < k →
    block_Words.l0 k s (rowAt s.data.toList t) 64 (t : Int) = some (rowAt s.data.toList 64, 0) := by
  induction d with
  | zero =>
    intro k t ht hk
    obtain ⟨k, rfl⟩ : ∃ m, k = m + 1 := ⟨k - 1, by omega⟩
    obtain rfl : t = 64 := by omega
    simp only [block_Words.l0]
    rw [if_neg (by omega)]
  | succ d ih =>
    intro k t ht hk
    obtain ⟨k, rfl⟩ : ∃ m, k = m + 1 := ⟨k - 1, by omega⟩
    have hl := rowAt_length s.data.toList t (by omega)
    have c1 : (t : Int) < 64 := by omega
    have n0 : (0 : Int) ≤ (t : Int) := by omega
    have hsz : (s.size : Int) = 64 := by omega
    have R := ih k (t + 1) (by omega) (by omega)
    by_cases h16 : t < 16
    · have c2 : (t : Int) < 16 := by omega
      have a0 : (0 : Int) ≤ ((4 * t : Nat) : Int) := by omega
      have a1 : ((4 * t : Nat) : Int) ≤ ((4 * t + 4 : Nat) : Int) := by omega
      have a2 : ((4 * t + 4 : Nat) : Int) ≤ 64 := by omega
      have z : (s.extract (4 * t) (4 * t + 4)).size = 4 := by rw [ByteArray.size_extract]; omega
      have z0 : (0 : Int) < ((s.extract (4 * t) (4 * t + 4)).size : Int) := by omega
      have z1 : (1 : Int) < ((s.extract (4 * t) (4 * t + 4)).size : Int) := by omega
      have z2 : (2 : Int) < ((s.extract (4 * t) (4 * t + 4)).size : Int) := by omega
      have z3 : (3 : Int) < ((s.extract (4 * t) (4 * t + 4)).size : Int) := by omega
      have e1 : wrap64 (4 * (t : Int)) = ((4 * t : Nat) : Int) := by rw [wrap64_in (by omega) (by omega)]; omega
      have e2 : wrap64 (((4 * t : Nat) : Int) + 4) = ((4 * t + 4 : Nat) : Int) := by rw [wrap64_in (by omega) (by omega)]; omega
      have e3 : wrap64 ((t : Int) + 1) = ((t + 1 : Nat) : Int) := by rw [wrap64_in (by omega) (by omega)]; omega
      have cl : (t : Int) < ((rowAt s.data.toList t).length : Int) := by omega
      simp only [block_Words.l0, c1, c2, e1, e2, e3, a0, a1, a2, hsz, Int.toNat_natCast, z0, z1, z2, z3, n0, cl, if_true, word_head s t h16 hs]
      rw [rowAt_set _ _ (by omega)]
      exact R
    · have c2 : ¬ (t : Int) < 16 := by omega
      have n1 : (0 : Int) ≤ ((t - 15 : Nat) : Int) := by omega
      have n2 : (0 : Int) ≤ ((t - 2 : Nat) : Int) := by omega
      have n3 : (0 : Int) ≤ ((t - 16 : Nat) : Int) := by omega
      have n4 : (0 : Int) ≤ ((t - 7 : Nat) : Int) := by omega
      have v1 : ((t - 15 : Nat) : Int) < 64 := by omega
      have v2 : ((t - 2 : Nat) : Int) < 64 := by omega
      have v3 : ((t - 16 : Nat) : Int) < 64 := by omega
      have v4 : ((t - 7 : Nat) : Int) < 64 := by omega
      have hl2 : ((rowAt s.data.toList t).length : Int) = 64 := by omega
      have g1 := rd_rowAt s.data.toList t (t - 15) (by omega)
      have g2 := rd_rowAt s.data.toList t (t - 2) (by omega)
      have g3 := rd_rowAt s.data.toList t (t - 16) (by omega)
      have g4 := rd_rowAt s.data.toList t (t - 7) (by omega)
      have r7 : ∀ x, block_right.f (wd x) 7 = some (wd (x.rotateRight 7)) := fun x => right_some x 7 7 rfl (by decide) (by decide)
      have r18 : ∀ x, block_right.f (wd x) 18 = some (wd (x.rotateRight 18)) := fun x => right_some x 18 18 rfl (by decide) (by decide)
      have r17 : ∀ x, block_right.f (wd x) 17 = some (wd (x.rotateRight 17)) := fun x => right_some x 17 17 rfl (by decide) (by decide)
      have r19 : ∀ x, block_right.f (wd x) 19 = some (wd (x.rotateRight 19)) := fun x => right_some x 19 19 rfl (by decide) (by decide)
      have hset := rowAt_set s.data.toList t (by omega)
      have hwt := word_tail s.data.toList t (by omega)
      have e15 : wrap64 ((t : Int) - 15) = ((t - 15 : Nat) : Int) := by rw [wrap64_in (by omega) (by omega)]; omega
      have e2 : wrap64 ((t : Int) - 2) = ((t - 2 : Nat) : Int) := by rw [wrap64_in (by omega) (by omega)]; omega
      have e16 : wrap64 ((t : Int) - 16) = ((t - 16 : Nat) : Int) := by rw [wrap64_in (by omega) (by omega)]; omega
      have e7 : wrap64 ((t : Int) - 7) = ((t - 7 : Nat) : Int) := by rw [wrap64_in (by omega) (by omega)]; omega
      have e1 : wrap64 ((t : Int) + 1) = ((t + 1 : Nat) : Int) := by rw [wrap64_in (by omega) (by omega)]; omega
      simp only [block_Words.l0, c1, c2, e15, e2, e16, e7, e1, n0, n1, n2, n3, n4, hl2, v1, v2, v3, v4, g1, g2, g3, g4, r7, r18, r17, r19, Option.bind_some, if_true, if_false, Int.toNat_natCast]
      rw [hwt, hset]
      exact R
theorem words_some (s : ByteArray) (hs : s.size = 64) (k : Nat) (hk : 64 < k) : block_Words.f k s = some ((words s.data.toList).map wd, 0) := by
  unfold block_Words.f
  rw [if_pos (by omega), if_pos (by decide)]
  simp only [Option.bind_some, List.length_replicate]
  have h := words_go s hs 64 k 0 (by omega) hk
  have e : rowAt s.data.toList 64 = (words s.data.toList).map wd := by simp [rowAt, words]
  rw [e] at h
  exact h

/-! ### The law -/
end Go.Proofs.YtomninikmcmmcaaDoor.Pure
end
section
/- The block function and the reference's: contracts (of XBlkA .. XQuick, what a seat without chapter 04's laws needs). -/
namespace Go.Proofs.YtomninikmcmmcaaDoor.Blk
open Go.RowKit Go.Proofs.YtomninikmcmmcaaDoor.PBw Go.Proofs.YtomninikmcmmcaaDoor.GivA Go.Proofs.YtomninikmcmmcaaDoorW.PrintWords Go.Proofs.YtomninikmcmmcaaDoorW.PrintLast Go.Proofs.YtomninikmcmmcaaDoorW.PrintMore Go.Proofs.Sp Go.Proofs.YtomninikmcmmcaaDoor.Pure
set_option linter.unusedVariables false
set_option linter.unusedSimpArgs false

theorem bits_not (x : W32) : Go.bits .xor .u32 4294967295 (wd x) = wd (~~~x) := by
  have h := bits_xor (BitVec.allOnes 32) x
  rw [BitVec.allOnes_xor] at h
  have e : wd (BitVec.allOnes 32) = 4294967295 := by
    unfold wd
    rw [BitVec.toNat_allOnes]
    omega
  rw [e] at h
  exact h
theorem sum3 (a b c : W32) : (wd a + wd b + wd c) % 4294967296 = wd (a + b + c) := by
  rw [← wd_add (a + b) c, ← wd_add a b, Int.emod_add_emod]
theorem sum4 (a b c d : W32) : (wd a + wd b + wd c + wd d) % 4294967296 = wd (a + b + c + d) := by
  rw [← wd_add (a + b + c) d, ← sum3, Int.emod_add_emod]
theorem sum5 (a b c d e : W32) : (wd a + wd b + wd c + wd d + wd e) % 4294967296 = wd (a + b + c + d + e) := by
  rw [← wd_add (a + b + c + d) e, ← sum4, Int.emod_add_emod]
theorem sum1_4 (z a b c d : W32) : (wd z + (wd a + wd b + wd c + wd d)) % 4294967296 = wd (z + (a + b + c + d)) := by
  rw [← wd_add z, ← sum4, Int.add_emod_emod]
theorem parts_some (e f g a b c : W32) : block_parts.f (wd e) (wd f) (wd g) (wd a) (wd b) (wd c) = some (wd (bs1 e + ch e f g), wd (bs0 a + maj a b c)) := by
  have r6 : ∀ x, block_right.f (wd x) 6 = some (wd (x.rotateRight 6)) := fun x => right_some x 6 6 rfl (by decide) (by decide)
  have r11 : ∀ x, block_right.f (wd x) 11 = some (wd (x.rotateRight 11)) := fun x => right_some x 11 11 rfl (by decide) (by decide)
  have r25 : ∀ x, block_right.f (wd x) 25 = some (wd (x.rotateRight 25)) := fun x => right_some x 25 25 rfl (by decide) (by decide)
  have r2 : ∀ x, block_right.f (wd x) 2 = some (wd (x.rotateRight 2)) := fun x => right_some x 2 2 rfl (by decide) (by decide)
  have r13 : ∀ x, block_right.f (wd x) 13 = some (wd (x.rotateRight 13)) := fun x => right_some x 13 13 rfl (by decide) (by decide)
  have r22 : ∀ x, block_right.f (wd x) 22 = some (wd (x.rotateRight 22)) := fun x => right_some x 22 22 rfl (by decide) (by decide)
  simp only [block_parts.f, r6, r11, r25, r2, r13, r22, Option.bind_some, bits_not, bits_and, bits_xor, wd_add, bs0, bs1, ch, maj]

/-- A state as the machine holds it. -/
def stv (s : St) : Value := .agg #[.int .u32 (wd s.a), .int .u32 (wd s.b), .int .u32 (wd s.c), .int .u32 (wd s.d), .int .u32 (wd s.e), .int .u32 (wd s.f), .int .u32 (wd s.g), .int .u32 (wd s.h)]
/-- A round's constant as a word. -/
def kw (k : Int) : W32 := BitVec.ofInt 32 (kAt k)
set_option maxRecDepth 10000 in
theorem kTab_range : ∀ k : Nat, k < 64 → 0 ≤ kTab.getD k 0 ∧ kTab.getD k 0 < 4294967296 := by decide
theorem kAt_range (k : Int) : 0 ≤ kAt k ∧ kAt k < 4294967296 := by
  unfold kAt
  split
  · omega
  · split
    · omega
    · exact kTab_range k.toNat (by omega)
theorem wd_kw (k : Int) : wd (kw k) = kAt k := by
  have h := kAt_range k
  unfold kw wd
  rw [BitVec.toNat_ofInt]
  have : ((2 ^ 32 : Nat) : Int) = 4294967296 := by decide
  rw [this]
  omega

theorem parts_calls (e f g a b c : W32) (w : World) : Calls Tryd.prog 124 #[.int .u32 (wd e), .int .u32 (wd f), .int .u32 (wd g), .int .u32 (wd a), .int .u32 (wd b), .int .u32 (wd c)] w
    fun e' w' => e' = .returned (.tuple #[.int .u32 (wd (bs1 e + ch e f g)), .int .u32 (wd (bs0 a + maj a b c))]) ∧ ∃ n, w' = w.drewN n := by
  refine (block_parts.calls _ _ _ _ _ _ _ _ w (parts_some e f g a b c)).mono ?_
  rintro e' w' ⟨rfl, hd⟩
  exact ⟨rfl, hd.out⟩

set_option maxHeartbeats 1000000 in
set_option maxRecDepth 100000 in
theorem round_calls (s : St) (k : Int) (x : W32) (w : World) (hT : Tab w) :
    Calls Tryd.prog 115 #[stv s, .int .i64 k, .int .u32 (wd x)] w fun e w' => e = .returned (stv (rnd s (kw k) x)) ∧ Below w.heap.size w w' := by
  have HT := Aside0.mk hT
  clear hT
  have H1 := Aside0.mk (wd_kw k)
  unfold stv
  go_enter Tryd.func115, Tryd.ntmps115
  go_wp2_with fail
  go_quiet (fail)
  go_wp2_with fail
  refine (parts_calls _ _ _ _ _ _ _).mono ?_
  rintro e w' ⟨rfl, n1, rfl⟩
  go_wp2_with fail
  refine (constant_same k _ (HT.out.keep (by (with_reducible repeat (first | exact Below.refl _ _ | apply below_alloc | apply pw_below_drewN | apply below_drew))))).mono ?_
  rintro e w' ⟨rfl, rfl⟩
  rw [← H1.out]
  go_wp2_with fail
  refine bodyPost_ret (v := .agg #[.int .u32 ((wd s.h + wd (bs1 s.e + ch s.e s.f s.g) + wd (kw k) + wd x + wd (bs0 s.a + maj s.a s.b s.c)) % 4294967296), .int .u32 (wd s.a), .int .u32 (wd s.b), .int .u32 (wd s.c), .int .u32 ((wd s.d + (wd s.h + wd (bs1 s.e + ch s.e s.f s.g) + wd (kw k) + wd x)) % 4294967296), .int .u32 (wd s.e), .int .u32 (wd s.f), .int .u32 (wd s.g)]) (by simp [results, Tryd.results115, go_sem]) rfl ⟨?_, ?_⟩
  · rw [sum5, sum1_4]
    rfl
  · (with_reducible repeat (first | exact Below.refl _ _ | refine Below.setCell ?_ (Nat.le_succ _) _ | apply below_alloc | apply pw_below_drewN | apply below_drew))

end Go.Proofs.YtomninikmcmmcaaDoor.Blk

namespace Go.Proofs.YtomninikmcmmcaaDoor.Blk
open Go.RowKit Go.Proofs.YtomninikmcmmcaaDoor.PBw Go.Proofs.YtomninikmcmmcaaDoor.GivA Go.Proofs.YtomninikmcmmcaaDoorW.PrintWords Go.Proofs.YtomninikmcmmcaaDoorW.PrintLast Go.Proofs.YtomninikmcmmcaaDoorW.PrintMore Go.Proofs.Sp Go.Proofs.YtomninikmcmmcaaDoor.Pure
set_option linter.unusedVariables false
set_option linter.unusedSimpArgs false

/-- The rounds' constants as words. -/
def kws (t : Nat) : W32 := kw (t : Int)
def runs (w : List W32) (s : St) : Nat → St
  | 0 => s
  | t + 1 => rnd (runs w s t) (kws t) (w.getD t 0)
def next (s : St) (b : List UInt8) : St := addSt (runs (words b) s 64) s
def stc (s : St) : Array Value := #[.int .u32 (wd s.a), .int .u32 (wd s.b), .int .u32 (wd s.c), .int .u32 (wd s.d), .int .u32 (wd s.e), .int .u32 (wd s.f), .int .u32 (wd s.g), .int .u32 (wd s.h)]

theorem words_calls (b : ByteArray) (h : b.size = 64) (w : World) : Calls Tryd.prog 114 #[.string b] w fun e w' => ∃ A c, e = .returned (.tuple #[.slice (some A) 64 c, .int .i64 0]) ∧ A.spot = none ∧ A.block < w'.heap.size ∧
    (∀ (t : Nat), t < 64 → w'.cell? ⟨A.block, A.off + t, none⟩ = some (.int .u32 (wd ((words b.data.toList).getD t 0)))) ∧ Below w.heap.size w w' := by
  have hf := words_some b h 65 (by decide)
  have hl : (words b.data.toList).length = 64 := sched_length _ 64
  generalize words b.data.toList = ws at hf hl ⊢
  refine (block_Words.calls 65 b _ _ w hf).mono ?_
  rintro e w' ⟨v, rfl, hR, hB⟩
  have hl : (ws.map wd).length = 64 := by rw [List.length_map, hl]
  obtain ⟨A, c, rfl, _, hC⟩ := Kd.R_reads hR
  rw [hl] at hC ⊢
  obtain ⟨ad, rfl, h0⟩ := Kd.at_int hC 0 (by decide) (by decide)
  have hspot : ad.spot = none := World.cell?_spot (by simpa [Addr.add] using h0)
  obtain ⟨B, o, sp⟩ := ad
  obtain rfl : sp = none := hspot
  refine ⟨_, c, rfl, rfl, World.block_lt_of_cell? w' _ (by simpa [Addr.add] using h0), fun t ht => ?_, hB⟩
  obtain ⟨ad2, e2, h2⟩ := Kd.at_int hC (t : Int) (by omega) (by omega)
  obtain rfl := Option.some.inj e2
  rw [Int.toNat_natCast, rd_map] at h2
  rw [← h2]
  congr 1
  unfold Addr.add
  split <;> simp_all

theorem stc_cell {W : World} {B : Nat} {s : St} (h : W.heap[B]? = some (.cells (stc s) 96 (0, 0))) :
    ∀ j, W.cell? ⟨B, j, none⟩ = #[Value.int .u32 (wd s.a), .int .u32 (wd s.b), .int .u32 (wd s.c), .int .u32 (wd s.d), .int .u32 (wd s.e), .int .u32 (wd s.f), .int .u32 (wd s.g), .int .u32 (wd s.h)][j]? := fun j => blk_cell h j
theorem stc_free {W : World} {B : Nat} {s : St} (h : W.heap[B]? = some (.cells (stc s) 96 (0, 0))) : ∀ j, W.frozen? ⟨B, j, none⟩ = false := fun j => blk_frozen h j
def St.at (s : St) : Nat → W32
  | 0 => s.a
  | 1 => s.b
  | 2 => s.c
  | 3 => s.d
  | 4 => s.e
  | 5 => s.f
  | 6 => s.g
  | _ => s.h
theorem stc_at {W : World} {B : Nat} {s : St} (h : W.heap[B]? = some (.cells (stc s) 96 (0, 0))) (t : Nat) (ht : t < 8) : W.cell? ⟨B, t, none⟩ = some (.int .u32 (wd (St.at s t))) := by
  rw [blk_cell h t]
  match t, ht with
  | 0, _ => rfl
  | 1, _ => rfl
  | 2, _ => rfl
  | 3, _ => rfl
  | 4, _ => rfl
  | 5, _ => rfl
  | 6, _ => rfl
  | 7, _ => rfl
/-- The first t words summed. -/
def mixSt (o s : St) (t : Nat) : St := ⟨if 0 < t then o.a + s.a else o.a, if 1 < t then o.b + s.b else o.b, if 2 < t then o.c + s.c else o.c, if 3 < t then o.d + s.d else o.d,
  if 4 < t then o.e + s.e else o.e, if 5 < t then o.f + s.f else o.f, if 6 < t then o.g + s.g else o.g, if 7 < t then o.h + s.h else o.h⟩
theorem mixSt_at (o s : St) (t : Nat) (ht : t < 8) : St.at (mixSt o s t) t = St.at o t := by
  match t, ht with
  | 0, _ => rfl
  | 1, _ => rfl
  | 2, _ => rfl
  | 3, _ => rfl
  | 4, _ => rfl
  | 5, _ => rfl
  | 6, _ => rfl
  | 7, _ => rfl
theorem mixSt_set (o s : St) (t : Nat) (ht : t < 8) : (stc (mixSt o s t)).setIfInBounds t (.int .u32 (wd (St.at o t + St.at s t))) = stc (mixSt o s (t + 1)) := by
  match t, ht with
  | 0, _ => rfl
  | 1, _ => rfl
  | 2, _ => rfl
  | 3, _ => rfl
  | 4, _ => rfl
  | 5, _ => rfl
  | 6, _ => rfl
  | 7, _ => rfl

theorem put8g {W : World} {B T : Nat} (v0 v1 v2 v3 v4 v5 v6 v7 u0 u1 u2 u3 u4 u5 u6 u7 : Value) (h : W.heap[B]? = some (.cells #[u0, u1, u2, u3, u4, u5, u6, u7] T (0, 0))) :
    ((((((((W.setCell ⟨B, 0, none⟩ v0).setCell ⟨B, 1, none⟩ v1).setCell ⟨B, 2, none⟩ v2).setCell ⟨B, 3, none⟩ v3).setCell ⟨B, 4, none⟩ v4).setCell ⟨B, 5, none⟩ v5).setCell ⟨B, 6, none⟩ v6).setCell ⟨B, 7, none⟩ v7).heap[B]? = some (.cells #[v0, v1, v2, v3, v4, v5, v6, v7] T (0, 0)) := by
  have h1 : (W.setCell ⟨B, 0, none⟩ v0).heap[B]? = some (.cells #[v0, u1, u2, u3, u4, u5, u6, u7] T (0, 0)) := blk_put h 0 v0 rfl
  have h2 : ((W.setCell ⟨B, 0, none⟩ v0).setCell ⟨B, 1, none⟩ v1).heap[B]? = some (.cells #[v0, v1, u2, u3, u4, u5, u6, u7] T (0, 0)) := blk_put h1 1 v1 rfl
  have h3 : (((W.setCell ⟨B, 0, none⟩ v0).setCell ⟨B, 1, none⟩ v1).setCell ⟨B, 2, none⟩ v2).heap[B]? = some (.cells #[v0, v1, v2, u3, u4, u5, u6, u7] T (0, 0)) := blk_put h2 2 v2 rfl
  have h4 : ((((W.setCell ⟨B, 0, none⟩ v0).setCell ⟨B, 1, none⟩ v1).setCell ⟨B, 2, none⟩ v2).setCell ⟨B, 3, none⟩ v3).heap[B]? = some (.cells #[v0, v1, v2, v3, u4, u5, u6, u7] T (0, 0)) := blk_put h3 3 v3 rfl
  have h5 : (((((W.setCell ⟨B, 0, none⟩ v0).setCell ⟨B, 1, none⟩ v1).setCell ⟨B, 2, none⟩ v2).setCell ⟨B, 3, none⟩ v3).setCell ⟨B, 4, none⟩ v4).heap[B]? = some (.cells #[v0, v1, v2, v3, v4, u5, u6, u7] T (0, 0)) := blk_put h4 4 v4 rfl
  have h6 : ((((((W.setCell ⟨B, 0, none⟩ v0).setCell ⟨B, 1, none⟩ v1).setCell ⟨B, 2, none⟩ v2).setCell ⟨B, 3, none⟩ v3).setCell ⟨B, 4, none⟩ v4).setCell ⟨B, 5, none⟩ v5).heap[B]? = some (.cells #[v0, v1, v2, v3, v4, v5, u6, u7] T (0, 0)) := blk_put h5 5 v5 rfl
  have h7 : (((((((W.setCell ⟨B, 0, none⟩ v0).setCell ⟨B, 1, none⟩ v1).setCell ⟨B, 2, none⟩ v2).setCell ⟨B, 3, none⟩ v3).setCell ⟨B, 4, none⟩ v4).setCell ⟨B, 5, none⟩ v5).setCell ⟨B, 6, none⟩ v6).heap[B]? = some (.cells #[v0, v1, v2, v3, v4, v5, v6, u7] T (0, 0)) := blk_put h6 6 v6 rfl
  have h8 : ((((((((W.setCell ⟨B, 0, none⟩ v0).setCell ⟨B, 1, none⟩ v1).setCell ⟨B, 2, none⟩ v2).setCell ⟨B, 3, none⟩ v3).setCell ⟨B, 4, none⟩ v4).setCell ⟨B, 5, none⟩ v5).setCell ⟨B, 6, none⟩ v6).setCell ⟨B, 7, none⟩ v7).heap[B]? = some (.cells #[v0, v1, v2, v3, v4, v5, v6, v7] T (0, 0)) := blk_put h7 7 v7 rfl
  exact h8
theorem put8 {W : World} {B : Nat} {s : St} (n : St) (h : W.heap[B]? = some (.cells (stc s) 96 (0, 0))) :
    ((((((((W.setCell ⟨B, 0, none⟩ (.int .u32 (wd n.a))).setCell ⟨B, 1, none⟩ (.int .u32 (wd n.b))).setCell ⟨B, 2, none⟩ (.int .u32 (wd n.c))).setCell ⟨B, 3, none⟩ (.int .u32 (wd n.d))).setCell ⟨B, 4, none⟩ (.int .u32 (wd n.e))).setCell ⟨B, 5, none⟩ (.int .u32 (wd n.f))).setCell ⟨B, 6, none⟩ (.int .u32 (wd n.g))).setCell ⟨B, 7, none⟩ (.int .u32 (wd n.h))).heap[B]? = some (.cells (stc n) 96 (0, 0)) :=
  put8g _ _ _ _ _ _ _ _ _ _ _ _ _ _ _ _ h
theorem below8 {w W : World} {N B : Nat} (n : St) (h : Below N w W) (hB : N ≤ B) : Below N w ((((((((W.setCell ⟨B, 0, none⟩ (.int .u32 (wd n.a))).setCell ⟨B, 1, none⟩ (.int .u32 (wd n.b))).setCell ⟨B, 2, none⟩ (.int .u32 (wd n.c))).setCell ⟨B, 3, none⟩ (.int .u32 (wd n.d))).setCell ⟨B, 4, none⟩ (.int .u32 (wd n.e))).setCell ⟨B, 5, none⟩ (.int .u32 (wd n.f))).setCell ⟨B, 6, none⟩ (.int .u32 (wd n.g))).setCell ⟨B, 7, none⟩ (.int .u32 (wd n.h))) :=
  (((((((h.setCell (p := ⟨B, 0, none⟩) hB _).setCell (p := ⟨B, 1, none⟩) hB _).setCell (p := ⟨B, 2, none⟩) hB _).setCell (p := ⟨B, 3, none⟩) hB _).setCell (p := ⟨B, 4, none⟩) hB _).setCell (p := ⟨B, 5, none⟩) hB _).setCell (p := ⟨B, 6, none⟩) hB _).setCell (p := ⟨B, 7, none⟩) hB _
theorem weaken_two {w w1 : World} {o1 o2 : Obj} (h : Below ((w.alloc o1).alloc o2).heap.size ((w.alloc o1).alloc o2) w1) (_ : True) : Below w.heap.size w w1 :=
  (below_alloc (below_alloc (Below.refl _ _) o1) o2).trans (h.mono (by simp; omega))
set_option maxHeartbeats 2000000 in
set_option maxRecDepth 100000 in
theorem next_calls (s : St) (b : ByteArray) (h64 : b.size = 64) (w : World) (hT : Tab w) :
    Calls Tryd.prog 103 #[stv s, .string b] w fun e w' => e = .returned (.tuple #[stv (next s b.data.toList), .int .i64 0]) ∧ Below w.heap.size w w' := by
  have HT := Aside0.mk hT
  clear hT
  have Hw := Aside0.mk (fun W => words_calls b h64 W)
  clear h64
  unfold stv
  go_enter Tryd.func103, Tryd.ntmps103
  go_wp2_with fail
  refine (Hw.out _).mono ?_
  rintro e w1 ⟨A, c, rfl, hsp, hA, hcell, hB⟩
  obtain ⟨BA, oA, sp⟩ := A
  obtain rfl : sp = none := hsp
  simp only at hA
  have HC := Aside0.mk hcell
  have HB3 := Aside0.mk (weaken_two hB trivial)
  have HT1 := Aside0.mk (HT.out.keep (weaken_two hB trivial))
  clear hcell
  have HB := Aside0.mk hB
  have b0 : w1.heap[w.heap.size]? = some (.cells (stc s) 96 (0, 0)) := blk_below (blk_alloc (blk_new w _) _) hB
  have b1 : w1.heap[w.heap.size + 1]? = some (.cells (stc zeroSt) 96 (0, 0)) := by
    refine blk_below ?_ hB
    have := blk_new (w.alloc (.cells (stc s) 96)) (.cells (stc zeroSt) 96)
    rw [World.size_alloc] at this
    exact this
  have hsz : w.heap.size + 2 ≤ w1.heap.size := by have := hB.size; simpa using this
  clear hB
  have hc := stc_cell b0
  have HB0 := Aside0.mk b0
  have HB1 := Aside0.mk b1
  clear b0 b1
  go_wp2_with fail
  have g0 : (w1.alloc (.cells (stc s) 96)).heap[w1.heap.size]? = some (.cells (stc (runs (words b.data.toList) s 0)) 96 (0, 0)) := blk_new w1 _
  have G0 := Aside0.mk g0
  clear g0 hc
  go_loopg [24] 64 (fun k i wr => ∃ t : Nat, t + k = 64 ∧ i = .int .i64 t ∧ wr.heap[w1.heap.size]? = some (.cells (stc (runs (words b.data.toList) s t)) 96 (0, 0)) ∧ Below w1.heap.size w1 wr)
  case atStart => exact ⟨0, rfl, rfl, G0.out, (Below.refl _ _).alloc (Nat.le_refl _) _⟩
  case round =>
    obtain ⟨t, ht, rfl, hb, hx⟩ := hrel
    have hc := stc_cell hb
    have HX := Aside0.mk hx
    have HE := Aside0.mk hb
    clear hb
    by_cases hlt : t < 64
    · have hcx : wr.cell? ⟨BA, oA + t, none⟩ = some (.int .u32 (wd ((words b.data.toList).getD t 0))) := (hx.cell hA).trans (HC.out t hlt)
      clear hx
      have T2 := Aside0.mk (HT1.out.keep HX.out)
      generalize hcur : runs (words b.data.toList) s t = cur at *
      generalize hxw : (words b.data.toList).getD t 0 = xw at *
      have Hcur := Aside0.mk hcur
      have Hxw := Aside0.mk hxw
      clear hcur hxw
      go_wp2_with fail
      refine (round_calls cur t xw _ T2.out).mono ?_
      rintro e w2 ⟨rfl, hb2⟩
      have hE2 := blk_below HE.out hb2
      have hc2 := stc_cell hE2
      have hf2 := stc_free hE2
      have HB2 := Aside0.mk hb2
      have HE2 := Aside0.mk hE2
      clear hb2 hE2 hc
      simp only [stv]
      go_wp2_with fail
      go_roundg (gk - 1)
      case measure => omega
      case rel =>
        refine ⟨t + 1, by omega, by go_num, ?_, ?_⟩
        · have e : rnd cur (kw (t : Int)) xw = runs (words b.data.toList) s (t + 1) := by rw [runs, Hcur.out, Hxw.out]; rfl
          rw [← e]
          exact put8 _ HE2.out
        · exact below8 _ (HX.out.trans (HB2.out.mono HX.out.size)) (Nat.le_refl _)
    · obtain rfl : t = 64 := by omega
      have b0' := Aside0.mk (blk_below HB0.out HX.out)
      have b1' := Aside0.mk (blk_below HB1.out HX.out)
      generalize hcur : runs (words b.data.toList) s 64 = cur at *
      have Hcur := Aside0.mk hcur
      clear hcur hlt hc
      have G1 := Aside0.mk (show wr.heap[w1.heap.size]? = some (.cells (stc (mixSt cur s 0)) 96 (0, 0)) from HE.out)
      go_wp2_with fail
      go_loopg [34] 8 (fun k i wq => ∃ t : Nat, t + k = 8 ∧ i = .int .i64 t ∧ wq.heap[w1.heap.size]? = some (.cells (stc (mixSt cur s t)) 96 (0, 0)) ∧ Below w1.heap.size w1 wq)
      case atStart => exact ⟨0, rfl, rfl, G1.out, HX.out⟩
      case round =>
        obtain ⟨t, ht, rfl, hb, hx⟩ := hrel
        have HX2 := Aside0.mk hx
        have HE2 := Aside0.mk hb
        have bs := blk_below HB0.out hx
        have br := blk_below HB1.out hx
        by_cases hlt : t < 8
        · have c1 := stc_at hb t hlt
          rw [mixSt_at _ _ _ hlt] at c1
          have c2 := stc_at bs t hlt
          have f1 := stc_free hb t
          generalize hp : St.at cur t = p at *
          generalize hq : St.at s t = q at *
          have Hp := Aside0.mk hp
          have Hq := Aside0.mk hq
          have l1 : (t : Int) < 8 := by omega
          clear hb hx bs br hp hq
          go_wp2_with fail
          go_region
          all_goals
            go_wp2_with fail
            go_roundg (gk - 1)
            case measure => omega
            case rel =>
              refine ⟨t + 1, by omega, by go_num, ?_, ?_⟩
              · refine blk_drew ?_
                rw [wd_add, ← Hp.out, ← Hq.out]
                exact blk_put HE2.out t _ (mixSt_set _ _ _ hlt)
              · exact (HX2.out.setCell (p := ⟨w1.heap.size, t, none⟩) (Nat.le_refl _) _).drew
        · obtain rfl : t = 8 := by omega
          have c1 := stc_cell hb
          have c2 := stc_cell br
          have f2 := stc_free br
          have e8 : mixSt cur s 8 = next s b.data.toList := by rw [← Hcur.out]; rfl
          rw [e8] at c1
          generalize hnx : next s b.data.toList = nx at *
          have Hnx := Aside0.mk hnx
          have HBR := Aside0.mk br
          clear hb hx bs br hlt hnx e8
          go_wp2_with fail
          refine bodyPost_ret (v := .tuple #[stv nx, .int .i64 0]) (by unfold stv; simp [results, Tryd.results103, go_sem, c2]) rfl ⟨by rw [← Hnx.out]; rfl, ?_⟩
          exact below8 nx (HB3.out.trans (HX2.out.mono (by omega))) (by omega)

end Go.Proofs.YtomninikmcmmcaaDoor.Blk
end
section
/- Plain law of the digest: what a running digest holds behind a text, and that whatever pieces make the same (plain Lean). -/
namespace Go.Proofs.YtomninikmcmmcaaDoor.Sha
open Go.Proofs.Sp Go.Proofs.YtomninikmcmmcaaDoor.GivA Go.Proofs.YtomninikmcmmcaaDoor.Blk
set_option linter.unusedVariables false
/-- What comes of a state by so many blocks of a text. -/
def eat (s : St) (l : List UInt8) : Nat → St
  | 0 => s
  | k + 1 => next (eat s l k) ((l.drop (64 * k)).take 64)
theorem eat_append (s : St) (l t : List UInt8) : ∀ k, 64 * k ≤ l.length → eat s (l ++ t) k = eat s l k
  | 0, _ => rfl
  | k + 1, h => by
    rw [eat, eat, eat_append s l t k (by omega), List.drop_append_of_le_length (by omega), List.take_append_of_le_length (by rw [List.length_drop]; omega)]
theorem eat_add (s : St) (l : List UInt8) (i : Nat) : ∀ j, eat s l (i + j) = eat (eat s l i) (l.drop (64 * i)) j
  | 0 => rfl
  | j + 1 => by
    show next (eat s l (i + j)) _ = next (eat (eat s l i) (l.drop (64 * i)) j) _
    rw [eat_add s l i j, List.drop_drop, show 64 * i + 64 * j = 64 * (i + j) by omega]
    rfl
/-- The state behind the whole blocks of a text, and what is left of it. -/
def sT (m : ByteArray) : St := eat st0 m.data.toList (m.size / 64)
def rT (m : ByteArray) : ByteArray := m.extract (64 * (m.size / 64)) m.size
theorem data_size (m : ByteArray) : m.data.toList.length = m.size := by rw [Array.length_toList]; rfl
theorem extract_list (m : ByteArray) (a b : Nat) : (m.extract a b).data.toList = (m.data.toList.drop a).take (b - a) := by
  rw [ByteArray.data_extract, Array.toList_extract, List.extract_eq_take_drop]
theorem append_list (a b : ByteArray) : (a ++ b).data.toList = a.data.toList ++ b.data.toList := by
  rw [ByteArray.data_append, Array.toList_append]
theorem ext_list {a b : ByteArray} (h : a.data.toList = b.data.toList) : a = b := ByteArray.ext (Array.toList_inj.1 h)
theorem rT_list (m : ByteArray) : (rT m).data.toList = m.data.toList.drop (64 * (m.size / 64)) := by
  unfold rT
  rw [extract_list, List.take_of_length_le]
  rw [List.length_drop, data_size]
  omega
theorem rT_size (m : ByteArray) : (rT m).size = m.size - 64 * (m.size / 64) := by
  unfold rT
  rw [ByteArray.size_extract]
  omega
theorem rT_lt (m : ByteArray) : (rT m).size < 64 := by rw [rT_size]; omega
theorem cut_div (m t : ByteArray) : (m ++ t).size / 64 = m.size / 64 + (rT m ++ t).size / 64 := by
  rw [ByteArray.size_append, ByteArray.size_append, rT_size]
  omega
theorem sT_append (m t : ByteArray) : sT (m ++ t) = eat (sT m) (rT m ++ t).data.toList ((rT m ++ t).size / 64) := by
  unfold sT
  rw [cut_div, eat_add, append_list, eat_append st0 m.data.toList _ _ (by rw [data_size]; omega), List.drop_append_of_le_length (by rw [data_size]; omega), append_list, rT_list]
theorem rT_append (m t : ByteArray) : rT (m ++ t) = (rT m ++ t).extract (64 * ((rT m ++ t).size / 64)) (rT m ++ t).size := by
  apply ext_list
  rw [rT_list, cut_div, append_list, extract_list, append_list, rT_list, List.take_of_length_le (by rw [List.length_drop, List.length_append, List.length_drop, data_size, data_size, ByteArray.size_append, rT_size]; omega)]
  rw [show 64 * (m.size / 64 + (rT m ++ t).size / 64) = 64 * (m.size / 64) + 64 * ((rT m ++ t).size / 64) by omega, ← List.drop_drop, List.drop_append_of_le_length (by rw [data_size]; omega)]
theorem sT_empty : sT ByteArray.empty = st0 := rfl
/-- The bytes of a word, the greatest first; of a number of 64 bits; of a state. -/
def b4 (x : W32) : List UInt8 := [UInt8.ofNat (x.toNat / 16777216), UInt8.ofNat (x.toNat / 65536 % 256), UInt8.ofNat (x.toNat / 256 % 256), UInt8.ofNat (x.toNat % 256)]
def dgL (s : St) : List UInt8 := b4 s.a ++ b4 s.b ++ b4 s.c ++ b4 s.d ++ b4 s.e ++ b4 s.f ++ b4 s.g ++ b4 s.h
def dg (s : St) : ByteArray := ⟨(dgL s).toArray⟩
/-- What is put behind a text of n bytes. -/
def be8L (n : Nat) : List UInt8 := (List.range 8).map fun i => UInt8.ofNat (n / 2 ^ (56 - 8 * i) % 256)
def padL (n : Nat) : List UInt8 := 128 :: (List.replicate ((119 - n % 64) % 64) 0 ++ be8L (n * 8 % 18446744073709551616))
def pad (n : Nat) : ByteArray := ⟨(padL n).toArray⟩
theorem pad_size (n : Nat) : (pad n).size = 9 + (119 - n % 64) % 64 := by
  show (padL n).toArray.size = _
  simp [padL, be8L]; omega
/-- The digest of a text. -/
def sha (m : ByteArray) : ByteArray := dg (sT (m ++ pad m.size))
theorem sha_size (m : ByteArray) : (sha m).size = 32 := rfl
end Go.Proofs.YtomninikmcmmcaaDoor.Sha
end
