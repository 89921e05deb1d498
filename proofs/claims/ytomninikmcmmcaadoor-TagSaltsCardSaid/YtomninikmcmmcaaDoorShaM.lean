/- The running digest's methods, and the digest of a text: contracts. -/
import Derived.Test.YtomninikmcmmcaaDoorShaT
import Derived.Test.YtomninikmcmmcaaDoorShelfB
import Derived.Laws.NewBlocks
import Derived.Lib.AppendStr
import Derived.Lib.BufferRead
import Derived.Lib.SlBytesRow
namespace Go.Proofs.YtomninikmcmmcaaDoor.Sha
open Go Go.RowKit Go.Shelf Go.Proofs.YtomninikmcmmcaaDoor.Rng Go.Proofs.YtomninikmcmmcaaDoorW.PrintWords Go.Proofs.Sp Go.Proofs.YtomninikmcmmcaaDoor.Blk Go.Proofs.YtomninikmcmmcaaDoor.GivA Go.Proofs.YtomninikmcmmcaaDoor.PBw
set_option linter.unusedVariables false
set_option linter.unusedSimpArgs false
theorem first_calls (w : World) : Calls Tryd.prog 90 #[] w fun e w' => e = .returned (stv st0) ∧ Below w.heap.size w w' :=
  block_First.calls _ _ _ _ _ _ _ _ w rfl
set_option maxHeartbeats 2000000 in
set_option maxRecDepth 100000 in
theorem new_calls (w : World) : Calls Tryd.prog 75 #[] w fun e w' => ∃ p, e = .returned (.pointer (some ⟨p, 0, none⟩)) ∧ w.heap.size ≤ p ∧ ShaAt p ByteArray.empty w' ∧ Below w.heap.size w w' := by
  have HF := Aside0.mk (fun w => first_calls w)
  unfold stv at HF
  generalize hs : st0 = s0 at HF
  have HS := Aside0.mk hs
  clear hs
  go_enter Tryd.func75, Tryd.ntmps75
  go_wp2_with (go_at_call 90; refine (HF.out _).mono ?_; rintro e w1 ⟨rfl, hb1⟩)
  go_ret
  refine ⟨w1.heap.size, rfl, hb1.size, ?_, hb1.trans (((Below.refl _ _).alloc (Nat.le_refl _) _).mono hb1.size)⟩
  unfold ShaAt
  rw [sT_empty, HS.out]
  exact blk_new _ _
theorem none_calls (p : Nat) (m : ByteArray) (w : World) (h : ShaAt p m w) : Calls Tryd.prog 83 #[.pointer (some ⟨p, 0, none⟩)] w fun e w' => e = .returned (.bool false) ∧ w = w' := by
  have c0 : w.cell? ⟨p, 0, none⟩ = some (.bool true) := blk_cell' h 0
  clear h
  go_enter Tryd.func83, Tryd.ntmps83
  go_wp2
  go_ret
  exact ⟨rfl, rfl⟩
theorem len_calls (p : Nat) (m : ByteArray) (w : World) (h : ShaAt p m w) : Calls Tryd.prog 61 #[.pointer (some ⟨p, 0, none⟩)] w fun e w' => e = .returned (.int .u64 (m.size : Int)) ∧ w = w' := by
  have c10 : w.cell? ⟨p, 10, none⟩ = some (.int .u64 (m.size : Int)) := blk_cell' h 10
  have HN := Aside0.mk (none_calls p m w h)
  clear h
  go_enter Tryd.func61, Tryd.ntmps61
  go_wp2_with (go_at_call 83; refine HN.out.mono ?_; rintro e w1 ⟨rfl, rfl⟩)
  go_ret
  exact ⟨rfl, rfl⟩
set_option maxHeartbeats 2000000 in
theorem write_calls (p : Nat) (m t : ByteArray) (w : World) (hT : Tab w) (h : ShaAt p m w) (hs : m.size + t.size ≤ 4294967296) :
    Calls Tryd.prog 62 #[.pointer (some ⟨p, 0, none⟩), .string t] w fun e w' => e = .returned (.int .i64 0) ∧ ShaAt p (m ++ t) w' ∧ Touch p w w' := by
  have c10 : w.cell? ⟨p, 10, none⟩ = some (.int .u64 (m.size : Int)) := blk_cell' h 10
  have HN := Aside0.mk (none_calls p m w h)
  have HT := Aside0.mk (takes_calls p m t w hT h (by omega))
  clear h
  go_enter Tryd.func62, Tryd.ntmps62
  go_wp2_with (first | (go_at_call 83; refine HN.out.mono ?_; rintro e w1 ⟨rfl, rfl⟩) | (go_at_call 81; refine HT.out.mono ?_; rintro e w1 ⟨rfl, h1, h2⟩))
  go_ret
  exact ⟨rfl, h1, h2⟩
set_option maxHeartbeats 2000000 in
set_option maxRecDepth 100000 in
theorem copy_calls (p : Nat) (m : ByteArray) (w : World) (h : ShaAt p m w) : Calls Tryd.prog 63 #[.pointer (some ⟨p, 0, none⟩)] w fun e w' => e = .returned (.pointer (some ⟨w.heap.size, 0, none⟩)) ∧ ShaAt w.heap.size m w' ∧ Below w.heap.size w w' := by
  have hc := shaC_cells h
  clear h
  unfold ShaAt
  generalize sT m = s at *
  go_enter Tryd.func63, Tryd.ntmps63
  go_wp2
  go_ret
  exact ⟨rfl, blk_new _ _, (Below.refl _ _).alloc (Nat.le_refl _) _⟩
theorem byteCells_snoc (l : List UInt8) (c : UInt8) : Lib.byteCells l ++ [.int .u8 (c.toNat : Int)] = Lib.byteCells (l ++ [c]) := by simp [Lib.byteCells]
theorem byteCells_length (l : List UInt8) : (Lib.byteCells l).length = l.length := by simp [Lib.byteCells]
def padZ (n : Nat) : Nat := (119 - n % 64) % 64
def padA (j : Nat) : List UInt8 := 128 :: List.replicate j 0
theorem padA_succ (j : Nat) : padA j ++ [0] = padA (j + 1) := by
  unfold padA
  rw [List.cons_append, ← List.replicate_succ']
theorem padA_length (j : Nat) : (padA j).length = j + 1 := by simp [padA]
def padB (n i : Nat) : List UInt8 := padA (padZ n) ++ (be8L (n * 8)).take i
theorem be8L_length (n : Nat) : (be8L n).length = 8 := by simp [be8L]
theorem padB_succ (n i : Nat) (h : i < 8) : padB n i ++ [UInt8.ofNat (n * 8 / 2 ^ (56 - 8 * i) % 256)] = padB n (i + 1) := by
  unfold padB
  rw [List.append_assoc, List.take_succ_eq_append_getElem (by rw [be8L_length]; exact h)]
  simp [be8L]
theorem padB_length (n i : Nat) (h : i ≤ 8) : (padB n i).length = padZ n + 1 + i := by
  unfold padB
  rw [List.length_append, padA_length, List.length_take, be8L_length, Nat.min_eq_left h]
theorem padB_end (n : Nat) (h : n < 1152921504606846976) : padB n 8 = padL n := by
  unfold padB padL padA
  rw [List.take_of_length_le (by rw [be8L_length]; exact Nat.le_refl _), show n * 8 % 18446744073709551616 = n * 8 by omega]
  rfl
theorem byte_u8 (x : Nat) : ((UInt8.ofNat (x % 256)).toNat : Int) = ((x % 256 : Nat) : Int) := by rw [UInt8.toNat_ofNat']; omega
theorem pad_byte (n i : Nat) : ((UInt8.ofNat (n * 8 / 2 ^ (56 - 8 * i) % 256)).toNat : Int) = (n : Int) * 8 / 2 ^ (56 - 8 * i) % 256 := by
  rw [byte_u8]
  simp only [Int.natCast_emod, Int.natCast_ediv, Int.natCast_mul, Int.natCast_pow]
  rfl
set_option maxHeartbeats 2000000 in
set_option maxRecDepth 100000 in
theorem padding_calls (n : Nat) (hn : n < 1152921504606846976) (w : World) : Calls Tryd.prog 84 #[.int .u64 (n : Int)] w fun e w' => e = .returned (.string (pad n)) ∧ Below w.heap.size w w' := by
  have hz : (119 - (n : Int) % 64) % 64 = ((padZ n : Nat) : Int) := by unfold padZ; omega
  have hz2 : padZ n < 64 := by unfold padZ; omega
  have hf := Lib.IsBuilderF.of (Lib.fresh_isBuilder 121 5 w)
  have HE := Aside0.mk (padB_end n hn)
  have HP := Aside0.mk (show pad n = ⟨(padL n).toArray⟩ from rfl)
  have hb0 : Below w.heap.size w (w.alloc (.cells #[.pointer none, .slice none 0 0] 121)) := (Below.refl _ _).alloc (Nat.le_refl _) _
  have HB0 := Aside0.mk hb0
  have HF := Aside0.mk hf
  clear hb0 hf
  generalize pad n = res at *
  go_enter Tryd.func84, Tryd.ntmps84
  go_wp2_with fail
  refine (Tryd.Builder_WriteByte_b _ _ _ _ _ HF.out (by decide) (by simp)).mono ?_
  rintro e w1 ⟨rfl, h1, hb1, _⟩
  have G1 := Aside0.mk (show Lib.IsBuilderF 121 5 w.heap.size w.heap.size (Lib.byteCells (padA 0)) w1 from .inr h1)
  have B1 := Aside0.mk (HB0.out.trans hb1)
  clear h1 hb1
  go_wp2_with fail
  go_loopg [] (padZ n) (fun k wr => ∃ j : Nat, j + k = padZ n ∧ Lib.IsBuilderF 121 5 w.heap.size w.heap.size (Lib.byteCells (padA j)) wr ∧ Below w.heap.size w wr)
  case atStart => exact ⟨0, by omega, G1.out, B1.out⟩
  case round =>
    obtain ⟨j, hj, hI, hB⟩ := hrel
    have HI := Aside0.mk hI
    have HB := Aside0.mk hB
    have hlen := Aside0.mk (show (Lib.byteCells (padA j)).length = j + 1 by rw [byteCells_length, padA_length])
    clear hI hB
    by_cases hlt : j < padZ n
    · have HL := Aside0.mk (Tryd.Builder_Len_f _ _ _ _ HI.out)
      rw [hlen.out] at HL
      go_wp2_with (go_at_call 99; refine HL.out.mono ?_; rintro e w' ⟨rfl, rfl⟩)
      refine (Tryd.Builder_WriteByte_b _ _ _ _ _ HI.out (by rw [hlen.out]; omega) HB.out.size).mono ?_
      rintro e w2 ⟨rfl, h2, hb2, _⟩
      go_wp2_with fail
      go_roundg (gk - 1)
      case measure => omega
      case rel =>
        refine ⟨j + 1, by omega, .inr ?_, HB.out.trans hb2⟩
        rw [← padA_succ, ← byteCells_snoc]
        exact h2
    · obtain rfl : j = padZ n := by omega
      have HL := Aside0.mk (Tryd.Builder_Len_f _ _ _ _ HI.out)
      rw [hlen.out] at HL
      go_wp2_with (go_at_call 99; refine HL.out.mono ?_; rintro e w' ⟨rfl, rfl⟩)
      rw [hz]
      clear hz
      go_loopg [4] 8 (fun k v wr => ∃ i : Nat, i + k = 8 ∧ v = .int .i64 (56 - 8 * (i : Int)) ∧ Lib.IsBuilderF 121 5 w.heap.size w.heap.size (Lib.byteCells (padB n i)) wr ∧ Below w.heap.size w wr)
      case atStart => exact ⟨0, rfl, rfl, by rw [show padB n 0 = padA (padZ n) by simp [padB]]; exact HI.out, HB.out⟩
      case round =>
        clear HI HB hlen HL
        obtain ⟨i, hi, rfl, hI, hB⟩ := hrel
        have HI := Aside0.mk hI
        have HB := Aside0.mk hB
        have hlen := Aside0.mk (show i ≤ 8 → (Lib.byteCells (padB n i)).length = padZ n + 1 + i from fun h => by rw [byteCells_length, padB_length n i h])
        clear hI hB
        by_cases hlt2 : i < 8
        · go_wp2_with fail
          refine (Tryd.Builder_WriteByte_b _ _ _ _ _ HI.out (by rw [hlen.out (by omega)]; omega) HB.out.size).mono ?_
          rintro e w2 ⟨rfl, h2, hb2, _⟩
          go_wp2_with fail
          go_roundg (gk - 1)
          case measure => omega
          case rel =>
            refine ⟨i + 1, by omega, by go_num, .inr ?_, HB.out.trans hb2⟩
            rw [← padB_succ n i hlt2, ← byteCells_snoc, pad_byte]
            exact h2
        · obtain rfl : i = 8 := by omega
          have HS := Aside0.mk (Tryd.Builder_String_any_k _ _ _ _ HI.out HB.out.size)
          go_wp2_with fail
          refine HS.out.mono ?_
          rintro e w2 ⟨rfl, hb2, hb3, _⟩
          go_wp2_with fail
          go_ret
          refine ⟨?_, HB.out.trans hb3⟩
          rw [HP.out, HE.out]
          rfl
def dgT (s : St) : Nat → List UInt8
  | 0 => []
  | t + 1 => dgT s t ++ b4 (St.at s t)
theorem dgT_end (s : St) : dgT s 8 = dgL s := by simp [dgT, dgL, St.at]
theorem dgT_length (s : St) : ∀ t, (dgT s t).length = 4 * t
  | 0 => rfl
  | t + 1 => by
    have := dgT_length s t
    simp [dgT, b4, this]; omega
theorem index_st (s : St) (w : World) : ∀ (t : Nat) (ht : t < 8), (Instr.index 96 (.agg #[.int .u32 (wd s.a), .int .u32 (wd s.b), .int .u32 (wd s.c), .int .u32 (wd s.d), .int .u32 (wd s.e), .int .u32 (wd s.f), .int .u32 (wd s.g), .int .u32 (wd s.h)]) (.int .i64 (t : Int))).run Tryd.prog w = .ok (.int .u32 (wd (St.at s t))) w
  | 0, _ => by unfold Instr.index; go_simp; rfl
  | 1, _ => by unfold Instr.index; go_simp; rfl
  | 2, _ => by unfold Instr.index; go_simp; rfl
  | 3, _ => by unfold Instr.index; go_simp; rfl
  | 4, _ => by unfold Instr.index; go_simp; rfl
  | 5, _ => by unfold Instr.index; go_simp; rfl
  | 6, _ => by unfold Instr.index; go_simp; rfl
  | 7, _ => by unfold Instr.index; go_simp; rfl
theorem b4_cells (x : W32) : Lib.byteCells (b4 x) = [.int .u8 (wd x / 16777216), .int .u8 (wd x / 65536 % 256), .int .u8 (wd x / 256 % 256), .int .u8 (wd x % 256)] := by
  have hx := x.isLt
  unfold b4 Lib.byteCells wd
  simp only [List.map_cons, List.map_nil, UInt8.toNat_ofNat']
  have e1 : (((x.toNat / 16777216) % 2 ^ 8 : Nat) : Int) = (x.toNat : Int) / 16777216 := by omega
  have e2 : (((x.toNat / 65536 % 256) % 2 ^ 8 : Nat) : Int) = (x.toNat : Int) / 65536 % 256 := by omega
  have e3 : (((x.toNat / 256 % 256) % 2 ^ 8 : Nat) : Int) = (x.toNat : Int) / 256 % 256 := by omega
  have e4 : (((x.toNat % 256) % 2 ^ 8 : Nat) : Int) = (x.toNat : Int) % 256 := by omega
  rw [e1, e2, e3, e4]
/-- A row of bytes of one's own, as a text. -/
theorem own_conv {w : World} {B : Nat} {v : Value} {l : List UInt8} (hown : w.ownsRow B 5 1 v l.length (Lib.byteCells l)) : (convert 65 9 v).run Tryd.prog w = .ok (.string ⟨l.toArray⟩) w := by
  rcases hown.2 with ⟨rfl, h0⟩ | ⟨k, cap, cur, rfl, _⟩
  · have e : l = [] := by
      have : l.length = 0 := by simpa using h0
      exact List.length_eq_zero_iff.1 this
    subst e
    exact Lib.run_convert_nil_bytes w 65 9 5 0 Tryd.underlying65 Tryd.underlying5 Tryd.underlying9
  · have hsz : (⟨l.toArray⟩ : ByteArray).size = l.length := by show l.toArray.size = _; simp
    rw [← hsz]
    refine Lib.run_convert_whole w 65 5 9 Tryd.underlying65 Tryd.underlying5 Tryd.underlying9 k 0 ⟨l.toArray⟩ (fun j hj => ?_) cap
    have hj' : j < l.length := by rw [← hsz]; exact hj
    have hc := hown.cells (g := k) rfl j (.int .u8 ((l[j]'hj').toNat : Int)) (by simp [Lib.byteCells, hj'])
    rw [Nat.zero_add, show ((⟨l.toArray⟩ : ByteArray)[j]'hj) = l[j]'hj' from rfl]
    by_cases h0 : j = 0
    · subst h0; simpa [Addr.add] using hc
    · simpa [Addr.add, h0] using hc
set_option maxHeartbeats 2000000 in
set_option maxRecDepth 100000 in
theorem digest_calls (s : St) (w : World) : Calls Tryd.prog 85 #[stv s] w fun e w' => e = .returned (.string (dg s)) ∧ Below w.heap.size w w' := by
  obtain ⟨i0, hi, hz0, hz1, hz2⟩ := info_parts (P := Tryd.prog) (e := 5) (z := .int .u8 0) (size := 1) (bytes := 1) (by kernel_rfl)
  have HD := Aside0.mk (show dg s = ⟨(dgL s).toArray⟩ from rfl)
  generalize dg s = res at *
  have hb0 : Below w.heap.size w (w.alloc (.cells (stc s) 96)) := (Below.refl _ _).alloc (Nat.le_refl _) _
  have HB0 := Aside0.mk hb0
  clear hb0
  unfold stv
  go_enter Tryd.func85, Tryd.ntmps85
  go_wp2_with fail
  go_loopg [3, 7] 8 (fun k v i wr => ∃ t : Nat, t + k = 8 ∧ i = .int .i64 (t : Int) ∧ wr.ownsRow w.heap.size 5 1 v (dgT s t).length (Lib.byteCells (dgT s t)) ∧ Below w.heap.size w wr)
  case atStart => exact ⟨0, rfl, rfl, World.ownsRow_nil _ _ _ _, HB0.out⟩
  case round =>
    obtain ⟨t, ht, rfl, hown, hB⟩ := hrel
    have HB := Aside0.mk hB
    have hlen := Aside0.mk (dgT_length s t)
    have hsz := hB.size
    clear hB
    by_cases hlt : t < 8
    · have l1 : (t : Int) < 8 := by omega
      have hix := fun W => index_st s W t hlt
      have HX := Aside0.mk (show dgT s (t + 1) = dgT s t ++ b4 (St.at s t) from rfl)
      generalize St.at s t = x at *
      have HC := Aside0.mk (b4_cells x)
      have x0 := wd_nonneg x
      have x1 := wd_lt x
      go_wp2_with (at_builtin; refine wpList_append_own _ rfl _ _ 65 rfl w.heap.size 5 i0 (.int .u8 0) 1 1 Tryd.underlying65 hi hz0 hz1 hz2 rfl (by decide) _ _ _ rfl (hown.alloc _) ⟨wr.heap.size, 0, none⟩ 4 4 [.int .u8 (wd x / 16777216), .int .u8 (wd x / 65536 % 256), .int .u8 (wd x / 256 % 256), .int .u8 (wd x % 256)] rfl rfl ?c1 ?c2 ?c3 ?c4 ?c5 ?_)
      case c1 =>
        intro j u hj
        match j, hj with
        | 0, hj => simp at hj; subst hj; simp [Addr.add]
        | 1, hj => simp at hj; subst hj; simp [Addr.add]
        | 2, hj => simp at hj; subst hj; simp [Addr.add]
        | 3, hj => simp at hj; subst hj; simp [Addr.add]
      case c2 => intro u hu; simp at hu; rcases hu with rfl | rfl | rfl | rfl <;> rfl
      case c3 => unfold maxLen; rw [hlen.out]; omega
      case c4 => rw [hlen.out]; omega
      case c5 => simp; omega
      intro v' w1 hown' hgrow _
      obtain ⟨ao, n', cap', rfl⟩ : ∃ ao n' cap, v' = .slice ao n' cap := by
        rcases hown'.2 with ⟨hv, _⟩ | ⟨k, cap, cur, hv, _⟩
        · exact ⟨_, _, _, hv⟩
        · exact ⟨_, _, _, hv⟩
      have HO := Aside0.mk hown'
      have HG := Aside0.mk hgrow
      have HW := Aside0.mk hown
      clear hown' hgrow hown
      go_wp2_with fail
      go_roundg (gk - 1)
      case measure => omega
      case rel =>
        refine ⟨t + 1, by omega, by go_num, ?_, ?_⟩
        · have h1 := HO.out
          rw [← HC.out] at h1
          rw [HX.out, List.length_append, show (b4 x).length = 4 from rfl, show Lib.byteCells (dgT s t ++ b4 x) = Lib.byteCells (dgT s t) ++ Lib.byteCells (b4 x) by simp [Lib.byteCells]]
          exact h1
        · exact (HB.out.alloc hsz _).grown HG.out (by simp; omega) (fun k hk => (HW.out.lt k hk).1)
    · obtain rfl : t = 8 := by omega
      have hconv := own_conv (l := dgT s 8) hown
      rw [dgT_end, ← HD.out] at hconv
      go_wp2_with fail
      go_ret
      exact ⟨rfl, HB.out⟩
set_option maxHeartbeats 2000000 in
set_option maxRecDepth 100000 in
theorem sum_calls (p : Nat) (m : ByteArray) (w : World) (hT : Tab w) (h : ShaAt p m w) (hs : m.size ≤ 549755813888) :
    Calls Tryd.prog 60 #[.pointer (some ⟨p, 0, none⟩)] w fun e w' => e = .returned (.tuple #[.string (sha m), .int .i64 0]) ∧ Below w.heap.size w w' := by
  have HN := Aside0.mk (none_calls p m w h)
  have HC := Aside0.mk (copy_calls p m w h)
  have HS := Aside0.mk h
  have HT := Aside0.mk hT
  clear h hT
  go_enter Tryd.func60, Tryd.ntmps60
  go_wp2_with (go_at_call 83; refine HN.out.mono ?_; rintro e w1 ⟨rfl, rfl⟩)
  refine HC.out.mono ?_
  rintro e w1 ⟨rfl, h1, hb1⟩
  have c10 : w1.cell? ⟨p, 10, none⟩ = some (.int .u64 (m.size : Int)) := blk_cell' (blk_below HS.out hb1) 10
  have H1 := Aside0.mk h1
  have HB1 := Aside0.mk hb1
  clear h1 hb1
  go_wp2_with fail
  refine (padding_calls m.size (by omega) _).mono ?_
  rintro e w2 ⟨rfl, hb2⟩
  have H2 := Aside0.mk (show ShaAt w.heap.size m w2 from blk_below H1.out hb2)
  have HB2 := Aside0.mk (HB1.out.trans (hb2.mono HB1.out.size))
  have HTk := Aside0.mk (takes_calls w.heap.size m (pad m.size) w2 (HT.out.keep HB2.out) H2.out (by rw [pad_size]; omega))
  clear hb2
  go_wp2_with fail
  refine HTk.out.mono ?_
  rintro e w3 ⟨rfl, h3, t3⟩
  have HB3 := Aside0.mk (t3.below HB2.out (Nat.le_refl _) HB2.out.size)
  have hc := shaC_cells h3
  have HSH := Aside0.mk (show sha m = dg (sT (m ++ pad m.size)) from rfl)
  clear h3 t3
  generalize sT (m ++ pad m.size) = s at *
  have HD := Aside0.mk (show ∀ w, Calls Tryd.prog 85 #[.agg #[.int .u32 (wd s.a), .int .u32 (wd s.b), .int .u32 (wd s.c), .int .u32 (wd s.d), .int .u32 (wd s.e), .int .u32 (wd s.f), .int .u32 (wd s.g), .int .u32 (wd s.h)]] w fun e w' => e = .returned (.string (dg s)) ∧ Below w.heap.size w w' from fun w => digest_calls s w)
  go_wp2_with fail
  refine (HD.out _).mono ?_
  rintro e w4 ⟨rfl, hb4⟩
  go_wp2_with fail
  go_ret2
  exact ⟨by rw [HSH.out]; rfl, HB3.out.trans (hb4.mono HB3.out.size)⟩
set_option maxHeartbeats 2000000 in
set_option maxRecDepth 100000 in
theorem shasum_calls (m : ByteArray) (w : World) (hT : Tab w) (hs : m.size ≤ 549755813888) :
    Calls Tryd.prog 49 #[.string m] w fun e w' => e = .returned (.string (sha m)) ∧ Below w.heap.size w w' := by
  have HN := Aside0.mk (new_calls w)
  have HT := Aside0.mk hT
  clear hT
  go_enter Tryd.func49, Tryd.ntmps49
  go_wp2_with (go_at_call 75; refine HN.out.mono ?_; rintro e w1 ⟨p, rfl, hp, h1, hb1⟩)
  have HTk := Aside0.mk (takes_calls p ByteArray.empty m w1 (HT.out.keep hb1) h1 (by show 0 + m.size ≤ _; omega))
  have HP := Aside0.mk hp
  have HB1 := Aside0.mk hb1
  clear h1 hb1 hp
  refine HTk.out.mono ?_
  rintro e w2 ⟨rfl, h2, t2⟩
  rw [show ByteArray.empty ++ m = m by apply ext_list; rw [append_list]; rfl] at h2
  have HB2 := Aside0.mk (t2.below HB1.out HP.out HB1.out.size)
  have HS := Aside0.mk (sum_calls p m w2 (HT.out.keep HB2.out) h2 hs)
  clear h2 t2
  go_wp2_with fail
  refine HS.out.mono ?_
  rintro e w3 ⟨rfl, hb3⟩
  go_wp2_with fail
  go_ret
  exact ⟨rfl, HB2.out.trans (hb3.mono HB2.out.size)⟩
end Go.Proofs.YtomninikmcmmcaaDoor.Sha
