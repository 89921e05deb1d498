/- Texts of this session, put together: RefP, RefS. -/
import Derived.Test.YtomninikmcmmcaaDoorPRpA
import Derived.Test.YtomninikmcmmcaaDoorShaM
section
/- The reference's padding is the program's (plain Lean over the printed function). -/
namespace Go.Proofs.YtomninikmcmmcaaDoor.Sha
open Go Go.RowKit Go.Proofs.YtomninikmcmmcaaDoor.PRp Go.Proofs.YtomninikmcmmcaaDoorW.PrintWords
set_option linter.unusedVariables false
def padAi (j : Nat) : List Int := 128 :: List.replicate j 0
def tl (N : Nat) : Nat → List Int
  | 0 => []
  | i + 1 => ((N / 256 ^ i % 256 : Nat) : Int) :: tl N i
theorem tl_length (N : Nat) : ∀ i, (tl N i).length = i
  | 0 => rfl
  | i + 1 => by simp [tl, tl_length N i]
theorem tl_end (N : Nat) : tl N 8 = (be8L N).map fun c => (c.toNat : Int) := by
  simp only [tl, be8L, List.range, List.range.loop, List.map_cons, List.map_nil, UInt8.toNat_ofNat']
  simp only [Nat.reducePow, Nat.reduceSub, Nat.reduceMul, Nat.mod_mod, Nat.div_one]
theorem refpad_tail (x3 : List Int) (hx : x3.length < 1000) (N : Nat) (hN : N < 18446744073709551616) (d : Nat) : ∀ (k i : Nat), i + d = 8 → d < k →
    paymasterref05_Padding.l1 k x3 ((N / 256 ^ i : Nat) : Int) (tl N i) (i : Int) = some (strOfNums (x3 ++ tl N 8)) := by
  induction d with
  | zero =>
    intro k i hi hk
    obtain ⟨k, rfl⟩ : ∃ m, k = m + 1 := ⟨k - 1, by omega⟩
    obtain rfl : i = 8 := by omega
    rw [paymasterref05_Padding.l1, if_neg (by decide), if_pos (by rw [tl_length]; omega)]
  | succ d ih =>
    intro k i hi hk
    obtain ⟨k, rfl⟩ : ∃ m, k = m + 1 := ⟨k - 1, by omega⟩
    have hq : N / 256 ^ i < 18446744073709551616 := Nat.lt_of_le_of_lt (Nat.div_le_self _ _) hN
    have e1 : wrap64 ((i : Int) + 1) = ((i + 1 : Nat) : Int) := by unfold wrap64; omega
    have e2 : (Int.tmod ((N / 256 ^ i : Nat) : Int) 256) % 256 = ((N / 256 ^ i % 256 : Nat) : Int) := by
      rw [Int.tmod_eq_emod_of_nonneg (Int.natCast_nonneg _)]; omega
    have e3 : IntKind.u64.wrap (Int.tdiv ((N / 256 ^ i : Nat) : Int) 256) = ((N / 256 ^ (i + 1) : Nat) : Int) := by
      rw [Int.tdiv_eq_ediv_of_nonneg (Int.natCast_nonneg _), Nat.pow_succ, ← Nat.div_div_eq_div_mul]
      simp only [IntKind.wrap, IntKind.bits, IntKind.signed]
      generalize N / 256 ^ i = q at *
      have : ((q : Int) / 256) = ((q / 256 : Nat) : Int) := by omega
      rw [this]
      show ((q / 256 : Nat) : Int) % (2 ^ 64) = _
      omega
    rw [paymasterref05_Padding.l1, if_pos (by omega), e1, e2, e3, Option.bind_some, if_pos (by simp [tl_length]; omega)]
    exact ih k (i + 1) (by omega) (by omega)
theorem strOf_bytes (l : List UInt8) : strOfNums (l.map fun b => (b.toNat : Int)) = ⟨l.toArray⟩ := by
  unfold strOfNums
  congr 1
  rw [List.map_map]
  congr 1
  conv => rhs; rw [← List.map_id l]
  apply List.map_congr_left
  intro b _
  simp
theorem padAi_map (j : Nat) : padAi j = (padA j).map fun c => (c.toNat : Int) := by simp [padAi, padA]
theorem refpad_head (n : Nat) (hn : n < 1099511627776) (d : Nat) : ∀ (k j : Nat), j + d = padZ n → d + 20 < k → paymasterref05_Padding.l0 k (n : Int) (padAi j) = some (pad n) := by
  have hz2 : padZ n < 64 := by unfold padZ; omega
  have hl : ∀ j : Nat, (padAi j).length = j + 1 := fun j => by simp [padAi]
  have hw : ∀ j : Nat, j < 1000 → Int.tmod (IntKind.u64.wrap ((n : Int) + IntKind.u64.wrap ((padAi j).length : Int))) 64 = ((n + j + 1) % 64 : Nat) := fun j hj => by
    rw [hl]
    have a1 : IntKind.u64.wrap ((j + 1 : Nat) : Int) = ((j + 1 : Nat) : Int) := by simp only [IntKind.wrap, IntKind.bits, IntKind.signed]; show ((j + 1 : Nat) : Int) % (2 ^ 64) = _; omega
    have a2 : IntKind.u64.wrap ((n : Int) + ((j + 1 : Nat) : Int)) = ((n + j + 1 : Nat) : Int) := by simp only [IntKind.wrap, IntKind.bits, IntKind.signed]; show ((n : Int) + ((j + 1 : Nat) : Int)) % (2 ^ 64) = _; omega
    rw [a1, a2, Int.tmod_eq_emod_of_nonneg (by omega)]
    omega
  induction d with
  | zero =>
    intro k j hj hk
    obtain ⟨k, rfl⟩ : ∃ m, k = m + 1 := ⟨k - 1, by omega⟩
    obtain rfl : j = padZ n := by omega
    have e0 : (n + padZ n + 1) % 64 = 56 := by unfold padZ; omega
    have e8 : IntKind.u64.wrap ((n : Int) * 8) = ((n * 8 / 256 ^ 0 : Nat) : Int) := by simp only [IntKind.wrap, IntKind.bits, IntKind.signed]; show ((n : Int) * 8) % (2 ^ 64) = _; rw [Nat.pow_zero, Nat.div_one]; omega
    rw [paymasterref05_Padding.l0, if_pos (by rw [hw _ (by omega), e0]; rfl), e8]
    have h := refpad_tail (padAi (padZ n)) (by rw [hl]; omega) (n * 8) (by omega) 8 k 0 rfl (by omega)
    rw [show ((0 : Nat) : Int) = 0 from rfl, show tl (n * 8) 0 = [] from rfl] at h
    rw [h, tl_end, padAi_map, ← List.map_append, strOf_bytes]
    have e9 : padA (padZ n) ++ be8L (n * 8) = padL n := by
      rw [← padB_end n (by omega)]
      unfold padB
      rw [List.take_of_length_le (by rw [be8L_length]; exact Nat.le_refl _)]
    rw [e9]
    rfl
  | succ d ih =>
    intro k j hj hk
    obtain ⟨k, rfl⟩ : ∃ m, k = m + 1 := ⟨k - 1, by omega⟩
    have e0 : (n + j + 1) % 64 ≠ 56 := by unfold padZ at hj; omega
    rw [paymasterref05_Padding.l0, if_neg (by rw [hw _ (by omega)]; omega), if_pos (by rw [hl]; omega)]
    have e1 : padAi j ++ [0] = padAi (j + 1) := by unfold padAi; rw [List.cons_append, ← List.replicate_succ']
    rw [e1]
    exact ih k (j + 1) (by omega) (by omega)
theorem refpad_some (n : Nat) (hn : n < 1099511627776) (k : Nat) (hk : 100 < k) : paymasterref05_Padding.f k (n : Int) = some (pad n) := by
  have : padZ n < 64 := by unfold padZ; omega
  exact refpad_head n hn (padZ n) k 0 (by omega) (by omega)
end Go.Proofs.YtomninikmcmmcaaDoor.Sha
end
section
/- The reference's digest: contract. -/
namespace Go.Proofs.YtomninikmcmmcaaDoor.Sha
open Go Go.RowKit Go.Proofs.YtomninikmcmmcaaDoor.PRp Go.Proofs.YtomninikmcmmcaaDoor.PBw Go.Proofs.YtomninikmcmmcaaDoorW.PrintWords Go.Proofs.Sp Go.Proofs.YtomninikmcmmcaaDoor.Blk Go.Proofs.YtomninikmcmmcaaDoor.GivA
set_option linter.unusedVariables false
set_option linter.unusedSimpArgs false
theorem refpad_calls (n : Nat) (hn : n < 1099511627776) (w : World) : Calls Tryd.prog 91 #[.int .u64 (n : Int)] w fun e w' => e = .returned (.string (pad n)) ∧ Below w.heap.size w w' :=
  paymasterref05_Padding.calls 101 n _ w (refpad_some n hn 101 (by decide))
theorem quick_ext (s : St) (b : ByteArray) (h64 : b.size = 64) (w : World) (BT oT cT : Nat) (hcT : 64 ≤ cT) (hBT : BT < w.heap.size) (hcell : ∀ (t : Nat), t < 64 → w.cell? ⟨BT, oT + t, none⟩ = some (.int .u32 (wd (kws t)))) :
    Calls Tryd.prog 94 #[.agg #[.int .u32 (wd s.a), .int .u32 (wd s.b), .int .u32 (wd s.c), .int .u32 (wd s.d), .int .u32 (wd s.e), .int .u32 (wd s.f), .int .u32 (wd s.g), .int .u32 (wd s.h)], .string b, .slice (some ⟨BT, oT, none⟩) 64 cT] w
      fun e w' => e = .returned (.agg #[.int .u32 (wd (next s b.data.toList).a), .int .u32 (wd (next s b.data.toList).b), .int .u32 (wd (next s b.data.toList).c), .int .u32 (wd (next s b.data.toList).d), .int .u32 (wd (next s b.data.toList).e), .int .u32 (wd (next s b.data.toList).f), .int .u32 (wd (next s b.data.toList).g), .int .u32 (wd (next s b.data.toList).h)]) ∧ Below w.heap.size w w' :=
  quick_calls s b h64 w BT oT cT hcT hBT hcell
def v8 (s s2 : St) (all : ByteArray) (i BT oT cT : Nat) : Nat → Value
  | 0 => .agg #[.int .u32 (wd s.a), .int .u32 (wd s.b), .int .u32 (wd s.c), .int .u32 (wd s.d), .int .u32 (wd s.e), .int .u32 (wd s.f), .int .u32 (wd s.g), .int .u32 (wd s.h)]
  | 1 => .string all
  | 2 => .int .i64 (64 * (i : Int))
  | 3 => .int .i64 (64 * (i : Int))
  | 4 => .int .i64 (64 * (i : Int) + 64)
  | 5 => .string (all.extract (64 * i) (64 * i + 64))
  | 6 => .slice (some ⟨BT, oT, none⟩) 64 cT
  | 7 => .agg #[.int .u32 (wd s2.a), .int .u32 (wd s2.b), .int .u32 (wd s2.c), .int .u32 (wd s2.d), .int .u32 (wd s2.e), .int .u32 (wd s2.f), .int .u32 (wd s2.g), .int .u32 (wd s2.h)]
  | _ => undef
set_option maxHeartbeats 4000000 in
set_option maxRecDepth 100000 in
theorem refsum_calls (m : ByteArray) (w : World) (hs : m.size ≤ 549755813888) :
    Calls Tryd.prog 77 #[.string m] w fun e w' => e = .returned (.string (sha m)) ∧ Below w.heap.size w w' := by
  have HP := Aside0.mk (fun w => refpad_calls m.size (by omega) w)
  have hps := pad_size m.size
  have HS := Aside0.mk (fun w => start_calls w)
  have HSH := Aside0.mk (show sha m = dg (eat st0 (m ++ pad m.size).data.toList ((m ++ pad m.size).size / 64)) from rfl)
  have HE0 := Aside0.mk (show eat st0 (m ++ pad m.size).data.toList 0 = st0 from rfl)
  have has : (m ++ pad m.size).size = m.size + (pad m.size).size := ByteArray.size_append
  generalize sha m = res at *
  generalize hal : m ++ pad m.size = all at *
  unfold stv at HS
  generalize hst : st0 = s0 at *
  have HAL := Aside0.mk hal
  have hall : all.size ≤ 1099511627776 := by omega
  have hps2 : m.size + (pad m.size).size ≤ 1099511627776 := by omega
  clear hal hst has hps
  go_enter Tryd.func77, Tryd.ntmps77
  go_wp2_with fail
  refine (HP.out _).mono ?_
  rintro e w1 ⟨rfl, hb1⟩
  have HB1 := Aside0.mk hb1
  clear hb1
  go_wp2_with fail
  rw [HAL.out]
  refine (table_calls _).mono ?_
  rintro e w2 ⟨BT, oT, cT, rfl, h1, h2, h3, hb2⟩
  have HBT := Aside0.mk h2
  have HCT := Aside0.mk h1
  have HC := Aside0.mk h3
  have HB2 := Aside0.mk (HB1.out.trans (hb2.mono HB1.out.size))
  clear h1 h2 h3 hb2
  go_wp2_with fail
  refine (HS.out _).mono ?_
  rintro e w3 ⟨rfl, hb3⟩
  have HB3 := Aside0.mk (HB2.out.trans (hb3.mono HB2.out.size))
  have HC3 := Aside0.mk (fun t ht => (hb3.cell (p := ⟨BT, oT + t, none⟩) HBT.out).trans (HC.out t ht))
  have HBT3 := Aside0.mk (Nat.lt_of_lt_of_le HBT.out hb3.size)
  clear hb3
  go_wp2_with fail
  have g0 : (w3.alloc (.cells (stc s0) 95)).heap[w3.heap.size]? = some (.cells (stc (eat s0 all.data.toList 0)) 95 (0, 0)) := by rw [HE0.out]; exact blk_new w3 _
  have G0 := Aside0.mk g0
  have hb4 : Below w3.heap.size w3 (w3.alloc (.cells (stc s0) 95)) := (Below.refl _ _).alloc (Nat.le_refl _) _
  have HB4 := Aside0.mk hb4
  clear g0 hb4
  go_loopg [6] (all.size / 64) (fun k v wr => ∃ i : Nat, i + k = all.size / 64 ∧ v = .int .i64 (64 * (i : Int)) ∧ wr.heap[w3.heap.size]? = some (.cells (stc (eat s0 all.data.toList i)) 95 (0, 0)) ∧ Below w3.heap.size w3 wr)
  case atStart => exact ⟨0, by omega, rfl, G0.out, HB4.out⟩
  case round =>
    obtain ⟨i, hi, rfl, hst, hB⟩ := hrel
    have H3 := Aside0.mk hst
    have HBr := Aside0.mk hB
    have hrs := hB.size
    clear hst hB
    by_cases hlt : i < all.size / 64
    · have b1 : 64 * (i : Int) + 64 ≤ all.size := by omega
      have b2 : 64 * i + 64 ≤ all.size := by omega
      have hxs : (all.extract (64 * i) (64 * i + 64)).size = 64 := by rw [ByteArray.size_extract]; omega
      have HN := Aside0.mk (show eat s0 all.data.toList (i + 1) = next (eat s0 all.data.toList i) (all.extract (64 * i) (64 * i + 64)).data.toList by
        rw [eat, extract_list]; congr 2; omega)
      generalize eat s0 all.data.toList i = s at *
      have HQ := Aside0.mk (fun W h1 h2 => quick_ext s (all.extract (64 * i) (64 * i + 64)) hxs W BT oT cT HCT.out h1 h2)
      rw [← HN.out] at HQ
      generalize hs2 : eat s0 all.data.toList (i + 1) = s2 at *
      have HS2 := Aside0.mk hs2
      clear hs2 hxs
      have HBT := Aside0.mk (Nat.lt_of_lt_of_le HBT3.out HBr.out.size)
      have HC3 := Aside0.mk (fun t ht => (HBr.out.cell (p := ⟨BT, oT + t, none⟩) HBT3.out).trans (HC3.out t ht))
      go_wp2_with fail
      refine Rel.region_rel [] (fun _ => .cells #[] 0 (0, 0)) (fun j v _ => v = v8 s s2 all i BT oT cT j) 8 [] (by kernel_rfl) (by kernel_rfl) (by decide) (fun i hi => by cases hi) (fun _ _ _ _ h _ => h) (fun i hi => by cases hi) ?_ ?_
      · simp only [List.take_succ_cons, List.take_zero]
        refine ⟨?_, ?_, ?_, ?_, ?_, ?_, ?_, ?_, trivial⟩
        · refine Rel.Upon.of [] (by kernel_rfl) ?_
          intro vals z hb hN hd
          have hz := stcT_cell (blk_below H3.out hb)
          simp only [Rel.rp]
          go_wp2_with fail
          exact ⟨Below.refl _ _, rfl⟩
        · refine Rel.Upon.of [] (by kernel_rfl) ?_
          intro vals z hb hN hd
          simp only [Rel.rp]
          go_wp2_with fail
          exact ⟨Below.refl _ _, rfl⟩
        · refine Rel.Upon.of [] (by kernel_rfl) ?_
          intro vals z hb hN hd
          simp only [Rel.rp]
          go_wp2_with fail
          exact ⟨Below.refl _ _, rfl⟩
        · refine Rel.Upon.of [] (by kernel_rfl) ?_
          intro vals z hb hN hd
          simp only [Rel.rp]
          go_wp2_with fail
          exact ⟨Below.refl _ _, rfl⟩
        · refine Rel.Upon.of [3] (by kernel_rfl) ?_
          intro vals z hb hN hd
          simp only [Rel.ra] at hd
          have d3 := hd
          replace d3 : vals 3 = .int .i64 (64 * (i : Int)) := d3
          have b1 : 64 * (i : Int) + 64 ≤ all.size := by omega
          simp only [Rel.rp, d3]
          go_wp2_with fail
          exact ⟨Below.refl _ _, rfl⟩
        · refine Rel.Upon.of [1, 2, 4] (by kernel_rfl) ?_
          intro vals z hb hN hd
          simp only [Rel.ra] at hd
          obtain ⟨d1, d2, d4⟩ := hd
          replace d1 : vals 1 = .string all := d1
          replace d2 : vals 2 = .int .i64 (64 * (i : Int)) := d2
          replace d4 : vals 4 = .int .i64 (64 * (i : Int) + 64) := d4
          have b1 : 64 * (i : Int) + 64 ≤ all.size := by omega
          have b2 : 64 * i + 64 ≤ all.size := by omega
          have b3 : 0 ≤ 64 * (i : Int) := by omega
          have b5 : 0 ≤ 64 * (i : Int) + 64 := by omega
          have b6 : 64 * (i : Int) ≤ 64 * (i : Int) + 64 := by omega
          have b7 : (64 * (i : Int)).toNat = 64 * i := by omega
          have b8 : (64 * (i : Int) + 64).toNat = 64 * i + 64 := by omega
          simp only [Rel.rp, d1, d2, d4]
          go_wp2_with fail
          exact ⟨Below.refl _ _, rfl⟩
        · refine Rel.Upon.of [] (by kernel_rfl) ?_
          intro vals z hb hN hd
          simp only [Rel.rp]
          go_wp2_with fail
          exact ⟨Below.refl _ _, rfl⟩
        · refine Rel.Upon.of [0, 5, 6] (by kernel_rfl) ?_
          intro vals z hb hN hd
          simp only [Rel.ra] at hd
          obtain ⟨d0, d5, d6⟩ := hd
          replace d0 : vals 0 = .agg #[.int .u32 (wd s.a), .int .u32 (wd s.b), .int .u32 (wd s.c), .int .u32 (wd s.d), .int .u32 (wd s.e), .int .u32 (wd s.f), .int .u32 (wd s.g), .int .u32 (wd s.h)] := d0
          replace d5 : vals 5 = .string (all.extract (64 * i) (64 * i + 64)) := d5
          replace d6 : vals 6 = .slice (some ⟨BT, oT, none⟩) 64 cT := d6
          simp only [Rel.rp, d0, d5, d6]
          go_wp2_with fail
          refine (HQ.out z (Nat.lt_of_lt_of_le HBT.out hb.size) (fun t ht => (hb.cell (p := ⟨BT, oT + t, none⟩) HBT.out).trans (HC3.out t ht))).mono ?_
          rintro e z2 ⟨rfl, hb2⟩
          go_wp2_with fail
          first | exact ⟨hb2, rfl⟩ | rfl
      · intro vals w6 hb6 hN hrel _
        have d7 : vals 7 = .agg #[.int .u32 (wd s2.a), .int .u32 (wd s2.b), .int .u32 (wd s2.c), .int .u32 (wd s2.d), .int .u32 (wd s2.e), .int .u32 (wd s2.f), .int .u32 (wd s2.g), .int .u32 (wd s2.h)] := hrel 7 (by decide)
        simp only [List.drop_succ_cons, List.drop_zero]
        rw [show List.range 8 = [0, 1, 2, 3, 4, 5, 6, 7] from rfl]
        generalize e0 : vals 0 = u0
        generalize e1 : vals 1 = u1
        generalize e2 : vals 2 = u2
        generalize e3 : vals 3 = u3
        generalize e4 : vals 4 = u4
        generalize e5 : vals 5 = u5
        generalize e6 : vals 6 = u6
        simp only [Rel.rp, d7, e0, e1, e2, e3, e4, e5, e6]
        have k1 := blk_below H3.out hb6
        have f6 := stcT_free k1
        have hc6 := stcT_cell k1
        clear hrel
        go_wp2_with fail
        go_roundg (gk - 1)
        case measure => omega
        case rel => 
          refine ⟨i + 1, by omega, by go_num, ?_, ?_⟩
          · rw [HS2.out]
            exact put8V_self s2 k1
          · exact put8V_below s2 (HBr.out.trans (hb6.mono HBr.out.size)) (Nat.le_refl _)
    · obtain rfl : i = all.size / 64 := by omega
      obtain ⟨i0, hi0, hz0, hz1, hz2⟩ := info_parts (P := Tryd.prog) (e := 5) (z := .int .u8 0) (size := 1) (bytes := 1) (by kernel_rfl)
      have HSH2 := Aside0.mk HSH.out
      generalize eat s0 all.data.toList (all.size / 64) = s at *
      obtain ⟨wo, hwo⟩ : ∃ wo : World, wo = wr := ⟨_, rfl⟩
      subst hwo
      have hSB : w3.heap.size < wo.heap.size := blk_lt H3.out
      have HSB := Aside0.mk hSB
      clear hrs
      go_wp2_with fail
      go_loopg [7, 8] 8 (fun k v i wr => ∃ t : Nat, t + k = 8 ∧ i = .int .i64 (t : Int) ∧ wr.ownsRow wo.heap.size 5 1 v (dgT s t).length (Lib.byteCells (dgT s t)) ∧ Below wo.heap.size wo wr)
      case atStart => exact ⟨0, rfl, rfl, World.ownsRow_nil _ _ _ _, Below.refl _ _⟩
      case round =>
        obtain ⟨t, ht, rfl, hown, hB⟩ := hrel
        have HB := Aside0.mk hB
        have hlen := Aside0.mk (dgT_length s t)
        have hsz := hB.size
        by_cases hlt : t < 8
        · have l1 : (t : Int) < 8 := by omega
          have hct := stcT_at (blk_below H3.out hB) t hlt
          have HX := Aside0.mk (show dgT s (t + 1) = dgT s t ++ b4 (St.at s t) from rfl)
          generalize St.at s t = x at *
          have HC := Aside0.mk (b4_cells x)
          have x0 := wd_nonneg x
          have x1 := wd_lt x
          clear hB
          go_wp2_with (at_builtin; refine wpList_append_own _ rfl _ _ 65 rfl wo.heap.size 5 i0 (.int .u8 0) 1 1 Tryd.underlying65 hi0 hz0 hz1 hz2 rfl (by decide) _ _ _ rfl (hown.alloc _) ⟨wr.heap.size, 0, none⟩ 4 4 [.int .u8 (wd x / 16777216), .int .u8 (wd x / 65536 % 256), .int .u8 (wd x / 256 % 256), .int .u8 (wd x % 256)] rfl rfl ?c1 ?c2 ?c3 ?c4 ?c5 ?_)
          case c1 =>
            intro j u hj
            match j, hj with
            | 0, hj => simp at hj; subst hj; simp [Addr.add]
            | 1, hj => simp at hj; subst hj; simp [Addr.add]
            | 2, hj => simp at hj; subst hj; simp [Addr.add]
            | 3, hj => simp at hj; subst hj; simp [Addr.add]
          case c2 => intro u hu; simp at hu; rcases hu with rfl | rfl | rfl | rfl <;> rfl
          case c3 => unfold maxLen; rw [hlen.out]; omega
          case c4 => rw [hlen.out]; omega
          case c5 => simp; omega
          intro v' w1 hown' hgrow _
          obtain ⟨ao, n', cap', rfl⟩ : ∃ ao n' cap, v' = .slice ao n' cap := by
            rcases hown'.2 with ⟨hv, _⟩ | ⟨k, cap, cur, hv, _⟩
            · exact ⟨_, _, _, hv⟩
            · exact ⟨_, _, _, hv⟩
          have HO := Aside0.mk hown'
          have HG := Aside0.mk hgrow
          have HW := Aside0.mk hown
          clear hown' hgrow hown
          go_wp2_with fail
          go_roundg (gk - 1)
          case measure => omega
          case rel =>
            refine ⟨t + 1, by omega, by go_num, ?_, ?_⟩
            · have h1 := HO.out
              rw [← HC.out] at h1
              rw [HX.out, List.length_append, show (b4 x).length = 4 from rfl, show Lib.byteCells (dgT s t ++ b4 x) = Lib.byteCells (dgT s t) ++ Lib.byteCells (b4 x) by simp [Lib.byteCells]]
              exact h1
            · exact (HB.out.alloc hsz _).grown HG.out (by simp; omega) (fun k hk => (HW.out.lt k hk).1)
        · obtain rfl : t = 8 := by omega
          have hconv := own_conv (l := dgT s 8) hown
          rw [dgT_end] at hconv
          have HF := Aside0.mk (HB3.out.trans ((HBr.out.trans (HB.out.mono HBr.out.size)).mono HB3.out.size))
          clear hB
          go_wp2_with fail
          go_ret
          exact ⟨by rw [HSH2.out]; rfl, HF.out⟩
end Go.Proofs.YtomninikmcmmcaaDoor.Sha
end
