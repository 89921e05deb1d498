/- The walk of the law BlockHang: whatever the text and the place, it answers true. -/
import Derived.Test.YtobgcjfelegpkaaDoorLawShifts
import Derived.Test.YtobgcjfelegpkaaDoorPad
import Derived.Test.YtobgcjfelegpkaaDoorHang
namespace Go.Proofs.YtobgcjfelegpkaaDoor.Blk
open Go.RowKit Go.Proofs.YtobgcjfelegpkaaDoor.PBw Go.Proofs.YtobgcjfelegpkaaDoor.GivA Go.Proofs.YtobgcjfelegpkaaDoorW.PrintWords Go.Proofs.YtobgcjfelegpkaaDoorW.PrintLast Go.Proofs.YtobgcjfelegpkaaDoorW.PrintMore Go.Proofs.Sp Go.Proofs.YtobgcjfelegpkaaDoor.Pure
set_option linter.unusedVariables false
set_option linter.unusedSimpArgs false
set_option maxHeartbeats 2000000 in
set_option maxRecDepth 100000 in
theorem hang_none (text : ByteArray) (h : ¬ text.size = 64) (hm : text.size ≤ 140737488351232) (n : Int) (w : World) (hT : Tab w) :
    Calls Tryd.prog 5 #[.string text, .int .u8 n] w fun e w' => e = .returned (.bool true) ∧ Below w.heap.size w w' := by
  have HT := Aside0.mk hT
  have HA := Aside0.mk awake_calls
  have HW := Aside0.mk (words_none text h)
  have hne : ((text.size : Int) != 64) = true := by rw [bne_iff_ne]; omega
  clear hT h
  go_enter Tryd.func5, Tryd.ntmps5
  go_wp2_with fail
  refine (HA.out _ HT.out).mono ?_
  rintro e w1 ⟨rfl, hb1⟩
  have B1 := Aside0.mk hb1
  clear hb1
  go_wp2_with fail
  refine (HW.out _).mono ?_
  rintro e w2 ⟨A, c, rfl, hb2⟩
  have B2 := Aside0.mk (B1.out.trans (hb2.mono B1.out.size))
  clear hb2
  go_wp2_with fail
  go_ret
  exact ⟨rfl, B2.out⟩
theorem words_calls2 (b : ByteArray) (h : b.size = 64) (w : World) : Calls Tryd.prog 36 #[.string b] w fun e w' => ∃ B o c, e = .returned (.tuple #[.slice (some ⟨B, o, none⟩) 64 c, .int .i64 0]) ∧ 64 ≤ c ∧ B < w'.heap.size ∧
    (∀ (t : Nat), t < 64 → w'.cell? ⟨B, o + t, none⟩ = some (.int .u32 (wd ((words b.data.toList).getD t 0)))) ∧ Kd.C (Kd.int .u32) w' (some ⟨B, o, none⟩) 64 ((words b.data.toList).map wd) ∧ Below w.heap.size w w' := by
  have hf := words_some b h 65 (by decide)
  have hl : (words b.data.toList).length = 64 := sched_length _ 64
  generalize words b.data.toList = ws at hf hl ⊢
  refine (block_Words.calls 65 b _ _ w hf).mono ?_
  rintro e w' ⟨v, rfl, hR, hB⟩
  have hl : (ws.map wd).length = 64 := by rw [List.length_map, hl]
  obtain ⟨A, c, rfl, hcap, hC⟩ := Kd.R_reads hR
  rw [hl] at hC hcap ⊢
  obtain ⟨ad, rfl, h0⟩ := Kd.at_int hC 0 (by decide) (by decide)
  have hspot : ad.spot = none := World.cell?_spot (by simpa [Addr.add] using h0)
  obtain ⟨B, o, sp⟩ := ad
  obtain rfl : sp = none := hspot
  refine ⟨B, o, c, rfl, hcap, World.block_lt_of_cell? w' _ (by simpa [Addr.add] using h0), fun t ht => ?_, hC, hB⟩
  obtain ⟨ad2, e2, h2⟩ := Kd.at_int hC (t : Int) (by omega) (by omega)
  obtain rfl := Option.some.inj e2
  rw [Int.toNat_natCast, rd_map] at h2
  rw [← h2]
  congr 1
  unfold Addr.add
  split <;> simp_all
theorem conv_list (l : List UInt8) (hl : l.length = 64) (W : World) (g : Nat) (hk : W.heap[g]? = some (.cells (Lib.byteCells l).toArray 5 (0, 0))) :
    (convert 44 9 (.slice (some ⟨g, 0, none⟩) 64 64)).run Tryd.prog W = .ok (.string ⟨l.toArray⟩) W := by
  have := run_convert_bytes_arg (P := Tryd.prog) W 44 5 Tryd.underlying44 Tryd.underlying5 g 0 64 64 (l.map fun b => (b.toNat : Int)) (by simpa using hl) (fun i hi => by
    rw [cell_of_row _ _ _ _ _ _ hk]
    have hil : i < l.length := by omega
    simp [Lib.byteCells, List.getD_eq_getElem?_getD, List.getElem?_eq_getElem hil]) 9 Tryd.underlying9
  rw [Pad.strOf_bytes] at this
  exact this
theorem bne_of {x y : Int} (h : x = y) : (y != x) = false := by rw [h]; simp
theorem wByte_wd0 (x : W32) : ((wByte x 0).toNat : Int) = wd x / 16777216 % 256 := by
  rw [wByte_nat]
  show ((x.toNat / 2 ^ 24 % 256 : Nat) : Int) = (x.toNat : Int) / 16777216 % 256
  omega
theorem wByte_wd1 (x : W32) : ((wByte x 1).toNat : Int) = wd x / 65536 % 256 := by
  rw [wByte_nat]
  show ((x.toNat / 2 ^ 16 % 256 : Nat) : Int) = (x.toNat : Int) / 65536 % 256
  omega
theorem wByte_wd2 (x : W32) : ((wByte x 2).toNat : Int) = wd x / 256 % 256 := by
  rw [wByte_nat]
  show ((x.toNat / 2 ^ 8 % 256 : Nat) : Int) = (x.toNat : Int) / 256 % 256
  omega
theorem wByte_wd3 (x : W32) : ((wByte x 3).toNat : Int) = wd x % 256 := by
  rw [wByte_nat]
  show ((x.toNat / 2 ^ 0 % 256 : Nat) : Int) = (x.toNat : Int) % 256
  omega
theorem same_tail {l1 l2 : List Int} {W : World} {B o c B2 o2 c2 a : Nat} (h2 : Kd.C (Kd.int .u32) W (some ⟨B2, o2, none⟩) 64 l2) (h1 : Kd.C (Kd.int .u32) W (some ⟨B, o, none⟩) 64 l1) (ha : a ≤ 48) (hc : 64 ≤ c) (hc2 : 64 ≤ c2) (he : l2.take (64 - a) = l1.drop a) :
    Calls Tryd.prog 37 #[.slice (some ⟨B2, o2, none⟩) (64 - a) c2, .slice (some ⟨B, o + a, none⟩) (64 - a) (c - a)] W fun e w' => e = .returned (.bool true) ∧ ∃ n, w' = W.drewN n := by
  have n2 : l2.length = 64 := Kd.C_len h2
  have n1 : l1.length = 64 := Kd.C_len h1
  have t2 := Kd.C_take (m := 64 - a) (show Kd.C (Kd.int .u32) W (some ⟨B2, o2, none⟩) l2.length l2 from n2.symm ▸ h2) (by omega)
  have t1 := Kd.C_drop (c := c) (m := a) (show Kd.C (Kd.int .u32) W (some ⟨B, o, none⟩) l1.length l1 from n1.symm ▸ h1) (by omega) (by omega)
  rw [if_neg (by omega)] at t1
  rw [← he] at t1
  have hl : (l2.take (64 - a)).length = 64 - a := by rw [List.length_take, n2]; omega
  have hf := same_some (l2.take (64 - a)) (by omega) 65 (by omega)
  have := paymasterlaw04_same.calls 65 _ c2 _ _ (c - a) _ true W t2 (by omega) t1 (by omega) hf
  rw [hl] at this
  have ea : ((some (⟨B, o, none⟩ : Addr)).map (·.add (a * (Kd.int .u32).sz))) = some ⟨B, o + a, none⟩ := by
    show some ((⟨B, o, none⟩ : Addr).add (a * 1)) = _
    rw [Nat.mul_one]
    unfold Addr.add
    split <;> simp_all
  rw [ea] at this
  exact this.mono fun e w' ⟨h, hd⟩ => ⟨h, hd.out⟩
def mixT (l : List UInt8) (t : Nat) : List UInt8 := l.take t ++ List.replicate (64 - t) 0
theorem mixT_set (l : List UInt8) (hl : l.length = 64) (t : Nat) (ht : t < 64) (v : Int) (hv : v = ((l.getD t 0).toNat : Int)) : (Lib.byteCells (mixT l t)).toArray.setIfInBounds t (.int .u8 v) = (Lib.byteCells (mixT l (t + 1))).toArray := by
  subst hv
  have e : (mixT l t).set t (l.getD t 0) = mixT l (t + 1) := by
    unfold mixT
    have hlt : (l.take t).length = t := by rw [List.length_take]; omega
    rw [List.set_append_right t _ (by omega), hlt, Nat.sub_self, show 64 - t = (64 - (t + 1)) + 1 from by omega, List.replicate_succ, List.set_cons_zero, List.take_succ_eq_append_getElem (by omega), List.append_assoc]
    congr 1
    rw [List.getD_eq_getElem?_getD, List.getElem?_eq_getElem (by omega)]
    rfl
  rw [← e]
  unfold Lib.byteCells
  rw [List.map_set]
  simp
theorem mixT_cell (l : List UInt8) (hl : l.length = 64) {W : World} {g t : Nat} (ht : t < 64) (hk : W.heap[g]? = some (.cells (Lib.byteCells (mixT l t)).toArray 5 (0, 0))) : ∃ x, W.cell? ⟨g, t, none⟩ = some (.int .u8 x) := by
  have h1 : t < (mixT l t).length := by unfold mixT; rw [List.length_append, List.length_take, List.length_replicate]; omega
  refine ⟨(((mixT l t)[t]'h1).toNat : Int), ?_⟩
  rw [cell_of_row _ _ _ _ _ _ hk]
  simp [Lib.byteCells, List.getElem?_eq_getElem h1]
theorem mixT_end (l : List UInt8) (hl : l.length = 64) : mixT l 64 = l := by
  unfold mixT
  rw [List.take_of_length_le (by omega)]
  simp
theorem text_byte (text : ByteArray) (t : Nat) (h : t < text.size) : ((text[t]'h).toNat : Int) = ((text.data.toList.getD t 0).toNat : Int) := by
  have h' : t < text.data.size := h
  rw [List.getD_eq_getElem?_getD, Array.getElem?_toList, Array.getElem?_eq_getElem h']
  rfl
set_option maxHeartbeats 8000000 in
set_option maxRecDepth 100000 in
theorem hang_law (text : ByteArray) (h : text.size = 64) (n : Int) (hn0 : 0 ≤ n) (hn1 : n < 256) (w : World) (hT : Tab w) :
    Calls Tryd.prog 5 #[.string text, .int .u8 n] w fun e w' => e = .returned (.bool true) ∧ Below w.heap.size w w' := by
  obtain ⟨a, ha⟩ : ∃ a : Nat, n % 49 = (a : Int) := ⟨(n % 49).toNat, by omega⟩
  have ha48 : a ≤ 48 := by omega
  have HT := Aside0.mk hT
  have HA := Aside0.mk awake_calls
  have HWords := Aside0.mk (words_calls2 text h)
  have HBytes := Aside0.mk (head_byte text.data.toList)
  have HSame := Aside0.mk (tgt_same text.data.toList a ha48)
  have h64 := Aside0.mk h
  have hne : ((text.size : Int) != 64) = false := by rw [h]; rfl
  have hsz : (text.size : Int) ≤ 64 := by omega
  have hmk := Pad.make_run
  clear hT h
  go_enter Tryd.func5, Tryd.ntmps5
  go_wp2_with fail
  refine (HA.out _ HT.out).mono ?_
  rintro e w1 ⟨rfl, hb1⟩
  have B1 := Aside0.mk hb1
  clear hb1
  go_wp2_with fail
  refine (HWords.out _).mono ?_
  rintro e w3 ⟨BA, oA, cW, rfl, hcap, hAW, hcell, hread, hb3⟩
  have HC := Aside0.mk hcell
  have HRd := Aside0.mk hread
  have B3 := Aside0.mk (B1.out.trans (hb3.mono B1.out.size))
  clear hcell hb3 hread
  generalize hws : words text.data.toList = ws at *
  clear hws
  go_wp2_with fail
  go_loopg [7] 64 (fun k i wr => ∃ t n : Nat, t + k = 64 ∧ i = .int .i64 t ∧ wr = w3.drewN n)
  case atStart => exact ⟨0, 0, rfl, rfl, rfl⟩
  case round =>
    obtain ⟨t, nd, ht, rfl, rfl⟩ := hrel
    by_cases hlt : t < 64
    · have l1 : (t : Int) < 64 := by omega
      have l4 : 0 ≤ (t : Int) / 4 := by omega
      have l5 : (t : Int) / 4 < 64 := by omega
      have l6 : (t : Int) < text.size := by have := h64.out; omega
      have l7 : t < text.size := by omega
      have cx := HC.out (t / 4) (by omega)
      have hb := HBytes.out t hlt
      rw [← text_byte text t l7] at hb
      generalize ws.getD (t / 4) 0 = xw at *
      have hcase : ∀ r : Nat, t % 4 = r → (t : Int) % 4 = (r : Int) := fun r h => by omega
      rcases (show t % 4 = 0 ∨ t % 4 = 1 ∨ t % 4 = 2 ∨ t % 4 = 3 by omega) with hr | hr | hr | hr
      all_goals
        rw [hr] at hb
        have hr' := hcase _ hr
        clear hcase hr
        simp only [Nat.mul_zero, Nat.mul_one, Nat.sub_zero, Nat.reduceMul, Nat.reduceSub, Nat.reducePow, Int.cast_ofNat_Int, Int.ediv_one] at hb hr'
        have hz := bne_of hb
        clear hb
        go_wp2_with fail
        go_quiet (fail)
        go_wp2_with fail
        go_roundg (gk - 1)
        case measure => omega
        case rel => exact ⟨t + 1, _, by omega, by go_num, rfl⟩
    · obtain rfl : t = 64 := by omega
      clear hlt ht HBytes
      have HX4 := Aside0.mk (pw_below_drewN B3.out nd)
      have HC4 := Aside0.mk (show ∀ t : Nat, t < 64 → (w3.drewN nd).cell? ⟨BA, oA + t, none⟩ = some (.int .u32 (wd (ws.getD t 0))) from HC.out)
      have HR4 := Aside0.mk (Kd.C_drewN HRd.out nd)
      have hAW4 : BA < (w3.drewN nd).heap.size := hAW
      clear HC HRd B3 B1 hAW
      generalize w3.drewN nd = w4 at *
      go_wp2_with fail
      have Z5 := Aside0.mk (show (w4.alloc (.cells Pad.zero64 5)).heap[w4.heap.size]? = some (.cells (Lib.byteCells (mixT (tgt ws a) 0)).toArray 5 (0, 0)) from blk_new w4 _)
      go_loopg [10] 64 (fun k i wr => ∃ t : Nat, t + k = 64 ∧ i = .int .i64 t ∧ wr.heap[w4.heap.size]? = some (.cells (Lib.byteCells (mixT (tgt ws a) t)).toArray 5 (0, 0)) ∧ Below w4.heap.size w4 wr)
      case atStart => exact ⟨0, rfl, rfl, Z5.out, (Below.refl _ _).alloc (Nat.le_refl _) _⟩
      case round =>
        obtain ⟨t, ht, rfl, hb, hx⟩ := hrel
        have HB := Aside0.mk hb
        have HX := Aside0.mk hx
        by_cases hlt : t < 64
        · have l1 : (t : Int) < 64 := by omega
          have l4 : 0 ≤ (t : Int) / 4 := by omega
          have l5 : (t : Int) / 4 < 16 := by omega
          have l6 : (a : Int) ≤ 48 := by omega
          have cx := (hx.cell (p := ⟨BA, oA + (a + t / 4), none⟩) hAW4).trans (HC4.out (a + t / 4) (by omega))
          obtain ⟨x0, cb⟩ := mixT_cell (tgt ws a) (tgt_length ws a) hlt hb
          have fb := blk_frozen hb t
          have hv := Aside0.mk (tgt_at ws a t hlt)
          generalize ws.getD (a + t / 4) 0 = xw at *
          have hcase : ∀ r : Nat, t % 4 = r → (t : Int) % 4 = (r : Int) := fun r h => by omega
          clear hb hx
          rcases (show t % 4 = 0 ∨ t % 4 = 1 ∨ t % 4 = 2 ∨ t % 4 = 3 by omega) with hr | hr | hr | hr
          all_goals
            rw [hr] at hv
            have hr' := hcase _ hr
            clear hcase hr
            simp only [Int.cast_ofNat_Int] at hr'
            go_wp2_with fail
            go_roundg (gk - 1)
            case measure => omega
            case rel =>
              refine ⟨t + 1, by omega, by go_num, ?_, HX.out.setCell (p := ⟨w4.heap.size, t, none⟩) (Nat.le_refl _) _⟩
              refine blk_put HB.out t _ (mixT_set _ (tgt_length ws a) t hlt _ ?_)
              rw [hv.out]
              first | exact (wByte_wd0 _).symm | exact (wByte_wd1 _).symm | exact (wByte_wd2 _).symm | exact (wByte_wd3 _).symm
        · obtain rfl : t = 64 := by omega
          clear hlt ht hb
          have hk : wr.heap[w4.heap.size]? = some (.cells (Lib.byteCells (tgt ws a)).toArray 5 (0, 0)) := by
            have := HB.out
            rw [mixT_end _ (tgt_length ws a)] at this
            exact this
          have hcv := conv_list (tgt ws a) (tgt_length ws a) wr w4.heap.size hk
          have HW2 := Aside0.mk (words_calls2 (⟨(tgt ws a).toArray⟩ : ByteArray) (by show (tgt ws a).toArray.size = 64; simp [tgt_length]))
          have HR5 := Aside0.mk (Kd.C_below HR4.out hx)
          have HX5 := Aside0.mk (HX4.out.trans (hx.mono HX4.out.size))
          clear hk hx HB Z5 HC4 HR4 HX4
          go_wp2_with fail
          refine (HW2.out _).mono ?_
          rintro e w6 ⟨B2, o2, c2, rfl, hcap2, hA2, hcell2, hread2, hb6⟩
          have hr2 : Kd.C (Kd.int .u32) w6 (some ⟨B2, o2, none⟩) 64 ((words (tgt ws a)).map wd) := hread2
          have HS := Aside0.mk (fun k : Nat => same_tail (Kd.C_drewN hr2 k) (Kd.C_drewN (Kd.C_below HR5.out hb6) k) ha48 hcap hcap2 HSame.out)
          have HX6 := Aside0.mk (HX5.out.trans (hb6.mono HX5.out.size))
          have l6 : (a : Int) ≤ 48 := by omega
          have hca : ¬ cW = a := by omega
          clear hcell2 hread2 hr2 hb6 hcv HR5 HX5
          go_wp2_with fail
          go_quiet ((go_at_call 37; exact Calls.quiet_of (HS.out _)))
          go_wp2_with fail
          go_ret
          exact ⟨rfl, pw_below_drewN HX6.out _⟩
theorem hang_row (text : ByteArray) (hm : text.size ≤ 140737488351232) (n : Int) (hn : (Lit.int .u8 n).wf = true) (w : World) (hT : Tab w) :
    Calls Tryd.prog 5 #[.string text, .int .u8 n] w fun e w' => e = .returned (.bool true) ∧ Below w.heap.size w w' := by
  have hn' : 0 ≤ n ∧ n < 256 := by
    simp [Lit.wf, IntKind.min, IntKind.max, IntKind.signed, IntKind.bits] at hn
    omega
  by_cases h : text.size = 64
  · exact hang_law text h n hn'.1 hn'.2 w hT
  · exact hang_none text h hm n w hT
end Go.Proofs.YtobgcjfelegpkaaDoor.Blk
