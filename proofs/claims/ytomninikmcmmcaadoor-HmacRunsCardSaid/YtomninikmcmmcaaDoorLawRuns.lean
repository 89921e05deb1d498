/- The law HmacRuns: it answers true for every input. -/
import Derived.Test.YtomninikmcmmcaaDoorLt
import Derived.Test.YtomninikmcmmcaaDoorHm
namespace Go.Proofs.YtomninikmcmmcaaDoor.Sha
open Go Go.RowKit Go.Shelf Go.Proofs.YtomninikmcmmcaaDoor.Rng Go.Proofs.YtomninikmcmmcaaDoorW.PrintWords Go.Proofs.Sp Go.Proofs.YtomninikmcmmcaaDoor.Blk Go.Proofs.YtomninikmcmmcaaDoor.GivA
set_option linter.unusedVariables false
set_option linter.unusedSimpArgs false
theorem refmac_calls (key m : ByteArray) (hk : key.size ≤ 1000) (hm : m.size ≤ 1000000) (w : World) :
    Calls Tryd.prog 33 #[.string key, .string m] w fun e w' => e = .returned (.string (mac key m)) ∧ Below w.heap.size w w' :=
  Go.Proofs.YtomninikmcmmcaaDoor.PHl.paymasterref06_Sum.calls 2000 key m _ w (refmac_some key m (by omega) (by omega) 2000 (Nat.le_refl _))
set_option maxHeartbeats 4000000 in
set_option maxRecDepth 100000 in
theorem hmacRuns_row (w : World) (key : ByteArray) (hk : key.size ≤ 140737488351232)
    (A1 : Option Addr) (c1 : Nat) (l : List ByteArray) (hC1 : Kd.C Kd.string w A1 l.length l) (hl1 : l.length ≤ c1) (g1 : ∀ y ∈ l, y.size ≤ 140737488351232) (b1 : l.length * Tryd.prog.bytesOf 9 ≤ 140737488351232)
    (A2 : Option Addr) (c2 : Nat) (l2 : List ByteArray) (hC2 : Kd.C Kd.string w A2 l2.length l2) (hl2 : l2.length ≤ c2) (g2 : ∀ y ∈ l2, y.size ≤ 140737488351232) (b2 : l2.length * Tryd.prog.bytesOf 9 ≤ 140737488351232) (hT : Tab w) :
    Calls Tryd.prog 5 #[.string key, .slice A1 l.length c1, .slice A2 l2.length c2] w fun e w' => e = .returned (.bool true) ∧ Below w.heap.size w w' := by
  have HT := Aside0.mk hT
  have HC1 := Aside0.mk hC1
  have HC2 := Aside0.mk hC2
  have HL1 := Aside0.mk (fun w' (h : Below w.heap.size w w') => long_calls A1 c1 l w' (Kd.C_below hC1 h) hl1 g1 b1)
  have HL2 := Aside0.mk (fun w' (h : Below w.heap.size w w') => long_calls A2 c2 l2 w' (Kd.C_below hC2 h) hl2 g2 b2)
  clear hC1 hC2 g1 g2 b1 b2 hl1 hl2 hT
  go_enter Tryd.func5, Tryd.ntmps5
  by_cases h1 : (key.size : Int) > 1000
  · go_wp2
    go_ret
    exact ⟨rfl, Below.refl _ _⟩
  have k1 : key.size ≤ 1000 := by omega
  go_wp2_with fail
  refine (HL1.out _ (Below.refl _ _)).mono ?_
  rintro e w1 ⟨r1, rfl, q1, hb1⟩
  have HB1 := Aside0.mk hb1
  have Q1 := Aside0.mk q1
  clear hb1 q1
  cases r1
  case true =>
    go_wp2
    go_ret
    exact ⟨rfl, HB1.out⟩
  go_wp2_with fail
  refine (HL2.out _ HB1.out).mono ?_
  rintro e w2 ⟨r2, rfl, q2, hb2⟩
  have HB2 := Aside0.mk (HB1.out.trans (hb2.mono HB1.out.size))
  have Q2 := Aside0.mk q2
  clear hb2 q2 HB1
  cases r2
  case true =>
    go_wp2
    go_ret
    exact ⟨rfl, HB2.out⟩
  obtain ⟨n1, n2⟩ := Q1.out (by first | rfl | trivial)
  obtain ⟨n3, n4⟩ := Q2.out (by first | rfl | trivial)
  clear Q1 Q2
  have HN := Aside0.mk (mnew_calls key w2 (HT.out.keep HB2.out) (by omega))
  go_wp2_with fail
  refine HN.out.mono ?_
  rintro e w3 ⟨q, p, rfl, hq, hp, hM, hb3⟩
  clear HN
  have HB3 := Aside0.mk (HB2.out.trans (hb3.mono HB2.out.size))
  have hq' : w.heap.size ≤ q := Nat.le_trans HB2.out.size hq
  have hp' : w.heap.size ≤ p := Nat.le_trans HB2.out.size hp
  have HM := Aside0.mk hM
  have HZ := Aside0.mk (show w.heap.size ≤ w3.heap.size from HB3.out.size)
  clear hb3 HB2 hq hp hM
  go_wp2_with fail
  go_loopg [8, 9] l.length (fun k v8 v9 wr => ∃ t : Nat, t + k = l.length ∧ v8 = .string (cat l t) ∧ v9 = .int .i64 (t : Int) ∧ MacAt q p key (cat l t) wr ∧ Below w.heap.size w wr)
  case atStart => exact ⟨0, by omega, rfl, rfl, HM.out, HB3.out⟩
  case round =>
    obtain ⟨t, ht, rfl, rfl, hM, hB⟩ := hrel
    have HM := Aside0.mk hM
    have HB := Aside0.mk hB
    clear hM hB
    by_cases hlt : t < l.length
    · obtain ⟨ad, e0, HX⟩ := elem_at HC1.out t hlt
      subst e0
      have hz := cat_size l (t + 1)
      have hz1 := tot_le l (show t + 1 ≤ l.length by omega)
      have HS := Aside0.mk (show cat l (t + 1) = cat l t ++ l.getD t ByteArray.empty from rfl)
      have hz2 := ByteArray.size_append (a := cat l t) (b := l.getD t ByteArray.empty)
      rw [← HS.out] at hz2
      have HW := Aside0.mk (mwrite_calls q p key (cat l t) (l.getD t ByteArray.empty) wr (HT.out.keep HB.out) HM.out (by omega))
      have hz3 : (cat l (t + 1)).size ≤ 2000 := by omega
      clear hz hz1
      generalize l.getD t ByteArray.empty = x at *
      generalize hct : cat l t = c at *
      generalize hcn : cat l (t + 1) = cn at *
      have HCN := Aside0.mk hcn
      have l1 : (t : Int) < l.length := by omega
      have hx := HX.out wr HB.out
      clear hct hcn
      go_wp2_with fail
      refine HW.out.mono ?_
      rintro e w4 ⟨rfl, hM4, ht4⟩
      have HB4 := Aside0.mk (ht4.below HB.out hp' HB.out.size)
      rw [← HS.out] at hM4
      have HM4 := Aside0.mk hM4
      have hx4 := HX.out w4 HB4.out
      have HSu := Aside0.mk (msum_calls q p key cn w4 (HT.out.keep HB4.out) hM4 (by omega))
      clear hM4 ht4 hx HB HM HW
      go_wp2_with fail
      refine HSu.out.mono ?_
      rintro e w5 ⟨rfl, hb5⟩
      have HB5 := Aside0.mk (HB4.out.trans (hb5.mono HB4.out.size))
      have HM5 := Aside0.mk (HM4.out.keep hb5)
      have HR := Aside0.mk (refmac_calls key cn k1 (by omega))
      clear hb5 HSu HB4 HM4 hx4
      generalize mac key cn = d at *
      rw [← HS.out]
      go_wp2_with fail
      refine (HR.out _).mono ?_
      rintro e w6 ⟨rfl, hb6⟩
      have HB6 := Aside0.mk (HB5.out.trans (hb6.mono HB5.out.size))
      have HM6 := Aside0.mk (HM5.out.keep hb6)
      clear hb6 HB5 HM5 HR
      go_wp2_with fail
      go_roundg (gk - 1)
      case measure => omega
      case rel => exact ⟨t + 1, by omega, by rw [HCN.out], by go_num, by rw [HCN.out]; exact HM6.out, HB6.out⟩
    · obtain rfl : t = l.length := by omega
      have hz := cat_size l l.length
      generalize cat l l.length = c at *
      have HCp := Aside0.mk (mcopy_calls q p key c wr HM.out)
      clear hlt ht
      go_wp2_with fail
      refine HCp.out.mono ?_
      rintro e w4 ⟨q2, p2, rfl, hq2, hp2, hM2, hb4⟩
      have HB4 := Aside0.mk (HB.out.trans (hb4.mono HB.out.size))
      have HMa := Aside0.mk (HM.out.keep hb4)
      have HMb := Aside0.mk hM2
      have lq : q < wr.heap.size := heap_lt HM.out.1
      have lp : p < wr.heap.size := heap_lt HM.out.2
      have n1' : q ≠ p2 := by omega
      have n2' : p ≠ p2 := by omega
      have hp2' : w.heap.size ≤ p2 := Nat.le_trans HB.out.size hp2
      clear hb4 hM2 hq2 hp2 lq lp HCp HM HB
      go_wp2_with fail
      go_loopg [13, 14] l2.length (fun k v8 v9 wr => ∃ t : Nat, t + k = l2.length ∧ v8 = .string (c ++ cat l2 t) ∧ v9 = .int .i64 (t : Int) ∧ MacAt q2 p2 key (c ++ cat l2 t) wr ∧ MacAt q p key c wr ∧ Below w.heap.size w wr)
      case atStart => exact ⟨0, by omega, by rw [show cat l2 0 = ByteArray.empty from rfl, ByteArray.append_empty], rfl, by rw [show cat l2 0 = ByteArray.empty from rfl, ByteArray.append_empty]; exact HMb.out, HMa.out, HB4.out⟩
      case round =>
        obtain ⟨t, ht, rfl, rfl, hMb, hMa, hB⟩ := hrel
        clear HMa HMb HB4
        have HMa := Aside0.mk hMa
        have HMb := Aside0.mk hMb
        have HB := Aside0.mk hB
        clear hMa hMb hB
        by_cases hlt : t < l2.length
        · obtain ⟨ad, e0, HX⟩ := elem_at HC2.out t hlt
          subst e0
          have hy := cat_size l2 (t + 1)
          have hy1 := tot_le l2 (show t + 1 ≤ l2.length by omega)
          have HS := Aside0.mk (show c ++ cat l2 (t + 1) = (c ++ cat l2 t) ++ l2.getD t ByteArray.empty by
            apply ext_list
            rw [show cat l2 (t + 1) = cat l2 t ++ l2.getD t ByteArray.empty from rfl]
            simp only [append_list, List.append_assoc])
          have hy2 := ByteArray.size_append (a := c ++ cat l2 t) (b := l2.getD t ByteArray.empty)
          rw [← HS.out] at hy2
          have hy3 := ByteArray.size_append (a := c) (b := cat l2 (t + 1))
          have HW := Aside0.mk (mwrite_calls q2 p2 key (c ++ cat l2 t) (l2.getD t ByteArray.empty) _ (HT.out.keep HB.out) HMb.out (by omega))
          have hy4 : (c ++ cat l2 (t + 1)).size ≤ 4000 := by omega
          clear hy hy1 hy3
          generalize l2.getD t ByteArray.empty = x at *
          generalize hct : c ++ cat l2 t = c0 at *
          generalize hcn : c ++ cat l2 (t + 1) = cn at *
          have HCN := Aside0.mk hcn
          have l1 : (t : Int) < l2.length := by omega
          have hx := HX.out _ HB.out
          clear hct hcn
          go_wp2_with fail
          refine HW.out.mono ?_
          rintro e w5 ⟨rfl, hM5, ht5⟩
          have HB5 := Aside0.mk (ht5.below HB.out hp2' HB.out.size)
          rw [← HS.out] at hM5
          have HM5 := Aside0.mk hM5
          have HMa5 := Aside0.mk (HMa.out.touch ht5 n1' n2')
          have hx5 := HX.out w5 HB5.out
          clear hM5 ht5 hx HB HMa HMb HW
          go_wp2_with fail
          go_roundg (gk - 1)
          case measure => omega
          case rel => exact ⟨t + 1, by omega, by rw [HCN.out, HS.out], by go_num, by rw [HCN.out]; exact HM5.out, HMa5.out, HB5.out⟩
        · obtain rfl : t = l2.length := by omega
          have hy := cat_size l2 l2.length
          have hy2 := ByteArray.size_append (a := c) (b := cat l2 l2.length)
          have hy3 : (c ++ cat l2 l2.length).size ≤ 4000 := by omega
          clear hy hy2
          generalize c ++ cat l2 l2.length = c2' at *
          clear hlt ht
          have HSa := Aside0.mk (msum_calls q p key c _ (HT.out.keep HB.out) HMa.out (by omega))
          go_wp2_with fail
          refine HSa.out.mono ?_
          rintro e w5 ⟨rfl, hb5⟩
          have HB5 := Aside0.mk (HB.out.trans (hb5.mono HB.out.size))
          have HSb := Aside0.mk (msum_calls q2 p2 key c2' w5 (HT.out.keep HB5.out) (HMb.out.keep hb5) (by omega))
          clear hb5 HB HMa HMb HSa
          go_wp2_with fail
          refine HSb.out.mono ?_
          rintro e w6 ⟨rfl, hb6⟩
          have HB6 := Aside0.mk (HB5.out.trans (hb6.mono HB5.out.size))
          have HRa := Aside0.mk (refmac_calls key c k1 (by omega))
          have HRb := Aside0.mk (refmac_calls key c2' k1 (by omega))
          clear hb6 HB5 HSb
          generalize mac key c = d at *
          generalize mac key c2' = d2 at *
          go_wp2_with fail
          refine (HRa.out _).mono ?_
          rintro e w7 ⟨rfl, hb7⟩
          have HB7 := Aside0.mk (HB6.out.trans (hb7.mono HB6.out.size))
          clear hb7 HB6
          go_wp2_with fail
          refine (HRb.out _).mono ?_
          rintro e w8 ⟨rfl, hb8⟩
          have HB8 := Aside0.mk (HB7.out.trans (hb8.mono HB7.out.size))
          clear hb8 HB7
          go_wp2_with fail
          go_ret
          exact ⟨rfl, HB8.out⟩
end Go.Proofs.YtomninikmcmmcaaDoor.Sha
