/- The law HmacPieces: it answers true for every input. -/
import Derived.Test.YtomninikmcmmcaaDoorLt
namespace Go.Proofs.YtomninikmcmmcaaDoor.Sha
open Go Go.RowKit Go.Shelf Go.Proofs.YtomninikmcmmcaaDoor.Rng Go.Proofs.YtomninikmcmmcaaDoorW.PrintWords Go.Proofs.Sp Go.Proofs.YtomninikmcmmcaaDoor.Blk Go.Proofs.YtomninikmcmmcaaDoor.GivA
set_option linter.unusedVariables false
set_option linter.unusedSimpArgs false
set_option maxHeartbeats 4000000 in
set_option maxRecDepth 100000 in
theorem hmacPieces_row (w : World) (key : ByteArray) (hk : key.size ≤ 140737488351232)
    (A1 : Option Addr) (c1 : Nat) (l : List ByteArray) (hC1 : Kd.C Kd.string w A1 l.length l) (hl1 : l.length ≤ c1) (g1 : ∀ y ∈ l, y.size ≤ 140737488351232) (b1 : l.length * Tryd.prog.bytesOf 9 ≤ 140737488351232) (hT : Tab w) :
    Calls Tryd.prog 8 #[.string key, .slice A1 l.length c1] w fun e w' => e = .returned (.bool true) ∧ Below w.heap.size w w' := by
  have HT := Aside0.mk hT
  have HC1 := Aside0.mk hC1
  have HL1 := Aside0.mk (fun w' (h : Below w.heap.size w w') => long_calls A1 c1 l w' (Kd.C_below hC1 h) hl1 g1 b1)
  have HA := Aside0.mk awake_calls
  clear hC1 g1 b1 hl1 hT
  go_enter Tryd.func8, Tryd.ntmps8
  go_wp2_with fail
  refine (HA.out _ HT.out).mono ?_
  rintro e w0 ⟨rfl, hb0⟩
  have HB0 := Aside0.mk hb0
  clear hb0 HA
  by_cases h1 : (key.size : Int) > 1000
  · go_wp2
    go_ret
    exact ⟨rfl, HB0.out⟩
  have k1 : key.size ≤ 1000 := by omega
  go_wp2_with fail
  refine (HL1.out _ HB0.out).mono ?_
  rintro e w2 ⟨r1, rfl, q1, hb1⟩
  have HB2 := Aside0.mk (HB0.out.trans (hb1.mono HB0.out.size))
  have Q1 := Aside0.mk q1
  clear hb1 q1 HB0
  cases r1
  case true =>
    go_wp2
    go_ret
    exact ⟨rfl, HB2.out⟩
  obtain ⟨n1, n2⟩ := Q1.out (by first | rfl | trivial)
  clear Q1
  have HN := Aside0.mk (mnew_calls key w2 (HT.out.keep HB2.out) (by omega))
  go_wp2_with fail
  refine HN.out.mono ?_
  rintro e w3 ⟨q, p, rfl, hq, hp, hM, hb3⟩
  clear HN
  have HB3 := Aside0.mk (HB2.out.trans (hb3.mono HB2.out.size))
  have hp' : w.heap.size ≤ p := Nat.le_trans HB2.out.size hp
  have HM := Aside0.mk hM
  clear hb3 HB2 hq hp hM
  go_wp2_with fail
  go_loopg [6, 7] l.length (fun k v8 v9 wr => ∃ t : Nat, t + k = l.length ∧ v8 = .string (cat l t) ∧ v9 = .int .i64 (t : Int) ∧ MacAt q p key (cat l t) wr ∧ Below w.heap.size w wr)
  case atStart => exact ⟨0, by omega, rfl, rfl, HM.out, HB3.out⟩
  case round =>
    clear HM HB3
    obtain ⟨t, ht, rfl, rfl, hM, hB⟩ := hrel
    have HM := Aside0.mk hM
    have HB := Aside0.mk hB
    clear hM hB
    by_cases hlt : t < l.length
    · obtain ⟨ad, e0, HX⟩ := elem_at HC1.out t hlt
      subst e0
      have hz := cat_size l (t + 1)
      have hz1 := tot_le l (show t + 1 ≤ l.length by omega)
      have HS := Aside0.mk (show cat l (t + 1) = cat l t ++ l.getD t ByteArray.empty from rfl)
      have hz2 := ByteArray.size_append (a := cat l t) (b := l.getD t ByteArray.empty)
      rw [← HS.out] at hz2
      have HW := Aside0.mk (mwrite_calls q p key (cat l t) (l.getD t ByteArray.empty) _ (HT.out.keep HB.out) HM.out (by omega))
      have hz3 : (cat l (t + 1)).size ≤ 2000 := by omega
      clear hz hz1
      generalize l.getD t ByteArray.empty = x at *
      generalize hct : cat l t = c at *
      generalize hcn : cat l (t + 1) = cn at *
      have HCN := Aside0.mk hcn
      have l1 : (t : Int) < l.length := by omega
      have hx := HX.out _ HB.out
      clear hct hcn
      go_wp2_with fail
      refine HW.out.mono ?_
      rintro e w4 ⟨rfl, hM4, ht4⟩
      have HB4 := Aside0.mk (ht4.below HB.out hp' HB.out.size)
      rw [← HS.out] at hM4
      have HM4 := Aside0.mk hM4
      have hx4 := HX.out w4 HB4.out
      clear hM4 ht4 hx HB HM HW
      go_wp2_with fail
      go_roundg (gk - 1)
      case measure => omega
      case rel => exact ⟨t + 1, by omega, by rw [HCN.out, HS.out], by go_num, by rw [HCN.out]; exact HM4.out, HB4.out⟩
    · obtain rfl : t = l.length := by omega
      have hz := cat_size l l.length
      have hz1 : (cat l l.length).size ≤ 2000 := by omega
      generalize cat l l.length = c at *
      clear hlt ht hz
      have HSa := Aside0.mk (msum_calls q p key c _ (HT.out.keep HB.out) HM.out (by omega))
      go_wp2_with fail
      refine HSa.out.mono ?_
      rintro e w5 ⟨rfl, hb5⟩
      have HB5 := Aside0.mk (HB.out.trans (hb5.mono HB.out.size))
      have HSb := Aside0.mk (msum_calls q p key c w5 (HT.out.keep HB5.out) (HM.out.keep hb5) (by omega))
      clear hb5 HB HM HSa
      go_wp2_with fail
      refine HSb.out.mono ?_
      rintro e w6 ⟨rfl, hb6⟩
      have HB6 := Aside0.mk (HB5.out.trans (hb6.mono HB5.out.size))
      have HR := Aside0.mk (mac_calls key c w6 (HT.out.keep HB6.out) (by omega) (by omega))
      have hd := mac_size key c
      clear hb6 HB5 HSb
      generalize mac key c = d at *
      have hd2 : (d.size : Int) = 32 := by omega
      go_wp2_with fail
      refine HR.out.mono ?_
      rintro e w7 ⟨rfl, hb7⟩
      have HB7 := Aside0.mk (HB6.out.trans (hb7.mono HB6.out.size))
      clear hb7 HB6
      go_wp2_with fail
      go_ret
      refine ⟨?_, HB7.out⟩
      simp [hd]
end Go.Proofs.YtomninikmcmmcaaDoor.Sha
