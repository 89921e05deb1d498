/- The law HmacKeys: it answers true for every input. -/
import Derived.Test.YtomninikmcmmcaaDoorLt
import Derived.Test.YtomninikmcmmcaaDoorRel
namespace Go.Proofs.YtomninikmcmmcaaDoor.Sha
open Go Go.RowKit Go.Shelf Go.Proofs.YtomninikmcmmcaaDoor.Rng Go.Proofs.YtomninikmcmmcaaDoorW.PrintWords Go.Proofs.Sp Go.Proofs.YtomninikmcmmcaaDoor.Blk Go.Proofs.YtomninikmcmmcaaDoor.GivA
set_option linter.unusedVariables false
set_option linter.unusedSimpArgs false
theorem mac_same {a b : ByteArray} (h : kBlock a = kBlock b) (m : ByteArray) : mac a m = mac b m := by unfold mac outB inB; rw [h]
theorem zeroB_list (n : Nat) : (zeroB n).data.toList = List.replicate n 0 := by unfold zeroB; rw [List.toList_toArray]
theorem kBlock_short {a : ByteArray} (h : a.size ≤ 64) : kBlock a = a ++ zeroB (64 - a.size) := by unfold kBlock kOf; rw [if_neg (by omega)]
theorem kBlock_idem (a : ByteArray) : kBlock (kBlock a) = kBlock a := by
  have h := kBlock_size a
  rw [kBlock_short (by omega), h]
  apply ext_list
  rw [append_list, zeroB_list]
  simp
theorem kBlock_sha {a : ByteArray} (h : 64 < a.size) : kBlock (sha a) = kBlock a := by
  rw [kBlock_short (by rw [sha_size]; decide)]
  unfold kBlock kOf
  rw [if_pos h]
theorem kBlock_head {a : ByteArray} (h : 64 < a.size) : (kBlock a).extract 0 32 = sha a := by
  apply ext_list
  have e := sha_size a
  have e2 := data_size (sha a)
  unfold kBlock kOf
  rw [if_pos h, extract_list, append_list, List.drop_zero, List.take_append_of_le_length (by omega), List.take_of_length_le (by omega)]
theorem kBlock_front {a : ByteArray} (h : a.size ≤ 64) : (kBlock a).extract 0 a.size = a := by
  apply ext_list
  have e2 := data_size a
  rw [kBlock_short h, extract_list, append_list, List.drop_zero, List.take_append_of_le_length (by omega), List.take_of_length_le (by omega)]
theorem kBlock_longer {a : ByteArray} (t : Nat) (h : a.size + t ≤ 64) : kBlock (a ++ zeroB t) = kBlock a := by
  have hz : (a ++ zeroB t).size = a.size + t := by rw [ByteArray.size_append, zeroB_size]
  rw [kBlock_short (by omega), kBlock_short (by omega), hz]
  apply ext_list
  rw [append_list, append_list, append_list, zeroB_list, zeroB_list, zeroB_list, List.append_assoc, List.replicate_append_replicate]
  congr 2
  omega
theorem zeroB_succ (a : ByteArray) (t : Nat) : a ++ zeroB t ++ ⟨#[0]⟩ = a ++ zeroB (t + 1) := by
  apply ext_list
  rw [append_list, append_list, append_list, zeroB_list, zeroB_list, List.append_assoc, List.replicate_succ']
theorem zeroB_none (a : ByteArray) : a ++ zeroB 0 = a := by
  apply ext_list
  rw [append_list, zeroB_list]
  simp
def v13 (key s m d b : ByteArray) : Nat → Value
  | 0 => .string key
  | 1 => .string s
  | 2 => .string m
  | 3 => .string d
  | 4 => .string d
  | 5 => .bool true
  | 6 => .bool true
  | 7 => .string b
  | 8 => .string s
  | 9 => .string key
  | 10 => .string s
  | 11 => .bool true
  | 12 => .bool true
  | _ => undef
set_option maxHeartbeats 4000000 in
set_option maxRecDepth 100000 in
theorem hmacKeys_row (key : ByteArray) (hk : key.size ≤ 140737488351232) (m : ByteArray) (hm : m.size ≤ 140737488351232) (a : Int) (ha : (Lit.int .u8 a).wf = true) (w : World) (hT : Tab w) :
    Calls Tryd.prog 9 #[.string key, .string m, .int .u8 a] w fun e w' => e = .returned (.bool true) ∧ Below w.heap.size w w' := by
  have ha' : 0 ≤ a ∧ a < 256 := by simp [Lit.wf, IntKind.min, IntKind.max, IntKind.signed, IntKind.bits] at ha; omega
  have HT := Aside0.mk hT
  have HA := Aside0.mk awake_calls
  clear hT ha
  go_enter Tryd.func9, Tryd.ntmps9
  go_wp2_with fail
  refine (HA.out _ HT.out).mono ?_
  rintro e w0 ⟨rfl, hb0⟩
  have HB0 := Aside0.mk hb0
  clear hb0 HA
  by_cases h1 : (key.size : Int) > 1000
  · go_wp2
    go_ret
    exact ⟨rfl, HB0.out⟩
  by_cases h2 : (m.size : Int) > 1000
  · go_wp2
    go_ret
    exact ⟨rfl, HB0.out⟩
  have hbz := kBlock_size key
  have HK := Aside0.mk (fun w h => kblock_calls key w h (by omega))
  have HK2 := Aside0.mk (fun w h => kblock_calls (kBlock key) w h (by omega))
  rw [kBlock_idem] at HK2
  have HM := Aside0.mk (fun w h => mac_calls key m w h (by omega) (by omega))
  have HM2 := Aside0.mk (fun w h => mac_calls (kBlock key) m w h (by omega) (by omega))
  rw [mac_same (kBlock_idem key)] at HM2
  have HS := Aside0.mk (fun w h => shasum_calls key w h (by omega))
  have HM3 := Aside0.mk (fun w h => mac_calls (sha key) m w h (by rw [sha_size]; decide) (by omega))
  have HL := Aside0.mk (fun (h : 64 < key.size) => mac_same (kBlock_sha h) m)
  have HH := Aside0.mk (fun (h : 64 < key.size) => kBlock_head h)
  have HF := Aside0.mk (fun (h : key.size ≤ 64) => kBlock_front h)
  have HG := Aside0.mk (fun (t : Nat) (h : key.size + t ≤ 64) => mac_same (kBlock_longer t h) m)
  have HM4 := Aside0.mk (fun (t : Nat) (h : key.size + t ≤ 64) w hT => mac_calls (key ++ zeroB t) m w hT (by rw [ByteArray.size_append, zeroB_size]; omega) (by omega))
  generalize mac key m = d at *
  generalize kBlock key = b at *
  have hbz2 : (b.size : Int) = 64 := by omega
  go_wp2_with fail
  refine (HK.out _ (HT.out.keep HB0.out)).mono ?_
  rintro e w1 ⟨rfl, b1⟩
  have B1 := Aside0.mk (HB0.out.trans (b1.mono HB0.out.size))
  clear b1 HB0 HK
  go_wp2_with fail
  refine (HM.out _ (HT.out.keep B1.out)).mono ?_
  rintro e w2 ⟨rfl, b2⟩
  have B2 := Aside0.mk (B1.out.trans (b2.mono B1.out.size))
  clear b2 B1 HM
  go_wp2_with fail
  refine (HK2.out _ (HT.out.keep B2.out)).mono ?_
  rintro e w3 ⟨rfl, b3⟩
  have B3 := Aside0.mk (B2.out.trans (b3.mono B2.out.size))
  clear b3 B2 HK2
  go_wp2_with fail
  refine (HM2.out _ (HT.out.keep B3.out)).mono ?_
  rintro e w4 ⟨rfl, b4⟩
  have B4 := Aside0.mk (B3.out.trans (b4.mono B3.out.size))
  clear b4 B3 HM2
  by_cases h3 : (key.size : Int) > 64
  · have hl := HL.out (by omega)
    have hh := HH.out (by omega)
    rw [hl] at HM3
    generalize sha key = s at *
    clear HL HH HF HG HM4
    go_wp2_with fail
    refine Rel.region_rel [] (fun _ => .cells #[] 0 (0, 0)) (fun j v _ => v = v13 key s m d b j) 13 [] (by kernel_rfl) (by kernel_rfl) (by decide) (fun i hi => by cases hi) (fun _ _ _ _ h _ => h) (fun i hi => by cases hi) ?_ ?_
    · simp only [List.take_succ_cons, List.take_zero]
      refine ⟨?_, ?_, ?_, ?_, ?_, ?_, ?_, ?_, ?_, ?_, ?_, ?_, ?_, trivial⟩
      · refine Rel.Upon.of [] (by kernel_rfl) ?_
        intro vals z hb hN hd
        simp only [Rel.rp]
        go_wp2_with fail
        exact ⟨Below.refl _ _, rfl⟩
      · refine Rel.Upon.of [0] (by kernel_rfl) ?_
        intro vals z hb hN hd
        simp only [Rel.ra] at hd
        have d0 := hd
        replace d0 : vals 0 = .string key := d0
        simp only [Rel.rp, d0]
        go_wp2_with fail
        refine (HS.out _ (HT.out.keep (B4.out.trans (hb.mono B4.out.size)))).mono ?_
        rintro e z1 ⟨rfl, hbz⟩
        go_wp2_with fail
        rfl
      · refine Rel.Upon.of [] (by kernel_rfl) ?_
        intro vals z hb hN hd
        simp only [Rel.rp]
        go_wp2_with fail
        exact ⟨Below.refl _ _, rfl⟩
      · refine Rel.Upon.of [1, 2] (by kernel_rfl) ?_
        intro vals z hb hN hd
        simp only [Rel.ra] at hd
        obtain ⟨d1, d2⟩ := hd
        replace d1 : vals 1 = .string s := d1
        replace d2 : vals 2 = .string m := d2
        simp only [Rel.rp, d1, d2]
        go_wp2_with fail
        refine (HM3.out _ (HT.out.keep (B4.out.trans (hb.mono B4.out.size)))).mono ?_
        rintro e z1 ⟨rfl, hbz⟩
        go_wp2_with fail
        rfl
      · refine Rel.Upon.of [] (by kernel_rfl) ?_
        intro vals z hb hN hd
        simp only [Rel.rp]
        go_wp2_with fail
        exact ⟨Below.refl _ _, rfl⟩
      · refine Rel.Upon.of [3, 4] (by kernel_rfl) ?_
        intro vals z hb hN hd
        simp only [Rel.ra] at hd
        obtain ⟨d3, d4⟩ := hd
        replace d3 : vals 3 = .string d := d3
        replace d4 : vals 4 = .string d := d4
        simp only [Rel.rp, d3, d4]
        go_wp2_with fail
        exact ⟨Below.refl _ _, rfl⟩
      · refine Rel.Upon.of [5] (by kernel_rfl) ?_
        intro vals z hb hN hd
        simp only [Rel.ra] at hd
        have d5 := hd
        replace d5 : vals 5 = .bool true := d5
        simp only [Rel.rp, d5]
        go_wp2_with fail
        exact ⟨Below.refl _ _, rfl⟩
      · refine Rel.Upon.of [6] (by kernel_rfl) ?_
        intro vals z hb hN hd
        simp only [Rel.ra] at hd
        have d6 := hd
        replace d6 : vals 6 = .bool true := d6
        simp only [Rel.rp, d6]
        go_wp2_with fail
        exact ⟨Below.refl _ _, rfl⟩
      · refine Rel.Upon.of [6, 7] (by kernel_rfl) ?_
        intro vals z hb hN hd
        simp only [Rel.ra] at hd
        obtain ⟨d6, d7⟩ := hd
        replace d6 : vals 6 = .bool true := d6
        replace d7 : vals 7 = .string b := d7
        simp only [Rel.rp, d6, d7]
        go_wp2_with fail
        exact ⟨Below.refl _ _, rfl⟩
      · refine Rel.Upon.of [6] (by kernel_rfl) ?_
        intro vals z hb hN hd
        simp only [Rel.ra] at hd
        have d6 := hd
        replace d6 : vals 6 = .bool true := d6
        simp only [Rel.rp, d6]
        go_wp2_with fail
        exact ⟨Below.refl _ _, rfl⟩
      · refine Rel.Upon.of [6, 9] (by kernel_rfl) ?_
        intro vals z hb hN hd
        simp only [Rel.ra] at hd
        obtain ⟨d6, d9⟩ := hd
        replace d6 : vals 6 = .bool true := d6
        replace d9 : vals 9 = .string key := d9
        simp only [Rel.rp, d6, d9]
        go_wp2_with fail
        refine (HS.out _ (HT.out.keep (B4.out.trans (hb.mono B4.out.size)))).mono ?_
        rintro e z1 ⟨rfl, hbz⟩
        go_wp2_with fail
        rfl
      · refine Rel.Upon.of [6, 8, 10] (by kernel_rfl) ?_
        intro vals z hb hN hd
        simp only [Rel.ra] at hd
        obtain ⟨d6, d8, d10⟩ := hd
        replace d6 : vals 6 = .bool true := d6
        replace d8 : vals 8 = .string s := d8
        replace d10 : vals 10 = .string s := d10
        simp only [Rel.rp, d6, d8, d10]
        go_wp2_with fail
        exact ⟨Below.refl _ _, rfl⟩
      · refine Rel.Upon.of [6, 11] (by kernel_rfl) ?_
        intro vals z hb hN hd
        simp only [Rel.ra] at hd
        obtain ⟨d6, d11⟩ := hd
        replace d6 : vals 6 = .bool true := d6
        replace d11 : vals 11 = .bool true := d11
        simp only [Rel.rp, d6, d11]
        go_wp2_with fail
        exact ⟨Below.refl _ _, rfl⟩
    · intro vals wf hb hN hrel _
      have dl : vals 12 = .bool true := hrel 12 (by decide)
      have HB := Aside0.mk (B4.out.trans (hb.mono B4.out.size))
      simp only [List.drop_succ_cons, List.drop_zero]
      rw [show List.range 13 = [0, 1, 2, 3, 4, 5, 6, 7, 8, 9, 10, 11, 12] from rfl]
      generalize e0 : vals 0 = u0
      generalize e1 : vals 1 = u1
      generalize e2 : vals 2 = u2
      generalize e3 : vals 3 = u3
      generalize e4 : vals 4 = u4
      generalize e5 : vals 5 = u5
      generalize e6 : vals 6 = u6
      generalize e7 : vals 7 = u7
      generalize e8 : vals 8 = u8
      generalize e9 : vals 9 = u9
      generalize e10 : vals 10 = u10
      generalize e11 : vals 11 = u11
      simp only [Rel.rp, dl, e0, e1, e2, e3, e4, e5, e6, e7, e8, e9, e10, e11]
      clear hrel hb hN
      go_wp2_with fail
      go_ret
      exact ⟨rfl, HB.out⟩
  · clear HS HM3 HL HH
    have hf := HF.out (by omega)
    clear HF
    obtain ⟨an, rfl⟩ : ∃ n : Nat, a = n := ⟨a.toNat, by omega⟩
    have hr : ((an : Int) % 65) = ((an % 65 : Nat) : Int) := by omega
    have hr2 : an % 65 < 65 := Nat.mod_lt _ (by decide)
    have B5 := B4
    clear B4
    go_wp2_with fail
    go_loopg [9, 10] 64 (fun k v9 v10 wr => ∃ t : Nat, t + k = 64 ∧ v9 = .string (key ++ zeroB t) ∧ v10 = .int .i64 (t : Int) ∧ key.size + t ≤ 64 ∧ Below w.heap.size w wr)
    case atStart => exact ⟨0, rfl, by rw [zeroB_none], rfl, by omega, B5.out⟩
    case round =>
      clear B5
      obtain ⟨t, ht, rfl, rfl, hs, hB⟩ := hrel
      have HB := Aside0.mk hB
      have hz : (key ++ zeroB t).size = key.size + t := by rw [ByteArray.size_append, zeroB_size]
      have HE := Aside0.mk (zeroB_succ key t)
      have hG := HG.out t hs
      have HM5 := Aside0.mk (HM4.out t hs)
      rw [hG] at HM5
      clear hB
      by_cases c1 : t < an % 65
      · have l1 : (t : Int) < ((an % 65 : Nat) : Int) := by omega
        by_cases c2 : key.size + t < 64
        · have l2 : ((key ++ zeroB t).size : Int) < 64 := by omega
          generalize hq : an % 65 = q at *
          generalize hx : key ++ zeroB t = x at *
          go_wp2_with fail
          go_roundg (gk - 1)
          case measure => omega
          case rel => exact ⟨t + 1, by omega, by rw [HE.out], by go_num, by omega, HB.out⟩
        · have l2 : (key ++ zeroB t).size = 64 := by omega
          generalize hq : an % 65 = q at *
          generalize hx : key ++ zeroB t = x at *
          clear hz c2 hs hx hG HE hq
          go_wp2_with fail
          refine (HM5.out _ (HT.out.keep HB.out)).mono ?_
          rintro e w6 ⟨rfl, b6⟩
          have B6 := Aside0.mk (HB.out.trans (b6.mono HB.out.size))
          clear b6 HB
          go_wp2_with fail
          go_ret
          refine ⟨?_, B6.out⟩
          simp [hf]
      · have l1 : ¬ (t : Int) < ((an % 65 : Nat) : Int) := by omega
        generalize hq : an % 65 = q at *
        generalize hx : key ++ zeroB t = x at *
        go_wp2_with fail
        refine (HM5.out _ (HT.out.keep HB.out)).mono ?_
        rintro e w6 ⟨rfl, b6⟩
        have B6 := Aside0.mk (HB.out.trans (b6.mono HB.out.size))
        clear b6 HB
        go_wp2_with fail
        go_ret
        refine ⟨?_, B6.out⟩
        simp [hf]
end Go.Proofs.YtomninikmcmmcaaDoor.Sha
