/- OctetOne: bytes that are read as some things are those that these are written as. -/
import Derived.Test.YtdjpcogkpnemlaaReadT
import Derived.Test.YtdjpcogkpnemlaaLawReads
namespace Go.Proofs.Ytdjpcogkpnemlaa.Oct
open Go Go.RowKit Go.Proofs.YtdjpcogkpnemlaaW.PrintWords Go.Proofs.Ytdjpcogkpnemlaa.POr Go.Proofs.Ytdjpcogkpnemlaa.PIn
set_option linter.unusedVariables false
set_option linter.unusedSimpArgs false
set_option maxRecDepth 100000
set_option maxHeartbeats 4000000
attribute [local go_sem high] eqA29
theorem enc_small1 (x : S48) (gx : Good48 x) (hs : x.f2.size ≤ 2000) : (encT x).size ≤ 2100 := by
  obtain ⟨h0, h0', h1, h1', h2, h2', h3, h3'⟩ := good_nat gx
  unfold encT thingEnc textEnc
  have a := wide_len 0 x.f1.f1.toNat (by omega) (by omega)
  have b := wide_len x.f1.f0.toNat x.f1.f1.toNat (by omega) (by omega)
  have c := wide_len 0 x.f2.size (by omega) (by omega)
  split
  · show 1 ≤ _; omega
  · split
    · omega
    · split
      · omega
      · split
        · show 1 ≤ _; omega
        · rw [ByteArray.size_append]; omega
/-- One thing, written. -/
theorem thing_wrote (kind hi lo : Nat) (s : ByteArray) (most : Int) (hk : kind < 256) (h1 : hi < 18446744073709551616) (h2 : lo < 18446744073709551616) (hs : s.size ≤ 2000) (hm : -9223372036854775808 ≤ most ∧ most ≤ 9223372036854775807) (W : World) (g : Nat) (h : W.heap[g]? = some (.cells #[.int .u8 kind, .int .u64 hi, .int .u64 lo, .string s, .int .i64 most] 48 (0, 0))) :
    Calls Try.prog 34 #[.slice (some ⟨g, 0, none⟩) 1 1] W fun e w' => e = .returned (.tuple #[.string (thingEnc kind hi lo s), .int .i64 0]) ∧ Below W.heap.size W w' := by
  have wk : (Lit.int .u8 (kind : Int)).wf = true := by simp [Lit.wf, IntKind.min, IntKind.max, IntKind.signed, IntKind.bits]; omega
  have wm : (Lit.int .i64 most).wf = true := by simp [Lit.wf, IntKind.min, IntKind.max, IntKind.signed, IntKind.bits]; omega
  have gd : Good48 ⟨kind, ⟨hi, lo⟩, s, most⟩ := ⟨wk, ⟨wf_u64 h1, wf_u64 h2⟩, by show s.size ≤ _; omega, wm⟩
  have hx : ∀ x ∈ [(⟨kind, ⟨hi, lo⟩, s, most⟩ : S48)], Good48 x ∧ x.f2.size ≤ 35184372088832 := by
    intro x hx
    rw [List.mem_singleton.1 hx]
    exact ⟨gd, by show s.size ≤ _; omega⟩
  have he := enc_small1 ⟨kind, ⟨hi, lo⟩, s, most⟩ gd hs
  obtain ⟨r1, r2⟩ := one_wrote ⟨kind, ⟨hi, lo⟩, s, most⟩ (by omega)
  have := wrote_calls [⟨kind, ⟨hi, lo⟩, s, most⟩] (some ⟨g, 0, none⟩) 1 W (one_thing' W g ⟨kind, ⟨hi, lo⟩, s, most⟩ h) (Nat.le_refl _) hx (by show 1 ≤ _; omega)
  rw [r1, r2] at this
  exact this
theorem one_walk (s : ByteArray) (hs : s.size ≤ 140737488351232) (ks : List Int) (A : Option Addr) (c : Nat) (w : World) (hC : Kd.C (Kd.int .u8) w A ks.length ks) (hc : ks.length ≤ c) (hk : ∀ k ∈ ks, (Lit.int .u8 k).wf = true) :
    Calls Try.prog 8 #[.string s, .slice A ks.length c] w fun e w' => e = .returned (.bool true) ∧ Below w.heap.size w w' := by
  have HC := Aside0.mk hC
  have HKS := Aside0.mk hk
  clear hC hk
  by_cases hl : 1000 < s.size
  · have h1 : (1000 : Int) < (s.size : Int) := by omega
    go_enter Try.func8, Try.ntmps8
    go_wp2_with fail
    refine (awake_calls _).mono ?_
    rintro e w1 ⟨rfl, b1⟩
    have HB := Aside0.mk b1
    clear b1
    go_wp2_with fail
    go_ret
    exact ⟨rfl, HB.out⟩
  by_cases hl2 : 200 < ks.length
  · have h1 : ¬ (1000 : Int) < (s.size : Int) := by omega
    have h2 : (200 : Int) < (ks.length : Int) := by omega
    go_enter Try.func8, Try.ntmps8
    go_wp2_with fail
    refine (awake_calls _).mono ?_
    rintro e w1 ⟨rfl, b1⟩
    have HB := Aside0.mk b1
    clear b1
    go_wp2_with fail
    go_ret
    exact ⟨rfl, HB.out⟩
  have h1 : ¬ (1000 : Int) < (s.size : Int) := by omega
  have h2 : ¬ (200 : Int) < (ks.length : Int) := by omega
  go_enter Try.func8, Try.ntmps8
  go_wp2_with fail
  refine (awake_calls _).mono ?_
  rintro e w1 ⟨rfl, b1⟩
  have HB1 := Aside0.mk b1
  clear b1
  go_wp2_with fail
  refine (at_open s hs w1).mono ?_
  rintro e w2 ⟨g, hg, rfl, i2, b2⟩
  have HB2 := Aside0.mk (HB1.out.trans (b2.mono HB1.out.size))
  have HG := Aside0.mk (Nat.le_trans HB1.out.size hg)
  have HI := Aside0.mk i2
  clear i2 b2 hg
  go_wp2_with fail
  go_loopg [6, 7] (ks.length + 1) (fun k sv iv wr => ∃ (t : Int) (b was : ByteArray), 0 ≤ t ∧ t + k = ks.length + 1 ∧ t ≤ ks.length ∧ sv = .string was ∧ iv = .int .i64 t ∧ InAt g b false wr ∧ Aside0 (s = was ++ b) ∧ Below w.heap.size w wr)
  case atStart => exact ⟨0, s, noB, by omega, by omega, by omega, rfl, rfl, HI.out, Aside0.mk (by apply ByteArray.ext; simp), HB2.out⟩
  case round =>
    obtain ⟨t, b, was, h0, hkk, ht, rfl, rfl, hi, HS, hb⟩ := hrel
    by_cases hlt : t < ks.length
    · obtain ⟨ad, e, x0⟩ := Kd.at_int (Kd.C_below HC.out hb) t h0 hlt
      cases e
      have hm : rd ks t ∈ ks := by
        unfold rd
        rw [List.getD_eq_getElem?_getD, List.getElem?_eq_getElem (by omega)]
        exact List.getElem_mem _
      have hwf := HKS.out _ hm
      obtain ⟨kn, hkn, hk256⟩ : ∃ kn : Nat, rd ks t = kn ∧ kn < 256 := by
        simp [Lit.wf, IntKind.min, IntKind.max, IntKind.signed, IntKind.bits] at hwf
        exact ⟨(rd ks t).toNat, by omega, by omega⟩
      rw [hkn] at x0
      have HKN := Aside0.mk hkn
      have HRD := Aside0.mk (fun z (h1 : InAt g b false z) => at_read kn 1000 (by omega) h1)
      have HI2 := Aside0.mk hi
      have HLT := Aside0.mk hlt
      have HT0 := Aside0.mk h0
      have HK := Aside0.mk hkk
      have HBB := Aside0.mk hb
      have HLE := Aside0.mk ht
      clear hm hwf hi hb hkn
      go_wp2_with fail
      refine (HRD.out _ HI2.out).mono ?_
      rintro e w3 ⟨rfl, i3, t3⟩
      have HB3 := Aside0.mk (t3.below HBB.out HG.out HBB.out.size)
      have HSP := Aside0.mk (fun h => read_sp (kind := kn) (most := 1000) (b := b) (sp := false) h)
      have HOK := Aside0.mk (fun h => read_ok (kind := kn) (most := 1000) (b := b) (sp := false) h)
      unfold readV
      generalize readN kn 1000 b false = N at *
      generalize moveS kn 1000 b false = M at *
      obtain ⟨hi1, lo1, s1⟩ := N
      obtain ⟨b1, sp1⟩ := M
      simp only at *
      have hbn : Below w3.heap.size w3 (w3.alloc (.cells #[.int .u8 kn, .int .u64 hi1, .int .u64 lo1, .string s1, .int .i64 1000] 48)) := (Below.refl _ _).alloc (Nat.le_refl _) _
      have HI4 := Aside0.mk (i3.below hbn)
      have HB4 := Aside0.mk (HB3.out.trans (hbn.mono HB3.out.size))
      have HX := Aside0.mk (blk_new w3 (.cells #[.int .u8 kn, .int .u64 hi1, .int .u64 lo1, .string s1, .int .i64 1000] 48))
      have HXN := Aside0.mk i3.lt
      clear hbn i3 t3 x0
      go_wp2_with fail
      refine (at_spoilt HI4.out).mono ?_
      rintro e z1 ⟨rfl, rfl⟩
      cases sp1 with
      | true =>
        obtain ⟨hN, hM⟩ := HSP.out rfl
        injection hN with n1 n2
        injection n2 with n2 n3
        injection hM with m1 m2
        subst n1 n2 n3 m1
        simp only [show ((0 : Nat) : Int) = 0 from rfl] at HX HB4 HI4 ⊢
        obtain ⟨ad2, e2, y0⟩ := Kd.at_int (Kd.C_below HC.out HB4.out) t HT0.out HLT.out
        cases e2
        rw [HKN.out] at y0
        have hlt2 := HLT.out
        have h02 := HT0.out
        have HRD2 := Aside0.mk (at_read kn 1000 (by omega) HI4.out)
        obtain ⟨q1, q2⟩ := read_sp (move_sp kn 1000)
        unfold readV at HRD2
        rw [q1, q2] at HRD2
        simp only at HRD2
        clear q1 q2
        go_wp2_with fail
        refine HRD2.out.mono ?_
        rintro e w5 ⟨rfl, i5, t5⟩
        have HB5 := Aside0.mk (t5.below HB4.out HG.out HB4.out.size)
        have gX5 := t5.keep.2 w3.heap.size (blk_lt HX.out) (by have := HXN.out; omega) (by simp)
        have gX6 := blk_alloc (gX5.trans HX.out) (.cells #[.int .u8 kn, .int .u64 0, .int .u64 0, .string ⟨#[]⟩, .int .i64 1000] 48)
        have gY6 := blk_new w5 (.cells #[.int .u8 kn, .int .u64 0, .int .u64 0, .string ⟨#[]⟩, .int .i64 1000] 48)
        have hbn : Below w5.heap.size w5 (w5.alloc (.cells #[.int .u8 kn, .int .u64 0, .int .u64 0, .string ⟨#[]⟩, .int .i64 1000] 48)) := (Below.refl _ _).alloc (Nat.le_refl _) _
        have HI6 := Aside0.mk (i5.below hbn)
        have HB6 := Aside0.mk (HB5.out.trans (hbn.mono HB5.out.size))
        have c1 := blk_cell gX6 1
        have c2 := blk_cell gX6 2
        have c3 := blk_cell gX6 3
        have d1 := blk_cell gY6 1
        have d2 := blk_cell gY6 2
        have d3 := blk_cell gY6 3
        clear gX5 gX6 gY6 hbn i5 t5 y0
        go_wp2_with fail
        refine (at_rest HI6.out).mono ?_
        rintro e z1 ⟨rfl, rfl⟩
        rw [show ((noB.size : Nat) : Int) = 0 from rfl]
        go_wp2_with fail
        refine (at_close HI6.out).mono ?_
        rintro e z1 ⟨rfl, rfl⟩
        rw [show closeS noB true = 80 from rfl]
        go_wp2_with fail
        go_ret
        exact ⟨rfl, HB6.out⟩
      | false =>
        obtain ⟨_, hbeq, hhi, hlo, hs1⟩ := HOK.out rfl
        have hss := congrArg ByteArray.size HS.out
        rw [ByteArray.size_append] at hss
        have hs2000 : s1.size ≤ 2000 := by omega
        have hbs := congrArg ByteArray.size hbeq
        rw [ByteArray.size_append] at hbs
        have HWR := Aside0.mk (fun W gg h => thing_wrote kn hi1 lo1 s1 1000 hk256 hhi hlo hs2000 (by omega) W gg h)
        have HEQ := Aside0.mk (show s = (was ++ thingEnc kn hi1 lo1 s1) ++ b1 by rw [ba_assoc, ← hbeq]; exact HS.out)
        have c0 := blk_cell HX.out 0
        have c1 := blk_cell HX.out 1
        have c2 := blk_cell HX.out 2
        have c3 := blk_cell HX.out 3
        have c4 := blk_cell HX.out 4
        generalize thingEnc kn hi1 lo1 s1 = te at *
        have hsz1 : was.size + te.size ≤ 9223372036854775807 := by omega
        have HSS := Aside0.mk (⟨hss, hbs⟩ : s.size = was.size + b.size ∧ b.size = te.size + b1.size)
        have hbk := blk_new (w3.alloc (.cells #[.int .u8 kn, .int .u64 hi1, .int .u64 lo1, .string s1, .int .i64 1000] 48)) (.cells #[.int .u8 kn, .int .u64 hi1, .int .u64 lo1, .string s1, .int .i64 1000] 48)
        rw [alloc_size] at hbk
        have HBK := Aside0.mk hbk
        clear hbeq hs1 hhi hlo hss hbs hbk
        go_wp2_with fail
        refine (HWR.out _ _ HBK.out).mono ?_
        rintro e w5 ⟨rfl, b5⟩
        have hbn := HB4.out.alloc HB4.out.size (.cells #[.int .u8 kn, .int .u64 hi1, .int .u64 lo1, .string s1, .int .i64 1000] 48)
        have HB5 := Aside0.mk (hbn.trans (b5.mono hbn.size))
        have HI5 := Aside0.mk ((HI4.out.below ((Below.refl _ _).alloc (Nat.le_refl _) (.cells #[.int .u8 kn, .int .u64 hi1, .int .u64 lo1, .string s1, .int .i64 1000] 48))).below b5)
        clear hbn b5 c0 c1 c2 c3 c4
        obtain ⟨hss, hbs⟩ := HSS.out
        have hwn : ((was ++ te).size : Int) = (s.size : Int) - (b1.size : Int) := by rw [ByteArray.size_append]; omega
        have hle : ((was ++ te).size : Int) ≤ (s.size : Int) := by omega
        have hex : s.extract 0 (was ++ te).size = was ++ te := by
          have := takeS_app (was ++ te) b1 (was ++ te).size rfl
          rw [← HEQ.out] at this
          have h3 := takeS_inv this
          apply ba_ext
          rw [extract_list, List.drop_zero, Nat.sub_zero]
          show (toL s).take _ = _
          rw [HEQ.out, toL_append, ← toL_len (was ++ te), List.take_left' rfl]
        have HWN := Aside0.mk hwn
        have HEX := Aside0.mk hex
        have HLE2 := Aside0.mk hle
        have hb1 : (b1.size : Int) ≤ (s.size : Int) := by omega
        clear hwn hex hle hss hbs
        go_wp2_with fail
        refine (at_rest HI5.out).mono ?_
        rintro e z1 ⟨rfl, rfl⟩
        have hw1 : (was.size : Int) + (te.size : Int) = (s.size : Int) - (b1.size : Int) := by have := HSS.out; omega
        have hq : ((was ++ te).toList == (s.extract 0 (s.size - b1.size)).toList) = true := by
          have h1 := HEX.out
          have h2 : (was ++ te).size = s.size - b1.size := by have := HSS.out; rw [ByteArray.size_append]; omega
          rw [h2] at h1
          rw [h1]; exact beq_self_eq_true _
        go_wp2_with fail
        go_roundg (gk - 1)
        case measure => have := HK.out; have := HLT.out; omega
        case rel => exact ⟨t + 1, b1, was ++ te, by have := HT0.out; omega, by have := HK.out; omega, by have := HLT.out; omega, rfl, by go_num, HI5.out, HEQ, HB5.out⟩
    · have hss := congrArg ByteArray.size HS.out
      rw [ByteArray.size_append] at hss
      have hfin : ((closeS b false == 0) == (was.toList == s.toList)) = true := by
        rw [close_done]
        unfold refDone
        rw [if_neg (by simp)]
        by_cases hb0 : b.size = 0
        · have e : b = noB := ba_ext (List.eq_nil_of_length_eq_zero (l := b.data.toList) (by rw [← size_list]; exact hb0))
          have e2 : s = was := by rw [HS.out, e]; apply ByteArray.ext; simp
          rw [hb0, e2]; simp
        · have e2 : (was.toList == s.toList) = false := by
            rw [beq_eq_false_iff_ne, Lib.toList_data, Lib.toList_data]
            intro h
            have := congrArg List.length h
            rw [← size_list, ← size_list] at this
            omega
          have e3 : ((b.size : Int) == 0) = false := by rw [beq_eq_false_iff_ne]; omega
          rw [e2, e3]; rfl
      have HF := Aside0.mk hfin
      have HCL := Aside0.mk (at_close hi)
      have HBB := Aside0.mk hb
      clear hss hfin hi hb
      go_wp2_with fail
      refine HCL.out.mono ?_
      rintro e z1 ⟨rfl, rfl⟩
      have hf := HF.out
      go_wp2_with fail
      go_ret
      exact ⟨rfl, HBB.out⟩
theorem octone_row (w : World) (s : ByteArray) (hs : s.size ≤ 140737488351232) (A : Option Addr) (c : Nat) (ks : List Int) (hC : Kd.C (Kd.int .u8) w A ks.length ks) (hc : ks.length ≤ c) (hk : ∀ k ∈ ks, (Lit.int .u8 k).wf = true) (hb : ks.length * Try.prog.bytesOf 5 ≤ 140737488351232) :
    Calls Try.prog 8 #[.string s, .slice A ks.length c] w fun e w' => e = .returned (.bool true) ∧ Below w.heap.size w w' :=
  one_walk s hs ks A c w hC hc hk
end Go.Proofs.Ytdjpcogkpnemlaa.Oct
