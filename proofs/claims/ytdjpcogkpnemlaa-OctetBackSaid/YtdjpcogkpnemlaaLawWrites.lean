/- OctetWrites: the reference's text of a thing, and the walk. -/
import Derived.Test.YtdjpcogkpnemlaaInX
import Derived.Test.YtdjpcogkpnemlaaLawOrder
import Derived.Laws.MakeOwn
namespace Go.Proofs.Ytdjpcogkpnemlaa.Oct
open Go Go.RowKit Go.Proofs.YtdjpcogkpnemlaaW.PrintWords Go.Proofs.Ytdjpcogkpnemlaa.POr
set_option linter.unusedVariables false
set_option linter.unusedSimpArgs false
set_option maxRecDepth 100000
set_option maxHeartbeats 4000000
theorem refnum_calls (n : Nat) (h : n < 18446744073709551616) (w : World) : Calls Try.prog 15 #[.int .u64 n] w fun e w' => e = .returned (.string (wideEnc 0 n)) ∧ Below w.heap.size w w' :=
  paymasterref08_Num.calls 40 n _ w (refNum 20 n h)
theorem refwide_calls (hi lo : Nat) (h1 : hi < 18446744073709551616) (h2 : lo < 18446744073709551616) (w : World) : Calls Try.prog 41 #[.agg #[.int .u64 hi, .int .u64 lo]] w fun e w' => e = .returned (.string (wideEnc hi lo)) ∧ Below w.heap.size w w' :=
  paymasterref08_Wide.calls 40 hi lo _ w (refWide 20 hi lo h1 h2)
theorem reftext_calls (s : ByteArray) (hs : s.size ≤ 35184372088832) (w : World) : Calls Try.prog 17 #[.string s] w fun e w' => e = .returned (.string (textEnc s)) ∧ Below w.heap.size w w' := by
  have HN := Aside0.mk (fun w => refnum_calls s.size (by omega) w)
  have hz := wideEnc_size 0 s.size (leastN_le 0 s.size (by omega) (by omega))
  have hl := leastN_le 0 s.size (by omega) (by omega)
  have h2 : (wideEnc 0 s.size).size + s.size ≤ 9223372036854775807 := by omega
  unfold textEnc
  clear hz hl
  generalize wideEnc 0 s.size = x at *
  go_enter Try.func17, Try.ntmps17
  go_wp2_with fail
  refine (HN.out _).mono ?_
  rintro e w1 ⟨rfl, b1⟩
  have HB := Aside0.mk b1
  clear b1
  go_wp2_with fail
  go_ret
  exact ⟨rfl, HB.out⟩
theorem lawtext_calls (x : S48) (gx : Good48 x) (hs : x.f2.size ≤ 35184372088832) (w : World) : Calls Try.prog 19 #[thA x] w fun e w' => e = .returned (.string (encT x)) ∧ Below w.heap.size w w' := by
  obtain ⟨h0, h0', h1, h1', h2, h2', h3, h3'⟩ := good_nat gx
  rw [th_nat gx]
  unfold encT thV
  have b0 : x.f0.toNat < 256 := by omega
  have b1 : x.f1.f0.toNat < 18446744073709551616 := by omega
  have b2 : x.f1.f1.toNat < 18446744073709551616 := by omega
  generalize x.f0.toNat = kind at *
  generalize x.f1.f0.toNat = hi at *
  generalize x.f1.f1.toNat = lo at *
  generalize x.f2 = s at *
  generalize x.f3 = most at *
  clear h0 h0' h1 h1' h2 h2' h3 h3' gx
  have gA := blk_new w (.cells #[.int .u8 kind, .int .u64 hi, .int .u64 lo, .string s, .int .i64 most] 48)
  have hb0 : Below w.heap.size w (w.alloc (.cells #[.int .u8 kind, .int .u64 hi, .int .u64 lo, .string s, .int .i64 most] 48)) := (Below.refl _ _).alloc (Nat.le_refl _) _
  have HB := Aside0.mk hb0
  have GA := Aside0.mk gA
  clear gA hb0
  have hcase : (kind : Int) % 5 = 0 ∨ (kind : Int) % 5 = 1 ∨ (kind : Int) % 5 = 2 ∨ (kind : Int) % 5 = 3 ∨ (kind : Int) % 5 = 4 := by omega
  rcases hcase with hc | hc | hc | hc | hc
  · have e : ((lo : Int) % 256) = ((UInt8.ofNat lo).toNat : Int) := by rw [UInt8.toNat_ofNat']; omega
    rw [show thingEnc kind hi lo s = ⟨#[UInt8.ofNat lo]⟩ from if_pos (by omega)]
    have hcv := conv1 ((w.alloc (.cells #[.int .u8 kind, .int .u64 hi, .int .u64 lo, .string s, .int .i64 most] 48)).alloc (.cells #[.int .u8 ((UInt8.ofNat lo).toNat : Int)] 5)) (w.heap.size + 1) (UInt8.ofNat lo) (by have h := blk_new (w.alloc (.cells #[.int .u8 kind, .int .u64 hi, .int .u64 lo, .string s, .int .i64 most] 48)) (.cells #[.int .u8 ((UInt8.ofNat lo).toNat : Int)] 5); rw [alloc_size] at h; exact h)
    rw [← e] at hcv
    clear e
    go_enter Try.func19, Try.ntmps19
    go_wp2_with fail
    go_ret
    exact ⟨rfl, HB.out.alloc HB.out.size _⟩
  · have HN := Aside0.mk (fun w => refnum_calls lo b2 w)
    rw [show thingEnc kind hi lo s = wideEnc 0 lo from by unfold thingEnc; rw [if_neg (by omega), if_pos (by omega)]]
    go_enter Try.func19, Try.ntmps19
    go_wp2_with fail
    refine (HN.out _).mono ?_
    rintro e w1 ⟨rfl, b1⟩
    have HB1 := Aside0.mk (HB.out.trans (b1.mono HB.out.size))
    clear b1
    go_wp2_with fail
    go_ret
    exact ⟨rfl, HB1.out⟩
  · have HN := Aside0.mk (fun w => refwide_calls hi lo b1 b2 w)
    rw [show thingEnc kind hi lo s = wideEnc hi lo from by unfold thingEnc; rw [if_neg (by omega), if_neg (by omega), if_pos (by omega)]]
    go_enter Try.func19, Try.ntmps19
    go_wp2_with fail
    refine (HN.out _).mono ?_
    rintro e w1 ⟨rfl, b1⟩
    have HB1 := Aside0.mk (HB.out.trans (b1.mono HB.out.size))
    clear b1
    go_wp2_with fail
    go_ret
    exact ⟨rfl, HB1.out⟩
  · have e : ((lo : Int) % 2 == 1) = (lo % 2 == 1) := by rw [Bool.eq_iff_iff]; simp; omega
    have HN := Aside0.mk (fun w => paymasterref08_Flag.calls (lo % 2 == 1) ⟨#[flagB (lo % 2 == 1)]⟩ w (by unfold paymasterref08_Flag.f flagB; split <;> rfl))
    have E := Aside0.mk e
    rw [show thingEnc kind hi lo s = ⟨#[flagB (lo % 2 == 1)]⟩ from by unfold thingEnc; rw [if_neg (by omega), if_neg (by omega), if_neg (by omega), if_pos (by omega)]]
    clear e
    go_enter Try.func19, Try.ntmps19
    go_wp2_with fail
    rw [E.out]
    refine (HN.out _).mono ?_
    rintro e w1 ⟨rfl, b1⟩
    have HB1 := Aside0.mk (HB.out.trans (b1.below.mono HB.out.size))
    clear b1
    go_wp2_with fail
    go_ret
    exact ⟨rfl, HB1.out⟩
  · have HN := Aside0.mk (fun w => reftext_calls s hs w)
    rw [show thingEnc kind hi lo s = textEnc s from by unfold thingEnc; rw [if_neg (by omega), if_neg (by omega), if_neg (by omega), if_neg (by omega)]]
    go_enter Try.func19, Try.ntmps19
    go_wp2_with fail
    refine (HN.out _).mono ?_
    rintro e w1 ⟨rfl, b1⟩
    have HB1 := Aside0.mk (HB.out.trans (b1.mono HB.out.size))
    clear b1
    go_wp2_with fail
    go_ret
    exact ⟨rfl, HB1.out⟩
theorem long_l0 (xs : List S48) (d : Nat) : ∀ (k : Nat) (t : Int), 0 ≤ t → t + d = xs.length → xs.length ≤ 200 → d < k → ∃ b, paymasterlaw08_Long.l0 k xs t = some b ∧ (b = false → ∀ j, t.toNat ≤ j → ∀ x, xs[j]? = some x → x.f2.size ≤ 2000) := by
  induction d with
  | zero =>
    intro k t h0 ht hl hk
    obtain ⟨k, rfl⟩ : ∃ m, k = m + 1 := ⟨k - 1, by omega⟩
    refine ⟨false, by rw [paymasterlaw08_Long.l0, if_neg (by omega)], fun _ j hj x hx => ?_⟩
    rw [List.getElem?_eq_none (by omega)] at hx
    cases hx
  | succ d ih =>
    intro k t h0 ht hl hk
    obtain ⟨k, rfl⟩ : ∃ m, k = m + 1 := ⟨k - 1, by omega⟩
    obtain ⟨b, e, hb⟩ := ih k (t + 1) (by omega) (by omega) hl (by omega)
    rw [paymasterlaw08_Long.l0, if_pos (by omega), if_pos h0, wrap64_in (by omega) (by omega)]
    by_cases hc : ((rd_T48 xs t).f2.size : Int) > 2000
    · exact ⟨true, by rw [if_pos hc], fun h => by cases h⟩
    · refine ⟨b, by rw [if_neg hc, e], fun h j hj x hx => ?_⟩
      by_cases hj2 : (t + 1).toNat ≤ j
      · exact hb h j hj2 x hx
      · have : j = t.toNat := by omega
        subst this
        have : rd_T48 xs t = x := by unfold rd_T48; rw [List.getD_eq_getElem?_getD, hx]; rfl
        rw [this] at hc
        omega
theorem long_some (xs : List S48) : ∃ b, paymasterlaw08_Long.f 300 xs = some b ∧ (b = false → xs.length ≤ 200 ∧ ∀ x ∈ xs, x.f2.size ≤ 2000) := by
  unfold paymasterlaw08_Long.f
  by_cases h : (xs.length : Int) > 200
  · exact ⟨true, by rw [if_pos h], fun h => by cases h⟩
  · obtain ⟨b, e, hb⟩ := long_l0 xs xs.length 300 0 (by omega) (by omega) (by omega) (by omega)
    refine ⟨b, by rw [if_neg h, e], fun h2 => ⟨by omega, fun x hx => ?_⟩⟩
    obtain ⟨j, hj, rfl⟩ := List.mem_iff_getElem.1 hx
    exact hb h2 j (by omega) _ (List.getElem?_eq_getElem hj)
theorem long_calls (A : Option Addr) (c : Nat) (xs : List S48) (w : World) (hC : Kd.C k48 w A xs.length xs) (hc : xs.length ≤ c) :
    ∃ b : Bool, (b = false → xs.length ≤ 200 ∧ ∀ x ∈ xs, x.f2.size ≤ 2000) ∧ Calls Try.prog 14 #[.slice A xs.length c] w fun e w' => e = .returned (.bool b) ∧ Below w.heap.size w w' := by
  obtain ⟨b, e, hb⟩ := long_some xs
  refine ⟨b, hb, (paymasterlaw08_Long.calls 300 A c xs b w hC hc e).mono ?_⟩
  rintro e w' ⟨rfl, hd⟩
  exact ⟨rfl, hd.below⟩
/-- A row of bytes of one's own, as a text. -/
theorem own_conv {B : Nat} {v : Value} {b : ByteArray} {w : World} (hown : w.ownsRow B 5 1 v b.size (Lib.strCells b)) : (convert 40 9 v).run Try.prog w = .ok (.string b) w := by
  rcases hown.2 with ⟨rfl, h0⟩ | ⟨k, cap, cur, rfl, _⟩
  · have e : b = ⟨#[]⟩ := by
      apply ByteArray.ext
      exact Array.eq_empty_of_size_eq_zero h0
    rw [e]
    exact Lib.run_convert_nil_bytes w 40 9 5 0 Try.underlying40 Try.underlying5 Try.underlying9
  · refine Lib.run_convert_whole w 40 5 9 Try.underlying40 Try.underlying5 Try.underlying9 k 0 b (fun j hj => ?_) cap
    have hc := hown.cells (g := k) rfl j (.int .u8 (b[j].toNat : Int)) (by
      have : b.data.toList[j]? = some b[j] := byte_at b j hj
      simp [Lib.strCells, this])
    rw [Nat.zero_add]
    by_cases h0 : j = 0
    · subst h0; simpa [Addr.add] using hc
    · simpa [Addr.add, h0] using hc
def zeroB (n : Nat) : ByteArray := ⟨(List.replicate n 0).toArray⟩
theorem zeroB_size (n : Nat) : (zeroB n).size = n := by rw [zeroB, ofList_size, List.length_replicate]
/-- make([]byte, n), and its text. -/
theorem make_zero (w : World) (n : Nat) (hn : n ≤ 16777216) : ∃ o, (Instr.makeSlice 40 (.int .i64 n) (.int .i64 n)).run Try.prog w = .ok (.slice (some ⟨w.heap.size, 0, none⟩) n n) (w.alloc o) ∧ ∀ W, W.heap[w.heap.size]? = some o → (convert 40 9 (.slice (some ⟨w.heap.size, 0, none⟩) n n)).run Try.prog W = .ok (.string (zeroB n)) W := by
  obtain ⟨i0, hi, hz0, hz1, hz2⟩ := info_parts (P := Try.prog) (e := 5) (z := .int .u8 0) (size := 1) (bytes := 1) (by kernel_rfl)
  have hr := run_makeSlice (P := Try.prog) w 40 5 i0 (.int .u8 0) Try.underlying40 hi hz0 .i64 .i64 n n (by omega) (Int.le_refl _) (by rw [hz1]; omega) (by rw [hz2]; omega) (by omega)
  simp only [Int.toNat_natCast] at hr
  refine ⟨_, hr, fun W hW => ?_⟩
  have h := Lib.run_convert_whole (P := Try.prog) W 40 5 9 Try.underlying40 Try.underlying5 Try.underlying9 w.heap.size 0 (zeroB n) (fun j hj => ?_) n
  · rw [zeroB_size] at h; exact h
  · rw [zeroB_size] at hj
    rw [Nat.zero_add, cell_of_row W w.heap.size j _ _ _ hW, hz1, Nat.mul_one]
    have hl : (madeCells (Value.int .u8 0).cells n).toList = List.replicate n (.int .u8 0) := toList_madeCells_one _ _
    rw [← Array.getElem?_toList, hl, List.getElem?_replicate, if_pos hj]
    congr 2
    have : (zeroB n)[j] = 0 := by
      show (List.replicate n (0 : UInt8)).toArray[j] = 0
      simp
    rw [this]; rfl
/-- The first that is put, and all else is kept. -/
theorem put_new (g : Nat) (s : ByteArray) (w : World) (hb : w.heap[g]? = some (.cells #[.slice none 0 0, .bool false] 42 (0, 0))) (hs : s.size ≤ 70368744177664) :
    Calls Try.prog 43 #[.pointer (some ⟨g, 0, none⟩), .string s] w fun e w' => e = .returned (.tuple #[]) ∧ OutAt g g (OutS.new.put s) w' ∧ Below g w w' ∧ KeepBut w w' g none := by
  obtain ⟨i0, hi, hz0, hz1, hz2⟩ := info_parts (P := Try.prog) (e := 5) (z := .int .u8 0) (size := 1) (bytes := 1) (by kernel_rfl)
  have hlt := blk_lt hb
  have hown : w.ownsRow g 5 1 (.slice none 0 0) 0 [] := World.ownsRow_nil _ _ _ _
  have c0 : w.cell? ⟨g, 0, none⟩ = some (.slice none 0 0) := by rw [Lib.cell_of_heap hb]; rfl
  have c1 : w.cell? ⟨g, 1, none⟩ = some (.bool false) := by rw [Lib.cell_of_heap hb]; rfl
  have f0 : w.frozen? ⟨g, 0, none⟩ = false := Lib.frozen_of_heap hb 0
  have f1 : w.frozen? ⟨g, 1, none⟩ = false := Lib.frozen_of_heap hb 1
  have eb : OutS.new.b.size = 0 := rfl
  by_cases hl : 1048576 < s.size
  · have h1 : (1048576 : Int) < (s.size : Int) := by omega
    have e : OutS.new.put s = ⟨noB, true⟩ := by unfold OutS.put; rw [if_pos (.inr (by rw [eb]; omega))]; rfl
    rw [e]
    go_enter Try.func43, Try.ntmps43
    go_wp2_with fail
    refine bodyPost_end (results_none rfl _ _ _) rfl ⟨rfl, ?_, (Below.refl g w).setCell (p := ⟨g, 1, none⟩) (Nat.le_refl _) _, (KeepBut.refl w g none).set_ 1 _⟩
    exact ⟨Nat.le_refl _, by show 0 ≤ _; omega, .slice none 0 0, blk_put hb 1 _ rfl, World.ownsRow_nil _ _ _ _, by simp [Value.ownBlock]⟩
  · have h1 : ¬ (1048576 : Int) < (s.size : Int) := by omega
    have e : OutS.new.put s = ⟨noB ++ s, false⟩ := by
      unfold OutS.put; rw [if_neg (by rw [eb]; intro h; rcases h with h | h; (cases h); omega)]; rfl
    have e2 : noB ++ s = s := by apply ByteArray.ext; simp
    rw [e, e2]
    go_enter Try.func43, Try.ntmps43
    go_wp2_with (at_builtin; refine Lib.wpList_append_own_string _ rfl _ _ 40 9 rfl g 5 i0 Try.underlying40 Try.underlying9 hi hz0 hz1 hz2 _ _ _ rfl hown s rfl ?c3 ?c4 ?c5 ?_)
    case c3 => unfold maxLen; omega
    case c4 => omega
    case c5 => omega
    intro v' w2 hown' hgrow _
    have hb2 : w2.heap[g]? = some (.cells #[.slice none 0 0, .bool false] 42 (0, 0)) := by
      rw [hgrow.block g hlt (by simp [Value.ownBlock])]
      exact hb
    have d0 : w2.cell? ⟨g, 0, none⟩ = some (.slice none 0 0) := by rw [Lib.cell_of_heap hb2]; rfl
    have f2 : w2.frozen? ⟨g, 0, none⟩ = false := Lib.frozen_of_heap hb2 0
    obtain ⟨ao', n', cap', rfl⟩ : ∃ ao n' cap, v' = .slice ao n' cap := by
      rcases hown'.2 with ⟨hv, _⟩ | ⟨k, cap, cur, hv, _⟩
      · exact ⟨_, _, _, hv⟩
      · exact ⟨_, _, _, hv⟩
    go_wp2_with fail
    have hown2 : w2.ownsRow g 5 1 (.slice ao' n' cap') s.size (Lib.strCells s) := hown'
    have hne2 : (Value.slice ao' n' cap').ownBlock ≠ some g := Lib.ownBlock_ne hown2 hb2 (by decide)
    refine bodyPost_end (results_none rfl _ _ _) rfl ⟨rfl, ⟨Nat.le_refl _, by show s.size ≤ 1048576; omega, .slice ao' n' cap', blk_put hb2 0 _ rfl, ?_, hne2⟩, ?_, ?_⟩
    · exact hown2.kept (row := some g) ⟨rfl, rfl, rfl, by simp [World.setCell], fun k _ hk => Below.heap_setCell _ _ _ _ (fun e => hk (by simp [e]))⟩ (Or.inr hne2)
    · exact ((Below.refl g w).grown hgrow (Nat.le_of_lt hlt) (by simp [Value.ownBlock])).setCell (p := ⟨g, 0, none⟩) (Nat.le_refl _) _
    · exact (KeepBut.of_grown hgrow g).set_ 0 _
theorem text_new (g : Nat) (s : ByteArray) (hs : s.size ≤ 35184372088832) (w : World) (hb : w.heap[g]? = some (.cells #[.slice none 0 0, .bool false] 42 (0, 0))) :
    Calls Try.prog 16 #[.pointer (some ⟨g, 0, none⟩), .string s] w fun e w' => e = .returned (.tuple #[]) ∧ OutAt g g (OutS.new.put (textEnc s)) w' ∧ Below g w w' ∧ KeepBut w w' g none := by
  have ho := out_new w
  have hb0 : Below w.heap.size w (w.alloc (.cells #[.slice none 0 0, .bool false] 42)) := (Below.refl _ _).alloc (Nat.le_refl _) _
  have HN := Aside0.mk (num_calls w.heap.size w.heap.size ⟨⟨#[]⟩, false⟩ s.size (by omega) _ ho hb0.size)
  have HX := Aside0.mk hb0
  have HO := Aside0.mk hb
  have hlt := blk_lt hb
  have HLT := Aside0.mk hlt
  have hl := leastN_le 0 s.size (by omega) (by omega)
  have hsz := wideEnc_size 0 s.size hl
  have HE := Aside0.mk (empty_put (wideEnc 0 s.size) (by omega))
  have HS := Aside0.mk (show (wideEnc 0 s.size ++ s).size ≤ 70368744177664 by rw [ByteArray.size_append]; omega)
  have hsum : (wideEnc 0 s.size).size + s.size ≤ 70368744177664 := by omega
  clear hb ho hb0 hsz hl hlt
  unfold textEnc
  generalize wideEnc 0 s.size = enc at *
  go_enter Try.func16, Try.ntmps16
  go_wp2_with fail
  refine HN.out.mono ?_
  rintro e w1 ⟨rfl, h1, hb1⟩
  rw [HE.out] at h1
  obtain ⟨v, hv, hc⟩ := h1.conv
  have c0 := blk_cell hv 0
  have hb2 := HX.out.trans hb1
  have HP := Aside0.mk (put_new g (enc ++ s) w1 (blk_below HO.out hb2) HS.out)
  have HZ := Aside0.mk hb2
  clear h1 hb1 hb2 hv
  go_wp2_with fail
  refine HP.out.mono ?_
  rintro e w2 ⟨rfl, h1, hb1, k1⟩
  go_wp2_with fail
  exact bodyPost_end (results_none rfl _ _ _) rfl ⟨rfl, h1, (HZ.out.mono (Nat.le_of_lt HLT.out)).trans hb1, (KeepBut.of_below HZ.out g none).trans k1 (.inl rfl)⟩
theorem enc_small (x : S48) (gx : Good48 x) (hs : x.f2.size ≤ 2000) : (encT x).size ≤ 2100 := by
  obtain ⟨h0, h0', h1, h1', h2, h2', h3, h3'⟩ := good_nat gx
  unfold encT thingEnc textEnc
  have a := wide_len 0 x.f1.f1.toNat (by omega) (by omega)
  have b := wide_len x.f1.f0.toNat x.f1.f1.toNat (by omega) (by omega)
  have c := wide_len 0 x.f2.size (by omega) (by omega)
  split
  · show 1 ≤ _; omega
  · split
    · omega
    · split
      · omega
      · split
        · show 1 ≤ _; omega
        · rw [ByteArray.size_append]; omega
/-- What is known at the head of the law's loop. -/
def Inv (B g : Nat) (O : OutS) (s : ByteArray) : Prop := O.long = false → s = O.b
theorem writes_walk (xs : List S48) (A : Option Addr) (c : Nat) (w : World) (hC : Kd.C k48 w A xs.length xs) (hc : xs.length ≤ c) (hx : ∀ x ∈ xs, Good48 x) (ahead : Int) (ha : -9223372036854775808 ≤ ahead ∧ ahead ≤ 9223372036854775807) :
    Calls Try.prog 4 #[.slice A xs.length c, .int .i64 ahead] w fun e w' => e = .returned (.bool true) ∧ Below w.heap.size w w' := by
  obtain ⟨lb, hlb, hlc⟩ := long_calls A c xs w hC hc
  have HLC := Aside0.mk hlc
  clear hlc
  cases lb with
  | true =>
    go_enter Try.func4, Try.ntmps4
    go_wp2_with fail
    refine HLC.out.mono ?_
    rintro e w1 ⟨rfl, b1⟩
    have HB := Aside0.mk b1
    clear b1
    go_wp2_with fail
    go_ret
    exact ⟨rfl, HB.out⟩
  | false =>
    obtain ⟨hl200, hx2000⟩ := hlb rfl
    have HX := Aside0.mk (fun x hm => (⟨hx x hm, hx2000 x hm⟩ : Good48 x ∧ x.f2.size ≤ 2000))
    have HC := Aside0.mk hC
    clear hC hx hx2000 hlb
    by_cases hp : 0 < ahead
    · have hN0 : 0 ≤ ahead % 1048586 := Int.emod_nonneg _ (by omega)
      have hN1 : ahead % 1048586 < 1048586 := Int.emod_lt_of_pos _ (by omega)
      obtain ⟨N, hN⟩ := Int.eq_ofNat_of_zero_le hN0
      have hNN : N < 1048586 := by omega
      clear hN0 hN1
      have hwl := wide_len 0 N (by omega) (by omega)
      have ht2 : (textEnc (zeroB N)).size = (wideEnc 0 N).size + N := by unfold textEnc; rw [ByteArray.size_append, zeroB_size]
      have HRN := Aside0.mk (fun W => refnum_calls N (by omega) W)
      have HTE := Aside0.mk ht2
      generalize wideEnc 0 N = wn at *
      go_enter Try.func4, Try.ntmps4
      go_wp2_with fail
      refine HLC.out.mono ?_
      rintro e w1 ⟨rfl, b1⟩
      have HW1 := Aside0.mk b1.size
      have HB := Aside0.mk (b1.alloc b1.size (.cells #[.slice none 0 0, .bool false] 42))
      have HG0 := Aside0.mk (blk_new w1 (.cells #[.slice none 0 0, .bool false] 42))
      obtain ⟨o, hmk, hcv⟩ := make_zero (w1.alloc (.cells #[.slice none 0 0, .bool false] 42)) N (by omega)
      have hfb := blk_new (w1.alloc (.cells #[.slice none 0 0, .bool false] 42)) o
      rw [alloc_size] at hmk hcv hfb
      have HCV := Aside0.mk hcv
      have HFB := Aside0.mk hfb
      clear b1 hcv hfb
      go_wp2_with fail
      refine (HRN.out _).mono ?_
      rintro e w2 ⟨rfl, b2⟩
      have HG2 := Aside0.mk (blk_below (blk_alloc HG0.out o) b2)
      have HF2 := Aside0.mk (blk_below HFB.out b2)
      have hBo := HB.out.alloc HB.out.size o
      have HB2 := Aside0.mk (hBo.trans (b2.mono hBo.size))
      have HWs := Aside0.mk (show w1.heap.size + 2 ≤ w2.heap.size by have h := b2.size; rw [alloc_size, alloc_size] at h; exact h)
      have hcv2 := HCV.out w2 HF2.out
      clear b2 hBo hmk
      by_cases hov : 1048576 < N + wn.size
      all_goals
        first
          | have h1 : (1048576 : Int) < (N : Int) + (wn.size : Int) := by omega
            have hd := decide_eq_true h1
            have HP : Aside0 ((OutS.new.put (textEnc (zeroB N))).long = true) := Aside0.mk (by unfold OutS.put; rw [if_pos (.inr (by have := HTE.out; show 1048576 < 0 + _; omega))])
            have HV : Aside0 (Inv 0 0 (OutS.new.put (textEnc (zeroB N))) (textEnc (zeroB N))) := Aside0.mk (fun h => by rw [HP.out] at h; cases h)
          | have h1 : ¬ (1048576 : Int) < (N : Int) + (wn.size : Int) := by omega
            have hd := decide_eq_false h1
            have HQ : Aside0 (OutS.new.put (textEnc (zeroB N)) = ⟨textEnc (zeroB N), false⟩) := Aside0.mk (empty_put _ (by have := HTE.out; omega))
            have HP : Aside0 ((OutS.new.put (textEnc (zeroB N))).long = false) := Aside0.mk (by rw [HQ.out])
            have HV : Aside0 (Inv 0 0 (OutS.new.put (textEnc (zeroB N))) (textEnc (zeroB N))) := Aside0.mk (fun h => by rw [HQ.out])
            clear HQ
        go_wp2_with fail
        refine (text_new w1.heap.size (zeroB N) (by rw [zeroB_size]; omega) w2 HG2.out).mono ?_
        rintro e w3 ⟨rfl, o3, b3, k3⟩
        have HO3 := Aside0.mk o3
        have HB3 := Aside0.mk (HB2.out.trans (b3.mono HW1.out))
        have hcv3 := HCV.out w3 (k3.blk HF2.out (by omega) (by simp))
        have HS3 := Aside0.mk (Nat.le_trans (Nat.le_trans (Nat.le_add_right _ 2) HWs.out) b3.size)
        clear o3 b3 k3 hcv2
        go_wp2_with fail
        refine (reftext_calls (zeroB N) (by rw [zeroB_size]; omega) _).mono ?_
        rintro e w4 ⟨rfl, b4⟩
        have HO := Aside0.mk (HO3.out.keep b4)
        have HB4 := Aside0.mk (HB3.out.trans (b4.mono HB3.out.size))
        clear b4 hcv3
        generalize textEnc (zeroB N) = tz at *
        go_wp2_with fail
        go_loopg [6, 7, 9] (xs.length + 1) (fun k s6 l7 i9 wr => ∃ t : Int, 0 ≤ t ∧ t + k = xs.length + 1 ∧ t ≤ xs.length ∧ i9 = .int .i64 t ∧ ∃ (O : OutS) (s : ByteArray), s6 = .string s ∧ l7 = .bool O.long ∧ Inv 0 0 O s ∧ OutAt w1.heap.size w1.heap.size O wr ∧ Below w.heap.size w wr)
        case atStart => exact ⟨0, by omega, by omega, by omega, rfl, OutS.new.put tz, tz, rfl, congrArg Value.bool (by first | exact HP.out.symm | (rw [HP.out]; simpa using h1)), HV.out, HO.out, HB4.out⟩
        case round =>
          obtain ⟨t, h0, hk, ht, rfl, O, s, rfl, rfl, hinv, ho, hb⟩ := hrel
          have HI := Aside0.mk hinv
          have hOb := ho.2.1
          by_cases hlt : t < xs.length
          · have hC := Kd.C_below HC.out hb
            obtain ⟨ad, e, x0, x1, x2, x3, x4⟩ := at_T48 hC t h0 hlt
            have hm : rd_T48 xs t ∈ xs := by
              unfold rd_T48
              rw [List.getD_eq_getElem?_getD, List.getElem?_eq_getElem (by omega)]
              exact List.getElem_mem _
            have hsz := HX.out _ hm
            have HW := Aside0.mk (write_out w1.heap.size w1.heap.size O (rd_T48 xs t) hsz.1 (by have := hsz.2; omega) wr ho (by have := hb.size; have := ho.lt; omega))
            have HT := Aside0.mk (fun W => lawtext_calls (rd_T48 xs t) hsz.1 (by have := hsz.2; omega) W)
            have hes := enc_small (rd_T48 xs t) hsz.1 hsz.2
            have HB2 := Aside0.mk hb
            have HCC := Aside0.mk hC
            have HH := Aside0.mk hlt
            have HH0 := Aside0.mk h0
            have HK := Aside0.mk hk
            cases e
            clear hC hm ho hb hinv hsz
            go_wp2_with fail
            refine HW.out.mono ?_
            rintro e w4 ⟨rfl, h1, hb1⟩
            have hb4 := HB2.out.trans (hb1.mono HW1.out)
            have HO4 := Aside0.mk h1
            have HB4 := Aside0.mk hb4
            obtain ⟨ad2, e2, y0, y1, y2, y3, y4⟩ := at_T48 (Kd.C_below HC.out hb4) t HH0.out HH.out
            cases e2
            clear x0 x1 x2 x3 x4 h1 hb1 hb4
            go_wp2_with fail
            refine (HT.out _).mono ?_
            rintro e w5 ⟨rfl, hb5⟩
            have HO5 := Aside0.mk (HO4.out.keep hb5)
            have HB5 := Aside0.mk (HB4.out.trans (hb5.mono HB4.out.size))
            clear hb5 y0 y1 y2 y3 y4
            generalize encT (rd_T48 xs t) = te at *
            cases hlong : O.long with
            | true =>
              have HE := Aside0.mk (show O.put te = ⟨O.b, true⟩ from by unfold OutS.put; rw [if_pos (.inl hlong)])
              go_wp2_with fail
              go_roundg (gk - 1)
              case measure => have := HK.out; have := HH.out; omega
              case rel =>
                refine ⟨t + 1, by have := HH0.out; omega, by have := HK.out; omega, by have := HH.out; omega, by go_num, ⟨O.b, true⟩, s, rfl, rfl, (fun h => by cases h), ?_, HB5.out⟩
                rw [← HE.out]; exact HO5.out
            | false =>
              obtain rfl := HI.out hlong
              by_cases hov : 1048576 < O.b.size + te.size
              · have h1 : (1048576 : Int) < (O.b.size : Int) + (te.size : Int) := by omega
                have hd := decide_eq_true h1
                have HE := Aside0.mk (show O.put te = ⟨O.b, true⟩ from by unfold OutS.put; rw [if_pos (.inr hov)])
                go_wp2_with fail
                go_roundg (gk - 1)
                case measure => have := HK.out; have := HH.out; omega
                case rel =>
                  refine ⟨t + 1, by have := HH0.out; omega, by have := HK.out; omega, by have := HH.out; omega, by go_num, ⟨O.b, true⟩, O.b, rfl, rfl, (fun h => by cases h), ?_, HB5.out⟩
                  rw [← HE.out]; exact HO5.out
              · have h1 : ¬ (1048576 : Int) < (O.b.size : Int) + (te.size : Int) := by omega
                have hd := decide_eq_false h1
                have HE := Aside0.mk (show O.put te = ⟨O.b ++ te, false⟩ from by unfold OutS.put; rw [if_neg (by intro h; rcases h with h | h; (rw [hlong] at h; cases h); omega)])
                go_wp2_with fail
                go_roundg (gk - 1)
                case measure => have := HK.out; have := HH.out; omega
                case rel =>
                  refine ⟨t + 1, by have := HH0.out; omega, by have := HK.out; omega, by have := HH.out; omega, by go_num, ⟨O.b ++ te, false⟩, O.b ++ te, rfl, rfl, (fun h => rfl), ?_, HB5.out⟩
                  rw [← HE.out]; exact HO5.out
          · have HD := Aside0.mk (done_calls' w1.heap.size w1.heap.size O wr ho)
            have HB2 := Aside0.mk hb
            clear ho hb hinv
            go_wp2_with fail
            refine HD.out.mono ?_
            rintro e w4 ⟨rfl, rfl⟩
            cases hlong : O.long with
            | true =>
              rw [show doneB O = noB from by unfold doneB; rw [hlong]; rfl, show doneE O = 3 from by unfold doneE; rw [hlong]; rfl]
              go_wp2_with fail
              go_ret
              exact ⟨rfl, HB2.out⟩
            | false =>
              obtain rfl := HI.out hlong
              rw [show doneB O = O.b from by unfold doneB; rw [hlong]; rfl, show doneE O = 0 from by unfold doneE; rw [hlong]; rfl]
              go_wp2_with fail
              go_ret
              exact ⟨rfl, HB2.out⟩
    · go_enter Try.func4, Try.ntmps4
      go_wp2_with fail
      refine HLC.out.mono ?_
      rintro e w1 ⟨rfl, b1⟩
      have HW1 := Aside0.mk b1.size
      have HO := Aside0.mk (out_new w1)
      have HB := Aside0.mk (b1.alloc b1.size (.cells #[.slice none 0 0, .bool false] 42))
      clear b1
      go_wp2_with fail
      go_loopg [6, 7, 9] (xs.length + 1) (fun k s6 l7 i9 wr => ∃ t : Int, 0 ≤ t ∧ t + k = xs.length + 1 ∧ t ≤ xs.length ∧ i9 = .int .i64 t ∧ ∃ (O : OutS) (s : ByteArray), s6 = .string s ∧ l7 = .bool O.long ∧ Inv 0 0 O s ∧ OutAt w1.heap.size w1.heap.size O wr ∧ Below w.heap.size w wr)
      case atStart => exact ⟨0, by omega, by omega, by omega, rfl, OutS.new, noB, rfl, rfl, fun _ => rfl, HO.out, HB.out⟩
      case round =>
        obtain ⟨t, h0, hk, ht, rfl, O, s, rfl, rfl, hinv, ho, hb⟩ := hrel
        have HI := Aside0.mk hinv
        have hOb := ho.2.1
        by_cases hlt : t < xs.length
        · have hC := Kd.C_below HC.out hb
          obtain ⟨ad, e, x0, x1, x2, x3, x4⟩ := at_T48 hC t h0 hlt
          have hm : rd_T48 xs t ∈ xs := by
            unfold rd_T48
            rw [List.getD_eq_getElem?_getD, List.getElem?_eq_getElem (by omega)]
            exact List.getElem_mem _
          have hsz := HX.out _ hm
          have HW := Aside0.mk (write_out w1.heap.size w1.heap.size O (rd_T48 xs t) hsz.1 (by have := hsz.2; omega) wr ho (by have := hb.size; have := ho.lt; omega))
          have HT := Aside0.mk (fun W => lawtext_calls (rd_T48 xs t) hsz.1 (by have := hsz.2; omega) W)
          have hes := enc_small (rd_T48 xs t) hsz.1 hsz.2
          have HB2 := Aside0.mk hb
          have HCC := Aside0.mk hC
          have HH := Aside0.mk hlt
          have HH0 := Aside0.mk h0
          have HK := Aside0.mk hk
          cases e
          clear hC hm ho hb hinv hsz
          go_wp2_with fail
          refine HW.out.mono ?_
          rintro e w4 ⟨rfl, h1, hb1⟩
          have hb4 := HB2.out.trans (hb1.mono HW1.out)
          have HO4 := Aside0.mk h1
          have HB4 := Aside0.mk hb4
          obtain ⟨ad2, e2, y0, y1, y2, y3, y4⟩ := at_T48 (Kd.C_below HC.out hb4) t HH0.out HH.out
          cases e2
          clear x0 x1 x2 x3 x4 h1 hb1 hb4
          go_wp2_with fail
          refine (HT.out _).mono ?_
          rintro e w5 ⟨rfl, hb5⟩
          have HO5 := Aside0.mk (HO4.out.keep hb5)
          have HB5 := Aside0.mk (HB4.out.trans (hb5.mono HB4.out.size))
          clear hb5 y0 y1 y2 y3 y4
          generalize encT (rd_T48 xs t) = te at *
          cases hlong : O.long with
          | true =>
            have HE := Aside0.mk (show O.put te = ⟨O.b, true⟩ from by unfold OutS.put; rw [if_pos (.inl hlong)])
            go_wp2_with fail
            go_roundg (gk - 1)
            case measure => have := HK.out; have := HH.out; omega
            case rel =>
              refine ⟨t + 1, by have := HH0.out; omega, by have := HK.out; omega, by have := HH.out; omega, by go_num, ⟨O.b, true⟩, s, rfl, rfl, (fun h => by cases h), ?_, HB5.out⟩
              rw [← HE.out]; exact HO5.out
          | false =>
            obtain rfl := HI.out hlong
            by_cases hov : 1048576 < O.b.size + te.size
            · have h1 : (1048576 : Int) < (O.b.size : Int) + (te.size : Int) := by omega
              have hd := decide_eq_true h1
              have HE := Aside0.mk (show O.put te = ⟨O.b, true⟩ from by unfold OutS.put; rw [if_pos (.inr hov)])
              go_wp2_with fail
              go_roundg (gk - 1)
              case measure => have := HK.out; have := HH.out; omega
              case rel =>
                refine ⟨t + 1, by have := HH0.out; omega, by have := HK.out; omega, by have := HH.out; omega, by go_num, ⟨O.b, true⟩, O.b, rfl, rfl, (fun h => by cases h), ?_, HB5.out⟩
                rw [← HE.out]; exact HO5.out
            · have h1 : ¬ (1048576 : Int) < (O.b.size : Int) + (te.size : Int) := by omega
              have hd := decide_eq_false h1
              have HE := Aside0.mk (show O.put te = ⟨O.b ++ te, false⟩ from by unfold OutS.put; rw [if_neg (by intro h; rcases h with h | h; (rw [hlong] at h; cases h); omega)])
              go_wp2_with fail
              go_roundg (gk - 1)
              case measure => have := HK.out; have := HH.out; omega
              case rel =>
                refine ⟨t + 1, by have := HH0.out; omega, by have := HK.out; omega, by have := HH.out; omega, by go_num, ⟨O.b ++ te, false⟩, O.b ++ te, rfl, rfl, (fun h => rfl), ?_, HB5.out⟩
                rw [← HE.out]; exact HO5.out
        · have HD := Aside0.mk (done_calls' w1.heap.size w1.heap.size O wr ho)
          have HB2 := Aside0.mk hb
          clear ho hb hinv
          go_wp2_with fail
          refine HD.out.mono ?_
          rintro e w4 ⟨rfl, rfl⟩
          cases hlong : O.long with
          | true =>
            rw [show doneB O = noB from by unfold doneB; rw [hlong]; rfl, show doneE O = 3 from by unfold doneE; rw [hlong]; rfl]
            go_wp2_with fail
            go_ret
            exact ⟨rfl, HB2.out⟩
          | false =>
            obtain rfl := HI.out hlong
            rw [show doneB O = O.b from by unfold doneB; rw [hlong]; rfl, show doneE O = 0 from by unfold doneE; rw [hlong]; rfl]
            go_wp2_with fail
            go_ret
            exact ⟨rfl, HB2.out⟩
theorem wf_i64 {n : Int} (h : (Lit.int .i64 n).wf = true) : -9223372036854775808 ≤ n ∧ n ≤ 9223372036854775807 := by
  simp [Lit.wf, IntKind.min, IntKind.max, IntKind.signed, IntKind.bits] at h
  omega
theorem octwrites_row (w : World) (A : Option Addr) (c : Nat) (xs : List S48) (hC : Kd.C k48 w A xs.length xs) (hc : xs.length ≤ c) (hx : ∀ x ∈ xs, Good48 x) (hb : xs.length * Try.prog.bytesOf 48 ≤ 140737488351232) (ahead : Int) (ha : (Lit.int .i64 ahead).wf = true) :
    Calls Try.prog 4 #[.slice A xs.length c, .int .i64 ahead] w fun e w' => e = .returned (.bool true) ∧ Below w.heap.size w w' :=
  writes_walk xs A c w hC hc hx ahead (wf_i64 ha)
end Go.Proofs.Ytdjpcogkpnemlaa.Oct
