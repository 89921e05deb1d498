/- The law HmacIs: it answers true for every input. -/
import Derived.Test.YtomninikmcmmcaaDoorLt
namespace Go.Proofs.YtomninikmcmmcaaDoor.Sha
open Go Go.RowKit Go.Shelf Go.Proofs.YtomninikmcmmcaaDoor.Rng Go.Proofs.YtomninikmcmmcaaDoorW.PrintWords Go.Proofs.Sp Go.Proofs.YtomninikmcmmcaaDoor.Blk Go.Proofs.YtomninikmcmmcaaDoor.GivA
set_option linter.unusedVariables false
set_option linter.unusedSimpArgs false
/-- A text with one byte put together with another. -/
def oneB (d : ByteArray) (p : Nat) (c : UInt8) : ByteArray := ⟨(d.data.toList.set p (d.data.toList.getD p 0 ^^^ c)).toArray⟩
theorem oneB_list (d : ByteArray) (p : Nat) (c : UInt8) : (oneB d p c).data.toList = d.data.toList.set p (d.data.toList.getD p 0 ^^^ c) := by unfold oneB; rw [List.toList_toArray]
theorem oneB_size (d : ByteArray) (p : Nat) (c : UInt8) : (oneB d p c).size = d.size := by rw [← data_size, oneB_list, List.length_set, data_size]
theorem oneB_get (d : ByteArray) (p : Nat) (c : UInt8) (j : Nat) (hj : j < d.size) : (oneB d p c).data.toList.getD j 0 = if j = p then d.data.toList.getD p 0 ^^^ c else d.data.toList.getD j 0 := by
  have hl : j < d.data.toList.length := by rw [data_size]; exact hj
  rw [oneB_list, List.getD_eq_getElem?_getD, List.getElem?_set]
  by_cases h : j = p
  · subst h
    rw [if_pos rfl, if_pos hl, if_pos rfl]
    rfl
  · rw [if_neg (fun e => h e.symm), if_neg h, List.getD_eq_getElem?_getD]
theorem xor_ne (x c : UInt8) (h : ¬ c = 0) : ¬ x ^^^ c = x := fun e => h (by
  have e2 : x ^^^ (x ^^^ c) = x ^^^ x := by rw [e]
  rw [← UInt8.xor_assoc, UInt8.xor_self, UInt8.zero_xor] at e2
  exact e2)
theorem oneB_is (d : ByteArray) (p : Nat) (hp : p < d.size) (c : UInt8) (b : Int) (hb : (c.toNat : Int) = b) : (decide (oneB d p c = d) == decide (b = 0)) = true := by
  by_cases h : c = 0
  · have e : oneB d p c = d := by
      apply ext_list
      rw [oneB_list, h, UInt8.xor_zero]
      apply List.ext_getElem?
      intro j
      rw [List.getElem?_set]
      split
      · rename_i h2
        subst h2
        have hl : p < d.data.toList.length := by rw [data_size]; exact hp
        rw [if_pos hl, List.getD_eq_getElem?_getD, List.getElem?_eq_getElem hl]
        rfl
      · rfl
    have h0 : b = 0 := by rw [← hb, h]; rfl
    rw [decide_eq_true e, decide_eq_true h0]
    rfl
  · have e : ¬ oneB d p c = d := fun e => by
      have h1 := oneB_get d p c p hp
      rw [e, if_pos rfl] at h1
      exact xor_ne _ _ h h1.symm
    have h0 : ¬ b = 0 := fun h0 => h (UInt8.toNat_inj.1 (by
      show c.toNat = 0
      omega))
    rw [decide_eq_false e, decide_eq_false h0]
    rfl
theorem not_is {x d : ByteArray} (h : ¬ x.size = d.size) : decide (x = d) = false := decide_eq_false (fun e => h (by rw [e]))
set_option maxHeartbeats 4000000 in
set_option maxRecDepth 100000 in
theorem hmacIs_row (key : ByteArray) (hk : key.size ≤ 140737488351232) (m : ByteArray) (hm : m.size ≤ 140737488351232) (a : Int) (ha : (Lit.int .u8 a).wf = true) (b : Int) (hb : (Lit.int .u8 b).wf = true) (w : World) (hT : Tab w) :
    Calls Tryd.prog 11 #[.string key, .string m, .int .u8 a, .int .u8 b] w fun e w' => e = .returned (.bool true) ∧ Below w.heap.size w w' := by
  have hb' : 0 ≤ b ∧ b < 256 := by simp [Lit.wf, IntKind.min, IntKind.max, IntKind.signed, IntKind.bits] at hb; omega
  have ha' : 0 ≤ a ∧ a < 256 := by simp [Lit.wf, IntKind.min, IntKind.max, IntKind.signed, IntKind.bits] at ha; omega
  obtain ⟨c, hc⟩ : ∃ c : UInt8, (c.toNat : Int) = b := ⟨UInt8.ofNat b.toNat, by rw [UInt8.toNat_ofNat']; omega⟩
  obtain ⟨an, rfl⟩ : ∃ n : Nat, a = n := ⟨a.toNat, by omega⟩
  subst hc
  have a2 : an < 256 := by omega
  have HT := Aside0.mk hT
  have HA := Aside0.mk awake_calls
  clear hT ha hb hb' ha'
  go_enter Tryd.func11, Tryd.ntmps11
  go_wp2_with fail
  refine (HA.out _ HT.out).mono ?_
  rintro e w0 ⟨rfl, hb0⟩
  have HB0 := Aside0.mk hb0
  clear hb0 HA
  by_cases h1 : (key.size : Int) > 1000
  · go_wp2
    go_ret
    exact ⟨rfl, HB0.out⟩
  by_cases h2 : (m.size : Int) > 1000
  · go_wp2
    go_ret
    exact ⟨rfl, HB0.out⟩
  have HM := Aside0.mk (fun w h => mac_calls key m w h (by omega) (by omega))
  have HI := Aside0.mk (fun x w h => his_calls key m x w h (by omega) (by omega))
  have hd := mac_size key m
  generalize mac key m = d at *
  go_wp2_with fail
  refine (HM.out _ (HT.out.keep HB0.out)).mono ?_
  rintro e w1 ⟨rfl, b1⟩
  have B1 := Aside0.mk (HB0.out.trans (b1.mono HB0.out.size))
  clear b1 HM HB0
  have hd2 : (d.size : Int) = 32 := by omega
  go_wp2_with fail
  refine (HI.out _ _ (HT.out.keep B1.out)).mono ?_
  rintro e w2 ⟨rfl, b2⟩
  have B2 := Aside0.mk (B1.out.trans (b2.mono B1.out.size))
  clear b2 B1
  rw [decide_eq_true rfl]
  go_wp2_with fail
  refine (HI.out _ _ (HT.out.keep B2.out)).mono ?_
  rintro e w3 ⟨rfl, b3⟩
  have B3 := Aside0.mk (B2.out.trans (b3.mono B2.out.size))
  clear b3 B2
  rw [not_is (show ¬ (d.extract 1 32).size = d.size by rw [ByteArray.size_extract, hd]; decide)]
  go_wp2_with fail
  refine (HI.out _ _ (HT.out.keep B3.out)).mono ?_
  rintro e w4 ⟨rfl, b4⟩
  have B4 := Aside0.mk (B3.out.trans (b4.mono B3.out.size))
  clear b4 B3
  rw [not_is (show ¬ (d ++ ⟨#[0]⟩ : ByteArray).size = d.size by rw [ByteArray.size_append, hd]; decide)]
  go_wp2_with fail
  refine (HI.out _ _ (HT.out.keep B4.out)).mono ?_
  rintro e w5 ⟨rfl, b5⟩
  have B5 := Aside0.mk (B4.out.trans (b5.mono B4.out.size))
  clear b5 B4
  rw [not_is (show ¬ (⟨#[]⟩ : ByteArray).size = d.size by rw [hd]; decide)]
  have hcv := run_bytes_of_string (P := Tryd.prog) w5 9 65 5 d Tryd.underlying9 Tryd.underlying65 Tryd.underlying5
  rw [hd] at hcv
  have X0 := XRow.start d c w5 (grownCap w5 32 0 5)
  have hnc : (32 : Nat) ≤ grownCap w5 32 0 5 := grownCap_ge w5 32 0 5
  generalize grownCap w5 32 0 5 = n at *
  have B6 := Aside0.mk (B5.out.alloc B5.out.size (.cells (bytesRow d n) 5 ((bytesRow d n).size, (bytesRow d n).size + 1)))
  have hdr : ((w5.drew.alloc (.cells (bytesRow d n) 5 ((bytesRow d n).size, (bytesRow d n).size + 1)))) = (w5.alloc (.cells (bytesRow d n) 5 ((bytesRow d n).size, (bytesRow d n).size + 1))).drew := rfl
  rw [hdr] at hcv
  clear hdr
  generalize w5.alloc (.cells (bytesRow d n) 5 ((bytesRow d n).size, (bytesRow d n).size + 1)) = W at *
  have hp : an % 32 < d.size := by omega
  have hc0 : W.cell? ⟨w5.heap.size, an % 32, none⟩ = some (.int .u8 ((d.data.toList.getD (an % 32) 0).toNat : Int)) := (X0.cell (an % 32) hp).trans (by unfold mixX; rw [if_neg (Nat.not_lt_zero _)])
  have hf0 : W.frozen? ⟨w5.heap.size, an % 32, none⟩ = false := X0.free (an % 32) hp
  have HXR := Aside0.mk (xor_u8 (d.data.toList.getD (an % 32) 0) c)
  have HX := Aside0.mk (show ∀ j, j < d.size → (W.setCell ⟨w5.heap.size, an % 32, none⟩ (.int .u8 ((d.data.toList.getD (an % 32) 0 ^^^ c).toNat : Int))).cell? ⟨w5.heap.size, j, none⟩ = some (.int .u8 (((oneB d (an % 32) c).data.toList.getD j 0).toNat : Int)) from fun j hj => by
    have hcj : W.cell? ⟨w5.heap.size, j, none⟩ = some (.int .u8 ((d.data.toList.getD j 0).toNat : Int)) := (X0.cell j hj).trans (by unfold mixX; rw [if_neg (Nat.not_lt_zero _)])
    rw [oneB_get d _ c j hj]
    by_cases e : j = an % 32
    · subst e
      rw [World.cell?_setCell_same _ _ _ hcj, if_pos rfl]
    · rw [World.cell?_setCell_other _ _ _ _ (fun h => e (by injection h with _ h2; exact h2.symm)), hcj, if_neg e])
  have HO := Aside0.mk (oneB_is d (an % 32) hp c (c.toNat : Int) rfl)
  have HZ := Aside0.mk (oneB_size d (an % 32) c)
  have hbs : w.heap.size ≤ w5.heap.size := B5.out.size
  have l3 : (an : Int) % 32 = ((an % 32 : Nat) : Int) := by omega
  have l4 : ((an % 32 : Nat) : Int) < 32 := by omega
  clear X0 B5
  generalize hq : an % 32 = q at *
  have HQ := Aside0.mk hq
  clear hq
  generalize hb0 : d.data.toList.getD q 0 = x at *
  clear hb0
  rw [← HXR.out] at HX
  have B7 := Aside0.mk (B6.out.setCell (p := ⟨w5.heap.size, q, none⟩) hbs (.int .u8 (Go.bits .xor .u8 (x.toNat : Int) (c.toNat : Int))))
  have hconv := Lib.run_convert_whole (P := Tryd.prog) (W.setCell ⟨w5.heap.size, q, none⟩ (.int .u8 (Go.bits .xor .u8 (x.toNat : Int) (c.toNat : Int)))).drew 65 5 9 Tryd.underlying65 Tryd.underlying5 Tryd.underlying9 w5.heap.size 0 (oneB d q c) (fun j hj => by
    have hj' : j < d.size := by rw [← HZ.out]; exact hj
    rw [Nat.zero_add, byte_get' _ j hj]
    exact HX.out j hj') n
  rw [HZ.out, hd] at hconv
  clear HX B6
  go_wp2_with fail
  refine (HI.out _ _ (HT.out.keep (B7.out.drew))).mono ?_
  rintro e w6 ⟨rfl, b6⟩
  have B8 := Aside0.mk (B7.out.drew.trans (b6.mono B7.out.size))
  clear b6 B7
  go_wp2_with fail
  go_ret
  refine ⟨?_, B8.out⟩
  have h := HO.out
  rw [beq_iff_eq] at h
  have h3 : (decide (oneB d q c = d) == ((c.toNat : Int) == 0)) = true := by
    rw [h, beq_iff_eq]
    rfl
  simpa using h3
end Go.Proofs.YtomninikmcmmcaaDoor.Sha
