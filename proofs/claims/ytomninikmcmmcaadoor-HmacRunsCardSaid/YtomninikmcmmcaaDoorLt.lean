/- Texts of this session, put together: LongS, Awake6. -/
import Derived.Test.YtomninikmcmmcaaDoorPureHmac
import Derived.Test.YtomninikmcmmcaaDoorHe
section
/- What layer 5's guard says of a list of texts, and the text that a list's first ones are. -/
namespace Go.Proofs.YtomninikmcmmcaaDoor.Sha
open Go Go.RowKit Go.Proofs.YtomninikmcmmcaaDoor.PRp Go.Proofs.YtomninikmcmmcaaDoorW.PrintWords
set_option linter.unusedVariables false
set_option linter.unusedSimpArgs false
def tot (l : List ByteArray) : Nat → Nat
  | 0 => 0
  | t + 1 => tot l t + (l.getD t ByteArray.empty).size
def cat (l : List ByteArray) : Nat → ByteArray
  | 0 => ByteArray.empty
  | t + 1 => cat l t ++ l.getD t ByteArray.empty
theorem cat_size (l : List ByteArray) : ∀ t, (cat l t).size = tot l t
  | 0 => rfl
  | t + 1 => by rw [cat, tot, ByteArray.size_append, cat_size l t]
theorem tot_le (l : List ByteArray) {s t : Nat} (h : s ≤ t) : tot l s ≤ tot l t := by
  induction h with
  | refl => exact Nat.le_refl _
  | step _ ih => rw [tot]; omega
theorem tot_bound (l : List ByteArray) (g : ∀ y ∈ l, y.size ≤ 140737488351232) : ∀ t, tot l t ≤ t * 140737488351232
  | 0 => by rw [tot]; omega
  | t + 1 => by
    have h := tot_bound l g t
    have hz : (l.getD t ByteArray.empty).size ≤ 140737488351232 := by
      rw [List.getD_eq_getElem?_getD]
      by_cases ht : t < l.length
      · rw [List.getElem?_eq_getElem ht]; exact g _ (List.getElem_mem ht)
      · rw [List.getElem?_eq_none (by omega)]; exact Nat.zero_le _
    rw [tot]
    omega
theorem long_loop (l : List ByteArray) (g : ∀ y ∈ l, y.size ≤ 140737488351232) (hl : l.length ≤ 40) (d : Nat) : ∀ (k t : Nat), t + d = l.length → d < k →
    paymasterlaw05_Long.l0 k l ((tot l t : Nat) : Int) (t : Int) = some (decide (2000 < tot l l.length)) := by
  induction d with
  | zero =>
    intro k t ht hk
    obtain ⟨k, rfl⟩ : ∃ q, k = q + 1 := ⟨k - 1, by omega⟩
    obtain rfl : t = l.length := by omega
    rw [paymasterlaw05_Long.l0, if_neg (by omega), if_neg (by omega)]
    congr 1
    rw [decide_eq_decide]
    omega
  | succ d ih =>
    intro k t ht hk
    obtain ⟨k, rfl⟩ : ∃ q, k = q + 1 := ⟨k - 1, by omega⟩
    have hb := tot_bound l g (t + 1)
    have hb2 : (t + 1) * 140737488351232 ≤ 40 * 140737488351232 := Nat.mul_le_mul_right _ (by omega)
    have e1 : rdOf ByteArray.empty l (t : Int) = l.getD t ByteArray.empty := by unfold rdOf; rw [Int.toNat_natCast]
    have e2 : wrap64 (((tot l t : Nat) : Int) + ((l.getD t ByteArray.empty).size : Int)) = ((tot l (t + 1) : Nat) : Int) := by
      rw [tot] at hb ⊢
      unfold wrap64
      omega
    have e3 : wrap64 ((t : Int) + 1) = ((t + 1 : Nat) : Int) := by unfold wrap64; omega
    rw [paymasterlaw05_Long.l0, if_pos (by omega), if_pos (by omega), e1, e2, e3]
    exact ih k (t + 1) (by omega) (by omega)
theorem long_big (l : List ByteArray) (hl : 40 < l.length) (hm : l.length ≤ 140737488351232) (d : Nat) : ∀ (k t : Nat) (x : Int), t + d = l.length → d < k →
    paymasterlaw05_Long.l0 k l x (t : Int) = some true := by
  induction d with
  | zero =>
    intro k t x ht hk
    obtain ⟨k, rfl⟩ : ∃ q, k = q + 1 := ⟨k - 1, by omega⟩
    rw [paymasterlaw05_Long.l0, if_neg (by omega), if_pos (by omega)]
  | succ d ih =>
    intro k t x ht hk
    obtain ⟨k, rfl⟩ : ∃ q, k = q + 1 := ⟨k - 1, by omega⟩
    have e3 : wrap64 ((t : Int) + 1) = ((t + 1 : Nat) : Int) := by unfold wrap64; omega
    rw [paymasterlaw05_Long.l0, if_pos (by omega), if_pos (by omega), e3]
    exact ih k (t + 1) _ (by omega) (by omega)
theorem bytes_string : Tryd.prog.bytesOf 9 = 16 := by kernel_rfl
theorem long_calls (A : Option Addr) (c : Nat) (l : List ByteArray) (w : World) (hC : Kd.C Kd.string w A l.length l) (hc : l.length ≤ c) (g : ∀ y ∈ l, y.size ≤ 140737488351232) (b : l.length * Tryd.prog.bytesOf 9 ≤ 140737488351232) :
    Calls Tryd.prog 31 #[.slice A l.length c] w fun e w' => ∃ r, e = .returned (.bool r) ∧ (r = false → l.length ≤ 40 ∧ tot l l.length ≤ 2000) ∧ Below w.heap.size w w' := by
  rw [bytes_string] at b
  by_cases h : l.length ≤ 40
  · refine (paymasterlaw05_Long.calls (l.length + 1) A c l _ w hC hc (long_loop l g h l.length (l.length + 1) 0 (by omega) (by omega))).mono ?_
    rintro e w' ⟨rfl, hd⟩
    refine ⟨_, rfl, fun hf => ⟨h, ?_⟩, hd.below⟩
    have := of_decide_eq_false hf
    omega
  · refine (paymasterlaw05_Long.calls (l.length + 1) A c l _ w hC hc (long_big l (by omega) (by omega) l.length (l.length + 1) 0 0 (by omega) (by omega))).mono ?_
    rintro e w' ⟨rfl, hd⟩
    exact ⟨_, rfl, (fun hf => by cases hf), hd.below⟩
theorem heap_lt {w : World} {b : Nat} {o : Obj} (h : w.heap[b]? = some o) : b < w.heap.size := by
  apply Decidable.byContradiction
  intro hn
  rw [Array.getElem?_eq_none (by omega)] at h
  cases h
theorem elem_at {w : World} {A : Option Addr} {l : List ByteArray} (hC : Kd.C Kd.string w A l.length l) (t : Nat) (ht : t < l.length) :
    ∃ ad, A = some ad ∧ Aside0 (∀ w', Below w.heap.size w w' → w'.cell? (ad.add t) = some (.string (l.getD t ByteArray.empty))) := by
  obtain ⟨ad, e0, hx⟩ := Kd.at_string hC (t : Int) (by omega) (by omega)
  refine ⟨ad, e0, ⟨fun w' hb => ?_⟩⟩
  obtain ⟨ad2, e2, h2⟩ := Kd.at_string (Kd.C_below hC hb) (t : Int) (by omega) (by omega)
  rw [e0] at e2
  obtain rfl := Option.some.inj e2
  rw [Int.toNat_natCast] at h2
  rw [h2]
  unfold rdOf
  rw [Int.toNat_natCast]
end Go.Proofs.YtomninikmcmmcaaDoor.Sha
end
section
/- Chapter 6's example holds. -/
namespace Go.Proofs.YtomninikmcmmcaaDoor.Sha
open Go Go.RowKit Go.Shelf Go.Proofs.YtomninikmcmmcaaDoor.Rng Go.Proofs.YtomninikmcmmcaaDoorW.PrintWords Go.Proofs.Sp Go.Proofs.YtomninikmcmmcaaDoor.Blk Go.Proofs.YtomninikmcmmcaaDoor.GivA Go.Proofs.YtomninikmcmmcaaDoor.PHs
set_option linter.unusedVariables false
set_option linter.unusedSimpArgs false
theorem hfirst_calls (key m : ByteArray) (n : Int) (w : World) (hT : Tab w) (hk : key.size ≤ 1000000) (hm : m.size ≤ 1000000) :
    Calls Tryd.prog 37 #[.string key, .string m, .int .i64 n] w fun e w' => e = .returned (.string (firstB key m n)) ∧ Below w.heap.size w w' :=
  hmac_First.calls key m n _ w hT (first_some key m n (by omega) (by omega))
theorem his_calls (key m x : ByteArray) (w : World) (hT : Tab w) (hk : key.size ≤ 1000000) (hm : m.size ≤ 1000000) :
    Calls Tryd.prog 41 #[.string key, .string m, .string x] w fun e w' => e = .returned (.bool (decide (x = mac key m))) ∧ Below w.heap.size w w' :=
  hmac_Is.calls 2000 key m x _ w hT (is_some key m x hk hm 2000 (Nat.le_refl _))
def hexD : ByteArray := ⟨#[53, 98, 100, 99, 99, 49, 52, 54, 98, 102, 54, 48, 55, 53, 52, 101, 54, 97, 48, 52, 50, 52, 50, 54, 48, 56, 57, 53, 55, 53, 99, 55, 53, 97, 48, 48, 51, 102, 48, 56, 57, 100, 50, 55, 51, 57, 56, 51, 57, 100, 101, 99, 53, 56, 98, 57, 54, 52, 101, 99, 51, 56, 52, 51]⟩
theorem hex_jefe : hex (mac jefe wants) = hexD := by
  rw [mac_jefe]
  decide +kernel
theorem first_jefe : firstB jefe wants 2 = ⟨#[91, 220]⟩ := by
  unfold firstB
  rw [mac_jefe]
  apply ext_list
  rw [extract_list]
  decide +kernel
theorem num_jefe : num8 (mac8 jefe wants) = 6619378061930427726 := by
  unfold mac8
  rw [mac_jefe]
  decide +kernel
theorem is_jefe : decide (mac jefe wants = mac jefe wants) = true := decide_eq_true rfl
theorem not_jefe : decide (mac jefe wants = mac jefe ⟨#[]⟩) = false := by
  rw [mac_jefe, mac_jefe0]
  decide +kernel
set_option maxHeartbeats 2000000 in
set_option maxRecDepth 100000 in
theorem awake_calls (w : World) (hT : Tab w) : Calls Tryd.prog 48 #[] w fun e w' => e = .returned (.bool true) ∧ Below w.heap.size w w' := by
  have HT := Aside0.mk hT
  have HM := Aside0.mk (fun w h => mac_calls jefe wants w h (by decide) (by decide))
  have HX := Aside0.mk (fun w => hex_calls (mac jefe wants) (by rw [mac_size]; decide) w)
  have HF := Aside0.mk (fun w h => hfirst_calls jefe wants 2 w h (by decide) (by decide))
  have HN := Aside0.mk (fun w h => number_calls jefe wants w h (by decide) (by decide))
  have HI := Aside0.mk (fun w h => his_calls jefe wants (mac jefe wants) w h (by decide) (by decide))
  have HJ := Aside0.mk (fun w h => his_calls jefe ⟨#[]⟩ (mac jefe wants) w h (by decide) (by decide))
  rw [hex_jefe] at HX
  rw [first_jefe] at HF
  rw [num_jefe] at HN
  rw [is_jefe] at HI
  rw [not_jefe] at HJ
  unfold jefe wants hexD at *
  clear hT
  generalize mac _ _ = d at *
  go_enter Tryd.func48, Tryd.ntmps48
  go_wp2_with fail
  refine (HM.out _ HT.out).mono ?_
  rintro e w1 ⟨rfl, b1⟩
  have B1 := Aside0.mk b1
  clear b1 HM
  go_wp2_with fail
  refine (HX.out _).mono ?_
  rintro e w2 ⟨rfl, b2⟩
  have B2 := Aside0.mk (B1.out.trans (b2.mono B1.out.size))
  clear b2 HX B1
  go_wp2_with fail
  refine (HF.out _ (HT.out.keep B2.out)).mono ?_
  rintro e w3 ⟨rfl, b3⟩
  have B3 := Aside0.mk (B2.out.trans (b3.mono B2.out.size))
  clear b3 HF B2
  go_wp2_with fail
  refine (HN.out _ (HT.out.keep B3.out)).mono ?_
  rintro e w4 ⟨rfl, b4⟩
  have B4 := Aside0.mk (B3.out.trans (b4.mono B3.out.size))
  clear b4 HN B3
  go_wp2_with fail
  refine (HI.out _ (HT.out.keep B4.out)).mono ?_
  rintro e w5 ⟨rfl, b5⟩
  have B5 := Aside0.mk (B4.out.trans (b5.mono B4.out.size))
  clear b5 HI B4
  go_wp2_with fail
  refine (HJ.out _ (HT.out.keep B5.out)).mono ?_
  rintro e w6 ⟨rfl, b6⟩
  have B6 := Aside0.mk (B5.out.trans (b6.mono B5.out.size))
  clear b6 HJ B5
  go_wp2_with fail
  go_ret
  exact ⟨rfl, B6.out⟩
end Go.Proofs.YtomninikmcmmcaaDoor.Sha
end
