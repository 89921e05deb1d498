/- The reference's reader beside the program's. -/
import Derived.Test.YtdjpcogkpnemlaaInX
namespace Go.Proofs.Ytdjpcogkpnemlaa.Oct
open Go Go.RowKit Go.Proofs.YtdjpcogkpnemlaaW.PrintWords Go.Proofs.Ytdjpcogkpnemlaa.POr
set_option linter.unusedVariables false
set_option linter.unusedSimpArgs false
set_option maxRecDepth 100000
set_option maxHeartbeats 4000000
def RefAt (g : Nat) (b : ByteArray) (sp : Bool) (w : World) : Prop := w.heap[g]? = some (.cells #[.string b, .bool sp] 58 (0, 0))
theorem InAt.keepBy {g g2 : Nat} {b : ByteArray} {sp : Bool} {w w' : World} {cs : Array Value} {t : TypeId} (h : InAt g b sp w) (h2 : w.heap[g2]? = some (.cells cs t (0, 0))) (hi : ∀ (i : Nat) (n : Int), cs[i]? ≠ some (Value.int .u8 n)) (ht : Touch g2 w w') (hne : g ≠ g2) : InAt g b sp w' := by
  obtain ⟨w0, ⟨⟨v, hb, hs⟩, hg, hok⟩, k⟩ := h
  have hlt := blk_lt hb
  have hlt' : g ≤ w'.heap.size := by have := ht.size; omega
  have e1 : w'.heap[g]? = w.heap[g]? := ht.keep.2 g hlt hne (by simp)
  refine ⟨cutW w' g, ⟨⟨v, e1.trans hb, ?_⟩, by rw [cutW_size w' g hlt']; omega, hok⟩, cutW_below w' g hlt'⟩
  rcases hs with hs | ⟨kb, off, cap, rfl, hcap, hk, hby⟩
  · exact .inl hs
  · refine .inr ⟨kb, off, cap, rfl, hcap, by rw [cutW_size w' g hlt']; omega, fun i hi' => ?_⟩
    have h1 := hby i hi'
    have h3 : w.cell? ⟨kb, off + i, none⟩ = some (.int .u8 (b[i].toNat : Int)) := (k.cell (p := ⟨kb, off + i, none⟩) hk).trans h1
    have hkb : kb ≠ g2 := by
      rintro rfl
      rw [blk_cell h2] at h3
      exact hi _ _ h3
    rw [World.cell?_of_block (w := w') (w' := cutW w' g) (a := ⟨kb, off + i, none⟩) (cutW_get w' g kb (by omega))]
    rw [World.cell?_of_block (w := w) (w' := w') (a := ⟨kb, off + i, none⟩) (ht.keep.2 kb (Nat.lt_of_lt_of_le hk k.size) hkb (by simp))]
    exact h3
theorem RefAt.noB {b : ByteArray} {sp : Bool} : ∀ (i : Nat) (n : Int), (#[Value.string b, Value.bool sp] : Array Value)[i]? ≠ some (Value.int .u8 n) := by
  intro i n
  match i with
  | 0 => simp
  | 1 => simp
  | _ + 2 => simp
theorem RefAt.keep {g g2 : Nat} {b : ByteArray} {sp : Bool} {w w' : World} (h : RefAt g b sp w) (ht : Touch g2 w w') (hne : g ≠ g2) : RefAt g b sp w' := (ht.keep.2 g (blk_lt h) hne (by simp)).trans h
theorem RefAt.below {g : Nat} {b : ByteArray} {sp : Bool} {w w' : World} (h : RefAt g b sp w) (hb : Below w.heap.size w w') : RefAt g b sp w' := blk_below h hb
section
variable {g : Nat} {b : ByteArray} {sp : Bool} {w : World}
theorem RefAt.is (h : RefAt g b sp w) : IsS58 (cutW w g) w g b sp ∧ Below (cutW w g).heap.size (cutW w g) w := by
  have := blk_lt h
  exact ⟨⟨h, by rw [cutW_size w g (by omega)]; omega⟩, cutW_below w g (by omega)⟩
theorem ref_byte (h : RefAt g b sp w) (ok : OkIn b sp) : Calls Try.prog 48 #[.pointer (some ⟨g, 0, none⟩)] w fun e w' => e = .returned (.int .u8 ((byteS b sp).1 : Nat)) ∧ RefAt g (byteS b sp).2.1 (byteS b sp).2.2 w' ∧ Touch g w w' := by
  obtain ⟨h1, h2⟩ := h.is
  exact (paymasterref08_In_Byte.calls g b sp _ _ _ (cutW w g) w h1 h2 (refByte b sp ok)).mono fun e w' ⟨h3, h4, h5, h6⟩ => ⟨h3, h4.1, Touch.of h2 h5 h6⟩
theorem ref_num (h : RefAt g b sp w) (ok : OkIn b sp) : Calls Try.prog 49 #[.pointer (some ⟨g, 0, none⟩)] w fun e w' => e = .returned (.int .u64 ((numS 8 b sp).2.1 : Nat)) ∧ RefAt g (numS 8 b sp).2.2.1 (numS 8 b sp).2.2.2 w' ∧ Touch g w w' := by
  obtain ⟨h1, h2⟩ := h.is
  exact (paymasterref08_In_Num.calls 70 g b sp _ _ _ (cutW w g) w h1 h2 (refNumR 70 b sp ok (Nat.le_refl _))).mono fun e w' ⟨h3, h4, h5, h6⟩ => ⟨h3, h4.1, Touch.of h2 h5 h6⟩
theorem ref_wide (h : RefAt g b sp w) (ok : OkIn b sp) : Calls Try.prog 50 #[.pointer (some ⟨g, 0, none⟩)] w fun e w' => e = .returned (.agg #[.int .u64 ((numS 16 b sp).1 : Nat), .int .u64 ((numS 16 b sp).2.1 : Nat)]) ∧ RefAt g (numS 16 b sp).2.2.1 (numS 16 b sp).2.2.2 w' ∧ Touch g w w' := by
  obtain ⟨h1, h2⟩ := h.is
  exact (paymasterref08_In_Wide.calls 70 g b sp _ _ _ _ (cutW w g) w h1 h2 (refWideR 70 b sp ok (Nat.le_refl _))).mono fun e w' ⟨h3, h4, h5, h6⟩ => ⟨h3, h4.1, Touch.of h2 h5 h6⟩
theorem ref_flag (h : RefAt g b sp w) (ok : OkIn b sp) : Calls Try.prog 51 #[.pointer (some ⟨g, 0, none⟩)] w fun e w' => e = .returned (.bool (flagS b sp).1) ∧ RefAt g (flagS b sp).2.1 (flagS b sp).2.2 w' ∧ Touch g w w' := by
  obtain ⟨h1, h2⟩ := h.is
  exact (paymasterref08_In_Flag.calls g b sp _ _ _ (cutW w g) w h1 h2 (refFlagR b sp ok)).mono fun e w' ⟨h3, h4, h5, h6⟩ => ⟨h3, h4.1, Touch.of h2 h5 h6⟩
theorem ref_text (most : Int) (hm : -9223372036854775808 ≤ most ∧ most ≤ 9223372036854775807) (h : RefAt g b sp w) (ok : OkIn b sp) : Calls Try.prog 52 #[.pointer (some ⟨g, 0, none⟩), .int .i64 most] w fun e w' => e = .returned (.string (textS most b sp).1) ∧ RefAt g (textS most b sp).2.1 (textS most b sp).2.2 w' ∧ Touch g w w' := by
  obtain ⟨h1, h2⟩ := h.is
  exact (paymasterref08_In_Text.calls 70 g b sp most _ _ _ (cutW w g) w h1 h2 (refTextR 70 most b sp ok (Nat.le_refl _) hm)).mono fun e w' ⟨h3, h4, h5, h6⟩ => ⟨h3, h4.1, Touch.of h2 h5 h6⟩
def refDone (b : ByteArray) (sp : Bool) : Bool := if sp = true then false else ((b.size : Int) == 0)
theorem ref_done (h : RefAt g b sp w) : Calls Try.prog 26 #[.pointer (some ⟨g, 0, none⟩)] w fun e w' => e = .returned (.bool (refDone b sp)) ∧ RefAt g b sp w' ∧ Touch g w w' := by
  obtain ⟨h1, h2⟩ := h.is
  exact (paymasterref08_In_Done.calls g b sp (refDone b sp) b sp (cutW w g) w h1 h2 (by unfold paymasterref08_In_Done.f refDone; split <;> rfl)).mono fun e w' ⟨h3, h4, h5, h6⟩ => ⟨h3, h4.1, Touch.of h2 h5 h6⟩
end
/-- What is left when a thing is read. -/
def moveS (kind : Nat) (most : Int) (b : ByteArray) (sp : Bool) : ByteArray × Bool :=
  if kind % 5 = 0 then (byteS b sp).2 else if kind % 5 = 1 then (numS 8 b sp).2.2 else if kind % 5 = 2 then (numS 16 b sp).2.2 else if kind % 5 = 3 then (flagS b sp).2 else (textS most b sp).2
theorem moveS_ok {kind : Nat} {most : Int} {b : ByteArray} {sp : Bool} (h : OkIn b sp) : OkIn (moveS kind most b sp).1 (moveS kind most b sp).2 ∧ (moveS kind most b sp).1.size ≤ b.size := by
  unfold moveS
  split
  · exact byteS_ok h
  · split
    · exact numS_ok 8 h
    · split
      · exact numS_ok 16 h
      · split
        · exact flagS_ok h
        · exact ⟨(textS_ok most h).1, (textS_ok most h).2.1⟩
end Go.Proofs.Ytdjpcogkpnemlaa.Oct
