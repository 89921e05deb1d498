/- OctetBack, the plain law: what was written is read, thing by thing; of a beginning, the less. -/
import Derived.Test.YtdjpcogkpnemlaaReadT
import Derived.Test.YtdjpcogkpnemlaaLawWrites
import Derived.Test.YtdjpcogkpnemlaaStep
namespace Go.Proofs.Ytdjpcogkpnemlaa.Oct
open Go Go.RowKit Go.Proofs.YtdjpcogkpnemlaaW.PrintWords Go.Proofs.Ytdjpcogkpnemlaa.POr Go.Proofs.Ytdjpcogkpnemlaa.PIn
set_option linter.unusedVariables false
set_option linter.unusedSimpArgs false
set_option maxRecDepth 100000
set_option maxHeartbeats 1000000
theorem enc_small1 (x : S48) (gx : Good48 x) (hs : x.f2.size ≤ 2000) : (encT x).size ≤ 2100 := by
  obtain ⟨h0, h0', h1, h1', h2, h2', h3, h3'⟩ := good_nat gx
  unfold encT thingEnc textEnc
  have a := wide_len 0 x.f1.f1.toNat (by omega) (by omega)
  have b := wide_len x.f1.f0.toNat x.f1.f1.toNat (by omega) (by omega)
  have c := wide_len 0 x.f2.size (by omega) (by omega)
  split
  · show 1 ≤ _; omega
  · split
    · omega
    · split
      · omega
      · split
        · show 1 ≤ _; omega
        · rw [ByteArray.size_append]; omega
def encs (xs : List S48) : ByteArray := xs.foldr (fun x r => encT x ++ r) noB
theorem noB_app (b : ByteArray) : noB ++ b = b := by apply ByteArray.ext; simp [noB]
theorem app_noB (b : ByteArray) : b ++ noB = b := by apply ByteArray.ext; simp [noB]
theorem noB_of (b : ByteArray) (h : b.size = 0) : b = noB := ba_ext (List.eq_nil_of_length_eq_zero (l := b.data.toList) (by rw [← size_list]; exact h))
theorem fold_put : ∀ (xs : List S48) (o : OutS), o.long = false → (∀ x ∈ xs, (encT x).size ≤ 2100) → o.b.size + 2100 * xs.length ≤ 1048576 → xs.foldl (fun o x => o.put (encT x)) o = ⟨o.b ++ encs xs, false⟩
  | [], ⟨b, l⟩, h, _, _ => by
    obtain rfl : l = false := h
    show (⟨b, false⟩ : OutS) = ⟨b ++ noB, false⟩
    rw [app_noB]
  | x :: xs, o, h, hx, hs => by
    have h1 := hx x (List.mem_cons_self)
    simp only [List.length_cons] at hs
    have e : o.put (encT x) = ⟨o.b ++ encT x, false⟩ := by
      unfold OutS.put
      rw [if_neg]
      rw [h]
      rintro (h | h)
      · cases h
      · omega
    rw [List.foldl_cons, e, fold_put xs _ rfl (fun y hy => hx y (List.mem_cons_of_mem _ hy)) (by show (o.b ++ encT x).size + _ ≤ _; rw [ByteArray.size_append]; omega)]
    show (⟨o.b ++ encT x ++ encs xs, false⟩ : OutS) = ⟨o.b ++ (encT x ++ encs xs), false⟩
    rw [ba_assoc]
theorem encs_size : ∀ (xs : List S48), (∀ x ∈ xs, (encT x).size ≤ 2100) → (encs xs).size ≤ 2100 * xs.length
  | [], _ => Nat.le_refl 0
  | x :: xs, h => by
    show (encT x ++ encs xs).size ≤ _
    rw [ByteArray.size_append, List.length_cons]
    have := h x (List.mem_cons_self)
    have := encs_size xs (fun y hy => h y (List.mem_cons_of_mem _ hy))
    omega
theorem wrote_all (xs : List S48) (hx : ∀ x ∈ xs, Good48 x ∧ x.f2.size ≤ 2000) (hl : xs.length ≤ 200) : doneB (wroteS xs) = encs xs ∧ doneE (wroteS xs) = 0 ∧ (encs xs).size ≤ 420000 := by
  have h1 : ∀ x ∈ xs, (encT x).size ≤ 2100 := fun x h => enc_small1 x (hx x h).1 (hx x h).2
  have e : wroteS xs = ⟨encs xs, false⟩ := by
    have := fold_put xs OutS.new rfl h1 (by show 0 + _ ≤ _; omega)
    rw [show OutS.new.b = noB from rfl, noB_app] at this
    exact this
  have := encs_size xs h1
  rw [e]
  exact ⟨rfl, rfl, by omega⟩
theorem encs_drop (xs : List S48) (t : Nat) (h : t < xs.length) : encs (xs.drop t) = encT xs[t] ++ encs (xs.drop (t + 1)) := by
  rw [List.drop_eq_getElem_cons h]; rfl
/-- What is read of a thing. -/
def backN (x : S48) : Nat × Nat × ByteArray := if x.f0.toNat % 5 = 0 then (0, x.f1.f1.toNat % 256, noB) else if x.f0.toNat % 5 = 1 then (0, x.f1.f1.toNat, noB) else if x.f0.toNat % 5 = 2 then (x.f1.f0.toNat, x.f1.f1.toNat, noB) else if x.f0.toNat % 5 = 3 then (0, x.f1.f1.toNat % 2, noB) else (0, 0, x.f2)
theorem back_read (x : S48) (gx : Good48 x) (hs : x.f2.size ≤ 2000) (most : Int) (hm : (x.f2.size : Int) ≤ max most 0) (r : ByteArray) :
    moveS x.f0.toNat most (encT x ++ r) false = (r, false) ∧ readN x.f0.toNat most (encT x ++ r) false = backN x := by
  obtain ⟨h0, h0', h1, h1', h2, h2', h3, h3'⟩ := good_nat gx
  exact read_back r (by omega) (by omega) hm (by omega)
theorem back_alike (x : S48) (gx : Good48 x) (most : Int) : paymasterlaw08_alike.f x.f0 ((backN x).1 : Nat) ((backN x).2.1 : Nat) (backN x).2.2 most x.f0 x.f1.f0 x.f1.f1 x.f2 x.f3 = some true := by
  obtain ⟨h0, h0', h1, h1', h2, h2', h3, h3'⟩ := good_nat gx
  have ht : Int.tmod x.f0 5 = ((x.f0.toNat % 5 : Nat) : Int) := by rw [Int.tmod_eq_emod_of_nonneg (by omega)]; omega
  have ht2 : Int.tmod x.f1.f1 256 = ((x.f1.f1.toNat % 256 : Nat) : Int) := by rw [Int.tmod_eq_emod_of_nonneg (by omega)]; omega
  have ht3 : Int.tmod x.f1.f1 2 = ((x.f1.f1.toNat % 2 : Nat) : Int) := by rw [Int.tmod_eq_emod_of_nonneg (by omega)]; omega
  have e0 : ((x.f1.f0.toNat : Nat) : Int) = x.f1.f0 := by omega
  have e1 : ((x.f1.f1.toNat : Nat) : Int) = x.f1.f1 := by omega
  unfold paymasterlaw08_alike.f backN
  rw [ht, ht2, ht3]
  rcases case5 x.f0.toNat with h | h | h | h | h
  · simp [h, u128_Of.f]
  · simp [h, u128_Of.f, e1]
  · simp [h, e0, e1]
  · simp [h, u128_Of.f]
  · simp [h]
theorem read_most {kind : Nat} {most : Int} {b : ByteArray} {sp : Bool} (h : (moveS kind most b sp).2 = false) : ((readN kind most b sp).2.2.size : Int) ≤ max most 0 := by
  unfold readN moveS at *
  rcases case5 kind with hk | hk | hk | hk | hk
  · simp only [if_pos hk]; show ((0 : Nat) : Int) ≤ _; omega
  · simp only [if_neg (show ¬ kind % 5 = 0 by omega), if_pos hk]; show ((0 : Nat) : Int) ≤ _; omega
  · simp only [if_neg (show ¬ kind % 5 = 0 by omega), if_neg (show ¬ kind % 5 = 1 by omega), if_pos hk]; show ((0 : Nat) : Int) ≤ _; omega
  · simp only [if_neg (show ¬ kind % 5 = 0 by omega), if_neg (show ¬ kind % 5 = 1 by omega), if_neg (show ¬ kind % 5 = 2 by omega), if_pos hk]; show ((0 : Nat) : Int) ≤ _; omega
  · rw [if_neg (by omega), if_neg (by omega), if_neg (by omega), if_neg (by omega)] at h
    simp only [if_neg (show ¬ kind % 5 = 0 by omega), if_neg (show ¬ kind % 5 = 1 by omega), if_neg (show ¬ kind % 5 = 2 by omega), if_neg (show ¬ kind % 5 = 3 by omega)]
    exact (textS_inv (b := b) (sp := sp) (s := (textS most b sp).1) (r := (textS most b sp).2.1) (by rw [← h])).2.1
/-- The third reader, that reads the first bytes alone: it is behind the first by what is left out, or spoilt. -/
def KI (tail b kb : ByteArray) (sp : Bool) : Prop := (sp = false ∧ b = kb ++ tail) ∨ (sp = true ∧ tail.size ≠ 0)
theorem KI.step {tail b kb r : ByteArray} {sp : Bool} {kind : Nat} {most : Int} (h : KI tail b kb sp) (hm : moveS kind most b false = (r, false)) (hb : b.size < 18446744073709551616) : KI tail r (moveS kind most kb sp).1 (moveS kind most kb sp).2 := by
  rcases h with ⟨rfl, h⟩ | ⟨rfl, h⟩
  · cases hq : (moveS kind most kb false).2 with
    | false =>
      obtain ⟨_, e1, e2, e3, e4⟩ := read_ok hq
      have e5 := read_most hq
      have hk : kb.size ≤ b.size := by rw [h, ByteArray.size_append]; omega
      have := (read_back (kind := kind) (most := most) ((moveS kind most kb false).1 ++ tail) e2 e3 e5 (by omega)).1
      rw [← ba_assoc, ← e1, ← h, hm] at this
      injection this with this _
      exact .inl ⟨rfl, this⟩
    | true =>
      by_cases ht : tail.size = 0
      · rw [noB_of tail ht, app_noB] at h
        rw [h] at hm
        rw [hm] at hq
        cases hq
      · exact .inr ⟨rfl, ht⟩
  · cases hq : (moveS kind most kb true).2 with
    | false => exact absurd (read_ok hq).1 (by simp)
    | true => exact .inr ⟨rfl, h⟩
theorem KI.close {tail kb : ByteArray} {sp : Bool} (h : KI tail noB kb sp) : (closeS kb sp == 0) = ((tail.size : Int) == 0) := by
  unfold closeS
  rcases h with ⟨rfl, h⟩ | ⟨rfl, h⟩
  · have := congrArg ByteArray.size h
    rw [ByteArray.size_append] at this
    have e : kb.size = 0 ∧ tail.size = 0 := ⟨by have : noB.size = 0 := rfl; omega, by have : noB.size = 0 := rfl; omega⟩
    rw [e.1, e.2]; rfl
  · rw [if_pos (.inl rfl)]
    have : ((tail.size : Int) == 0) = false := by rw [beq_eq_false_iff_ne]; omega
    rw [this]; rfl
theorem short_text (x : S48) (hk : x.f0.toNat % 5 = 4) (hs : x.f2.size ≤ 2000) (h0 : 0 < x.f2.size) : textS ((x.f2.size : Int) - 1) (encT x) false = (noB, noB, true) := by
  have e : encT x = textEnc x.f2 ++ noB := by
    rw [app_noB]
    unfold encT thingEnc
    rw [if_neg (by omega), if_neg (by omega), if_neg (by omega), if_neg (by omega)]
  rw [e]
  exact textS_long _ _ _ (by omega) (by omega)
end Go.Proofs.Ytdjpcogkpnemlaa.Oct
