/- A thing, read: what the law's reader answers; what it is the bytes of. -/
import Derived.Test.YtdjpcogkpnemlaaCode
import Derived.Test.YtdjpcogkpnemlaaRefAt
import Derived.Test.YtdjpcogkpnemlaaPInx
namespace Go.Proofs.Ytdjpcogkpnemlaa.Oct
open Go Go.RowKit Go.Proofs.YtdjpcogkpnemlaaW.PrintWords Go.Proofs.Ytdjpcogkpnemlaa.POr Go.Proofs.Ytdjpcogkpnemlaa.PIn
set_option linter.unusedVariables false
set_option linter.unusedSimpArgs false
set_option maxRecDepth 100000
set_option maxHeartbeats 1000000
def readN (kind : Nat) (most : Int) (b : ByteArray) (sp : Bool) : Nat × Nat × ByteArray :=
  if kind % 5 = 0 then (0, (byteS b sp).1, noB) else if kind % 5 = 1 then (0, (numS 8 b sp).2.1, noB) else if kind % 5 = 2 then ((numS 16 b sp).1, (numS 16 b sp).2.1, noB) else if kind % 5 = 3 then (0, (if (flagS b sp).1 then 1 else 0), noB) else (0, 0, (textS most b sp).1)
theorem case5 (kind : Nat) : kind % 5 = 0 ∨ kind % 5 = 1 ∨ kind % 5 = 2 ∨ kind % 5 = 3 ∨ kind % 5 = 4 := by omega
theorem read_eq (kind : Nat) (most : Int) (b : ByteArray) (sp : Bool) (hm : -9223372036854775808 ≤ most ∧ most ≤ 9223372036854775807) :
    paymasterlaw08_read.f b sp kind most = some ((kind : Int), ((readN kind most b sp).1 : Int), ((readN kind most b sp).2.1 : Int), (readN kind most b sp).2.2, most, (moveS kind most b sp).1, (moveS kind most b sp).2) := by
  have ht : Int.tmod (kind : Int) 5 = ((kind % 5 : Nat) : Int) := by rw [Int.tmod_eq_emod_of_nonneg (by omega)]; omega
  unfold paymasterlaw08_read.f readN moveS
  rw [ht]
  rcases case5 kind with h | h | h | h | h
  · simp only [h]
    unfold octet_In_Byte.f u128_Of.f
    have := byteS_lt b sp
    simp only [Option.bind_some]
    rw [wrapU (by omega) (by omega)]
    rfl
  · simp only [h]
    rfl
  · simp only [h]
    rfl
  · simp only [h]
    unfold octet_In_Flag.f u128_Of.f
    simp only [Option.bind_some]
    cases (flagS b sp).1 <;> rfl
  · simp only [h]
    unfold octet_In_Text.f
    rw [if_pos hm]
    rfl
def readV (kind : Nat) (most : Int) (b : ByteArray) (sp : Bool) : Value := .agg #[.int .u8 kind, .int .u64 ((readN kind most b sp).1 : Nat), .int .u64 ((readN kind most b sp).2.1 : Nat), .string (readN kind most b sp).2.2, .int .i64 most]
theorem at_read {g : Nat} {b : ByteArray} {sp : Bool} {w : World} (kind : Nat) (most : Int) (hm : -9223372036854775808 ≤ most ∧ most ≤ 9223372036854775807) (h : InAt g b sp w) :
    Calls Try.prog 35 #[.pointer (some ⟨g, 0, none⟩), .int .u8 kind, .int .i64 most] w fun e w' => e = .returned (readV kind most b sp) ∧ InAt g (moveS kind most b sp).1 (moveS kind most b sp).2 w' ∧ Touch g w w' := by
  obtain ⟨w0, hI, hB⟩ := h
  exact (paymasterlaw08_read.calls g b sp kind most _ _ _ _ _ _ _ w0 w hI hB (read_eq kind most b sp hm)).mono fun e w' ⟨h1, h2, h3, h4⟩ => ⟨h1, ⟨w0, h2, h3⟩, Touch.of hB h3 h4⟩
theorem read_sp {kind : Nat} {most : Int} {b : ByteArray} {sp : Bool} (h : (moveS kind most b sp).2 = true) : readN kind most b sp = (0, 0, noB) ∧ moveS kind most b sp = (noB, true) := by
  unfold readN moveS at *
  rcases case5 kind with hk | hk | hk | hk | hk
  · simp only [if_pos hk] at h ⊢
    rw [byteS_sp h]
    exact ⟨rfl, rfl⟩
  · simp only [if_neg (show ¬ kind % 5 = 0 by omega), if_pos hk] at h ⊢
    rw [numS_sp h]
    exact ⟨rfl, rfl⟩
  · simp only [if_neg (show ¬ kind % 5 = 0 by omega), if_neg (show ¬ kind % 5 = 1 by omega), if_pos hk] at h ⊢
    rw [numS_sp h]
    exact ⟨rfl, rfl⟩
  · simp only [if_neg (show ¬ kind % 5 = 0 by omega), if_neg (show ¬ kind % 5 = 1 by omega), if_neg (show ¬ kind % 5 = 2 by omega), if_pos hk] at h ⊢
    rw [flagS_sp h]
    exact ⟨rfl, rfl⟩
  · simp only [if_neg (show ¬ kind % 5 = 0 by omega), if_neg (show ¬ kind % 5 = 1 by omega), if_neg (show ¬ kind % 5 = 2 by omega), if_neg (show ¬ kind % 5 = 3 by omega)] at h ⊢
    rw [textS_sp h]
    exact ⟨rfl, rfl⟩
theorem move_sp (kind : Nat) (most : Int) : (moveS kind most noB true).2 = true := by
  have e1 : takeS noB true 1 = (noB, noB, true) := if_pos (.inl rfl)
  have e2 : byteS noB true = (0, noB, true) := by unfold byteS; rw [e1]; rfl
  have e3 : ∀ m, numS m noB true = (0, 0, noB, true) := by
    intro m
    unfold numS
    rw [e2]
    simp only
    rw [if_neg (by omega), if_pos (.inl (by unfold takeS; rw [if_pos (.inl rfl)]))]
  unfold moveS
  rcases case5 kind with hk | hk | hk | hk | hk
  · rw [if_pos hk, e2]
  · rw [if_neg (by omega), if_pos hk, e3]
  · rw [if_neg (by omega), if_neg (by omega), if_pos hk, e3]
  · rw [if_neg (by omega), if_neg (by omega), if_neg (by omega), if_pos hk]
    unfold flagS
    rw [e2, if_neg (by decide)]
  · rw [if_neg (by omega), if_neg (by omega), if_neg (by omega), if_neg (by omega)]
    unfold textS
    rw [e3]
    simp only
    split
    · rfl
    · unfold takeS; rw [if_pos (.inl rfl)]
/-- What was read has just those bytes. -/
theorem read_ok {kind : Nat} {most : Int} {b : ByteArray} {sp : Bool} (h : (moveS kind most b sp).2 = false) :
    sp = false ∧ b = thingEnc kind (readN kind most b sp).1 (readN kind most b sp).2.1 (readN kind most b sp).2.2 ++ (moveS kind most b sp).1 ∧ (readN kind most b sp).1 < 18446744073709551616 ∧ (readN kind most b sp).2.1 < 18446744073709551616 ∧ (readN kind most b sp).2.2.size ≤ b.size := by
  unfold readN moveS thingEnc at *
  rcases case5 kind with hk | hk | hk | hk | hk
  · rw [if_pos hk] at h
    simp only [if_pos hk]
    have e := byteS_inv (b := b) (sp := sp) (n := (byteS b sp).1) (r := (byteS b sp).2.1) (by rw [← h])
    exact ⟨e.2.2, e.1, by omega, by have := e.2.1; omega, Nat.zero_le _⟩
  · rw [if_neg (by omega), if_pos hk] at h
    simp only [if_neg (show ¬ kind % 5 = 0 by omega), if_pos hk]
    have e := numS_inv (most := 8) (b := b) (sp := sp) (hi := (numS 8 b sp).1) (lo := (numS 8 b sp).2.1) (r := (numS 8 b sp).2.2.1) (by omega) (by rw [← h])
    have e0 := hi_zero e.2.1 e.2.2.1 e.2.2.2.1
    exact ⟨e.2.2.2.2, by rw [← e0]; exact e.1, by omega, e.2.2.1, Nat.zero_le _⟩
  · rw [if_neg (by omega), if_neg (by omega), if_pos hk] at h
    simp only [if_neg (show ¬ kind % 5 = 0 by omega), if_neg (show ¬ kind % 5 = 1 by omega), if_pos hk]
    have e := numS_inv (most := 16) (b := b) (sp := sp) (hi := (numS 16 b sp).1) (lo := (numS 16 b sp).2.1) (r := (numS 16 b sp).2.2.1) (by omega) (by rw [← h])
    exact ⟨e.2.2.2.2, e.1, e.2.1, e.2.2.1, Nat.zero_le _⟩
  · rw [if_neg (by omega), if_neg (by omega), if_neg (by omega), if_pos hk] at h
    simp only [if_neg (show ¬ kind % 5 = 0 by omega), if_neg (show ¬ kind % 5 = 1 by omega), if_neg (show ¬ kind % 5 = 2 by omega), if_pos hk]
    have e := flagS_inv (b := b) (sp := sp) (f := (flagS b sp).1) (r := (flagS b sp).2.1) (by rw [← h])
    have e2 : (((if (flagS b sp).1 = true then 1 else 0) % 2 == 1) : Bool) = (flagS b sp).1 := by cases (flagS b sp).1 <;> rfl
    rw [e2]
    exact ⟨e.2, e.1, by omega, by split <;> omega, Nat.zero_le _⟩
  · rw [if_neg (by omega), if_neg (by omega), if_neg (by omega), if_neg (by omega)] at h
    simp only [if_neg (show ¬ kind % 5 = 0 by omega), if_neg (show ¬ kind % 5 = 1 by omega), if_neg (show ¬ kind % 5 = 2 by omega), if_neg (show ¬ kind % 5 = 3 by omega)]
    have e := textS_inv (b := b) (sp := sp) (s := (textS most b sp).1) (r := (textS most b sp).2.1) (by rw [← h])
    refine ⟨e.2.2, e.1, by omega, by omega, ?_⟩
    have := congrArg ByteArray.size e.1
    rw [ByteArray.size_append] at this
    unfold textEnc at this
    rw [ByteArray.size_append] at this
    omega
/-- What was written is read. -/
theorem read_back {kind hi lo : Nat} {s : ByteArray} {most : Int} (r : ByteArray) (h1 : hi < 18446744073709551616) (h2 : lo < 18446744073709551616) (hs : (s.size : Int) ≤ max most 0) (hs2 : s.size < 18446744073709551616) :
    moveS kind most (thingEnc kind hi lo s ++ r) false = (r, false) ∧
    readN kind most (thingEnc kind hi lo s ++ r) false = (if kind % 5 = 0 then (0, lo % 256, noB) else if kind % 5 = 1 then (0, lo, noB) else if kind % 5 = 2 then (hi, lo, noB) else if kind % 5 = 3 then (0, lo % 2, noB) else (0, 0, s)) := by
  unfold readN moveS thingEnc
  rcases case5 kind with hk | hk | hk | hk | hk
  · simp only [if_pos hk]
    have e : (⟨#[UInt8.ofNat lo]⟩ : ByteArray) = byB (lo % 256) := by
      unfold byB
      congr 2
      apply congrArg (fun x => [x])
      apply UInt8.toNat_inj.1
      rw [UInt8.toNat_ofNat', UInt8.toNat_ofNat']; omega
    rw [e, byteS_app _ _ (by omega)]
    exact ⟨rfl, rfl⟩
  · simp only [if_neg (show ¬ kind % 5 = 0 by omega), if_pos hk]
    rw [numS_app 8 0 lo r (by omega) h2 (least8 h2)]
    exact ⟨rfl, rfl⟩
  · simp only [if_neg (show ¬ kind % 5 = 0 by omega), if_neg (show ¬ kind % 5 = 1 by omega), if_pos hk]
    rw [numS_app 16 hi lo r h1 h2 (leastN_le hi lo h1 h2)]
    exact ⟨rfl, rfl⟩
  · simp only [if_neg (show ¬ kind % 5 = 0 by omega), if_neg (show ¬ kind % 5 = 1 by omega), if_neg (show ¬ kind % 5 = 2 by omega), if_pos hk]
    rw [flagS_app]
    refine ⟨rfl, ?_⟩
    have : lo % 2 = 0 ∨ lo % 2 = 1 := by omega
    rcases this with h | h <;> rw [h] <;> rfl
  · simp only [if_neg (show ¬ kind % 5 = 0 by omega), if_neg (show ¬ kind % 5 = 1 by omega), if_neg (show ¬ kind % 5 = 2 by omega), if_neg (show ¬ kind % 5 = 3 by omega)]
    rw [textS_app most s r hs2 hs]
    exact ⟨rfl, rfl⟩
end Go.Proofs.Ytdjpcogkpnemlaa.Oct
