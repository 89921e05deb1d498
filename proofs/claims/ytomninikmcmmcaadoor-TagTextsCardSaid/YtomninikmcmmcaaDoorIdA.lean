/- Texts of this session, put together: ShelfB, ShelfT, IdP, ValidL. -/
import Derived.Shelf.Strings.BuilderK
import Derived.Shelf.Strings.BuilderF
import Derived.Test.YtomninikmcmmcaaDoorProg
import Derived.Shelf.Small.Utf8
import Derived.Shelf.Utf8.RuneCount
import Derived.Shelf.Strings.Search1
import Derived.Shelf.Strings.Runes
import Derived.Lib.RuneCount
import Derived.Lib.TrimUEq
import Derived.Lib.ValidLaws
import Derived.Lib.DecodeN
import Derived.Shelf.Unicode.ValidAny
section
/- Laid by hand: (*strings.Builder).WriteByte of the shelf at this program (the kit's own laying falls: its closure names no string type). -/
namespace Go.Proofs
open Go.Shelf
end Go.Proofs
end
section
/- The library's functions that chapter 07's Ids reach, laid at this program by hand (so that no other part of the shelf is asked). -/
namespace Go.Proofs
open Go.Shelf Go.RowKit
set_option maxRecDepth 100000
def Tryd.lays119h_ren : Go.Shelf.Ren := ⟨fun | 119 => 118 | n => n, fun | 4 => 4 | 21 => 21 | n => n, fun n => n⟩
theorem Tryd.lays119h : Go.Proofs.Lays.n119 Tryd.prog Tryd.lays119h_ren := {
  mixed := by kernel_rfl
  f119 := Tryd.func118.trans (congrArg some (by kernel_rfl))
  t4 := Tryd.underlying4
  a4 := Tryd.isAgg4
  z4 := Tryd.sizeOf4
  v4 := Tryd.zeroValue4
  t21 := Tryd.underlying21
  a21 := Tryd.isAgg21
  z21 := Tryd.sizeOf21
  v21 := Tryd.zeroValue21 }
def Tryd.lays137h_ren : Go.Shelf.Ren := ⟨fun | 137 => 117 | 217 => 126 | 266 => 128 | n => n, fun | 3 => 3 | 5 => 5 | 9 => 9 | n => n, fun n => n⟩
theorem Tryd.lays137h : Go.Proofs.Lays.n137 Tryd.prog Tryd.lays137h_ren := {
  mixed := by kernel_rfl
  f137 := Tryd.func117.trans (congrArg some (by kernel_rfl))
  f217 := Tryd.func126.trans (congrArg some (by kernel_rfl))
  f266 := Tryd.func128.trans (congrArg some (by kernel_rfl))
  t3 := Tryd.underlying3
  a3 := Tryd.isAgg3
  z3 := Tryd.sizeOf3
  v3 := Tryd.zeroValue3
  t5 := Tryd.underlying5
  a5 := Tryd.isAgg5
  z5 := Tryd.sizeOf5
  v5 := Tryd.zeroValue5
  t9 := Tryd.underlying9
  a9 := Tryd.isAgg9
  z9 := Tryd.sizeOf9
  v9 := Tryd.zeroValue9 }
def Tryd.lays151h_ren : Go.Shelf.Ren := ⟨fun | 119 => 118 | 137 => 117 | 151 => 88 | 152 => 106 | 217 => 126 | 224 => 119 | 225 => 120 | 266 => 128 | n => n, fun | 0 => 0 | 3 => 3 | 4 => 4 | 5 => 5 | 9 => 9 | 21 => 21 | 46 => 76 | n => n, fun n => n⟩
theorem Tryd.lays151h : Go.Proofs.Lays.n151 Tryd.prog Tryd.lays151h_ren := {
  mixed := by kernel_rfl
  f119 := Tryd.func118.trans (congrArg some (by kernel_rfl))
  f137 := Tryd.func117.trans (congrArg some (by kernel_rfl))
  f151 := Tryd.func88.trans (congrArg some (by kernel_rfl))
  f152 := Tryd.func106.trans (congrArg some (by kernel_rfl))
  f217 := Tryd.func126.trans (congrArg some (by kernel_rfl))
  f224 := Tryd.func119.trans (congrArg some (by kernel_rfl))
  f225 := Tryd.func120.trans (congrArg some (by kernel_rfl))
  f266 := Tryd.func128.trans (congrArg some (by kernel_rfl))
  t0 := Tryd.underlying0
  a0 := Tryd.isAgg0
  z0 := Tryd.sizeOf0
  v0 := Tryd.zeroValue0
  t3 := Tryd.underlying3
  a3 := Tryd.isAgg3
  z3 := Tryd.sizeOf3
  v3 := Tryd.zeroValue3
  t4 := Tryd.underlying4
  a4 := Tryd.isAgg4
  z4 := Tryd.sizeOf4
  v4 := Tryd.zeroValue4
  t5 := Tryd.underlying5
  a5 := Tryd.isAgg5
  z5 := Tryd.sizeOf5
  v5 := Tryd.zeroValue5
  t9 := Tryd.underlying9
  a9 := Tryd.isAgg9
  z9 := Tryd.sizeOf9
  v9 := Tryd.zeroValue9
  t21 := Tryd.underlying21
  a21 := Tryd.isAgg21
  z21 := Tryd.sizeOf21
  v21 := Tryd.zeroValue21
  t46 := Tryd.underlying76
  a46 := Tryd.isAgg76
  z46 := Tryd.sizeOf76
  v46 := Tryd.zeroValue76 }
def Tryd.lays195h_ren : Go.Shelf.Ren := ⟨fun | 195 => 67 | n => n, fun | 0 => 0 | 3 => 3 | 4 => 4 | 9 => 9 | n => n, fun n => n⟩
theorem Tryd.lays195h : Go.Proofs.Lays.n195 Tryd.prog Tryd.lays195h_ren := {
  mixed := by kernel_rfl
  f195 := Tryd.func67.trans (congrArg some (by kernel_rfl))
  t0 := Tryd.underlying0
  a0 := Tryd.isAgg0
  z0 := Tryd.sizeOf0
  v0 := Tryd.zeroValue0
  t3 := Tryd.underlying3
  a3 := Tryd.isAgg3
  z3 := Tryd.sizeOf3
  v3 := Tryd.zeroValue3
  t4 := Tryd.underlying4
  a4 := Tryd.isAgg4
  z4 := Tryd.sizeOf4
  v4 := Tryd.zeroValue4
  t9 := Tryd.underlying9
  a9 := Tryd.isAgg9
  z9 := Tryd.sizeOf9
  v9 := Tryd.zeroValue9 }
theorem Tryd.validRune_h (r : Int) (w : World) :
    Calls Tryd.prog 118 #[.int .i32 r] w fun e w' => e = .returned (.bool (Lib.validRune r)) ∧ w' = w := Any.utf8_ValidRune Tryd.lays119h r w
theorem Tryd.indexByte_h (s : ByteArray) (c : Int) (w : World) :
    Calls Tryd.prog 117 #[.string s, .int .u8 c] w fun e w' => e = .returned (.int .i64 (Lib.indexByte s.data.toList c.toNat.toUInt8)) ∧ w' = w := Any.strings_IndexByte Tryd.lays137h s c w
theorem Tryd.containsAscii_h (s : ByteArray) (r : Int) (w : World) (h0 : 0 ≤ r) (h1 : r < 128) :
    Calls Tryd.prog 88 #[.string s, .int .i32 r] w fun e w' => e = .returned (.bool (decide (0 ≤ Lib.indexByte s.data.toList r.toNat.toUInt8))) ∧ w' = w := Any.strings_ContainsRune_ascii Tryd.lays151h s r w h0 h1
theorem Tryd.runeCount_h (s : ByteArray) (w : World) (hs : s.size < 9223372036854775807) :
    Calls Tryd.prog 67 #[.string s] w fun e w' => e = .returned (.int .i64 (Lib.runeCount s)) ∧ ∃ pos, w' = w.iter s pos := Any.utf8_RuneCountInString Tryd.lays195h s w hs
end Go.Proofs
end
section
/- An Id, plain: its runes are valid, each may be in an Id, and they are 1 to 24. -/
namespace Go.Proofs.YtomninikmcmmcaaDoor.Ids
open Go
/-- Whether a rune may be an Id's. -/
def withinR (c : Int) : Bool := decide (97 ≤ c ∧ c ≤ 122 ∨ 65 ≤ c ∧ c ≤ 90 ∨ 48 ≤ c ∧ c ≤ 57 ∨ c = 46 ∨ c = 95 ∨ c = 45 ∨ 161 ≤ c)
/-- From a place on, by at most so many runes: all are valid, and may be in an Id. -/
def okFrom (s : ByteArray) : Nat → Nat → Bool
  | 0, _ => true
  | f + 1, pos => if pos < s.size then (if (Utf8.decode s pos).1 = 65533 ∧ (Utf8.decode s pos).2 = 1 then false else if withinR ((Utf8.decode s pos).1 : Int) = true then okFrom s f (pos + (Utf8.decode s pos).2) else false) else true
def mayId (s : ByteArray) : Bool := decide (1 ≤ Lib.runeCount s) && decide (Lib.runeCount s ≤ 24) && okFrom s s.size 0
theorem okFrom_end (s : ByteArray) (f pos : Nat) (h : ¬ pos < s.size) : okFrom s f pos = true := by
  cases f <;> simp [okFrom, h]
theorem okFrom_bad (s : ByteArray) (f pos : Nat) (h : pos < s.size) (hb : (Utf8.decode s pos).1 = 65533 ∧ (Utf8.decode s pos).2 = 1) : okFrom s (f + 1) pos = false := by
  rw [okFrom, if_pos h, if_pos hb]
theorem okFrom_out (s : ByteArray) (f pos : Nat) (h : pos < s.size) (hb : withinR ((Utf8.decode s pos).1 : Int) = false) : okFrom s (f + 1) pos = false := by
  rw [okFrom, if_pos h]
  split
  · rfl
  · rw [hb]
    rfl
theorem okFrom_in (s : ByteArray) (f pos : Nat) (h : pos < s.size) (hb : ¬ ((Utf8.decode s pos).1 = 65533 ∧ (Utf8.decode s pos).2 = 1)) (hw : withinR ((Utf8.decode s pos).1 : Int) = true) : okFrom s (f + 1) pos = okFrom s f (pos + (Utf8.decode s pos).2) := by
  rw [okFrom, if_pos h, if_neg hb, if_pos hw]
/-- The tail's validity, a rune on. -/
theorem valid_at (s : ByteArray) (pos : Nat) (h : pos < s.size) : Lib.validD (s.data.toList.drop pos) = if (Utf8.decode s pos).1 = 65533 ∧ (Utf8.decode s pos).2 = 1 then false else Lib.validD (s.data.toList.drop (pos + (Utf8.decode s pos).2)) := by
  have hne : s.data.toList.drop pos ≠ [] := by
    intro hc
    have hl := congrArg List.length hc
    rw [List.length_drop, Array.length_toList, ByteArray.size_data, List.length_nil] at hl
    omega
  rw [Lib.validD_step _ hne, Lib.decodeL_drop, List.drop_drop]
theorem okFrom_valid (s : ByteArray) : ∀ f pos, s.size ≤ pos + f → okFrom s f pos = true → Lib.validD (s.data.toList.drop pos) = true
  | 0, pos, hf, _ => by
    have : s.data.toList.drop pos = [] := by
      apply List.drop_eq_nil_of_le
      rw [Array.length_toList, ByteArray.size_data]
      omega
    rw [this]
    rfl
  | f + 1, pos, hf, h => by
    by_cases hp : pos < s.size
    · rw [valid_at s pos hp]
      rw [okFrom, if_pos hp] at h
      split
      · rename_i hb
        rw [if_pos hb] at h
        exact absurd h (by decide)
      · rename_i hb
        rw [if_neg hb] at h
        split at h
        · have hw := Lib.decode_width_pos s pos hp
          exact okFrom_valid s f _ (by omega) h
        · exact absurd h (by decide)
    · have : s.data.toList.drop pos = [] := by
        apply List.drop_eq_nil_of_le
        rw [Array.length_toList, ByteArray.size_data]
        omega
      rw [this]
      rfl
theorem mayId_false_valid (s : ByteArray) (h : Lib.validD s.data.toList = false) : mayId s = false := by
  unfold mayId
  cases hk : okFrom s s.size 0
  · simp
  · have := okFrom_valid s s.size 0 (by omega) hk
    rw [List.drop_zero, h] at this
    exact absurd this (by decide)
theorem mayId_false_count (s : ByteArray) (h : Lib.runeCount s < 1 ∨ 24 < Lib.runeCount s) : mayId s = false := by
  unfold mayId
  rcases h with h | h
  · rw [decide_eq_false (show ¬ 1 ≤ Lib.runeCount s by omega)]
    rfl
  · rw [decide_eq_false (show ¬ Lib.runeCount s ≤ 24 by omega)]
    simp
theorem mayId_rest (s : ByteArray) (h1 : 1 ≤ Lib.runeCount s) (h2 : Lib.runeCount s ≤ 24) : mayId s = okFrom s s.size 0 := by
  unfold mayId
  rw [decide_eq_true h1, decide_eq_true h2]
  rfl
/-- The rune at the head of so many bytes, and how many it has, as the chapter says; 0, 0: none. -/
def runeN (n b0 b1 b2 b3 : Nat) : Nat × Nat :=
  if b0 < 128 then (b0, 1)
  else if b0 / 32 = 6 then
    (if 1 < n ∧ b1 / 64 = 2 then (if 64 * (b0 - 192) + b1 - 128 < 128 then (0, 0) else (64 * (b0 - 192) + b1 - 128, 2)) else (0, 0))
  else if b0 / 16 = 14 then
    (if (1 < n ∧ b1 / 64 = 2) ∧ (2 < n ∧ b2 / 64 = 2) then
      (if 64 * (64 * (b0 - 224) + b1 - 128) + b2 - 128 < 2048 ∨ (55296 ≤ 64 * (64 * (b0 - 224) + b1 - 128) + b2 - 128 ∧ 64 * (64 * (b0 - 224) + b1 - 128) + b2 - 128 < 57344) then (0, 0) else (64 * (64 * (b0 - 224) + b1 - 128) + b2 - 128, 3)) else (0, 0))
  else if b0 / 8 = 30 then
    (if (1 < n ∧ b1 / 64 = 2) ∧ (2 < n ∧ b2 / 64 = 2) ∧ (3 < n ∧ b3 / 64 = 2) then
      (if 64 * (64 * (64 * (b0 - 240) + b1 - 128) + b2 - 128) + b3 - 128 < 65536 ∨ 1114111 < 64 * (64 * (64 * (b0 - 240) + b1 - 128) + b2 - 128) + b3 - 128 then (0, 0) else (64 * (64 * (64 * (b0 - 240) + b1 - 128) + b2 - 128) + b3 - 128, 4)) else (0, 0))
  else (0, 0)
/-- What the model's decoder tells, as the chapter tells it. -/
def told (d : Nat × Nat) : Nat × Nat := if d.1 = 65533 ∧ d.2 = 1 then (0, 0) else d
theorem told_bad : told (65533, 1) = (0, 0) := by simp [told]
theorem told_wide (c k : Nat) (h : k ≠ 1) : told (c, k) = (c, k) := by simp [told, h]
theorem told_low (c : Nat) (h : c < 128) : told (c, 1) = (c, 1) := by
  have : c ≠ 65533 := by omega
  simp [told, this]
theorem runeN_told (n b0 b1 b2 b3 : Nat) (h0 : b0 < 256) : runeN n b0 b1 b2 b3 = told (Lib.decodeN n b0 b1 b2 b3) := by
  by_cases c1 : b0 < 128
  · unfold runeN Lib.decodeN
    rw [if_pos c1, if_pos c1, told_low _ c1]
  by_cases c2 : b0 / 32 = 6
  · unfold runeN Lib.decodeN
    have d2 : ¬ b0 / 16 = 14 := by omega
    have d3 : ¬ b0 / 8 = 30 := by omega
    simp only [if_neg c1, if_true, c2, d2, d3, true_and, false_and, if_false]
    by_cases e : 1 < n ∧ b1 / 64 = 2
    · rw [if_pos e, if_pos e]
      have e1 : 64 * (b0 - 192) + b1 - 128 = b0 % 32 * 64 + b1 % 64 := by omega
      rw [e1]
      split
      · rw [if_neg (by omega), told_bad]
      · rw [if_pos (by omega), told_wide _ _ (by decide)]
    · rw [if_neg e, if_neg e, told_bad]
  by_cases c3 : b0 / 16 = 14
  · unfold runeN Lib.decodeN
    have d3 : ¬ b0 / 8 = 30 := by omega
    simp only [if_neg c1, if_true, c2, c3, d3, true_and, false_and, if_false]
    by_cases e : (1 < n ∧ b1 / 64 = 2) ∧ (2 < n ∧ b2 / 64 = 2)
    · rw [if_pos e, if_pos e]
      have e1 : 64 * (64 * (b0 - 224) + b1 - 128) + b2 - 128 = b0 % 16 * 4096 + b1 % 64 * 64 + b2 % 64 := by omega
      rw [e1]
      have hm : b0 % 16 * 4096 + b1 % 64 * 64 + b2 % 64 < 65536 := by omega
      generalize b0 % 16 * 4096 + b1 % 64 * 64 + b2 % 64 = c at *
      split
      · rw [if_neg (by omega), told_bad]
      · rw [if_pos (by omega), told_wide _ _ (by decide)]
    · rw [if_neg e, if_neg e, told_bad]
  by_cases c4 : b0 / 8 = 30
  · unfold runeN Lib.decodeN
    simp only [if_neg c1, if_true, c2, c3, c4, true_and, false_and, if_false]
    by_cases e : (1 < n ∧ b1 / 64 = 2) ∧ (2 < n ∧ b2 / 64 = 2) ∧ (3 < n ∧ b3 / 64 = 2)
    · rw [if_pos e, if_pos e]
      have e1 : 64 * (64 * (64 * (b0 - 240) + b1 - 128) + b2 - 128) + b3 - 128 = b0 % 8 * 262144 + b1 % 64 * 4096 + b2 % 64 * 64 + b3 % 64 := by omega
      rw [e1]
      generalize b0 % 8 * 262144 + b1 % 64 * 4096 + b2 % 64 * 64 + b3 % 64 = c at *
      split
      · rw [if_neg (by omega), told_bad]
      · rw [if_pos (by omega), told_wide _ _ (by decide)]
    · rw [if_neg e, if_neg e, told_bad]
  · unfold runeN Lib.decodeN
    simp only [if_neg c1, c2, c3, c4, false_and, if_false]
    rw [told_bad]
/-- The rune at a place, as the chapter tells it. -/
theorem runeN_at (s : ByteArray) (i : Nat) : runeN (s.size - i) (s.get! i).toNat (s.get! (i + 1)).toNat (s.get! (i + 2)).toNat (s.get! (i + 3)).toNat = told (Utf8.decode s i) := by
  rw [Lib.decode_at, runeN_told _ _ _ _ _ (s.get! i).toNat_lt]
theorem decode_width_le (s : ByteArray) (i : Nat) : (Utf8.decode s i).2 ≤ 4 := by
  rw [Lib.decode_at]
  unfold Lib.decodeN
  repeat' split
  all_goals simp only
  all_goals omega
theorem count_size (s : ByteArray) : ∀ f pos, s.size ≤ pos + f → s.size ≤ pos + 4 * Lib.runeCountFrom s f pos
  | 0, pos, h => by omega
  | f + 1, pos, h => by
    rw [Lib.runeCountFrom]
    split
    · rename_i hp
      have h1 := Lib.decode_width_pos s pos hp
      have h2 := decode_width_le s pos
      have := count_size s f (pos + (Utf8.decode s pos).2) (by omega)
      omega
    · omega
/-- An Id has 1 to 96 bytes. -/
theorem mayId_size (s : ByteArray) (h : mayId s = true) : 1 ≤ s.size ∧ s.size ≤ 96 := by
  unfold mayId at h
  rw [Bool.and_eq_true, Bool.and_eq_true, decide_eq_true_eq, decide_eq_true_eq] at h
  have h1 := Lib.runeCount_le s
  have h2 := count_size s s.size 0 (by omega)
  unfold Lib.runeCount at h
  unfold Lib.runeCount at h1
  omega
end Go.Proofs.YtomninikmcmmcaaDoor.Ids
end
section
/- Laid by hand: the shelf's record n196 at this program (the kit's own laying leaves it out). -/
namespace Go.Proofs
open Go.Shelf
set_option maxRecDepth 100000
def Tryd.lays196h_ren : Go.Shelf.Ren := ⟨fun | 196 => 68 | 259 => 87 | n => n, fun | 0 => 0 | 3 => 3 | 4 => 4 | 5 => 5 | 9 => 9 | 12 => 12 | 46 => 76 | 53 => 35 | 119 => 104 | 138 => 106 | 139 => 107 | n => n, fun | 3 => 0 | 4 => 1 | n => n⟩
theorem Tryd.lays196h : Go.Proofs.Lays.n196 Tryd.prog Tryd.lays196h_ren := {
  mixed := by kernel_rfl
  f196 := Tryd.func68.trans (congrArg some (by kernel_rfl))
  f259 := Tryd.func87.trans (congrArg some (by kernel_rfl))
  t0 := Tryd.underlying0
  a0 := Tryd.isAgg0
  z0 := Tryd.sizeOf0
  v0 := Tryd.zeroValue0
  t3 := Tryd.underlying3
  a3 := Tryd.isAgg3
  z3 := Tryd.sizeOf3
  v3 := Tryd.zeroValue3
  t4 := Tryd.underlying4
  a4 := Tryd.isAgg4
  z4 := Tryd.sizeOf4
  v4 := Tryd.zeroValue4
  t5 := Tryd.underlying5
  a5 := Tryd.isAgg5
  z5 := Tryd.sizeOf5
  v5 := Tryd.zeroValue5
  t9 := Tryd.underlying9
  a9 := Tryd.isAgg9
  z9 := Tryd.sizeOf9
  v9 := Tryd.zeroValue9
  t12 := Tryd.underlying12
  a12 := Tryd.isAgg12
  z12 := Tryd.sizeOf12
  v12 := Tryd.zeroValue12
  t46 := Tryd.underlying76
  a46 := Tryd.isAgg76
  z46 := Tryd.sizeOf76
  v46 := Tryd.zeroValue76
  t53 := Tryd.underlying35
  a53 := Tryd.isAgg35
  z53 := Tryd.sizeOf35
  v53 := Tryd.zeroValue35
  t119 := Tryd.underlying104
  a119 := Tryd.isAgg104
  z119 := Tryd.sizeOf104
  t138 := Tryd.underlying106
  a138 := Tryd.isAgg106
  z138 := Tryd.sizeOf106
  v138 := Tryd.zeroValue106
  t139 := Tryd.underlying107
  a139 := Tryd.isAgg107
  z139 := Tryd.sizeOf107
  v139 := Tryd.zeroValue107
  g3 := by kernel_rfl
  g4 := by kernel_rfl }
end Go.Proofs
end
