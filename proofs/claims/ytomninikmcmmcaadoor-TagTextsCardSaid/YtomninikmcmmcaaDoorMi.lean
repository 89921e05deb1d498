/- Texts of this session, put together: MayId, GivU, GivW. -/
import Derived.Test.YtomninikmcmmcaaDoorIndex
import Derived.Test.YtomninikmcmmcaaDoorIdA
import Derived.Laws.RangeAny
import Derived.LoopTactic
import Derived.Test.YtomninikmcmmcaaDoorGivA
section
/- tag.within and tag.MayId. -/
namespace Go.Proofs.YtomninikmcmmcaaDoor.Ids
open Go Go.RowKit Go.Proofs.YtomninikmcmmcaaDoorW.PrintWords
set_option linter.unusedVariables false
set_option linter.unusedSimpArgs false
/-! A string's iterator in a block of its own, in any later world. -/
def stepIter (W : World) (a : Nat) (s : ByteArray) (p : Nat) : World := { W with heap := W.heap.setIfInBounds a (.stringIter s p) }
theorem next_at {P : Program} (W : World) (a : Nat) (s : ByteArray) (pos : Nat) (ty : TypeId) (hi : W.heap[a]? = some (.stringIter s pos)) (h : pos < s.size) :
    (Instr.next (.pointer (some ⟨a, 0, none⟩)) true ty).run P W = .ok (.tuple #[.bool true, .int .i64 pos, .int .i32 (Utf8.decode s pos).1]) (stepIter W a s (pos + (Utf8.decode s pos).2)) := by
  simp only [Instr.next, getObj, setObj, Sem.run_bind, Sem.run, hi, Result.andThen, h, if_true]
  simp [goInt, stepIter]
theorem next_end {P : Program} (W : World) (a : Nat) (s : ByteArray) (pos : Nat) (ty : TypeId) (hi : W.heap[a]? = some (.stringIter s pos)) (h : ¬ pos < s.size) :
    (Instr.next (.pointer (some ⟨a, 0, none⟩)) true ty).run P W = .ok (.tuple #[.bool false]) W := by
  simp [Instr.next, getObj, Sem.run, hi, h]
theorem step_at (W : World) (a : Nat) (s : ByteArray) (p q : Nat) (hi : W.heap[a]? = some (.stringIter s p)) : (stepIter W a s q).heap[a]? = some (.stringIter s q) := by
  have ha : a < W.heap.size := by
    rcases Nat.lt_or_ge a W.heap.size with h | h
    · exact h
    · rw [Array.getElem?_eq_none h] at hi
      cases hi
  simp [stepIter, ha]
theorem step_below {B : Nat} {w W : World} (h : Below B w W) (a : Nat) (s : ByteArray) (q : Nat) (ha : B ≤ a) : Below B w (stepIter W a s q) :=
  h.trans ⟨rfl, rfl, rfl, by simp [stepIter], fun k hk => by
    simp only [stepIter]
    rw [Array.getElem?_setIfInBounds_ne (by omega)]⟩
theorem step_size (W : World) (a : Nat) (s : ByteArray) (q : Nat) : (stepIter W a s q).heap.size = W.heap.size := by simp [stepIter]
set_option maxHeartbeats 4000000 in
set_option maxRecDepth 100000 in
theorem index_bad (w : World) :
    Calls Tryd.prog 106 #[.string ⟨#[46, 95, 45]⟩, .int .i32 65533] w fun e w' => e = .returned (.int .i64 (-1)) ∧ Below w.heap.size w w' := by
  go_enter Tryd.func106, Tryd.ntmps106
  go_wp2_with fail
  go_loopw [4] (fun v w' => v = .int .i64 0 ∧ ∃ pos, w' = w.iter ⟨#[46, 95, 45]⟩ pos ∧ pos ≤ 3) (fun _ w' => 3 - w'.iterPos w.heap.size)
  case atStart => exact ⟨rfl, 0, rfl, by omega⟩
  case round =>
    obtain ⟨rfl, pos, rfl, hp⟩ := hrel
    rcases (show pos = 0 ∨ pos = 1 ∨ pos = 2 ∨ pos = 3 by omega) with rfl | rfl | rfl | rfl
    · have hnx : ∀ ty, (Instr.next (.pointer (some ⟨w.heap.size, 0, none⟩)) true ty).run Tryd.prog (w.iter ⟨#[46, 95, 45]⟩ 0) = .ok (.tuple #[.bool true, .int .i64 0, .int .i32 46]) (w.iter ⟨#[46, 95, 45]⟩ 1) := fun ty => run_next_ascii w _ 0 ty (by decide) (by decide)
      go_wp2_with fail
      go_roundw
      case rel => exact ⟨rfl, 1, rfl, by omega⟩
      case measure => simp
    · have hnx : ∀ ty, (Instr.next (.pointer (some ⟨w.heap.size, 0, none⟩)) true ty).run Tryd.prog (w.iter ⟨#[46, 95, 45]⟩ 1) = .ok (.tuple #[.bool true, .int .i64 1, .int .i32 95]) (w.iter ⟨#[46, 95, 45]⟩ 2) := fun ty => run_next_ascii w _ 1 ty (by decide) (by decide)
      go_wp2_with fail
      go_roundw
      case rel => exact ⟨rfl, 2, rfl, by omega⟩
      case measure => simp
    · have hnx : ∀ ty, (Instr.next (.pointer (some ⟨w.heap.size, 0, none⟩)) true ty).run Tryd.prog (w.iter ⟨#[46, 95, 45]⟩ 2) = .ok (.tuple #[.bool true, .int .i64 2, .int .i32 45]) (w.iter ⟨#[46, 95, 45]⟩ 3) := fun ty => run_next_ascii w _ 2 ty (by decide) (by decide)
      go_wp2_with fail
      go_roundw
      case rel => exact ⟨rfl, 3, rfl, by omega⟩
      case measure => simp
    · have hnx : ∀ ty, (Instr.next (.pointer (some ⟨w.heap.size, 0, none⟩)) true ty).run Tryd.prog (w.iter ⟨#[46, 95, 45]⟩ 3) = .ok (.tuple #[.bool false]) (w.iter ⟨#[46, 95, 45]⟩ 3) := fun ty => run_next_end w _ 3 ty (by decide)
      go_wp2_with fail
      go_ret
      exact ⟨rfl, (Below.refl _ _).alloc (Nat.le_refl _) _⟩
theorem index_calls (c : Int) (h0 : 128 ≤ c) (h1 : c ≤ 2147483647) (w : World) :
    Calls Tryd.prog 106 #[.string ⟨#[46, 95, 45]⟩, .int .i32 c] w fun e w' => e = .returned (.int .i64 (-1)) ∧ Below w.heap.size w w' := by
  by_cases h : c = 65533
  · subst h
    exact index_bad w
  · exact index_high c h0 h1 h w
set_option maxHeartbeats 4000000 in
set_option maxRecDepth 100000 in
theorem contains_calls (c : Int) (h0 : 128 ≤ c) (h1 : c ≤ 2147483647) (w : World) :
    Calls Tryd.prog 88 #[.string ⟨#[46, 95, 45]⟩, .int .i32 c] w fun e w' => e = .returned (.bool false) ∧ Below w.heap.size w w' := by
  have HI := Aside0.mk (fun w => index_calls c h0 h1 w)
  go_enter Tryd.func88, Tryd.ntmps88
  go_wp2_with fail
  refine (HI.out _).mono ?_
  rintro e w1 ⟨rfl, hb⟩
  go_wp2_with fail
  go_ret
  exact ⟨rfl, hb⟩
theorem dots (n : Nat) (h : n < 128) : (decide (0 ≤ Lib.indexByte [46, 95, 45] n.toUInt8)) = decide (n = 46 ∨ n = 95 ∨ n = 45) := by
  revert n
  decide
set_option maxHeartbeats 2000000 in
set_option maxRecDepth 100000 in
theorem within_ascii (c : Int) (h0 : 0 ≤ c) (h1 : c < 128) (w : World) :
    Calls Tryd.prog 69 #[.int .i32 c] w fun e w' => e = .returned (.bool (withinR c)) ∧ w' = w := by
  have HC := Aside0.mk (fun w => Tryd.containsAscii_h ⟨#[46, 95, 45]⟩ c w h0 h1)
  have e : (decide (0 ≤ Lib.indexByte (⟨#[46, 95, 45]⟩ : ByteArray).data.toList c.toNat.toUInt8)) = decide (c = 46 ∨ c = 95 ∨ c = 45) := by
    have h := dots c.toNat (by omega)
    rw [show (⟨#[46, 95, 45]⟩ : ByteArray).data.toList = [46, 95, 45] from rfl, h]
    rw [decide_eq_decide]
    omega
  rw [e] at HC
  clear e
  have hT : (97 ≤ c ∧ c ≤ 122 ∨ 65 ≤ c ∧ c ≤ 90 ∨ 48 ≤ c ∧ c ≤ 57 ∨ c = 46 ∨ c = 95 ∨ c = 45 ∨ 161 ≤ c) → withinR c = true := fun h => decide_eq_true h
  have hF : ¬ (97 ≤ c ∧ c ≤ 122 ∨ 65 ≤ c ∧ c ≤ 90 ∨ 48 ≤ c ∧ c ≤ 57 ∨ c = 46 ∨ c = 95 ∨ c = 45 ∨ 161 ≤ c) → withinR c = false := fun h => decide_eq_false h
  have HTT := Aside0.mk hT
  have HFF := Aside0.mk hF
  clear hT hF
  generalize withinR c = res at *
  go_enter Tryd.func69, Tryd.ntmps69
  by_cases a1 : 97 ≤ c
  all_goals by_cases a2 : c ≤ 122
  all_goals by_cases a3 : 65 ≤ c
  all_goals by_cases a4 : c ≤ 90
  all_goals by_cases a5 : 48 ≤ c
  all_goals by_cases a6 : c ≤ 57
  all_goals first
    | (exfalso; omega)
    | (go_wp2
       go_ret
       refine ⟨?_, rfl⟩
       rw [HTT.out (by omega)]
       rfl)
    | skip
  all_goals
    have a7 : ¬ 161 ≤ c := by omega
    go_wp2_with fail
    refine (HC.out _).mono ?_
    rintro e w1 ⟨rfl, rfl⟩
    by_cases d : c = 46 ∨ c = 95 ∨ c = 45
    · rw [decide_eq_true d]
      go_wp2_with fail
      go_ret
      refine ⟨?_, rfl⟩
      rw [HTT.out (by omega)]
      rfl
    · rw [decide_eq_false d]
      go_wp2_with fail
      go_ret
      refine ⟨?_, rfl⟩
      have a9 : decide (161 ≤ c) = false := decide_eq_false (by omega)
      rw [HFF.out (by omega)]
      first | rfl | (rw [a9]; rfl)
set_option maxHeartbeats 4000000 in
set_option maxRecDepth 100000 in
theorem within_calls (c : Int) (h0 : 0 ≤ c) (h1 : c ≤ 2147483647) (w : World) :
    Calls Tryd.prog 69 #[.int .i32 c] w fun e w' => e = .returned (.bool (withinR c)) ∧ Below w.heap.size w w' := by
  by_cases ha : c < 128
  · refine (within_ascii c h0 ha w).mono ?_
    rintro e w' ⟨rfl, rfl⟩
    exact ⟨rfl, Below.refl _ _⟩
  · have HC := Aside0.mk (fun w => contains_calls c (by omega) h1 w)
    have hT : 161 ≤ c → withinR c = true := fun h => decide_eq_true (by omega)
    have hF : ¬ 161 ≤ c → withinR c = false := fun h => decide_eq_false (by omega)
    have HTT := Aside0.mk hT
    have HFF := Aside0.mk hF
    clear hT hF
    generalize withinR c = res at *
    have a1 : 97 ≤ c := by omega
    have a2 : ¬ c ≤ 122 := by omega
    have a3 : 65 ≤ c := by omega
    have a4 : ¬ c ≤ 90 := by omega
    have a5 : 48 ≤ c := by omega
    have a6 : ¬ c ≤ 57 := by omega
    clear ha h0 h1
    go_enter Tryd.func69, Tryd.ntmps69
    go_wp2_with fail
    refine (HC.out _).mono ?_
    rintro e w1 ⟨rfl, hb⟩
    by_cases d : 161 ≤ c
    · go_wp2_with fail
      go_ret
      rw [HTT.out d]
      first | exact ⟨rfl, hb⟩ | (rw [decide_eq_true d]; exact ⟨rfl, hb⟩)
    · go_wp2_with fail
      go_ret
      rw [HFF.out d]
      first | exact ⟨rfl, hb⟩ | (rw [decide_eq_false (show ¬ 161 ≤ c by omega)]; exact ⟨rfl, hb⟩)
set_option maxHeartbeats 8000000 in
set_option maxRecDepth 100000 in
theorem mayid_calls (s : ByteArray) (hs : s.size < 9223372036854775807) (w : World) (hT : Lib.Utf8Tabs 0 1 w) :
    Calls Tryd.prog 23 #[.string s] w fun e w' => e = .returned (.bool (mayId s)) ∧ Below w.heap.size w w' := by
  have HR := Aside0.mk (fun w => Tryd.runeCount_h s w hs)
  have HV := Aside0.mk (fun w (hT : Lib.Utf8Tabs 0 1 w) => Any.utf8_ValidString Tryd.lays196h s w (by omega) hT)
  have HT := Aside0.mk hT
  have HW := Aside0.mk (fun c h0 h1 w => within_calls c h0 h1 w)
  have HA := Aside0.mk (fun h => mayId_false_count s h)
  have HB := Aside0.mk (fun h => mayId_false_valid s h)
  have HC := Aside0.mk (fun h1 h2 => mayId_rest s h1 h2)
  clear hT
  obtain ⟨n, hn⟩ : ∃ n, Lib.runeCount s = n := ⟨_, rfl⟩
  rw [hn] at HA HC HR
  obtain ⟨ans, hans⟩ : ∃ ans, mayId s = ans := ⟨_, rfl⟩
  rw [hans] at HA HB HC ⊢
  go_enter Tryd.func23, Tryd.ntmps23
  go_wp2_with fail
  refine (HR.out _).mono ?_
  rintro e w1 ⟨rfl, p1, hw1⟩
  have B1 : Below w.heap.size w w1 := by rw [hw1]; exact (Below.refl _ _).alloc (Nat.le_refl _) _
  clear hw1 p1 HR
  by_cases n1 : n < 1
  · have n1z : (n : Int) < 1 := by omega
    go_wp2_with fail
    go_ret
    rw [HA.out (.inl n1)]
    exact ⟨rfl, B1⟩
  by_cases n2 : 24 < n
  · have n1z : ¬ (n : Int) < 1 := by omega
    have n2z : (24 : Int) < n := by omega
    go_wp2_with fail
    go_ret
    rw [HA.out (.inr n2)]
    exact ⟨rfl, B1⟩
  have n1z : ¬ (n : Int) < 1 := by omega
  have n2z : ¬ (24 : Int) < n := by omega
  have hc := HC.out (by omega) (by omega)
  clear HA HC
  have T1 := Utf8Tabs_below HT.out B1
  go_wp2_with fail
  refine (HV.out _ T1).mono ?_
  rintro e w2 ⟨rfl, b2⟩
  have B2 := B1.trans (b2.mono B1.size)
  clear b2 B1 T1 HV
  cases hv : Lib.validD s.data.toList
  · go_wp2_with fail
    go_ret
    rw [HB.out hv]
    exact ⟨rfl, B2⟩
  clear HB n1 n2 hn
  go_wp2_with fail
  clear n1z n2z
  have hle := B2.size
  have B3 : Below w.heap.size w (w2.iter s 0) := B2.alloc B2.size _
  have hi0 := World.iter_heap w2 s 0
  clear B2
  generalize w2.iter s 0 = w3 at B3 hi0 ⊢
  generalize w2.heap.size = a at hi0 hle ⊢
  go_loopg [2] (s.size + 1) (fun k v W => v = .bool false ∧ Below w.heap.size w W ∧ ∃ pos b : Nat, W.heap[a]? = some (.stringIter s pos) ∧ s.size ≤ pos + b ∧ b + 1 = k ∧ okFrom s b pos = ans ∧ Lib.validD (s.data.toList.drop pos) = true)
  case atStart => exact ⟨rfl, B3, 0, s.size, hi0, by omega, rfl, hc.symm, by rw [List.drop_zero]; exact hv⟩
  case round =>
    obtain ⟨rfl, B4, pos, b, hi, hb, hk, hok, hva⟩ := hrel
    clear B3 hi0 hc
    by_cases hp : pos < s.size
    · have hnx : ∀ ty, (Instr.next (.pointer (some ⟨a, 0, none⟩)) true ty).run Tryd.prog wr = _ := fun ty => next_at wr a s pos ty hi hp
      have hw1 := Lib.decode_width_pos s pos hp
      have hd := decode_le s pos
      have hst := step_at wr a s pos (pos + (Utf8.decode s pos).2) hi
      have B5 := step_below B4 a s (pos + (Utf8.decode s pos).2) hle
      have hsz := step_size wr a s (pos + (Utf8.decode s pos).2)
      rw [valid_at s pos hp] at hva
      have hnb : ¬ ((Utf8.decode s pos).1 = 65533 ∧ (Utf8.decode s pos).2 = 1) := by
        intro h
        rw [if_pos h] at hva
        exact absurd hva (by decide)
      rw [if_neg hnb] at hva
      obtain ⟨b', rfl⟩ : ∃ b', b = b' + 1 := ⟨b - 1, by omega⟩
      have HO := Aside0.mk (fun h => okFrom_out s b' pos hp h)
      have HI := Aside0.mk (fun h => okFrom_in s b' pos hp hnb h)
      have HWc := Aside0.mk (fun W => HW.out ((Utf8.decode s pos).1 : Int) (by omega) (by omega) W)
      generalize stepIter wr a s (pos + (Utf8.decode s pos).2) = ws at *
      generalize Utf8.decode s pos = d at *
      obtain ⟨r, wd⟩ := d
      go_wp2_with fail
      refine (HWc.out _).mono ?_
      rintro e w5 ⟨rfl, b5⟩
      have hst5 : w5.heap[a]? = some (.stringIter s (pos + wd)) := by
        have ha5 : a < ws.heap.size := by
          rcases Nat.lt_or_ge a ws.heap.size with h | h
          · exact h
          · rw [Array.getElem?_eq_none h] at hst
            cases hst
        rw [b5.block a ha5]
        exact hst
      have B6 := B5.trans (b5.mono B5.size)
      cases hwi : withinR (r : Int)
      · go_wp2_with fail
        go_ret
        rw [← hok, HO.out hwi]
        exact ⟨rfl, B6⟩
      · go_wp2_with fail
        go_roundg (gk - 1)
        case measure => omega
        case rel => exact ⟨rfl, B6, pos + wd, b', hst5, by omega, by omega, by rw [← hok, HI.out hwi], hva⟩
    · have hnx : ∀ ty, (Instr.next (.pointer (some ⟨a, 0, none⟩)) true ty).run Tryd.prog wr = _ := fun ty => next_end wr a s pos ty hi hp
      go_wp2_with fail
      go_ret
      rw [← hok, okFrom_end s b pos hp]
      exact ⟨rfl, B4⟩
end Go.Proofs.YtomninikmcmmcaaDoor.Ids
end
section
/- Whether a text is an Id, as a given function; the tables of unicode/utf8 as the condition. -/
namespace Go.Proofs.YtomninikmcmmcaaDoor.GivU
open Go Go.RowKit Go.Proofs.YtomninikmcmmcaaDoor.Ids
def TabU (w : World) : Prop := Lib.Utf8Tabs 0 1 w
theorem TabU.keep {w W : World} (h : TabU w) (hb : Below w.heap.size w W) : TabU W := Go.Proofs.Utf8Tabs_below h hb
def tag_MayId.f (s : ByteArray) : Option Bool := if s.size < 4611686018427387904 then some (mayId s) else none
theorem tag_MayId.calls (a0 : ByteArray) (r : Bool) (w : World) (hT : TabU w) (h : tag_MayId.f a0 = some r) :
    Calls Tryd.prog 23 #[.string a0] w fun e w' => e = .returned (.bool r) ∧ Below w.heap.size w w' := by
  unfold tag_MayId.f at h
  split at h
  · rename_i hs
    obtain rfl := Option.some.inj h
    exact mayid_calls a0 (by omega) w hT
  · cases h
end Go.Proofs.YtomninikmcmmcaaDoor.GivU
end
section
/- The condition of chapter 07's laws: the rounds' constants and unicode/utf8's tables in memory. -/
namespace Go.Proofs.YtomninikmcmmcaaDoor.GivW
open Go Go.RowKit
structure Tab2 (w : World) : Prop where
  sha : GivA.Tab w
  utf : GivU.TabU w
theorem Tab2.keep {w W : World} (h : Tab2 w) (hb : Below w.heap.size w W) : Tab2 W := ⟨GivA.Tab.keep h.sha hb, GivU.TabU.keep h.utf hb⟩
end Go.Proofs.YtomninikmcmmcaaDoor.GivW
end
