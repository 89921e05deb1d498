/- Texts of this session, put together: Bytes, Out, OutB, OutC, Inp. -/
import Derived.Test.YtdjpcogkpnemlaaWWords
import Derived.Test.YtdjpcogkpnemlaaProg
import Derived.Deep.LoopGhost
import Derived.Lib.SlBytesRow
import Derived.WalkKit
import Derived.Test.YtdjpcogkpnemlaaRel
import Derived.Test.YtdjpcogkpnemlaaOrC
import Derived.Test.YtdjpcogkpnemlaaShelf
import Derived.Lib.AppendStr
import Derived.Lib.Builder
import Derived.Lib.BufferRead
import Derived.OwnWalk
import Derived.Below
import Derived.Says
import Derived.Deep.DeepCutAuto
section
/- u128.Bytes: the sixteen bytes of a number, the greatest first. -/
namespace Go.Proofs.Ytdjpcogkpnemlaa.Oct
open Go.RowKit Go.Proofs.YtdjpcogkpnemlaaW.PrintWords
set_option linter.unusedVariables false
set_option linter.unusedSimpArgs false
/-- Byte j of a number's sixteen. -/
def beAt (hi lo j : Nat) : UInt8 := if j < 8 then UInt8.ofNat (hi / 2 ^ (56 - 8 * j)) else UInt8.ofNat (lo / 2 ^ (56 - 8 * (j - 8)))
def be16 (hi lo : Nat) : ByteArray := ⟨#[beAt hi lo 0, beAt hi lo 1, beAt hi lo 2, beAt hi lo 3, beAt hi lo 4, beAt hi lo 5, beAt hi lo 6, beAt hi lo 7, beAt hi lo 8, beAt hi lo 9, beAt hi lo 10, beAt hi lo 11, beAt hi lo 12, beAt hi lo 13, beAt hi lo 14, beAt hi lo 15]⟩
/-- The cells behind i rounds. -/
def cellI (hi lo i j : Nat) : Value := .int .u8 (if j % 8 < i then ((beAt hi lo j).toNat : Int) else 0)
def arrI (hi lo i : Nat) : Array Value := #[cellI hi lo i 0, cellI hi lo i 1, cellI hi lo i 2, cellI hi lo i 3, cellI hi lo i 4, cellI hi lo i 5, cellI hi lo i 6, cellI hi lo i 7, cellI hi lo i 8, cellI hi lo i 9, cellI hi lo i 10, cellI hi lo i 11, cellI hi lo i 12, cellI hi lo i 13, cellI hi lo i 14, cellI hi lo i 15]
theorem be16_at (hi lo j : Nat) (hj : j < 16) : (be16 hi lo)[j]'hj = beAt hi lo j := by
  match j, hj with
  | 0, _ | 1, _ | 2, _ | 3, _ | 4, _ | 5, _ | 6, _ | 7, _ | 8, _ | 9, _ | 10, _ | 11, _ | 12, _ | 13, _ | 14, _ | 15, _ => rfl
  | _ + 16, h => exact absurd h (by omega)
theorem alloc_size (w : World) (o : Obj) : (w.alloc o).heap.size = w.heap.size + 1 := Array.size_push _
theorem arr_size (hi lo i : Nat) : (arrI hi lo i).size = 16 := rfl
theorem arr_at (hi lo i j : Nat) (hj : j < 16) : (arrI hi lo i)[j]? = some (cellI hi lo i j) := by
  match j, hj with
  | 0, _ | 1, _ | 2, _ | 3, _ | 4, _ | 5, _ | 6, _ | 7, _ | 8, _ | 9, _ | 10, _ | 11, _ | 12, _ | 13, _ | 14, _ | 15, _ => rfl
  | _ + 16, h => exact absurd h (by omega)
theorem be_hi (hi lo t : Nat) (h : t < 8) : ((beAt hi lo t).toNat : Int) = (hi : Int) / 2 ^ (56 - 8 * t) % 256 := by
  unfold beAt
  rw [if_pos h, UInt8.toNat_ofNat']
  simp
theorem be_lo (hi lo t : Nat) : ((beAt hi lo (t + 8)).toNat : Int) = (lo : Int) / 2 ^ (56 - 8 * t) % 256 := by
  unfold beAt
  rw [if_neg (by omega), UInt8.toNat_ofNat', Nat.add_sub_cancel]
  simp
theorem arr_step (hi lo t : Nat) (h : t < 8) : ((arrI hi lo t).setIfInBounds t (.int .u8 ((hi : Int) / 2 ^ (56 - 8 * t) % 256))).setIfInBounds (t + 8) (.int .u8 ((lo : Int) / 2 ^ (56 - 8 * t) % 256)) = arrI hi lo (t + 1) := by
  apply Array.ext_getElem?
  intro j
  by_cases hj : j < 16
  · rw [Array.getElem?_setIfInBounds, Array.getElem?_setIfInBounds, arr_at _ _ _ _ hj, arr_at _ _ _ _ hj]
    simp only [Array.size_setIfInBounds, arr_size]
    by_cases e1 : t + 8 = j
    · subst e1
      rw [if_pos rfl, if_pos hj]
      unfold cellI
      rw [if_pos (by omega), be_lo]
    · rw [if_neg e1]
      by_cases e2 : t = j
      · subst e2
        rw [if_pos rfl]
        unfold cellI
        rw [if_pos (by omega : t % 8 < t + 1), be_hi _ _ _ h]
        exact if_pos hj
      · rw [if_neg e2]
        unfold cellI
        by_cases e3 : j % 8 < t
        · rw [if_pos e3, if_pos (by omega)]
        · rw [if_neg e3, if_neg (by omega)]
  · rw [Array.getElem?_eq_none (by simp [arr_size]; omega), Array.getElem?_eq_none (by rw [arr_size]; omega)]
set_option maxHeartbeats 4000000 in
set_option maxRecDepth 100000 in
theorem bytes_calls (hi lo : Nat) (h1 : hi < 18446744073709551616) (h2 : lo < 18446744073709551616) (w : World) :
    Calls Try.prog 59 #[.agg #[.int .u64 hi, .int .u64 lo]] w fun e w' => e = .returned (.string (be16 hi lo)) ∧ Below w.heap.size w w' := by
  go_enter Try.func59, Try.ntmps59
  go_wp2_with fail
  go_loopg [5] 9 (fun k i wr => ∃ t : Nat, t + k = 9 ∧ t ≤ 8 ∧ i = .int .i64 t ∧ wr.heap[w.heap.size]? = some (.cells #[.int .u64 hi, .int .u64 lo] 29 (0, 0)) ∧ wr.heap[w.heap.size + 1]? = some (.cells (arrI hi lo t) 98 (0, 0)) ∧ Below w.heap.size w wr)
  case atStart =>
    have q0 := blk_new w (.cells #[.int .u64 hi, .int .u64 lo] 29)
    have hz := alloc_size w
    refine ⟨0, rfl, by omega, rfl, blk_alloc q0 _, ?_, ?_⟩
    · have q := blk_new (w.alloc (.cells #[.int .u64 hi, .int .u64 lo] 29)) (.cells (arrI hi lo 0) 98)
      rw [hz] at q
      exact q
    · exact ((Below.refl _ _).alloc (Nat.le_refl _) _).alloc (by rw [hz]; omega) _
  case round =>
    obtain ⟨t, hk, ht8, rfl, hA, hB, hb⟩ := hrel
    by_cases hlt : t < 8
    · have l1 : (t : Int) < 8 := by omega
      have cA0 := blk_cell hA 0
      have cA1 := blk_cell hA 1
      have cB : ∀ j, j < 16 → wr.cell? ⟨w.heap.size + 1, j, none⟩ = some (cellI hi lo t j) := fun j hj => (blk_cell hB j).trans (arr_at _ _ _ _ hj)
      have cB0 := cB t (by omega)
      have cB1 := cB (t + 8) (by omega)
      have fB := blk_frozen hB
      generalize cellI hi lo t t = v0 at cB0
      generalize cellI hi lo t (t + 8) = v1 at cB1
      clear cB
      go_wp2_with fail
      go_roundg (gk - 1)
      case measure => omega
      case rel =>
        refine ⟨t + 1, by omega, by omega, by go_num, ?_, ?_, ?_⟩
        · exact blk_far (blk_far hA (by simp) _) (by simp) _
        · exact blk_put (blk_put hB t _ rfl) (t + 8) _ (arr_step hi lo t hlt)
        · exact (hb.setCell (by simp) _).setCell (by simp) _
    · obtain rfl : t = 8 := by omega
      have hcv : (convert 40 9 (.slice (some ⟨w.heap.size + 1, 0, none⟩) 16 16)).run Try.prog wr = .ok (.string (be16 hi lo)) wr := by
        refine Lib.run_convert_whole wr 40 5 9 Try.underlying40 Try.underlying5 Try.underlying9 (w.heap.size + 1) 0 (be16 hi lo) (fun j hj => ?_) 16
        have hj' : j < 16 := hj
        rw [Nat.zero_add, blk_cell hB, arr_at _ _ _ _ hj']
        unfold cellI
        rw [if_pos (by omega)]
        exact congrArg (fun x : UInt8 => some (Value.int .u8 (x.toNat : Int))) (be16_at hi lo j hj').symm
      go_wp2_with fail
      go_ret
      exact ⟨rfl, hb⟩
end Go.Proofs.Ytdjpcogkpnemlaa.Oct
end
section
/- The writer octet.Out: what it holds, and what each of its methods does. -/
namespace Go.Proofs.Ytdjpcogkpnemlaa.Oct
open Go.RowKit Go.Proofs.YtdjpcogkpnemlaaW.PrintWords
set_option linter.unusedVariables false
set_option linter.unusedSimpArgs false
theorem results_none {fn : Func} (h : fn.results = #[]) (tmps : Array Value) (P : Program) (w : World) : (results fn tmps).run P w = .ok (.tuple #[]) w := by
  unfold results
  rw [h]
  simp
/-- What is written so far. -/
structure OutS where
  b : ByteArray
  long : Bool
def OutS.put (o : OutS) (s : ByteArray) : OutS := if o.long = true ∨ 1048576 < o.b.size + s.size then ⟨o.b, true⟩ else ⟨o.b ++ s, false⟩
/-- A writer in a block of its own (number g, from B on). -/
def OutAt (B g : Nat) (o : OutS) (w : World) : Prop :=
  B ≤ g ∧ o.b.size ≤ 1048576 ∧ ∃ v, w.heap[g]? = some (.cells #[v, .bool o.long] 42 (0, 0)) ∧ w.ownsRow B 5 1 v o.b.size (Lib.strCells o.b) ∧ v.ownBlock ≠ some g
theorem OutAt.lt {B g : Nat} {o : OutS} {w : World} (h : OutAt B g o w) : g < w.heap.size := by
  obtain ⟨_, _, v, hb, _⟩ := h
  exact (Array.getElem?_eq_some_iff.1 hb).1
theorem OutAt.keep {B g : Nat} {o : OutS} {w w' : World} (h : OutAt B g o w) (hb : Below w.heap.size w w') : OutAt B g o w' := by
  have hlt := h.lt
  obtain ⟨h1, h2, v, h3, h4, h5⟩ := h
  refine ⟨h1, h2, v, (hb.block g hlt).trans h3, ?_, h5⟩
  refine ⟨h4.1, ?_⟩
  rcases h4.2 with h | ⟨k, cap, cur, e1, e2, e3, e4⟩
  · exact .inl h
  · exact .inr ⟨k, cap, cur, e1, e2, (hb.block k (Array.getElem?_eq_some_iff.1 e3).1).trans e3, e4⟩
theorem strCells_append (a b : ByteArray) : Lib.strCells (a ++ b) = Lib.strCells a ++ Lib.strCells b := by
  simp [Lib.strCells]
theorem spoil_at {B g : Nat} {o : OutS} {w : World} (h : OutAt B g o w) : OutAt B g ⟨o.b, true⟩ (w.setCell ⟨g, 1, none⟩ (.bool true)) := by
  obtain ⟨hB, hm, v, hb, hown, hne⟩ := h
  refine ⟨hB, hm, v, ?_, ?_, hne⟩
  · simp [World.setCell, Array.getElem?_modify, hb]
  · exact hown.kept (row := some g) ⟨rfl, rfl, rfl, by simp [World.setCell], fun k _ hk => Below.heap_setCell _ _ _ _ (fun e => hk (by simp [e]))⟩ (Or.inr hne)
set_option maxHeartbeats 4000000 in
set_option maxRecDepth 100000 in
theorem put_calls (B g : Nat) (o : OutS) (s : ByteArray) (w : World) (h : OutAt B g o w) (hs : s.size ≤ 70368744177664) (hBw : B ≤ w.heap.size) :
    Calls Try.prog 43 #[.pointer (some ⟨g, 0, none⟩), .string s] w fun e w' => e = .returned (.tuple #[]) ∧ OutAt B g (o.put s) w' ∧ Below B w w' := by
  obtain ⟨i0, hi, hz0, hz1, hz2⟩ := info_parts (P := Try.prog) (e := 5) (z := .int .u8 0) (size := 1) (bytes := 1) (by kernel_rfl)
  have hlt := h.lt
  obtain ⟨hB, hm, v, hb, hown, hne⟩ := h
  have c0 : w.cell? ⟨g, 0, none⟩ = some v := by rw [Lib.cell_of_heap hb]; rfl
  have c1 : w.cell? ⟨g, 1, none⟩ = some (.bool o.long) := by rw [Lib.cell_of_heap hb]; rfl
  have f0 : w.frozen? ⟨g, 0, none⟩ = false := Lib.frozen_of_heap hb 0
  have f1 : w.frozen? ⟨g, 1, none⟩ = false := Lib.frozen_of_heap hb 1
  obtain ⟨ao, cap, rfl⟩ : ∃ ao cap, v = .slice ao o.b.size cap := by
    rcases hown.2 with ⟨hv, h0⟩ | ⟨k, cap, cur, hv, _⟩
    · exact ⟨none, 0, by rw [hv, h0]⟩
    · exact ⟨_, _, hv⟩
  go_enter Try.func43, Try.ntmps43
  go_wp2_with (at_builtin; refine Lib.wpList_append_own_string _ rfl _ _ 40 9 rfl B 5 i0 Try.underlying40 Try.underlying9 hi hz0 hz1 hz2 _ _ _ rfl hown s rfl ?c3 ?c4 ?c5 ?_)
  · rename_i hl
    refine bodyPost_end (results_none rfl _ _ _) rfl ?_
    refine ⟨rfl, ?_, (Below.refl B w).setCell (p := ⟨g, 1, none⟩) hB _⟩
    have e : o.put s = ⟨o.b, true⟩ := by unfold OutS.put; rw [if_pos (.inl hl)]
    rw [e]
    exact spoil_at ⟨hB, hm, _, hb, hown, hne⟩
  · rename_i hl hb2
    refine bodyPost_end (results_none rfl _ _ _) rfl ?_
    refine ⟨rfl, ?_, (Below.refl B w).setCell (p := ⟨g, 1, none⟩) hB _⟩
    have e : o.put s = ⟨o.b, true⟩ := by unfold OutS.put; rw [if_pos (.inr (by omega))]
    rw [e]
    exact spoil_at ⟨hB, hm, _, hb, hown, hne⟩
  case c3 => unfold maxLen; omega
  case c4 => omega
  case c5 => omega
  intro v' w2 hown' hgrow _
  have hb2 : w2.heap[g]? = some (.cells #[.slice ao o.b.size cap, .bool o.long] 42 (0, 0)) := by
    rw [hgrow.block g hlt (fun e => hne e.symm)]
    exact hb
  have d0 : w2.cell? ⟨g, 0, none⟩ = some (.slice ao o.b.size cap) := by rw [Lib.cell_of_heap hb2]; rfl
  have f2 : w2.frozen? ⟨g, 0, none⟩ = false := Lib.frozen_of_heap hb2 0
  obtain ⟨ao', n', cap', rfl⟩ : ∃ ao n' cap, v' = .slice ao n' cap := by
    rcases hown'.2 with ⟨hv, _⟩ | ⟨k, cap, cur, hv, _⟩
    · exact ⟨_, _, _, hv⟩
    · exact ⟨_, _, _, hv⟩
  have hlo : o.long = false := by simpa using ‹¬o.long = true›
  go_wp2_with fail
  refine bodyPost_end (results_none rfl _ _ _) rfl ?_
  have e : o.put s = ⟨o.b ++ s, false⟩ := by
    unfold OutS.put; rw [if_neg]
    rintro (h | h)
    · exact absurd h ‹¬o.long = true›
    · omega
  rw [e]
  have hown2 : w2.ownsRow B 5 1 (.slice ao' n' cap') (o.b ++ s).size (Lib.strCells (o.b ++ s)) := by
    rw [ByteArray.size_append, strCells_append]; exact hown'
  have hne2 : (Value.slice ao' n' cap').ownBlock ≠ some g := Lib.ownBlock_ne hown2 hb2 (by decide)
  refine ⟨rfl, ⟨hB, by show (o.b ++ s).size ≤ 1048576; rw [ByteArray.size_append]; omega, .slice ao' n' cap', ?_, ?_, hne2⟩, ?_⟩
  · simp [World.setCell, Array.getElem?_modify, hb2, hlo]
  · exact hown2.kept (row := some g) ⟨rfl, rfl, rfl, by simp [World.setCell], fun k _ hk => Below.heap_setCell _ _ _ _ (fun e => hk (by simp [e]))⟩ (Or.inr hne2)
  · exact ((Below.refl B w).grown hgrow hBw (fun k hk => (hown.lt k hk).1)).setCell (p := ⟨g, 0, none⟩) hB _
theorem put_nil (s : ByteArray) (w : World) :
    Calls Try.prog 43 #[.pointer none, .string s] w fun e w' => e = .returned (.tuple #[]) ∧ w' = w := by
  go_enter Try.func43, Try.ntmps43
  go_wp2_with fail
  exact bodyPost_end (results_none rfl _ _ _) rfl ⟨rfl, rfl⟩
theorem conv1 (W : World) (g : Nat) (n : UInt8) (h : W.heap[g]? = some (.cells #[.int .u8 (n.toNat : Int)] 5 (0, 0))) :
    (convert 40 9 (.slice (some ⟨g, 0, none⟩) 1 1)).run Try.prog W = .ok (.string ⟨#[n]⟩) W := by
  refine Lib.run_convert_whole W 40 5 9 Try.underlying40 Try.underlying5 Try.underlying9 g 0 ⟨#[n]⟩ (fun j hj => ?_) 1
  have hj' : j < 1 := hj
  obtain rfl : j = 0 := by omega
  rw [blk_cell h]
  rfl
set_option maxHeartbeats 4000000 in
set_option maxRecDepth 100000 in
theorem byte_calls (B g : Nat) (o : OutS) (n : UInt8) (w : World) (h : OutAt B g o w) (hBw : B ≤ w.heap.size) :
    Calls Try.prog 44 #[.pointer (some ⟨g, 0, none⟩), .int .u8 n.toNat] w fun e w' => e = .returned (.tuple #[]) ∧ OutAt B g (o.put ⟨#[n]⟩) w' ∧ Below B w w' := by
  have hc := conv1 (w.alloc (.cells #[.int .u8 (n.toNat : Int)] 5)) w.heap.size n (blk_new _ _)
  have hb0 : Below w.heap.size w (w.alloc (.cells #[.int .u8 (n.toNat : Int)] 5)) := (Below.refl _ _).alloc (Nat.le_refl _) _
  have HP := Aside0.mk (put_calls B g o ⟨#[n]⟩ _ (h.keep hb0) (show 1 ≤ 70368744177664 by decide) (Nat.le_trans hBw hb0.size))
  have HB := Aside0.mk (hb0.mono hBw)
  clear hb0
  go_enter Try.func44, Try.ntmps44
  go_wp2_with fail
  refine HP.out.mono ?_
  rintro e w1 ⟨rfl, h1, hb1⟩
  go_wp2_with fail
  exact bodyPost_end (results_none rfl _ _ _) rfl ⟨rfl, h1, HB.out.trans hb1⟩
set_option maxHeartbeats 4000000 in
set_option maxRecDepth 100000 in
theorem byte_nil (n : UInt8) (w : World) :
    Calls Try.prog 44 #[.pointer none, .int .u8 n.toNat] w fun e w' => e = .returned (.tuple #[]) ∧ Below w.heap.size w w' := by
  have hc := conv1 (w.alloc (.cells #[.int .u8 (n.toNat : Int)] 5)) w.heap.size n (blk_new _ _)
  have hb0 : Below w.heap.size w (w.alloc (.cells #[.int .u8 (n.toNat : Int)] 5)) := (Below.refl _ _).alloc (Nat.le_refl _) _
  have HP := Aside0.mk (put_nil ⟨#[n]⟩ (w.alloc (.cells #[.int .u8 (n.toNat : Int)] 5)))
  have HB := Aside0.mk hb0
  clear hb0
  go_enter Try.func44, Try.ntmps44
  go_wp2_with fail
  refine HP.out.mono ?_
  rintro e w1 ⟨rfl, rfl⟩
  go_wp2_with fail
  exact bodyPost_end (results_none rfl _ _ _) rfl ⟨rfl, HB.out⟩
/-- How many bytes a number needs. -/
def leastN (hi lo : Nat) : Nat := if 0 < hi then 8 + (Lib.bitLen hi + 7) / 8 else (Lib.bitLen lo + 7) / 8
theorem leastN_le (hi lo : Nat) (h1 : hi < 18446744073709551616) (h2 : lo < 18446744073709551616) : leastN hi lo ≤ 16 := by
  have a := Lib.bitLen_le hi 64 (by omega) h1
  have b := Lib.bitLen_le lo 64 (by omega) h2
  unfold leastN
  split <;> omega
def wideEnc (hi lo : Nat) : ByteArray := ⟨#[UInt8.ofNat (leastN hi lo)]⟩ ++ (be16 hi lo).extract (16 - leastN hi lo) 16
set_option maxHeartbeats 4000000 in
set_option maxRecDepth 100000 in
theorem least_calls (hi lo : Nat) (h1 : hi < 18446744073709551616) (h2 : lo < 18446744073709551616) (w : World) :
    Calls Try.prog 58 #[.agg #[.int .u64 hi, .int .u64 lo]] w fun e w' => e = .returned (.int .i64 (leastN hi lo : Nat)) ∧ Below w.heap.size w w' := by
  have ha := Lib.bitLen_le hi 64 (by omega) h1
  have hb := Lib.bitLen_le lo 64 (by omega) h2
  have HL : ∀ (x : Nat), x < 18446744073709551616 → ∀ w : World, Calls Try.prog 68 #[.int .u64 x] w fun e w' => e = .returned (.int .i64 (Lib.bitLen x)) ∧ w' = w := fun x hx w => by
    have := Try.bits_Len64 (x : Int) w (by omega) (by omega)
    simpa using this
  have HA := Aside0.mk HL
  clear HL
  have hb0 : Below w.heap.size w (w.alloc (.cells #[.int .u64 hi, .int .u64 lo] 29)) := (Below.refl _ _).alloc (Nat.le_refl _) _
  have H0 := Aside0.mk hb0
  clear hb0
  go_enter Try.func58, Try.ntmps58
  go_wp2_with (go_at_call 68; refine (HA.out _ (by assumption) _).mono ?_; rintro e w' ⟨rfl, rfl⟩)
  all_goals
    go_ret
    refine ⟨congrArg (fun x : Int => Ending.returned (Value.int .i64 x)) ?_, H0.out⟩
    unfold leastN
  · rw [if_pos (by assumption)]; omega
  · rw [if_neg (by assumption)]; omega
/-- What is known of each value of Wide's own region. -/
def RW (p : Value) (hi lo n : Nat) : Nat → Value → World → Prop
  | 0, v, _ => v = p
  | 1, v, _ => v = .int .i64 (n : Int)
  | 2, v, _ => v = .int .u8 (n : Int)
  | 3, v, w => ∃ A, v = .slice (some ⟨A, 0, none⟩) 1 1 ∧ w.heap[A]? = some (.cells #[.int .u8 ((UInt8.ofNat n).toNat : Int)] 5 (0, 0))
  | 4, v, _ => v = .string ⟨#[UInt8.ofNat n]⟩
  | 5, v, _ => v = .agg #[.int .u64 hi, .int .u64 lo]
  | 6, v, _ => v = .string (be16 hi lo)
  | 7, v, _ => v = .int .i64 (n : Int)
  | 8, v, _ => v = .int .i64 ((16 - n : Nat) : Int)
  | 9, v, _ => v = .string ((be16 hi lo).extract (16 - n) 16)
  | 10, v, _ => v = .string (⟨#[UInt8.ofNat n]⟩ ++ (be16 hi lo).extract (16 - n) 16)
  | _, _, _ => True
theorem RW_later (p : Value) (hi lo n : Nat) : ∀ i v w w', RW p hi lo n i v w → Below w.heap.size w w' → RW p hi lo n i v w' := by
  intro i v w w' h hb
  match i with
  | 3 => obtain ⟨A, h1, h2⟩ := h; exact ⟨A, h1, blk_below h2 hb⟩
  | 0 | 1 | 2 | 4 | 5 | 6 | 7 | 8 | 9 | 10 | _ + 11 => exact h
theorem wideEnc_size (hi lo : Nat) (h : leastN hi lo ≤ 16) : (wideEnc hi lo).size = leastN hi lo + 1 := by
  unfold wideEnc
  rw [ByteArray.size_append, ByteArray.size_extract]
  have h1 : (be16 hi lo).size = 16 := rfl
  have h2 : (⟨#[UInt8.ofNat (leastN hi lo)]⟩ : ByteArray).size = 1 := rfl
  rw [h1, h2]
  omega
open Rel in
set_option maxHeartbeats 4000000 in
set_option maxRecDepth 100000 in
theorem wide_gen (p : Value) (Y : World → Prop) (hi lo : Nat) (h1 : hi < 18446744073709551616) (h2 : lo < 18446744073709551616) (w : World)
    (hput : ∀ z, Below w.heap.size w z → Calls Try.prog 43 #[p, .string (wideEnc hi lo)] z fun e w' => e = .returned (.tuple #[]) ∧ Y w') :
    Calls Try.prog 45 #[p, .agg #[.int .u64 hi, .int .u64 lo]] w fun e w' => e = .returned (.tuple #[]) ∧ Y w' := by
  have hn := leastN_le hi lo h1 h2
  have HL := Aside0.mk (least_calls hi lo h1 h2)
  have HBy := Aside0.mk (bytes_calls hi lo h1 h2)
  have HW := Aside0.mk (wideEnc_size hi lo hn)
  unfold wideEnc at *
  generalize leastN hi lo = n at *
  have hu8 : ((UInt8.ofNat n).toNat : Int) = n := by rw [UInt8.toNat_ofNat']; omega
  have HO := Aside0.mk hput
  clear hput
  have hbA : Below w.heap.size w (w.alloc (.cells #[.int .u64 hi, .int .u64 lo] 29)) := (Below.refl _ _).alloc (Nat.le_refl _) _
  have gA := blk_new w (.cells #[.int .u64 hi, .int .u64 lo] 29)
  go_enter Try.func45, Try.ntmps45
  go_upto_region 1 with fail
  go_upto_region 2 with (go_at_call 58; refine (HL.out _).mono ?_; rintro e w1 ⟨rfl, hb1⟩)
  have w0 : w1.heap[w.heap.size]? = some (.cells #[.int .u64 hi, .int .u64 lo] 29 (0, 0)) := blk_below gA hb1
  have GA := Aside0.mk w0
  have X1 := Aside0.mk (hbA.trans (hb1.mono hbA.size))
  clear hbA gA hb1 w0 HL
  refine Rel.region_rel [] (fun _ => .cells #[] 0 (0, 0)) (RW p hi lo n) 11 [] (by kernel_rfl) (by kernel_rfl) (by decide) (fun i hi => by cases hi) (RW_later p hi lo n) (fun i hi => by cases hi) ?_ ?_
  · simp only [List.take_succ_cons, List.take_zero]
    refine ⟨?_, ?_, ?_, ?_, ?_, ?_, ?_, ?_, ?_, ?_, ?_, trivial⟩
    · refine Rel.Upon.of [] (by kernel_rfl) ?_
      intro vals z hb hN hd
      simp only [Rel.rp]
      go_wp2_with fail
      exact ⟨Below.refl _ _, rfl⟩
    · refine Rel.Upon.of [] (by kernel_rfl) ?_
      intro vals z hb hN hd
      simp only [Rel.rp]
      go_wp2_with fail
      exact ⟨Below.refl _ _, rfl⟩
    · refine Rel.Upon.of [1] (by kernel_rfl) ?_
      intro vals z hb hN hd
      simp only [Rel.ra] at hd
      have d1 := hd
      replace d1 : vals 1 = .int .i64 (n : Int) := d1
      have hm : (n : Int) % 256 = n := by omega
      simp only [Rel.rp, d1]
      go_wp2_with fail
      exact ⟨Below.refl _ _, rfl⟩
    · refine Rel.Upon.of [2] (by kernel_rfl) ?_
      intro vals z hb hN hd
      simp only [Rel.ra] at hd
      have d2 := hd
      replace d2 : vals 2 = .int .u8 (n : Int) := d2
      simp only [Rel.rp, d2]
      go_wp2_with fail
      have hb9 : Below z.heap.size z (z.alloc (.cells #[.int .u8 (n : Int)] 5)) := (Below.refl _ _).alloc (Nat.le_refl _) _
      refine ⟨hb9, z.heap.size, rfl, ?_⟩
      rw [hu8]
      exact blk_new _ _
    · refine Rel.Upon.of [3] (by kernel_rfl) ?_
      intro vals z hb hN hd
      simp only [Rel.ra] at hd
      have d3 := hd
      replace d3 : ∃ A, vals 3 = .slice (some ⟨A, 0, none⟩) 1 1 ∧ z.heap[A]? = some (.cells #[.int .u8 ((UInt8.ofNat n).toNat : Int)] 5 (0, 0)) := d3
      obtain ⟨A, e3, hA⟩ := d3
      have hc := conv1 z A _ hA
      simp only [Rel.rp, e3]
      go_wp2_with fail
      exact ⟨Below.refl _ _, rfl⟩
    · refine Rel.Upon.of [] (by kernel_rfl) ?_
      intro vals z hb hN hd
      have c0 := blk_cell (blk_below GA.out hb) 0
      have c1 := blk_cell (blk_below GA.out hb) 1
      simp only [Rel.rp]
      go_wp2_with fail
      exact ⟨Below.refl _ _, rfl⟩
    · refine Rel.Upon.of [5] (by kernel_rfl) ?_
      intro vals z hb hN hd
      simp only [Rel.ra] at hd
      have d5 := hd
      replace d5 : vals 5 = .agg #[.int .u64 hi, .int .u64 lo] := d5
      simp only [Rel.rp, d5]
      go_wp2_with fail
      refine (HBy.out z).mono ?_
      rintro e z2 ⟨rfl, hb2⟩
      go_wp2_with fail
      first | rfl | exact ⟨hb2, rfl⟩
    · refine Rel.Upon.of [] (by kernel_rfl) ?_
      intro vals z hb hN hd
      simp only [Rel.rp]
      go_wp2_with fail
      exact ⟨Below.refl _ _, rfl⟩
    · refine Rel.Upon.of [7] (by kernel_rfl) ?_
      intro vals z hb hN hd
      simp only [Rel.ra] at hd
      have d7 := hd
      replace d7 : vals 7 = .int .i64 (n : Int) := d7
      have hm : wrap64 (16 - (n : Int)) = ((16 - n : Nat) : Int) := by unfold wrap64; omega
      simp only [Rel.rp, d7]
      go_wp2_with fail
      refine ⟨Below.refl _ _, congrArg (Value.int .i64) ?_⟩
      omega
    · refine Rel.Upon.of [6, 8] (by kernel_rfl) ?_
      intro vals z hb hN hd
      simp only [Rel.ra] at hd
      obtain ⟨d6, d8⟩ := hd
      replace d6 : vals 6 = .string (be16 hi lo) := d6
      replace d8 : vals 8 = .int .i64 ((16 - n : Nat) : Int) := d8
      have hq : 16 ≤ (be16 hi lo).size + n := by show 16 ≤ 16 + n; omega
      simp only [Rel.rp, d6, d8]
      go_wp2_with fail
      exact ⟨Below.refl _ _, rfl⟩
    · refine Rel.Upon.of [4, 9] (by kernel_rfl) ?_
      intro vals z hb hN hd
      simp only [Rel.ra] at hd
      obtain ⟨d4, d9⟩ := hd
      replace d4 : vals 4 = .string ⟨#[UInt8.ofNat n]⟩ := d4
      replace d9 : vals 9 = .string ((be16 hi lo).extract (16 - n) 16) := d9
      simp only [Rel.rp, d4, d9]
      go_wp2_with fail
      exact ⟨Below.refl _ _, rfl⟩
  · intro vals z hb hN hrel _
    have d0 : vals 0 = p := hrel 0 (by decide)
    have d10 : vals 10 = .string (⟨#[UInt8.ofNat n]⟩ ++ (be16 hi lo).extract (16 - n) 16) := hrel 10 (by decide)
    simp only [List.drop_succ_cons, List.drop_zero]
    rw [show List.range 11 = [0, 1, 2, 3, 4, 5, 6, 7, 8, 9, 10] from rfl]
    generalize e1 : vals 1 = v1
    generalize e2 : vals 2 = v2
    generalize e3 : vals 3 = v3
    generalize e4 : vals 4 = v4
    generalize e5 : vals 5 = v5
    generalize e6 : vals 6 = v6
    generalize e7 : vals 7 = v7
    generalize e8 : vals 8 = v8
    generalize e9 : vals 9 = v9
    simp only [Rel.rp, d0, d10, e1, e2, e3, e4, e5, e6, e7, e8, e9]
    have hbz : Below w.heap.size w z := X1.out.trans (hb.mono X1.out.size)
    have HP := Aside0.mk (HO.out z hbz)
    clear hrel hb hbz
    go_wp2_with fail
    refine HP.out.mono ?_
    rintro e z2 ⟨rfl, h1⟩
    go_wp2_with fail
    exact bodyPost_end (results_none rfl _ _ _) rfl ⟨rfl, h1⟩
theorem wide_calls (B g : Nat) (o : OutS) (hi lo : Nat) (h1 : hi < 18446744073709551616) (h2 : lo < 18446744073709551616) (w : World) (h : OutAt B g o w) (hBw : B ≤ w.heap.size) :
    Calls Try.prog 45 #[.pointer (some ⟨g, 0, none⟩), .agg #[.int .u64 hi, .int .u64 lo]] w fun e w' => e = .returned (.tuple #[]) ∧ OutAt B g (o.put (wideEnc hi lo)) w' ∧ Below B w w' := by
  refine wide_gen _ (fun w' => OutAt B g (o.put (wideEnc hi lo)) w' ∧ Below B w w') hi lo h1 h2 w fun z hz => ?_
  have hn := leastN_le hi lo h1 h2
  refine (put_calls B g o (wideEnc hi lo) z (h.keep hz) (by rw [wideEnc_size hi lo hn]; omega) (Nat.le_trans hBw hz.size)).mono ?_
  rintro e w' ⟨rfl, h3, h4⟩
  exact ⟨rfl, h3, (hz.mono hBw).trans h4⟩
theorem wide_nil (hi lo : Nat) (h1 : hi < 18446744073709551616) (h2 : lo < 18446744073709551616) (w : World) :
    Calls Try.prog 45 #[.pointer none, .agg #[.int .u64 hi, .int .u64 lo]] w fun e w' => e = .returned (.tuple #[]) ∧ Below w.heap.size w w' := by
  refine wide_gen _ (fun w' => Below w.heap.size w w') hi lo h1 h2 w fun z hz => ?_
  refine (put_nil (wideEnc hi lo) z).mono ?_
  rintro e w' ⟨rfl, rfl⟩
  exact ⟨rfl, hz⟩
theorem of_calls (n : Nat) (w : World) : Calls Try.prog 37 #[.int .u64 n] w fun e w' => e = .returned (.agg #[.int .u64 ((0 : Nat) : Int), .int .u64 n]) ∧ Below w.heap.size w w' :=
  POr.u128_Of.calls n 0 n w rfl
set_option maxHeartbeats 4000000 in
set_option maxRecDepth 100000 in
theorem num_gen (p : Value) (Y : World → Prop) (n : Nat) (w : World)
    (hw : ∀ z, Below w.heap.size w z → Calls Try.prog 45 #[p, .agg #[.int .u64 ((0 : Nat) : Int), .int .u64 n]] z fun e w' => e = .returned (.tuple #[]) ∧ Y w') :
    Calls Try.prog 42 #[p, .int .u64 n] w fun e w' => e = .returned (.tuple #[]) ∧ Y w' := by
  have HW := Aside0.mk hw
  clear hw
  go_enter Try.func42, Try.ntmps42
  go_wp2_with (go_at_call 37; refine (of_calls _ _).mono ?_; rintro e w1 ⟨rfl, hb1⟩)
  refine (HW.out w1 hb1).mono ?_
  rintro e z2 ⟨rfl, h1⟩
  go_wp2_with fail
  exact bodyPost_end (results_none rfl _ _ _) rfl ⟨rfl, h1⟩
theorem num_calls (B g : Nat) (o : OutS) (n : Nat) (h2 : n < 18446744073709551616) (w : World) (h : OutAt B g o w) (hBw : B ≤ w.heap.size) :
    Calls Try.prog 42 #[.pointer (some ⟨g, 0, none⟩), .int .u64 n] w fun e w' => e = .returned (.tuple #[]) ∧ OutAt B g (o.put (wideEnc 0 n)) w' ∧ Below B w w' := by
  refine num_gen _ (fun w' => OutAt B g (o.put (wideEnc 0 n)) w' ∧ Below B w w') n w fun z hz => ?_
  refine (wide_calls B g o 0 n (by omega) h2 z (h.keep hz) (Nat.le_trans hBw hz.size)).mono ?_
  rintro e w' ⟨rfl, h3, h4⟩
  exact ⟨rfl, h3, (hz.mono hBw).trans h4⟩
theorem num_nil (n : Nat) (h2 : n < 18446744073709551616) (w : World) :
    Calls Try.prog 42 #[.pointer none, .int .u64 n] w fun e w' => e = .returned (.tuple #[]) ∧ Below w.heap.size w w' := by
  refine num_gen _ (fun w' => Below w.heap.size w w') n w fun z hz => ?_
  refine (wide_nil 0 n (by omega) h2 z).mono ?_
  rintro e w' ⟨rfl, h4⟩
  exact ⟨rfl, hz.trans (h4.mono hz.size)⟩
/-- A truth's byte. -/
def flagB (b : Bool) : UInt8 := if b then 1 else 0
set_option maxHeartbeats 4000000 in
set_option maxRecDepth 100000 in
theorem flag_gen (p : Value) (Y : World → Prop) (b : Bool) (w : World)
    (hw : Calls Try.prog 44 #[p, .int .u8 (flagB b).toNat] w fun e w' => e = .returned (.tuple #[]) ∧ Y w') :
    Calls Try.prog 46 #[p, .bool b] w fun e w' => e = .returned (.tuple #[]) ∧ Y w' := by
  cases b with
  | true =>
    have HW := Aside0.mk (show Calls Try.prog 44 #[p, .int .u8 1] w fun e w' => e = .returned (.tuple #[]) ∧ Y w' from hw)
    clear hw
    go_enter Try.func46, Try.ntmps46
    go_wp2_with fail
    refine HW.out.mono ?_
    rintro e z2 ⟨rfl, h1⟩
    go_wp2_with fail
    exact bodyPost_end (results_none rfl _ _ _) rfl ⟨rfl, h1⟩
  | false =>
    have HW := Aside0.mk (show Calls Try.prog 44 #[p, .int .u8 0] w fun e w' => e = .returned (.tuple #[]) ∧ Y w' from hw)
    clear hw
    go_enter Try.func46, Try.ntmps46
    go_wp2_with fail
    refine HW.out.mono ?_
    rintro e z2 ⟨rfl, h1⟩
    go_wp2_with fail
    exact bodyPost_end (results_none rfl _ _ _) rfl ⟨rfl, h1⟩
/-- What is held, as a text. -/
theorem OutAt.conv {B g : Nat} {o : OutS} {w : World} (h : OutAt B g o w) : ∃ v, w.heap[g]? = some (.cells #[v, .bool o.long] 42 (0, 0)) ∧ (convert 40 9 v).run Try.prog w = .ok (.string o.b) w := by
  obtain ⟨_, _, v, hb, hown, _⟩ := h
  refine ⟨v, hb, ?_⟩
  rcases hown.2 with ⟨rfl, h0⟩ | ⟨k, cap, cur, rfl, _⟩
  · have e : o.b = ⟨#[]⟩ := by
      apply ByteArray.ext
      exact Array.eq_empty_of_size_eq_zero h0
    rw [e]
    exact Lib.run_convert_nil_bytes w 40 9 5 0 Try.underlying40 Try.underlying5 Try.underlying9
  · refine Lib.run_convert_whole w 40 5 9 Try.underlying40 Try.underlying5 Try.underlying9 k 0 o.b (fun j hj => ?_) cap
    have hc := hown.cells (g := k) rfl j (.int .u8 (o.b[j].toNat : Int)) (by
      have : o.b.data.toList[j]? = some o.b[j] := byte_at o.b j hj
      simp [Lib.strCells, this])
    rw [Nat.zero_add]
    by_cases h0 : j = 0
    · subst h0; simpa [Addr.add] using hc
    · simpa [Addr.add, h0] using hc
end Go.Proofs.Ytdjpcogkpnemlaa.Oct
end
section
/- The writer's other methods: a text, and all that was written; the law's own write of a thing. -/
namespace Go.Proofs.Ytdjpcogkpnemlaa.Oct
open Go.RowKit Go.Proofs.YtdjpcogkpnemlaaW.PrintWords
set_option linter.unusedVariables false
set_option linter.unusedSimpArgs false
theorem out_new (w : World) : OutAt w.heap.size w.heap.size ⟨⟨#[]⟩, false⟩ (w.alloc (.cells #[.slice none 0 0, .bool false] 42)) :=
  ⟨Nat.le_refl _, by show 0 ≤ _; omega, .slice none 0 0, blk_new _ _, World.ownsRow_nil _ _ _ _, by simp [Value.ownBlock]⟩
theorem empty_put (s : ByteArray) (h : s.size ≤ 1048576) : (OutS.mk ⟨#[]⟩ false).put s = ⟨s, false⟩ := by
  unfold OutS.put
  rw [if_neg]
  · have : (⟨#[]⟩ : ByteArray) ++ s = s := by
      apply ByteArray.ext
      simp
    rw [this]
  · rintro (h1 | h1)
    · cases h1
    · have : (⟨#[]⟩ : ByteArray).size = 0 := rfl
      simp only [this] at h1
      omega
/-- A text's bytes. -/
def textEnc (s : ByteArray) : ByteArray := wideEnc 0 s.size ++ s
set_option maxHeartbeats 4000000 in
set_option maxRecDepth 100000 in
theorem text_calls (B g : Nat) (o : OutS) (s : ByteArray) (hs : s.size ≤ 35184372088832) (w : World) (h : OutAt B g o w) (hBw : B ≤ w.heap.size) :
    Calls Try.prog 16 #[.pointer (some ⟨g, 0, none⟩), .string s] w fun e w' => e = .returned (.tuple #[]) ∧ OutAt B g (o.put (textEnc s)) w' ∧ Below B w w' := by
  have ho := out_new w
  have hb0 : Below w.heap.size w (w.alloc (.cells #[.slice none 0 0, .bool false] 42)) := (Below.refl _ _).alloc (Nat.le_refl _) _
  have HN := Aside0.mk (num_calls w.heap.size w.heap.size ⟨⟨#[]⟩, false⟩ s.size (by omega) _ ho hb0.size)
  have HX := Aside0.mk hb0
  have HO := Aside0.mk h
  have hl := leastN_le 0 s.size (by omega) (by omega)
  have hsz := wideEnc_size 0 s.size hl
  have HE := Aside0.mk (empty_put (wideEnc 0 s.size) (by omega))
  have HS := Aside0.mk (show (wideEnc 0 s.size ++ s).size ≤ 70368744177664 by rw [ByteArray.size_append]; omega)
  have hsum : (wideEnc 0 s.size).size + s.size ≤ 70368744177664 := by omega
  clear h ho hb0 hsz hl
  unfold textEnc
  generalize wideEnc 0 s.size = enc at *
  go_enter Try.func16, Try.ntmps16
  go_wp2_with fail
  refine HN.out.mono ?_
  rintro e w1 ⟨rfl, h1, hb1⟩
  rw [HE.out] at h1
  obtain ⟨v, hv, hc⟩ := h1.conv
  have c0 := blk_cell hv 0
  have hb2 := HX.out.trans hb1
  have HP := Aside0.mk (put_calls B g o (enc ++ s) w1 (HO.out.keep hb2) HS.out (Nat.le_trans hBw hb2.size))
  have HZ := Aside0.mk (hb2.mono hBw)
  clear h1 hb1 hb2 hv
  go_wp2_with fail
  refine HP.out.mono ?_
  rintro e w2 ⟨rfl, h1, hb1⟩
  go_wp2_with fail
  exact bodyPost_end (results_none rfl _ _ _) rfl ⟨rfl, h1, HZ.out.trans hb1⟩
theorem text_nil (s : ByteArray) (w : World) : Calls Try.prog 16 #[.pointer none, .string s] w fun e w' => e = .returned (.tuple #[]) ∧ w' = w := by
  go_enter Try.func16, Try.ntmps16
  go_wp2_with fail
  exact bodyPost_ret (results_none rfl _ _ _) rfl ⟨rfl, rfl⟩
set_option maxHeartbeats 4000000 in
set_option maxRecDepth 100000 in
theorem done_calls (B g : Nat) (o : OutS) (w : World) (h : OutAt B g o w) :
    Calls Try.prog 20 #[.pointer (some ⟨g, 0, none⟩)] w fun e w' => e = .returned (.tuple #[.string (if o.long then ⟨#[]⟩ else o.b), .int .i64 (if o.long then 3 else 0)]) ∧ w' = w := by
  obtain ⟨v, hv, hc⟩ := h.conv
  have c0 := blk_cell hv 0
  have c1 := blk_cell hv 1
  cases hl : o.long with
  | true =>
    rw [hl] at c1
    go_enter Try.func20, Try.ntmps20
    go_wp2_with fail
    go_ret2
    exact ⟨rfl, rfl⟩
  | false =>
    rw [hl] at c1
    go_enter Try.func20, Try.ntmps20
    go_wp2_with fail
    go_ret2
    exact ⟨rfl, rfl⟩
theorem done_nil (w : World) :
    Calls Try.prog 20 #[.pointer none] w fun e w' => e = .returned (.tuple #[.string ⟨#[]⟩, .int .i64 1]) ∧ w' = w := by
  go_enter Try.func20, Try.ntmps20
  go_wp2_with fail
  go_ret2
  exact ⟨rfl, rfl⟩
end Go.Proofs.Ytdjpcogkpnemlaa.Oct
end
section
/- The law's write of a thing. -/
namespace Go.Proofs.Ytdjpcogkpnemlaa.Oct
open Go.RowKit Go.Proofs.YtdjpcogkpnemlaaW.PrintWords
set_option linter.unusedVariables false
set_option linter.unusedSimpArgs false
/-- A thing's bytes. -/
def thingEnc (kind hi lo : Nat) (s : ByteArray) : ByteArray :=
  if kind % 5 = 0 then ⟨#[UInt8.ofNat lo]⟩ else if kind % 5 = 1 then wideEnc 0 lo else if kind % 5 = 2 then wideEnc hi lo else if kind % 5 = 3 then ⟨#[flagB (lo % 2 == 1)]⟩ else textEnc s
def thV (kind hi lo : Nat) (s : ByteArray) (most : Int) : Value := .agg #[.int .u8 kind, .int .u64 hi, .int .u64 lo, .string s, .int .i64 most]
set_option maxHeartbeats 4000000 in
set_option maxRecDepth 100000 in
theorem write_gen (p : Value) (Y : World → Prop) (kind hi lo : Nat) (hk : kind < 256) (s : ByteArray) (most : Int) (w : World)
    (h0 : kind % 5 = 0 → ∀ z, Below w.heap.size w z → Calls Try.prog 44 #[p, .int .u8 ((lo : Int) % 256)] z fun e w' => e = .returned (.tuple #[]) ∧ Y w')
    (h1 : kind % 5 = 1 → ∀ z, Below w.heap.size w z → Calls Try.prog 42 #[p, .int .u64 lo] z fun e w' => e = .returned (.tuple #[]) ∧ Y w')
    (h2 : kind % 5 = 2 → ∀ z, Below w.heap.size w z → Calls Try.prog 45 #[p, .agg #[.int .u64 hi, .int .u64 lo]] z fun e w' => e = .returned (.tuple #[]) ∧ Y w')
    (h3 : kind % 5 = 3 → ∀ z, Below w.heap.size w z → Calls Try.prog 46 #[p, .bool (decide ((lo : Int) % 2 = 1))] z fun e w' => e = .returned (.tuple #[]) ∧ Y w')
    (h4 : kind % 5 = 4 → ∀ z, Below w.heap.size w z → Calls Try.prog 16 #[p, .string s] z fun e w' => e = .returned (.tuple #[]) ∧ Y w') :
    Calls Try.prog 18 #[p, thV kind hi lo s most] w fun e w' => e = .returned (.tuple #[]) ∧ Y w' := by
  have gA := blk_new w (.cells #[.int .u8 kind, .int .u64 hi, .int .u64 lo, .string s, .int .i64 most] 48)
  have hb0 : Below w.heap.size w (w.alloc (.cells #[.int .u8 kind, .int .u64 hi, .int .u64 lo, .string s, .int .i64 most] 48)) := (Below.refl _ _).alloc (Nat.le_refl _) _
  have H0 := Aside0.mk (fun h => h0 h _ hb0)
  have H1 := Aside0.mk (fun h => h1 h _ hb0)
  have H2 := Aside0.mk (fun h => h2 h _ hb0)
  have H3 := Aside0.mk (fun h => h3 h _ hb0)
  have H4 := Aside0.mk (fun h => h4 h _ hb0)
  clear h0 h1 h2 h3 h4 hb0 gA
  unfold thV
  have hcase : (kind : Int) % 5 = 0 ∨ (kind : Int) % 5 = 1 ∨ (kind : Int) % 5 = 2 ∨ (kind : Int) % 5 = 3 ∨ (kind : Int) % 5 = 4 := by omega
  rcases hcase with hc | hc | hc | hc | hc
  · have H := Aside0.mk (H0.out (by omega))
    clear H0 H1 H2 H3 H4
    go_enter Try.func18, Try.ntmps18
    go_wp2_with fail
    refine H.out.mono ?_
    rintro e w2 ⟨rfl, h1⟩
    go_wp2_with fail
    first | exact bodyPost_end (results_none rfl _ _ _) rfl ⟨rfl, h1⟩ | exact bodyPost_ret (results_none rfl _ _ _) rfl ⟨rfl, h1⟩
  · have H := Aside0.mk (H1.out (by omega))
    clear H0 H1 H2 H3 H4
    go_enter Try.func18, Try.ntmps18
    go_wp2_with fail
    refine H.out.mono ?_
    rintro e w2 ⟨rfl, h1⟩
    go_wp2_with fail
    first | exact bodyPost_end (results_none rfl _ _ _) rfl ⟨rfl, h1⟩ | exact bodyPost_ret (results_none rfl _ _ _) rfl ⟨rfl, h1⟩
  · have H := Aside0.mk (H2.out (by omega))
    clear H0 H1 H2 H3 H4
    go_enter Try.func18, Try.ntmps18
    go_wp2_with fail
    refine H.out.mono ?_
    rintro e w2 ⟨rfl, h1⟩
    go_wp2_with fail
    first | exact bodyPost_end (results_none rfl _ _ _) rfl ⟨rfl, h1⟩ | exact bodyPost_ret (results_none rfl _ _ _) rfl ⟨rfl, h1⟩
  · have H := Aside0.mk (H3.out (by omega))
    clear H0 H1 H2 H3 H4
    go_enter Try.func18, Try.ntmps18
    go_wp2_with fail
    refine H.out.mono ?_
    rintro e w2 ⟨rfl, h1⟩
    go_wp2_with fail
    first | exact bodyPost_end (results_none rfl _ _ _) rfl ⟨rfl, h1⟩ | exact bodyPost_ret (results_none rfl _ _ _) rfl ⟨rfl, h1⟩
  · have H := Aside0.mk (H4.out (by omega))
    clear H0 H1 H2 H3 H4
    go_enter Try.func18, Try.ntmps18
    go_wp2_with fail
    refine H.out.mono ?_
    rintro e w2 ⟨rfl, h1⟩
    go_wp2_with fail
    first | exact bodyPost_end (results_none rfl _ _ _) rfl ⟨rfl, h1⟩ | exact bodyPost_ret (results_none rfl _ _ _) rfl ⟨rfl, h1⟩
end Go.Proofs.Ytdjpcogkpnemlaa.Oct
end
section
/- The reader octet.In: what it holds, and what each of its methods does. -/
namespace Go.Proofs.Ytdjpcogkpnemlaa.Oct
open Go.RowKit Go.Proofs.YtdjpcogkpnemlaaW.PrintWords
set_option linter.unusedVariables false
set_option maxRecDepth 100000
set_option maxHeartbeats 4000000
set_option linter.unusedSimpArgs false
theorem spoilt_nil (w : World) : Calls Try.prog 23 #[.pointer none] w fun e w' => e = .returned (.bool true) ∧ w' = w := by
  go_enter Try.func23, Try.ntmps23
  go_wp2_with fail
  go_ret
  exact ⟨rfl, rfl⟩
theorem spoil_nil (w : World) : Calls Try.prog 27 #[.pointer none] w fun e w' => e = .returned (.tuple #[]) ∧ w' = w := by
  go_enter Try.func27, Try.ntmps27
  go_wp2_with fail
  exact bodyPost_end (results_none rfl _ _ _) rfl ⟨rfl, rfl⟩
theorem rest_nil (w : World) : Calls Try.prog 24 #[.pointer none] w fun e w' => e = .returned (.int .i64 0) ∧ w' = w := by
  go_enter Try.func24, Try.ntmps24
  go_wp2_with (go_at_call 23; refine (spoilt_nil _).mono ?_; rintro e w' ⟨rfl, rfl⟩)
  go_ret
  exact ⟨rfl, rfl⟩
theorem close_nil (w : World) : Calls Try.prog 25 #[.pointer none] w fun e w' => e = .returned (.int .i64 1) ∧ w' = w := by
  go_enter Try.func25, Try.ntmps25
  go_wp2_with fail
  go_ret
  exact ⟨rfl, rfl⟩
theorem taker_calls (p : Option Addr) (w : World) : Calls Try.prog 53 #[.pointer p] w fun e w' => e = .returned (.func (.func 63) #[] #[.pointer (some ⟨w.heap.size, 0, none⟩)]) ∧ w' = w.alloc (.cells #[.pointer p] 54) := by
  go_enter Try.func53, Try.ntmps53
  go_wp2_with fail
  go_ret
  exact ⟨rfl, rfl⟩
theorem take_nil (n : Int) (A : Nat) (w : World) (h : w.heap[A]? = some (.cells #[.pointer none] 54 (0, 0))) :
    Calls Try.prog 63 #[.int .u64 n, .pointer (some ⟨A, 0, none⟩)] w fun e w' => e = .returned (.string ⟨#[]⟩) ∧ w' = w := by
  have c0 := blk_cell h 0
  go_enter Try.func63, Try.ntmps63
  go_wp2_with (go_at_call 23; refine (spoilt_nil _).mono ?_; rintro e w' ⟨rfl, rfl⟩)
  go_ret
  exact ⟨rfl, rfl⟩
theorem takes_nil (n : Int) (w : World) : Calls Try.prog 63 #[.int .u64 n, .pointer (some ⟨w.heap.size, 0, none⟩)] (w.alloc (.cells #[.pointer none] 54)) fun e w' => e = .returned (.string ⟨#[]⟩) ∧ Below w.heap.size w w' := by
  refine (take_nil n w.heap.size _ (blk_new _ _)).mono ?_
  rintro e w' ⟨rfl, rfl⟩
  exact ⟨rfl, (Below.refl _ _).alloc (Nat.le_refl _) _⟩
theorem byte_in_nil (w : World) : Calls Try.prog 28 #[.pointer none] w fun e w' => e = .returned (.int .u8 0) ∧ Below w.heap.size w w' := by
  have HT := Aside0.mk (takes_nil 1 w)
  go_enter Try.func28, Try.ntmps28
  go_wp2_with (go_at_call 53; refine (taker_calls _ _).mono ?_; rintro e w' ⟨rfl, rfl⟩)
  refine HT.out.mono ?_
  rintro e w1 ⟨rfl, hb⟩
  go_wp2_with fail
  go_ret
  exact ⟨rfl, hb⟩
set_option maxHeartbeats 4000000 in
set_option maxRecDepth 100000 in
theorem number_nil (most : Nat) (w : World) : Calls Try.prog 54 #[.pointer none, .int .u8 most] w fun e w' => e = .returned (.agg #[.int .u64 0, .int .u64 0]) ∧ Below w.heap.size w w' := by
  go_enter Try.func54, Try.ntmps54
  go_wp2_with (first
    | (go_at_call 28; refine (byte_in_nil _).mono ?_; rintro e w1 ⟨rfl, hb1⟩)
    | (go_at_call 53; refine (taker_calls _ _).mono ?_; rintro e w' ⟨rfl, rfl⟩))
  refine (takes_nil 0 w1).mono ?_
  rintro e w2 ⟨rfl, hb2⟩
  have g2 := blk_below (blk_below (blk_new w (.cells #[.int .u64 0, .int .u64 0] 29)) hb1) hb2
  have c0 := blk_cell g2 0
  have c1 := blk_cell g2 1
  have f0 := blk_frozen g2 0
  have f1 := blk_frozen g2 1
  have hb0 : Below w.heap.size w (w.alloc (.cells #[.int .u64 0, .int .u64 0] 29)) := (Below.refl _ _).alloc (Nat.le_refl _) _
  have hb3 := (hb0.trans (hb1.mono hb0.size)).trans (hb2.mono (Nat.le_trans hb0.size hb1.size))
  have G2 := Aside0.mk g2
  have HB := Aside0.mk hb3
  clear g2 hb0 hb1 hb2 hb3
  go_wp2_with fail
  refine bodyPost_ret (results_cell_row rfl _ _ w.heap.size 29 #[.int .u64 0, .int .u64 0] (0, 0) _ rfl ?_ Try.underlying29 rfl (by kernel_rfl)) rfl ⟨rfl, ?_⟩
  · exact blk_put (blk_put G2.out 0 _ rfl) 1 _ rfl
  · exact (HB.out.setCell (by simp) _).setCell (by simp) _
set_option maxHeartbeats 4000000 in
set_option maxRecDepth 100000 in
theorem wide_in_nil (w : World) : Calls Try.prog 30 #[.pointer none] w fun e w' => e = .returned (.agg #[.int .u64 0, .int .u64 0]) ∧ Below w.heap.size w w' := by
  have HN := Aside0.mk (number_nil 16)
  have hb0 : Below w.heap.size w (w.alloc (.cells #[.int .u64 0, .int .u64 0] 29)) := (Below.refl _ _).alloc (Nat.le_refl _) _
  have H0 := Aside0.mk hb0
  clear hb0
  go_enter Try.func30, Try.ntmps30
  go_wp2_with fail
  refine (HN.out _).mono ?_
  rintro e w1 ⟨rfl, hb⟩
  have g1 := blk_below (blk_new w (.cells #[.int .u64 0, .int .u64 0] 29)) hb
  have c0 := blk_cell g1 0
  have c1 := blk_cell g1 1
  have f0 := blk_frozen g1 0
  have f1 := blk_frozen g1 1
  have G1 := Aside0.mk g1
  have HB := Aside0.mk (H0.out.trans (hb.mono H0.out.size))
  clear g1 hb
  go_wp2_with fail
  refine bodyPost_ret (results_cell_row rfl _ _ w.heap.size 29 #[.int .u64 0, .int .u64 0] (0, 0) _ rfl ?_ Try.underlying29 rfl (by kernel_rfl)) rfl ⟨rfl, ?_⟩
  · exact blk_put (blk_put G1.out 0 _ rfl) 1 _ rfl
  · exact (HB.out.setCell (by simp) _).setCell (by simp) _
theorem field_lo (a b : Int) (w : World) : (Instr.field 29 (.agg #[.int .u64 a, .int .u64 b]) 1).run Try.prog w = .ok (.int .u64 b) w := by
  kernel_rfl
theorem num_in_nil (w : World) : Calls Try.prog 29 #[.pointer none] w fun e w' => e = .returned (.int .u64 0) ∧ Below w.heap.size w w' := by
  have HN := Aside0.mk (number_nil 8 w)
  have HF := field_lo 0 0
  go_enter Try.func29, Try.ntmps29
  go_wp2_with fail
  refine HN.out.mono ?_
  rintro e w1 ⟨rfl, hb⟩
  go_wp2_with fail
  go_ret
  exact ⟨rfl, hb⟩
theorem flag_in_nil (w : World) : Calls Try.prog 31 #[.pointer none] w fun e w' => e = .returned (.bool false) ∧ Below w.heap.size w w' := by
  have HN := Aside0.mk (byte_in_nil w)
  go_enter Try.func31, Try.ntmps31
  go_wp2_with fail
  refine HN.out.mono ?_
  rintro e w1 ⟨rfl, hb⟩
  go_wp2_with fail
  go_ret
  exact ⟨rfl, hb⟩
set_option maxHeartbeats 4000000 in
set_option maxRecDepth 100000 in
theorem text_in_nil (most : Nat) (w : World) : Calls Try.prog 32 #[.pointer none, .int .i64 most] w fun e w' => e = .returned (.string ⟨#[]⟩) ∧ Below w.heap.size w w' := by
  have HN := Aside0.mk (num_in_nil w)
  go_enter Try.func32, Try.ntmps32
  go_wp2_with fail
  refine HN.out.mono ?_
  rintro e w1 ⟨rfl, hb⟩
  have hb9 := hb
  go_wp2_with (first
    | (go_at_call 53; refine (taker_calls _ _).mono ?_; rintro e w' ⟨rfl, rfl⟩)
    | (go_at_call 27; refine (spoil_nil _).mono ?_; rintro e w' ⟨rfl, rfl⟩))
  all_goals
    refine (takes_nil 0 w1).mono ?_
    rintro e w2 ⟨rfl, hb2⟩
    go_wp2_with fail
    go_ret
    exact ⟨rfl, hb.trans (hb2.mono hb.size)⟩
end Go.Proofs.Ytdjpcogkpnemlaa.Oct
end
