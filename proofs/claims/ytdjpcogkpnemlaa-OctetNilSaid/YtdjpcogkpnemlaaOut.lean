/- The writer octet.Out: what it holds, and what each of its methods does. -/
import Derived.Test.YtdjpcogkpnemlaaProg
import Derived.Test.YtdjpcogkpnemlaaBytes
import Derived.Test.YtdjpcogkpnemlaaRel
import Derived.Test.YtdjpcogkpnemlaaPOrx
import Derived.Test.YtdjpcogkpnemlaaShelf
import Derived.Lib.AppendStr
import Derived.Lib.Builder
import Derived.Lib.BufferRead
import Derived.WalkKit
import Derived.OwnWalk
import Derived.Below
import Derived.Says
import Derived.Deep.DeepCutAuto
namespace Go.Proofs.Ytdjpcogkpnemlaa.Oct
open Go.RowKit Go.Proofs.YtdjpcogkpnemlaaW.PrintWords
set_option linter.unusedVariables false
set_option linter.unusedSimpArgs false
theorem results_none {fn : Func} (h : fn.results = #[]) (tmps : Array Value) (P : Program) (w : World) : (results fn tmps).run P w = .ok (.tuple #[]) w := by
  unfold results
  rw [h]
  simp
/-- What is written so far. -/
structure OutS where
  b : ByteArray
  long : Bool
def OutS.put (o : OutS) (s : ByteArray) : OutS := if o.long = true ∨ 1048576 < o.b.size + s.size then ⟨o.b, true⟩ else ⟨o.b ++ s, false⟩
/-- A writer in a block of its own (number g, from B on). -/
def OutAt (B g : Nat) (o : OutS) (w : World) : Prop :=
  B ≤ g ∧ o.b.size ≤ 1048576 ∧ ∃ v, w.heap[g]? = some (.cells #[v, .bool o.long] 42 (0, 0)) ∧ w.ownsRow B 5 1 v o.b.size (Lib.strCells o.b) ∧ v.ownBlock ≠ some g
theorem OutAt.lt {B g : Nat} {o : OutS} {w : World} (h : OutAt B g o w) : g < w.heap.size := by
  obtain ⟨_, _, v, hb, _⟩ := h
  exact (Array.getElem?_eq_some_iff.1 hb).1
theorem OutAt.keep {B g : Nat} {o : OutS} {w w' : World} (h : OutAt B g o w) (hb : Below w.heap.size w w') : OutAt B g o w' := by
  have hlt := h.lt
  obtain ⟨h1, h2, v, h3, h4, h5⟩ := h
  refine ⟨h1, h2, v, (hb.block g hlt).trans h3, ?_, h5⟩
  refine ⟨h4.1, ?_⟩
  rcases h4.2 with h | ⟨k, cap, cur, e1, e2, e3, e4⟩
  · exact .inl h
  · exact .inr ⟨k, cap, cur, e1, e2, (hb.block k (Array.getElem?_eq_some_iff.1 e3).1).trans e3, e4⟩
theorem strCells_append (a b : ByteArray) : Lib.strCells (a ++ b) = Lib.strCells a ++ Lib.strCells b := by
  simp [Lib.strCells]
theorem spoil_at {B g : Nat} {o : OutS} {w : World} (h : OutAt B g o w) : OutAt B g ⟨o.b, true⟩ (w.setCell ⟨g, 1, none⟩ (.bool true)) := by
  obtain ⟨hB, hm, v, hb, hown, hne⟩ := h
  refine ⟨hB, hm, v, ?_, ?_, hne⟩
  · simp [World.setCell, Array.getElem?_modify, hb]
  · exact hown.kept (row := some g) ⟨rfl, rfl, rfl, by simp [World.setCell], fun k _ hk => Below.heap_setCell _ _ _ _ (fun e => hk (by simp [e]))⟩ (Or.inr hne)
set_option maxHeartbeats 4000000 in
set_option maxRecDepth 100000 in
theorem put_calls (B g : Nat) (o : OutS) (s : ByteArray) (w : World) (h : OutAt B g o w) (hs : s.size ≤ 70368744177664) (hBw : B ≤ w.heap.size) :
    Calls Try.prog 43 #[.pointer (some ⟨g, 0, none⟩), .string s] w fun e w' => e = .returned (.tuple #[]) ∧ OutAt B g (o.put s) w' ∧ Below B w w' := by
  obtain ⟨i0, hi, hz0, hz1, hz2⟩ := info_parts (P := Try.prog) (e := 5) (z := .int .u8 0) (size := 1) (bytes := 1) (by kernel_rfl)
  have hlt := h.lt
  obtain ⟨hB, hm, v, hb, hown, hne⟩ := h
  have c0 : w.cell? ⟨g, 0, none⟩ = some v := by rw [Lib.cell_of_heap hb]; rfl
  have c1 : w.cell? ⟨g, 1, none⟩ = some (.bool o.long) := by rw [Lib.cell_of_heap hb]; rfl
  have f0 : w.frozen? ⟨g, 0, none⟩ = false := Lib.frozen_of_heap hb 0
  have f1 : w.frozen? ⟨g, 1, none⟩ = false := Lib.frozen_of_heap hb 1
  obtain ⟨ao, cap, rfl⟩ : ∃ ao cap, v = .slice ao o.b.size cap := by
    rcases hown.2 with ⟨hv, h0⟩ | ⟨k, cap, cur, hv, _⟩
    · exact ⟨none, 0, by rw [hv, h0]⟩
    · exact ⟨_, _, hv⟩
  go_enter Try.func43, Try.ntmps43
  go_wp2_with (at_builtin; refine Lib.wpList_append_own_string _ rfl _ _ 40 9 rfl B 5 i0 Try.underlying40 Try.underlying9 hi hz0 hz1 hz2 _ _ _ rfl hown s rfl ?c3 ?c4 ?c5 ?_)
  · rename_i hl
    refine bodyPost_end (results_none rfl _ _ _) rfl ?_
    refine ⟨rfl, ?_, (Below.refl B w).setCell (p := ⟨g, 1, none⟩) hB _⟩
    have e : o.put s = ⟨o.b, true⟩ := by unfold OutS.put; rw [if_pos (.inl hl)]
    rw [e]
    exact spoil_at ⟨hB, hm, _, hb, hown, hne⟩
  · rename_i hl hb2
    refine bodyPost_end (results_none rfl _ _ _) rfl ?_
    refine ⟨rfl, ?_, (Below.refl B w).setCell (p := ⟨g, 1, none⟩) hB _⟩
    have e : o.put s = ⟨o.b, true⟩ := by unfold OutS.put; rw [if_pos (.inr (by omega))]
    rw [e]
    exact spoil_at ⟨hB, hm, _, hb, hown, hne⟩
  case c3 => unfold maxLen; omega
  case c4 => omega
  case c5 => omega
  intro v' w2 hown' hgrow _
  have hb2 : w2.heap[g]? = some (.cells #[.slice ao o.b.size cap, .bool o.long] 42 (0, 0)) := by
    rw [hgrow.block g hlt (fun e => hne e.symm)]
    exact hb
  have d0 : w2.cell? ⟨g, 0, none⟩ = some (.slice ao o.b.size cap) := by rw [Lib.cell_of_heap hb2]; rfl
  have f2 : w2.frozen? ⟨g, 0, none⟩ = false := Lib.frozen_of_heap hb2 0
  obtain ⟨ao', n', cap', rfl⟩ : ∃ ao n' cap, v' = .slice ao n' cap := by
    rcases hown'.2 with ⟨hv, _⟩ | ⟨k, cap, cur, hv, _⟩
    · exact ⟨_, _, _, hv⟩
    · exact ⟨_, _, _, hv⟩
  have hlo : o.long = false := by simpa using ‹¬o.long = true›
  go_wp2_with fail
  refine bodyPost_end (results_none rfl _ _ _) rfl ?_
  have e : o.put s = ⟨o.b ++ s, false⟩ := by
    unfold OutS.put; rw [if_neg]
    rintro (h | h)
    · exact absurd h ‹¬o.long = true›
    · omega
  rw [e]
  have hown2 : w2.ownsRow B 5 1 (.slice ao' n' cap') (o.b ++ s).size (Lib.strCells (o.b ++ s)) := by
    rw [ByteArray.size_append, strCells_append]; exact hown'
  have hne2 : (Value.slice ao' n' cap').ownBlock ≠ some g := Lib.ownBlock_ne hown2 hb2 (by decide)
  refine ⟨rfl, ⟨hB, by show (o.b ++ s).size ≤ 1048576; rw [ByteArray.size_append]; omega, .slice ao' n' cap', ?_, ?_, hne2⟩, ?_⟩
  · simp [World.setCell, Array.getElem?_modify, hb2, hlo]
  · exact hown2.kept (row := some g) ⟨rfl, rfl, rfl, by simp [World.setCell], fun k _ hk => Below.heap_setCell _ _ _ _ (fun e => hk (by simp [e]))⟩ (Or.inr hne2)
  · exact ((Below.refl B w).grown hgrow hBw (fun k hk => (hown.lt k hk).1)).setCell (p := ⟨g, 0, none⟩) hB _
theorem put_nil (s : ByteArray) (w : World) :
    Calls Try.prog 43 #[.pointer none, .string s] w fun e w' => e = .returned (.tuple #[]) ∧ w' = w := by
  go_enter Try.func43, Try.ntmps43
  go_wp2_with fail
  exact bodyPost_end (results_none rfl _ _ _) rfl ⟨rfl, rfl⟩
theorem conv1 (W : World) (g : Nat) (n : UInt8) (h : W.heap[g]? = some (.cells #[.int .u8 (n.toNat : Int)] 5 (0, 0))) :
    (convert 40 9 (.slice (some ⟨g, 0, none⟩) 1 1)).run Try.prog W = .ok (.string ⟨#[n]⟩) W := by
  refine Lib.run_convert_whole W 40 5 9 Try.underlying40 Try.underlying5 Try.underlying9 g 0 ⟨#[n]⟩ (fun j hj => ?_) 1
  have hj' : j < 1 := hj
  obtain rfl : j = 0 := by omega
  rw [blk_cell h]
  rfl
set_option maxHeartbeats 4000000 in
set_option maxRecDepth 100000 in
theorem byte_calls (B g : Nat) (o : OutS) (n : UInt8) (w : World) (h : OutAt B g o w) (hBw : B ≤ w.heap.size) :
    Calls Try.prog 44 #[.pointer (some ⟨g, 0, none⟩), .int .u8 n.toNat] w fun e w' => e = .returned (.tuple #[]) ∧ OutAt B g (o.put ⟨#[n]⟩) w' ∧ Below B w w' := by
  have hc := conv1 (w.alloc (.cells #[.int .u8 (n.toNat : Int)] 5)) w.heap.size n (blk_new _ _)
  have hb0 : Below w.heap.size w (w.alloc (.cells #[.int .u8 (n.toNat : Int)] 5)) := (Below.refl _ _).alloc (Nat.le_refl _) _
  have HP := Aside0.mk (put_calls B g o ⟨#[n]⟩ _ (h.keep hb0) (show 1 ≤ 70368744177664 by decide) (Nat.le_trans hBw hb0.size))
  have HB := Aside0.mk (hb0.mono hBw)
  clear hb0
  go_enter Try.func44, Try.ntmps44
  go_wp2_with fail
  refine HP.out.mono ?_
  rintro e w1 ⟨rfl, h1, hb1⟩
  go_wp2_with fail
  exact bodyPost_end (results_none rfl _ _ _) rfl ⟨rfl, h1, HB.out.trans hb1⟩
set_option maxHeartbeats 4000000 in
set_option maxRecDepth 100000 in
theorem byte_nil (n : UInt8) (w : World) :
    Calls Try.prog 44 #[.pointer none, .int .u8 n.toNat] w fun e w' => e = .returned (.tuple #[]) ∧ Below w.heap.size w w' := by
  have hc := conv1 (w.alloc (.cells #[.int .u8 (n.toNat : Int)] 5)) w.heap.size n (blk_new _ _)
  have hb0 : Below w.heap.size w (w.alloc (.cells #[.int .u8 (n.toNat : Int)] 5)) := (Below.refl _ _).alloc (Nat.le_refl _) _
  have HP := Aside0.mk (put_nil ⟨#[n]⟩ (w.alloc (.cells #[.int .u8 (n.toNat : Int)] 5)))
  have HB := Aside0.mk hb0
  clear hb0
  go_enter Try.func44, Try.ntmps44
  go_wp2_with fail
  refine HP.out.mono ?_
  rintro e w1 ⟨rfl, rfl⟩
  go_wp2_with fail
  exact bodyPost_end (results_none rfl _ _ _) rfl ⟨rfl, HB.out⟩
/-- How many bytes a number needs. -/
def leastN (hi lo : Nat) : Nat := if 0 < hi then 8 + (Lib.bitLen hi + 7) / 8 else (Lib.bitLen lo + 7) / 8
theorem leastN_le (hi lo : Nat) (h1 : hi < 18446744073709551616) (h2 : lo < 18446744073709551616) : leastN hi lo ≤ 16 := by
  have a := Lib.bitLen_le hi 64 (by omega) h1
  have b := Lib.bitLen_le lo 64 (by omega) h2
  unfold leastN
  split <;> omega
def wideEnc (hi lo : Nat) : ByteArray := ⟨#[UInt8.ofNat (leastN hi lo)]⟩ ++ (be16 hi lo).extract (16 - leastN hi lo) 16
set_option maxHeartbeats 4000000 in
set_option maxRecDepth 100000 in
theorem least_calls (hi lo : Nat) (h1 : hi < 18446744073709551616) (h2 : lo < 18446744073709551616) (w : World) :
    Calls Try.prog 58 #[.agg #[.int .u64 hi, .int .u64 lo]] w fun e w' => e = .returned (.int .i64 (leastN hi lo : Nat)) ∧ Below w.heap.size w w' := by
  have ha := Lib.bitLen_le hi 64 (by omega) h1
  have hb := Lib.bitLen_le lo 64 (by omega) h2
  have HL : ∀ (x : Nat), x < 18446744073709551616 → ∀ w : World, Calls Try.prog 68 #[.int .u64 x] w fun e w' => e = .returned (.int .i64 (Lib.bitLen x)) ∧ w' = w := fun x hx w => by
    have := Try.bits_Len64 (x : Int) w (by omega) (by omega)
    simpa using this
  have HA := Aside0.mk HL
  clear HL
  have hb0 : Below w.heap.size w (w.alloc (.cells #[.int .u64 hi, .int .u64 lo] 29)) := (Below.refl _ _).alloc (Nat.le_refl _) _
  have H0 := Aside0.mk hb0
  clear hb0
  go_enter Try.func58, Try.ntmps58
  go_wp2_with (go_at_call 68; refine (HA.out _ (by assumption) _).mono ?_; rintro e w' ⟨rfl, rfl⟩)
  all_goals
    go_ret
    refine ⟨congrArg (fun x : Int => Ending.returned (Value.int .i64 x)) ?_, H0.out⟩
    unfold leastN
  · rw [if_pos (by assumption)]; omega
  · rw [if_neg (by assumption)]; omega
/-- What is known of each value of Wide's own region. -/
def RW (p : Value) (hi lo n : Nat) : Nat → Value → World → Prop
  | 0, v, _ => v = p
  | 1, v, _ => v = .int .i64 (n : Int)
  | 2, v, _ => v = .int .u8 (n : Int)
  | 3, v, w => ∃ A, v = .slice (some ⟨A, 0, none⟩) 1 1 ∧ w.heap[A]? = some (.cells #[.int .u8 ((UInt8.ofNat n).toNat : Int)] 5 (0, 0))
  | 4, v, _ => v = .string ⟨#[UInt8.ofNat n]⟩
  | 5, v, _ => v = .agg #[.int .u64 hi, .int .u64 lo]
  | 6, v, _ => v = .string (be16 hi lo)
  | 7, v, _ => v = .int .i64 (n : Int)
  | 8, v, _ => v = .int .i64 ((16 - n : Nat) : Int)
  | 9, v, _ => v = .string ((be16 hi lo).extract (16 - n) 16)
  | 10, v, _ => v = .string (⟨#[UInt8.ofNat n]⟩ ++ (be16 hi lo).extract (16 - n) 16)
  | _, _, _ => True
theorem RW_later (p : Value) (hi lo n : Nat) : ∀ i v w w', RW p hi lo n i v w → Below w.heap.size w w' → RW p hi lo n i v w' := by
  intro i v w w' h hb
  match i with
  | 3 => obtain ⟨A, h1, h2⟩ := h; exact ⟨A, h1, blk_below h2 hb⟩
  | 0 | 1 | 2 | 4 | 5 | 6 | 7 | 8 | 9 | 10 | _ + 11 => exact h
theorem wideEnc_size (hi lo : Nat) (h : leastN hi lo ≤ 16) : (wideEnc hi lo).size = leastN hi lo + 1 := by
  unfold wideEnc
  rw [ByteArray.size_append, ByteArray.size_extract]
  have h1 : (be16 hi lo).size = 16 := rfl
  have h2 : (⟨#[UInt8.ofNat (leastN hi lo)]⟩ : ByteArray).size = 1 := rfl
  rw [h1, h2]
  omega
open Rel in
set_option maxHeartbeats 4000000 in
set_option maxRecDepth 100000 in
theorem wide_gen (p : Value) (Y : World → Prop) (hi lo : Nat) (h1 : hi < 18446744073709551616) (h2 : lo < 18446744073709551616) (w : World)
    (hput : ∀ z, Below w.heap.size w z → Calls Try.prog 43 #[p, .string (wideEnc hi lo)] z fun e w' => e = .returned (.tuple #[]) ∧ Y w') :
    Calls Try.prog 45 #[p, .agg #[.int .u64 hi, .int .u64 lo]] w fun e w' => e = .returned (.tuple #[]) ∧ Y w' := by
  have hn := leastN_le hi lo h1 h2
  have HL := Aside0.mk (least_calls hi lo h1 h2)
  have HBy := Aside0.mk (bytes_calls hi lo h1 h2)
  have HW := Aside0.mk (wideEnc_size hi lo hn)
  unfold wideEnc at *
  generalize leastN hi lo = n at *
  have hu8 : ((UInt8.ofNat n).toNat : Int) = n := by rw [UInt8.toNat_ofNat']; omega
  have HO := Aside0.mk hput
  clear hput
  have hbA : Below w.heap.size w (w.alloc (.cells #[.int .u64 hi, .int .u64 lo] 29)) := (Below.refl _ _).alloc (Nat.le_refl _) _
  have gA := blk_new w (.cells #[.int .u64 hi, .int .u64 lo] 29)
  go_enter Try.func45, Try.ntmps45
  go_upto_region 1 with fail
  go_upto_region 2 with (go_at_call 58; refine (HL.out _).mono ?_; rintro e w1 ⟨rfl, hb1⟩)
  have w0 : w1.heap[w.heap.size]? = some (.cells #[.int .u64 hi, .int .u64 lo] 29 (0, 0)) := blk_below gA hb1
  have GA := Aside0.mk w0
  have X1 := Aside0.mk (hbA.trans (hb1.mono hbA.size))
  clear hbA gA hb1 w0 HL
  refine Rel.region_rel [] (fun _ => .cells #[] 0 (0, 0)) (RW p hi lo n) 11 [] (by kernel_rfl) (by kernel_rfl) (by decide) (fun i hi => by cases hi) (RW_later p hi lo n) (fun i hi => by cases hi) ?_ ?_
  · simp only [List.take_succ_cons, List.take_zero]
    refine ⟨?_, ?_, ?_, ?_, ?_, ?_, ?_, ?_, ?_, ?_, ?_, trivial⟩
    · refine Rel.Upon.of [] (by kernel_rfl) ?_
      intro vals z hb hN hd
      simp only [Rel.rp]
      go_wp2_with fail
      exact ⟨Below.refl _ _, rfl⟩
    · refine Rel.Upon.of [] (by kernel_rfl) ?_
      intro vals z hb hN hd
      simp only [Rel.rp]
      go_wp2_with fail
      exact ⟨Below.refl _ _, rfl⟩
    · refine Rel.Upon.of [1] (by kernel_rfl) ?_
      intro vals z hb hN hd
      simp only [Rel.ra] at hd
      have d1 := hd
      replace d1 : vals 1 = .int .i64 (n : Int) := d1
      have hm : (n : Int) % 256 = n := by omega
      simp only [Rel.rp, d1]
      go_wp2_with fail
      exact ⟨Below.refl _ _, rfl⟩
    · refine Rel.Upon.of [2] (by kernel_rfl) ?_
      intro vals z hb hN hd
      simp only [Rel.ra] at hd
      have d2 := hd
      replace d2 : vals 2 = .int .u8 (n : Int) := d2
      simp only [Rel.rp, d2]
      go_wp2_with fail
      have hb9 : Below z.heap.size z (z.alloc (.cells #[.int .u8 (n : Int)] 5)) := (Below.refl _ _).alloc (Nat.le_refl _) _
      refine ⟨hb9, z.heap.size, rfl, ?_⟩
      rw [hu8]
      exact blk_new _ _
    · refine Rel.Upon.of [3] (by kernel_rfl) ?_
      intro vals z hb hN hd
      simp only [Rel.ra] at hd
      have d3 := hd
      replace d3 : ∃ A, vals 3 = .slice (some ⟨A, 0, none⟩) 1 1 ∧ z.heap[A]? = some (.cells #[.int .u8 ((UInt8.ofNat n).toNat : Int)] 5 (0, 0)) := d3
      obtain ⟨A, e3, hA⟩ := d3
      have hc := conv1 z A _ hA
      simp only [Rel.rp, e3]
      go_wp2_with fail
      exact ⟨Below.refl _ _, rfl⟩
    · refine Rel.Upon.of [] (by kernel_rfl) ?_
      intro vals z hb hN hd
      have c0 := blk_cell (blk_below GA.out hb) 0
      have c1 := blk_cell (blk_below GA.out hb) 1
      simp only [Rel.rp]
      go_wp2_with fail
      exact ⟨Below.refl _ _, rfl⟩
    · refine Rel.Upon.of [5] (by kernel_rfl) ?_
      intro vals z hb hN hd
      simp only [Rel.ra] at hd
      have d5 := hd
      replace d5 : vals 5 = .agg #[.int .u64 hi, .int .u64 lo] := d5
      simp only [Rel.rp, d5]
      go_wp2_with fail
      refine (HBy.out z).mono ?_
      rintro e z2 ⟨rfl, hb2⟩
      go_wp2_with fail
      first | rfl | exact ⟨hb2, rfl⟩
    · refine Rel.Upon.of [] (by kernel_rfl) ?_
      intro vals z hb hN hd
      simp only [Rel.rp]
      go_wp2_with fail
      exact ⟨Below.refl _ _, rfl⟩
    · refine Rel.Upon.of [7] (by kernel_rfl) ?_
      intro vals z hb hN hd
      simp only [Rel.ra] at hd
      have d7 := hd
      replace d7 : vals 7 = .int .i64 (n : Int) := d7
      have hm : wrap64 (16 - (n : Int)) = ((16 - n : Nat) : Int) := by unfold wrap64; omega
      simp only [Rel.rp, d7]
      go_wp2_with fail
      refine ⟨Below.refl _ _, congrArg (Value.int .i64) ?_⟩
      omega
    · refine Rel.Upon.of [6, 8] (by kernel_rfl) ?_
      intro vals z hb hN hd
      simp only [Rel.ra] at hd
      obtain ⟨d6, d8⟩ := hd
      replace d6 : vals 6 = .string (be16 hi lo) := d6
      replace d8 : vals 8 = .int .i64 ((16 - n : Nat) : Int) := d8
      have hq : 16 ≤ (be16 hi lo).size + n := by show 16 ≤ 16 + n; omega
      simp only [Rel.rp, d6, d8]
      go_wp2_with fail
      exact ⟨Below.refl _ _, rfl⟩
    · refine Rel.Upon.of [4, 9] (by kernel_rfl) ?_
      intro vals z hb hN hd
      simp only [Rel.ra] at hd
      obtain ⟨d4, d9⟩ := hd
      replace d4 : vals 4 = .string ⟨#[UInt8.ofNat n]⟩ := d4
      replace d9 : vals 9 = .string ((be16 hi lo).extract (16 - n) 16) := d9
      simp only [Rel.rp, d4, d9]
      go_wp2_with fail
      exact ⟨Below.refl _ _, rfl⟩
  · intro vals z hb hN hrel _
    have d0 : vals 0 = p := hrel 0 (by decide)
    have d10 : vals 10 = .string (⟨#[UInt8.ofNat n]⟩ ++ (be16 hi lo).extract (16 - n) 16) := hrel 10 (by decide)
    simp only [List.drop_succ_cons, List.drop_zero]
    rw [show List.range 11 = [0, 1, 2, 3, 4, 5, 6, 7, 8, 9, 10] from rfl]
    generalize e1 : vals 1 = v1
    generalize e2 : vals 2 = v2
    generalize e3 : vals 3 = v3
    generalize e4 : vals 4 = v4
    generalize e5 : vals 5 = v5
    generalize e6 : vals 6 = v6
    generalize e7 : vals 7 = v7
    generalize e8 : vals 8 = v8
    generalize e9 : vals 9 = v9
    simp only [Rel.rp, d0, d10, e1, e2, e3, e4, e5, e6, e7, e8, e9]
    have hbz : Below w.heap.size w z := X1.out.trans (hb.mono X1.out.size)
    have HP := Aside0.mk (HO.out z hbz)
    clear hrel hb hbz
    go_wp2_with fail
    refine HP.out.mono ?_
    rintro e z2 ⟨rfl, h1⟩
    go_wp2_with fail
    exact bodyPost_end (results_none rfl _ _ _) rfl ⟨rfl, h1⟩
theorem wide_calls (B g : Nat) (o : OutS) (hi lo : Nat) (h1 : hi < 18446744073709551616) (h2 : lo < 18446744073709551616) (w : World) (h : OutAt B g o w) (hBw : B ≤ w.heap.size) :
    Calls Try.prog 45 #[.pointer (some ⟨g, 0, none⟩), .agg #[.int .u64 hi, .int .u64 lo]] w fun e w' => e = .returned (.tuple #[]) ∧ OutAt B g (o.put (wideEnc hi lo)) w' ∧ Below B w w' := by
  refine wide_gen _ (fun w' => OutAt B g (o.put (wideEnc hi lo)) w' ∧ Below B w w') hi lo h1 h2 w fun z hz => ?_
  have hn := leastN_le hi lo h1 h2
  refine (put_calls B g o (wideEnc hi lo) z (h.keep hz) (by rw [wideEnc_size hi lo hn]; omega) (Nat.le_trans hBw hz.size)).mono ?_
  rintro e w' ⟨rfl, h3, h4⟩
  exact ⟨rfl, h3, (hz.mono hBw).trans h4⟩
theorem wide_nil (hi lo : Nat) (h1 : hi < 18446744073709551616) (h2 : lo < 18446744073709551616) (w : World) :
    Calls Try.prog 45 #[.pointer none, .agg #[.int .u64 hi, .int .u64 lo]] w fun e w' => e = .returned (.tuple #[]) ∧ Below w.heap.size w w' := by
  refine wide_gen _ (fun w' => Below w.heap.size w w') hi lo h1 h2 w fun z hz => ?_
  refine (put_nil (wideEnc hi lo) z).mono ?_
  rintro e w' ⟨rfl, rfl⟩
  exact ⟨rfl, hz⟩
theorem of_calls (n : Nat) (w : World) : Calls Try.prog 37 #[.int .u64 n] w fun e w' => e = .returned (.agg #[.int .u64 ((0 : Nat) : Int), .int .u64 n]) ∧ Below w.heap.size w w' :=
  POr.u128_Of.calls n 0 n w rfl
set_option maxHeartbeats 4000000 in
set_option maxRecDepth 100000 in
theorem num_gen (p : Value) (Y : World → Prop) (n : Nat) (w : World)
    (hw : ∀ z, Below w.heap.size w z → Calls Try.prog 45 #[p, .agg #[.int .u64 ((0 : Nat) : Int), .int .u64 n]] z fun e w' => e = .returned (.tuple #[]) ∧ Y w') :
    Calls Try.prog 42 #[p, .int .u64 n] w fun e w' => e = .returned (.tuple #[]) ∧ Y w' := by
  have HW := Aside0.mk hw
  clear hw
  go_enter Try.func42, Try.ntmps42
  go_wp2_with (go_at_call 37; refine (of_calls _ _).mono ?_; rintro e w1 ⟨rfl, hb1⟩)
  refine (HW.out w1 hb1).mono ?_
  rintro e z2 ⟨rfl, h1⟩
  go_wp2_with fail
  exact bodyPost_end (results_none rfl _ _ _) rfl ⟨rfl, h1⟩
theorem num_calls (B g : Nat) (o : OutS) (n : Nat) (h2 : n < 18446744073709551616) (w : World) (h : OutAt B g o w) (hBw : B ≤ w.heap.size) :
    Calls Try.prog 42 #[.pointer (some ⟨g, 0, none⟩), .int .u64 n] w fun e w' => e = .returned (.tuple #[]) ∧ OutAt B g (o.put (wideEnc 0 n)) w' ∧ Below B w w' := by
  refine num_gen _ (fun w' => OutAt B g (o.put (wideEnc 0 n)) w' ∧ Below B w w') n w fun z hz => ?_
  refine (wide_calls B g o 0 n (by omega) h2 z (h.keep hz) (Nat.le_trans hBw hz.size)).mono ?_
  rintro e w' ⟨rfl, h3, h4⟩
  exact ⟨rfl, h3, (hz.mono hBw).trans h4⟩
theorem num_nil (n : Nat) (h2 : n < 18446744073709551616) (w : World) :
    Calls Try.prog 42 #[.pointer none, .int .u64 n] w fun e w' => e = .returned (.tuple #[]) ∧ Below w.heap.size w w' := by
  refine num_gen _ (fun w' => Below w.heap.size w w') n w fun z hz => ?_
  refine (wide_nil 0 n (by omega) h2 z).mono ?_
  rintro e w' ⟨rfl, h4⟩
  exact ⟨rfl, hz.trans (h4.mono hz.size)⟩
/-- A truth's byte. -/
def flagB (b : Bool) : UInt8 := if b then 1 else 0
set_option maxHeartbeats 4000000 in
set_option maxRecDepth 100000 in
theorem flag_gen (p : Value) (Y : World → Prop) (b : Bool) (w : World)
    (hw : Calls Try.prog 44 #[p, .int .u8 (flagB b).toNat] w fun e w' => e = .returned (.tuple #[]) ∧ Y w') :
    Calls Try.prog 46 #[p, .bool b] w fun e w' => e = .returned (.tuple #[]) ∧ Y w' := by
  cases b with
  | true =>
    have HW := Aside0.mk (show Calls Try.prog 44 #[p, .int .u8 1] w fun e w' => e = .returned (.tuple #[]) ∧ Y w' from hw)
    clear hw
    go_enter Try.func46, Try.ntmps46
    go_wp2_with fail
    refine HW.out.mono ?_
    rintro e z2 ⟨rfl, h1⟩
    go_wp2_with fail
    exact bodyPost_end (results_none rfl _ _ _) rfl ⟨rfl, h1⟩
  | false =>
    have HW := Aside0.mk (show Calls Try.prog 44 #[p, .int .u8 0] w fun e w' => e = .returned (.tuple #[]) ∧ Y w' from hw)
    clear hw
    go_enter Try.func46, Try.ntmps46
    go_wp2_with fail
    refine HW.out.mono ?_
    rintro e z2 ⟨rfl, h1⟩
    go_wp2_with fail
    exact bodyPost_end (results_none rfl _ _ _) rfl ⟨rfl, h1⟩
/-- What is held, as a text. -/
theorem OutAt.conv {B g : Nat} {o : OutS} {w : World} (h : OutAt B g o w) : ∃ v, w.heap[g]? = some (.cells #[v, .bool o.long] 42 (0, 0)) ∧ (convert 40 9 v).run Try.prog w = .ok (.string o.b) w := by
  obtain ⟨_, _, v, hb, hown, _⟩ := h
  refine ⟨v, hb, ?_⟩
  rcases hown.2 with ⟨rfl, h0⟩ | ⟨k, cap, cur, rfl, _⟩
  · have e : o.b = ⟨#[]⟩ := by
      apply ByteArray.ext
      exact Array.eq_empty_of_size_eq_zero h0
    rw [e]
    exact Lib.run_convert_nil_bytes w 40 9 5 0 Try.underlying40 Try.underlying5 Try.underlying9
  · refine Lib.run_convert_whole w 40 5 9 Try.underlying40 Try.underlying5 Try.underlying9 k 0 o.b (fun j hj => ?_) cap
    have hc := hown.cells (g := k) rfl j (.int .u8 (o.b[j].toNat : Int)) (by
      have : o.b.data.toList[j]? = some o.b[j] := byte_at o.b j hj
      simp [Lib.strCells, this])
    rw [Nat.zero_add]
    by_cases h0 : j = 0
    · subst h0; simpa [Addr.add] using hc
    · simpa [Addr.add, h0] using hc
end Go.Proofs.Ytdjpcogkpnemlaa.Oct
