/- The reader octet.In: what it holds, and what each of its methods does. -/
import Derived.Test.YtdjpcogkpnemlaaOutC
namespace Go.Proofs.Ytdjpcogkpnemlaa.Oct
open Go.RowKit Go.Proofs.YtdjpcogkpnemlaaW.PrintWords
set_option linter.unusedVariables false
set_option maxRecDepth 100000
set_option maxHeartbeats 4000000
set_option linter.unusedSimpArgs false
theorem spoilt_nil (w : World) : Calls Try.prog 23 #[.pointer none] w fun e w' => e = .returned (.bool true) ∧ w' = w := by
  go_enter Try.func23, Try.ntmps23
  go_wp2_with fail
  go_ret
  exact ⟨rfl, rfl⟩
theorem spoil_nil (w : World) : Calls Try.prog 27 #[.pointer none] w fun e w' => e = .returned (.tuple #[]) ∧ w' = w := by
  go_enter Try.func27, Try.ntmps27
  go_wp2_with fail
  exact bodyPost_end (results_none rfl _ _ _) rfl ⟨rfl, rfl⟩
theorem rest_nil (w : World) : Calls Try.prog 24 #[.pointer none] w fun e w' => e = .returned (.int .i64 0) ∧ w' = w := by
  go_enter Try.func24, Try.ntmps24
  go_wp2_with (go_at_call 23; refine (spoilt_nil _).mono ?_; rintro e w' ⟨rfl, rfl⟩)
  go_ret
  exact ⟨rfl, rfl⟩
theorem close_nil (w : World) : Calls Try.prog 25 #[.pointer none] w fun e w' => e = .returned (.int .i64 1) ∧ w' = w := by
  go_enter Try.func25, Try.ntmps25
  go_wp2_with fail
  go_ret
  exact ⟨rfl, rfl⟩
theorem taker_calls (p : Option Addr) (w : World) : Calls Try.prog 53 #[.pointer p] w fun e w' => e = .returned (.func (.func 63) #[] #[.pointer (some ⟨w.heap.size, 0, none⟩)]) ∧ w' = w.alloc (.cells #[.pointer p] 54) := by
  go_enter Try.func53, Try.ntmps53
  go_wp2_with fail
  go_ret
  exact ⟨rfl, rfl⟩
theorem take_nil (n : Int) (A : Nat) (w : World) (h : w.heap[A]? = some (.cells #[.pointer none] 54 (0, 0))) :
    Calls Try.prog 63 #[.int .u64 n, .pointer (some ⟨A, 0, none⟩)] w fun e w' => e = .returned (.string ⟨#[]⟩) ∧ w' = w := by
  have c0 := blk_cell h 0
  go_enter Try.func63, Try.ntmps63
  go_wp2_with (go_at_call 23; refine (spoilt_nil _).mono ?_; rintro e w' ⟨rfl, rfl⟩)
  go_ret
  exact ⟨rfl, rfl⟩
theorem takes_nil (n : Int) (w : World) : Calls Try.prog 63 #[.int .u64 n, .pointer (some ⟨w.heap.size, 0, none⟩)] (w.alloc (.cells #[.pointer none] 54)) fun e w' => e = .returned (.string ⟨#[]⟩) ∧ Below w.heap.size w w' := by
  refine (take_nil n w.heap.size _ (blk_new _ _)).mono ?_
  rintro e w' ⟨rfl, rfl⟩
  exact ⟨rfl, (Below.refl _ _).alloc (Nat.le_refl _) _⟩
theorem byte_in_nil (w : World) : Calls Try.prog 28 #[.pointer none] w fun e w' => e = .returned (.int .u8 0) ∧ Below w.heap.size w w' := by
  have HT := Aside0.mk (takes_nil 1 w)
  go_enter Try.func28, Try.ntmps28
  go_wp2_with (go_at_call 53; refine (taker_calls _ _).mono ?_; rintro e w' ⟨rfl, rfl⟩)
  refine HT.out.mono ?_
  rintro e w1 ⟨rfl, hb⟩
  go_wp2_with fail
  go_ret
  exact ⟨rfl, hb⟩
set_option maxHeartbeats 4000000 in
set_option maxRecDepth 100000 in
theorem number_nil (most : Nat) (w : World) : Calls Try.prog 54 #[.pointer none, .int .u8 most] w fun e w' => e = .returned (.agg #[.int .u64 0, .int .u64 0]) ∧ Below w.heap.size w w' := by
  go_enter Try.func54, Try.ntmps54
  go_wp2_with (first
    | (go_at_call 28; refine (byte_in_nil _).mono ?_; rintro e w1 ⟨rfl, hb1⟩)
    | (go_at_call 53; refine (taker_calls _ _).mono ?_; rintro e w' ⟨rfl, rfl⟩))
  refine (takes_nil 0 w1).mono ?_
  rintro e w2 ⟨rfl, hb2⟩
  have g2 := blk_below (blk_below (blk_new w (.cells #[.int .u64 0, .int .u64 0] 29)) hb1) hb2
  have c0 := blk_cell g2 0
  have c1 := blk_cell g2 1
  have f0 := blk_frozen g2 0
  have f1 := blk_frozen g2 1
  have hb0 : Below w.heap.size w (w.alloc (.cells #[.int .u64 0, .int .u64 0] 29)) := (Below.refl _ _).alloc (Nat.le_refl _) _
  have hb3 := (hb0.trans (hb1.mono hb0.size)).trans (hb2.mono (Nat.le_trans hb0.size hb1.size))
  have G2 := Aside0.mk g2
  have HB := Aside0.mk hb3
  clear g2 hb0 hb1 hb2 hb3
  go_wp2_with fail
  refine bodyPost_ret (results_cell_row rfl _ _ w.heap.size 29 #[.int .u64 0, .int .u64 0] (0, 0) _ rfl ?_ Try.underlying29 rfl (by kernel_rfl)) rfl ⟨rfl, ?_⟩
  · exact blk_put (blk_put G2.out 0 _ rfl) 1 _ rfl
  · exact (HB.out.setCell (by simp) _).setCell (by simp) _
set_option maxHeartbeats 4000000 in
set_option maxRecDepth 100000 in
theorem wide_in_nil (w : World) : Calls Try.prog 30 #[.pointer none] w fun e w' => e = .returned (.agg #[.int .u64 0, .int .u64 0]) ∧ Below w.heap.size w w' := by
  have HN := Aside0.mk (number_nil 16)
  have hb0 : Below w.heap.size w (w.alloc (.cells #[.int .u64 0, .int .u64 0] 29)) := (Below.refl _ _).alloc (Nat.le_refl _) _
  have H0 := Aside0.mk hb0
  clear hb0
  go_enter Try.func30, Try.ntmps30
  go_wp2_with fail
  refine (HN.out _).mono ?_
  rintro e w1 ⟨rfl, hb⟩
  have g1 := blk_below (blk_new w (.cells #[.int .u64 0, .int .u64 0] 29)) hb
  have c0 := blk_cell g1 0
  have c1 := blk_cell g1 1
  have f0 := blk_frozen g1 0
  have f1 := blk_frozen g1 1
  have G1 := Aside0.mk g1
  have HB := Aside0.mk (H0.out.trans (hb.mono H0.out.size))
  clear g1 hb
  go_wp2_with fail
  refine bodyPost_ret (results_cell_row rfl _ _ w.heap.size 29 #[.int .u64 0, .int .u64 0] (0, 0) _ rfl ?_ Try.underlying29 rfl (by kernel_rfl)) rfl ⟨rfl, ?_⟩
  · exact blk_put (blk_put G1.out 0 _ rfl) 1 _ rfl
  · exact (HB.out.setCell (by simp) _).setCell (by simp) _
theorem field_lo (a b : Int) (w : World) : (Instr.field 29 (.agg #[.int .u64 a, .int .u64 b]) 1).run Try.prog w = .ok (.int .u64 b) w := by
  kernel_rfl
theorem num_in_nil (w : World) : Calls Try.prog 29 #[.pointer none] w fun e w' => e = .returned (.int .u64 0) ∧ Below w.heap.size w w' := by
  have HN := Aside0.mk (number_nil 8 w)
  have HF := field_lo 0 0
  go_enter Try.func29, Try.ntmps29
  go_wp2_with fail
  refine HN.out.mono ?_
  rintro e w1 ⟨rfl, hb⟩
  go_wp2_with fail
  go_ret
  exact ⟨rfl, hb⟩
theorem flag_in_nil (w : World) : Calls Try.prog 31 #[.pointer none] w fun e w' => e = .returned (.bool false) ∧ Below w.heap.size w w' := by
  have HN := Aside0.mk (byte_in_nil w)
  go_enter Try.func31, Try.ntmps31
  go_wp2_with fail
  refine HN.out.mono ?_
  rintro e w1 ⟨rfl, hb⟩
  go_wp2_with fail
  go_ret
  exact ⟨rfl, hb⟩
set_option maxHeartbeats 4000000 in
set_option maxRecDepth 100000 in
theorem text_in_nil (most : Nat) (w : World) : Calls Try.prog 32 #[.pointer none, .int .i64 most] w fun e w' => e = .returned (.string ⟨#[]⟩) ∧ Below w.heap.size w w' := by
  have HN := Aside0.mk (num_in_nil w)
  go_enter Try.func32, Try.ntmps32
  go_wp2_with fail
  refine HN.out.mono ?_
  rintro e w1 ⟨rfl, hb⟩
  have hb9 := hb
  go_wp2_with (first
    | (go_at_call 53; refine (taker_calls _ _).mono ?_; rintro e w' ⟨rfl, rfl⟩)
    | (go_at_call 27; refine (spoil_nil _).mono ?_; rintro e w' ⟨rfl, rfl⟩))
  all_goals
    refine (takes_nil 0 w1).mono ?_
    rintro e w2 ⟨rfl, hb2⟩
    go_wp2_with fail
    go_ret
    exact ⟨rfl, hb.trans (hb2.mono hb.size)⟩
end Go.Proofs.Ytdjpcogkpnemlaa.Oct
