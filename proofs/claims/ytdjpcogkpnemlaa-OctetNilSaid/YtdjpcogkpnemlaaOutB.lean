/- The writer's other methods: a text, and all that was written; the law's own write of a thing. -/
import Derived.Test.YtdjpcogkpnemlaaOut
namespace Go.Proofs.Ytdjpcogkpnemlaa.Oct
open Go.RowKit Go.Proofs.YtdjpcogkpnemlaaW.PrintWords
set_option linter.unusedVariables false
set_option linter.unusedSimpArgs false
theorem out_new (w : World) : OutAt w.heap.size w.heap.size ⟨⟨#[]⟩, false⟩ (w.alloc (.cells #[.slice none 0 0, .bool false] 42)) :=
  ⟨Nat.le_refl _, by show 0 ≤ _; omega, .slice none 0 0, blk_new _ _, World.ownsRow_nil _ _ _ _, by simp [Value.ownBlock]⟩
theorem empty_put (s : ByteArray) (h : s.size ≤ 1048576) : (OutS.mk ⟨#[]⟩ false).put s = ⟨s, false⟩ := by
  unfold OutS.put
  rw [if_neg]
  · have : (⟨#[]⟩ : ByteArray) ++ s = s := by
      apply ByteArray.ext
      simp
    rw [this]
  · rintro (h1 | h1)
    · cases h1
    · have : (⟨#[]⟩ : ByteArray).size = 0 := rfl
      simp only [this] at h1
      omega
/-- A text's bytes. -/
def textEnc (s : ByteArray) : ByteArray := wideEnc 0 s.size ++ s
set_option maxHeartbeats 4000000 in
set_option maxRecDepth 100000 in
theorem text_calls (B g : Nat) (o : OutS) (s : ByteArray) (hs : s.size ≤ 35184372088832) (w : World) (h : OutAt B g o w) (hBw : B ≤ w.heap.size) :
    Calls Try.prog 16 #[.pointer (some ⟨g, 0, none⟩), .string s] w fun e w' => e = .returned (.tuple #[]) ∧ OutAt B g (o.put (textEnc s)) w' ∧ Below B w w' := by
  have ho := out_new w
  have hb0 : Below w.heap.size w (w.alloc (.cells #[.slice none 0 0, .bool false] 42)) := (Below.refl _ _).alloc (Nat.le_refl _) _
  have HN := Aside0.mk (num_calls w.heap.size w.heap.size ⟨⟨#[]⟩, false⟩ s.size (by omega) _ ho hb0.size)
  have HX := Aside0.mk hb0
  have HO := Aside0.mk h
  have hl := leastN_le 0 s.size (by omega) (by omega)
  have hsz := wideEnc_size 0 s.size hl
  have HE := Aside0.mk (empty_put (wideEnc 0 s.size) (by omega))
  have HS := Aside0.mk (show (wideEnc 0 s.size ++ s).size ≤ 70368744177664 by rw [ByteArray.size_append]; omega)
  have hsum : (wideEnc 0 s.size).size + s.size ≤ 70368744177664 := by omega
  clear h ho hb0 hsz hl
  unfold textEnc
  generalize wideEnc 0 s.size = enc at *
  go_enter Try.func16, Try.ntmps16
  go_wp2_with fail
  refine HN.out.mono ?_
  rintro e w1 ⟨rfl, h1, hb1⟩
  rw [HE.out] at h1
  obtain ⟨v, hv, hc⟩ := h1.conv
  have c0 := blk_cell hv 0
  have hb2 := HX.out.trans hb1
  have HP := Aside0.mk (put_calls B g o (enc ++ s) w1 (HO.out.keep hb2) HS.out (Nat.le_trans hBw hb2.size))
  have HZ := Aside0.mk (hb2.mono hBw)
  clear h1 hb1 hb2 hv
  go_wp2_with fail
  refine HP.out.mono ?_
  rintro e w2 ⟨rfl, h1, hb1⟩
  go_wp2_with fail
  exact bodyPost_end (results_none rfl _ _ _) rfl ⟨rfl, h1, HZ.out.trans hb1⟩
theorem text_nil (s : ByteArray) (w : World) : Calls Try.prog 16 #[.pointer none, .string s] w fun e w' => e = .returned (.tuple #[]) ∧ w' = w := by
  go_enter Try.func16, Try.ntmps16
  go_wp2_with fail
  exact bodyPost_ret (results_none rfl _ _ _) rfl ⟨rfl, rfl⟩
set_option maxHeartbeats 4000000 in
set_option maxRecDepth 100000 in
theorem done_calls (B g : Nat) (o : OutS) (w : World) (h : OutAt B g o w) :
    Calls Try.prog 20 #[.pointer (some ⟨g, 0, none⟩)] w fun e w' => e = .returned (.tuple #[.string (if o.long then ⟨#[]⟩ else o.b), .int .i64 (if o.long then 3 else 0)]) ∧ w' = w := by
  obtain ⟨v, hv, hc⟩ := h.conv
  have c0 := blk_cell hv 0
  have c1 := blk_cell hv 1
  cases hl : o.long with
  | true =>
    rw [hl] at c1
    go_enter Try.func20, Try.ntmps20
    go_wp2_with fail
    go_ret2
    exact ⟨rfl, rfl⟩
  | false =>
    rw [hl] at c1
    go_enter Try.func20, Try.ntmps20
    go_wp2_with fail
    go_ret2
    exact ⟨rfl, rfl⟩
theorem done_nil (w : World) :
    Calls Try.prog 20 #[.pointer none] w fun e w' => e = .returned (.tuple #[.string ⟨#[]⟩, .int .i64 1]) ∧ w' = w := by
  go_enter Try.func20, Try.ntmps20
  go_wp2_with fail
  go_ret2
  exact ⟨rfl, rfl⟩
end Go.Proofs.Ytdjpcogkpnemlaa.Oct
