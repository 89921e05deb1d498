/- The walk of the law BlockRounds: whatever the state, the round and the word, it answers true. -/
import Derived.Test.YtobgcjfelegpkaaDoorRefA
import Derived.Test.YtobgcjfelegpkaaDoorTl
import Derived.Test.YtobgcjfelegpkaaDoorLaidA
namespace Go.Proofs.YtobgcjfelegpkaaDoor.Blk
open Go.RowKit Go.Proofs.YtobgcjfelegpkaaDoor.PBw Go.Proofs.YtobgcjfelegpkaaDoor.GivA Go.Proofs.YtobgcjfelegpkaaDoorW.PrintWords Go.Proofs.YtobgcjfelegpkaaDoorW.PrintLast Go.Proofs.YtobgcjfelegpkaaDoorW.PrintMore Go.Proofs.Sp Go.Proofs.YtobgcjfelegpkaaDoor.Pure
set_option linter.unusedVariables false
set_option linter.unusedSimpArgs false
attribute [local go_sem high] EqA.eqSt EqA.eqAr
theorem firstS_calls (w : World) : Calls Tryd.prog 27 #[] w fun e w' => e = .returned (stv st0) ∧ Below w.heap.size w w' :=
  (block_First.calls _ _ _ _ _ _ _ _ w rfl).mono fun e w' ⟨he, hB⟩ => ⟨he, hB⟩
theorem constB_calls (a : Int) (w : World) (hT : Tab w) : Calls Tryd.prog 25 #[.int .i64 a] w fun e w' => e = .returned (.int .u32 (wd (kw a))) ∧ Below w.heap.size w w' := by
  rw [wd_kw]
  exact (constant_same a w hT).mono fun e w' ⟨he, hw⟩ => ⟨he, hw ▸ Below.refl _ _⟩
theorem unround_rnd (s : St) (k : Int) (x : W32) (w : World) (hT : Tab w) :
    Calls Tryd.prog 24 #[stv (rnd s (kw k) x), .int .i64 k, .int .u32 (wd x)] w fun e w' => e = .returned (stv s) ∧ Below w.heap.size w w' := by
  have h := unround_calls (rnd s (kw k) x) k x w hT
  rw [unrnd_rnd] at h
  exact h
set_option maxHeartbeats 4000000 in
set_option maxRecDepth 100000 in
theorem rounds_law (s : St) (k : Int) (x : W32) (w : World) (hT : Tab w) :
    Calls Tryd.prog 3 #[stv s, .int .i64 k, .int .u32 (wd x)] w fun e w' => e = .returned (.bool true) ∧ Below w.heap.size w w' := by
  have HT := Aside0.mk hT
  clear hT
  have HR := Aside0.mk (refround_calls s k x)
  have HU := Aside0.mk (unround_rnd s k x)
  have HQ := Aside0.mk (round_calls s k x)
  have HF := Aside0.mk firstS_calls
  have HG := Aside0.mk reffirst_calls
  have HS := Aside0.mk start_calls
  generalize hr : rnd s (kw k) x = r at *
  unfold stv
  unfold stv at HR HU HQ HF HG HS
  go_enter Tryd.func3, Tryd.ntmps3
  go_wp2_with fail
  refine (HR.out _).mono ?_
  rintro e w1 ⟨rfl, hb1⟩
  have g0 := Aside0.mk (blk_below (blk_new w (.cells (stc s) 24)) hb1)
  have B1 := Aside0.mk ((below_alloc (Below.refl _ w) (.cells (stc s) 24)).trans (hb1.mono (below_alloc (Below.refl _ w) (.cells (stc s) 24)).size))
  clear hb1
  go_wp2_with fail
  have h0 : (w1.alloc (.cells (stc r) 23)).heap[w.heap.size]? = some (.cells (stc s) 24 (0, 0)) := blk_alloc g0.out _
  have h1 : (w1.alloc (.cells (stc r) 23)).heap[w1.heap.size]? = some (.cells (stc r) 23 (0, 0)) := blk_new w1 _
  have hx : Below w.heap.size w (w1.alloc (.cells (stc r) 23)) := below_alloc B1.out _
  obtain ⟨W, hW⟩ : ∃ W, W = w1.alloc (.cells (stc r) 23) := ⟨_, rfl⟩
  have hW' : (w1.alloc (.cells #[.int .u32 (wd r.a), .int .u32 (wd r.b), .int .u32 (wd r.c), .int .u32 (wd r.d), .int .u32 (wd r.e), .int .u32 (wd r.f), .int .u32 (wd r.g), .int .u32 (wd r.h)] 23)) = W := hW.symm
  rw [hW']
  rw [← hW] at h0 h1 hx
  have L0 := Made.Later.blk (N := W.heap.size) h0 (blk_lt h0)
  have L1 := Made.Later.blk (N := W.heap.size) h1 (blk_lt h1)
  have c0 : ∀ (z : Made.Later W.heap.size W) j, z.world.cell? ⟨w.heap.size, j, none⟩ = #[Value.int .u32 (wd s.a), .int .u32 (wd s.b), .int .u32 (wd s.c), .int .u32 (wd s.d), .int .u32 (wd s.e), .int .u32 (wd s.f), .int .u32 (wd s.g), .int .u32 (wd s.h)][j]? := fun z => stcT_cell (L0 z)
  have c1 : ∀ (z : Made.Later W.heap.size W) j, z.world.cell? ⟨w1.heap.size, j, none⟩ = #[Value.int .u32 (wd r.a), .int .u32 (wd r.b), .int .u32 (wd r.c), .int .u32 (wd r.d), .int .u32 (wd r.e), .int .u32 (wd r.f), .int .u32 (wd r.g), .int .u32 (wd r.h)][j]? := fun z => stcT_cell (L1 z)
  have HTZ := Aside0.mk (fun (z : Made.Later W.heap.size W) => (HT.out.keep (hx.trans (z.below.mono hx.size))))
  have HX := Aside0.mk hx
  clear hW hW' L0 L1 h0 h1 hx hr
  refine Made.region_made W.heap.size (by kernel_rfl) (by kernel_rfl) ?_
  repeat (go_big_quiet_step ((first
    | (go_at_call 23; exact Made.of_below (Nat.le_refl _) (HQ.out _ (HTZ.out _)))
    | (go_at_call 24; exact Made.of_below (Nat.le_refl _) (HU.out _ (HTZ.out _)))
    | (go_at_call 25; exact Made.of_below (Nat.le_refl _) (constB_calls _ _ (HTZ.out _)))
    | (go_at_call 26; exact Made.of_below (Nat.le_refl _) (refconst_calls _ _))
    | (go_at_call 27; exact Made.of_below (Nat.le_refl _) (HF.out _))
    | (go_at_call 28; exact Made.of_below (Nat.le_refl _) (HG.out _))
    | (go_at_call 29; exact Made.of_below (Nat.le_refl _) (HS.out _)))))
  refine wpQuiet_nil ?_
  rintro _ ⟨z, rfl⟩
  have HZ := Aside0.mk (HX.out.trans (z.below.mono HX.out.size))
  clear c0 c1
  generalize z.world = W3 at *
  go_wp2_with fail
  go_ret
  exact ⟨rfl, HZ.out⟩
theorem rounds_row (s : St) (k : Int) (_ : (Lit.int .i64 k).wf = true) (x : Int) (hx : (Lit.int .u32 x).wf = true) (w : World) (hT : Tab w) :
    Calls Tryd.prog 3 #[stv s, .int .i64 k, .int .u32 x] w fun e w' => e = .returned (.bool true) ∧ Below w.heap.size w w' := by
  obtain ⟨x, rfl⟩ := Laid.word_of hx
  exact rounds_law s k x w hT
end Go.Proofs.YtobgcjfelegpkaaDoor.Blk
