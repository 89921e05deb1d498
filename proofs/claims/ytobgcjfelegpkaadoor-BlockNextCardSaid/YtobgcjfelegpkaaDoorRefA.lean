/- Contracts of the reference's First, Start and Round. -/
import Derived.Test.YtobgcjfelegpkaaDoorBlk
import Derived.Test.YtobgcjfelegpkaaDoorCst
import Derived.Test.YtobgcjfelegpkaaDoorTl
namespace Go.Proofs.YtobgcjfelegpkaaDoor.Blk
open Go.RowKit Go.Proofs.YtobgcjfelegpkaaDoor.PBw Go.Proofs.YtobgcjfelegpkaaDoor.GivA Go.Proofs.YtobgcjfelegpkaaDoorW.PrintWords Go.Proofs.YtobgcjfelegpkaaDoorW.PrintLast Go.Proofs.YtobgcjfelegpkaaDoorW.PrintMore Go.Proofs.Sp Go.Proofs.YtobgcjfelegpkaaDoor.Pure
set_option linter.unusedVariables false
set_option linter.unusedSimpArgs false

theorem start_calls (w : World) : Calls Tryd.prog 29 #[] w fun e w' => e = .returned (stv st0) ∧ Below w.heap.size w w' :=
  (paymasterref04_Start.calls _ _ _ _ _ _ _ _ w rfl).mono fun e w' ⟨he, hB⟩ => ⟨he, hB⟩
theorem refconst_calls (a : Int) (w : World) : Calls Tryd.prog 26 #[.int .i64 a] w fun e w' => e = .returned (.int .u32 (wd (kw a))) ∧ Below w.heap.size w w' := by
  rw [wd_kw]
  exact paymasterref04_Constant.calls 8001 a _ w (const_ref a)
def pr8 (t : Nat) : Int := [2, 3, 5, 7, 11, 13, 17, 19].getD t 0
theorem prime_at : ∀ t : Nat, t < 8 → paymasterref04_Prime.f 8000 (t : Int) = some (pr8 t)
  | 0, _ => prime_0
  | 1, _ => prime_1
  | 2, _ => prime_2
  | 3, _ => prime_3
  | 4, _ => prime_4
  | 5, _ => prime_5
  | 6, _ => prime_6
  | 7, _ => prime_7
  | n + 8, h => absurd h (by omega)
theorem root_at : ∀ t : Nat, t < 8 → paymasterref04_root.f 300 (pr8 t) 2 = some (wd (St.at st0 t))
  | 0, _ => root_2_2
  | 1, _ => root_2_3
  | 2, _ => root_2_5
  | 3, _ => root_2_7
  | 4, _ => root_2_11
  | 5, _ => root_2_13
  | 6, _ => root_2_17
  | 7, _ => root_2_19
  | n + 8, h => absurd h (by omega)
theorem prime_calls (t : Nat) (h : t < 8) (w : World) : Calls Tryd.prog 83 #[.int .i64 (t : Int)] w fun e w' => e = .returned (.int .u64 (pr8 t)) ∧ ∃ n, w' = w.drewN n :=
  (paymasterref04_Prime.calls 8000 _ _ w (prime_at t h)).mono fun e w' ⟨he, hd⟩ => ⟨he, hd.out⟩
theorem root_calls (t : Nat) (h : t < 8) (w : World) : Calls Tryd.prog 82 #[.int .u64 (pr8 t), .int .i64 2] w fun e w' => e = .returned (.int .u32 (wd (St.at st0 t))) ∧ Below w.heap.size w w' :=
  paymasterref04_root.calls 300 _ _ _ w (root_at t h)
def firSt (t : Nat) : St := ⟨if 0 < t then st0.a else 0, if 1 < t then st0.b else 0, if 2 < t then st0.c else 0, if 3 < t then st0.d else 0, if 4 < t then st0.e else 0, if 5 < t then st0.f else 0, if 6 < t then st0.g else 0, if 7 < t then st0.h else 0⟩
theorem firSt_set (t : Nat) (ht : t < 8) : (stc (firSt t)).setIfInBounds t (.int .u32 (wd (St.at st0 t))) = stc (firSt (t + 1)) := by
  match t, ht with
  | 0, _ => rfl
  | 1, _ => rfl
  | 2, _ => rfl
  | 3, _ => rfl
  | 4, _ => rfl
  | 5, _ => rfl
  | 6, _ => rfl
  | 7, _ => rfl
theorem firSt_end : firSt 8 = st0 := rfl
theorem stcT_at {W : World} {B T : Nat} {s : St} (h : W.heap[B]? = some (.cells (stc s) T (0, 0))) (t : Nat) (ht : t < 8) : W.cell? ⟨B, t, none⟩ = some (.int .u32 (wd (St.at s t))) := by
  rw [blk_cell h t]
  match t, ht with
  | 0, _ => rfl
  | 1, _ => rfl
  | 2, _ => rfl
  | 3, _ => rfl
  | 4, _ => rfl
  | 5, _ => rfl
  | 6, _ => rfl
  | 7, _ => rfl
set_option maxHeartbeats 2000000 in
set_option maxRecDepth 100000 in
theorem reffirst_calls (w : World) : Calls Tryd.prog 28 #[] w fun e w' => e = .returned (stv st0) ∧ Below w.heap.size w w' := by
  go_enter Tryd.func28, Tryd.ntmps28
  go_wp2_with fail
  have B0 : ((w.alloc (.cells (stc zeroSt) 23)).alloc (.cells (stc zeroSt) 23)).heap[w.heap.size]? = some (.cells (stc zeroSt) 23 (0, 0)) := blk_alloc (blk_new w _) _
  have B1 : ((w.alloc (.cells (stc zeroSt) 23)).alloc (.cells (stc zeroSt) 23)).heap[w.heap.size + 1]? = some (.cells (stc (firSt 0)) 23 (0, 0)) := by
    have := blk_new (w.alloc (.cells (stc zeroSt) 23)) (.cells (stc zeroSt) 23)
    rw [World.size_alloc] at this
    exact this
  have H0 := Aside0.mk B0
  have H1 := Aside0.mk B1
  clear B0 B1
  go_loopg [2] 8 (fun k i wr => ∃ t : Nat, t + k = 8 ∧ i = .int .i64 t ∧ wr.heap[w.heap.size]? = some (.cells (stc zeroSt) 23 (0, 0)) ∧ wr.heap[w.heap.size + 1]? = some (.cells (stc (firSt t)) 23 (0, 0)) ∧ Below w.heap.size w wr)
  case atStart => exact ⟨0, rfl, rfl, H0.out, H1.out, (by (with_reducible repeat (first | exact Below.refl _ _ | apply below_alloc)))⟩
  case round =>
    obtain ⟨t, ht, rfl, hb0, hb1, hx⟩ := hrel
    have HX := Aside0.mk hx
    have HB0 := Aside0.mk hb0
    have HB1 := Aside0.mk hb1
    clear hb0 hb1
    by_cases hlt : t < 8
    · have l1 : (t : Int) < 8 := by omega
      clear hx
      have HP := Aside0.mk (prime_calls t hlt)
      have HR := Aside0.mk (root_calls t hlt)
      generalize hp : pr8 t = p at *
      generalize hq : St.at st0 t = q at *
      have Hq := Aside0.mk hq
      clear hp hq
      go_wp2_with fail
      refine (HP.out _).mono ?_
      rintro e w1 ⟨rfl, n1, rfl⟩
      go_wp2_with fail
      refine (HR.out _).mono ?_
      rintro e w2 ⟨rfl, hb2⟩
      have HB2 := Aside0.mk hb2
      have h1 := blk_below (blk_drewN HB1.out n1) hb2
      have f1 := stcT_free h1
      have c1 := stcT_at h1 t hlt
      have G1 := Aside0.mk h1
      have G0 := Aside0.mk (blk_below (blk_drewN HB0.out n1) hb2)
      clear h1 hb2
      go_wp2_with fail
      go_roundg (gk - 1)
      case measure => omega
      case rel =>
        refine ⟨t + 1, by omega, by go_num, ?_, ?_, ?_⟩
        · exact blk_far G0.out (p := ⟨w.heap.size + 1, t, none⟩) (by simp) _
        · rw [← Hq.out]
          exact blk_put G1.out t _ (firSt_set t hlt)
        · exact (HX.out.trans ((pw_below_drewN (Below.refl _ _) n1).trans HB2.out |>.mono HX.out.size)).setCell (p := ⟨w.heap.size + 1, t, none⟩) (Nat.le_succ _) _
    · obtain rfl : t = 8 := by omega
      have c1 := stcT_cell HB1.out
      have c0 := stcT_cell HB0.out
      have f0 := stcT_free HB0.out
      clear hx hlt
      go_wp2_with fail
      refine bodyPost_ret (v := stv st0) ?_ rfl ⟨rfl, ?_⟩
      · unfold stv
        simp [results, Tryd.results28, go_sem, c0]
        exact ⟨rfl, rfl, rfl, rfl, rfl, rfl, rfl, rfl⟩
      · exact below8g _ _ _ _ _ _ _ _ HX.out (by omega)

theorem refround_of {w : World} {W : World} (v0 v1 v2 v3 v4 v5 v6 v7 : Value) (h : Below w.heap.size w W) {B : Nat} (hB : w.heap.size ≤ B) : Below w.heap.size w ((((((((W.setCell ⟨B, 0, none⟩ v0).setCell ⟨B, 1, none⟩ v1).setCell ⟨B, 2, none⟩ v2).setCell ⟨B, 3, none⟩ v3).setCell ⟨B, 4, none⟩ v4).setCell ⟨B, 5, none⟩ v5).setCell ⟨B, 6, none⟩ v6).setCell ⟨B, 7, none⟩ v7) := below8g _ _ _ _ _ _ _ _ h hB
set_option maxHeartbeats 2000000 in
set_option maxRecDepth 100000 in
theorem refround_calls (s : St) (k : Int) (x : W32) (w : World) :
    Calls Tryd.prog 22 #[stv s, .int .i64 k, .int .u32 (wd x)] w fun e w' => e = .returned (stv (rnd s (kw k) x)) ∧ Below w.heap.size w w' := by
  unfold stv
  go_enter Tryd.func22, Tryd.ntmps22
  go_wp2_with fail
  have h0 : ((w.alloc (.cells (stc s) 23)).alloc (.cells (stc zeroSt) 23)).heap[w.heap.size]? = some (.cells (stc s) 23 (0, 0)) := blk_alloc (blk_new w _) _
  have h1 : ((w.alloc (.cells (stc s) 23)).alloc (.cells (stc zeroSt) 23)).heap[w.heap.size + 1]? = some (.cells (stc zeroSt) 23 (0, 0)) := by
    have := blk_new (w.alloc (.cells (stc s) 23)) (.cells (stc zeroSt) 23)
    rw [World.size_alloc] at this
    exact this
  have hx : Below w.heap.size w ((w.alloc (.cells (stc s) 23)).alloc (.cells (stc zeroSt) 23)) := by (with_reducible repeat (first | exact Below.refl _ _ | apply below_alloc))
  have hz : ((w.alloc (.cells (stc s) 23)).alloc (.cells (stc zeroSt) 23)).heap.size = w.heap.size + 2 := by simp
  obtain ⟨W, hW⟩ : ∃ W, W = (w.alloc (.cells (stc s) 23)).alloc (.cells (stc zeroSt) 23) := ⟨_, rfl⟩
  have hW' : ((w.alloc (.cells #[.int .u32 (wd s.a), .int .u32 (wd s.b), .int .u32 (wd s.c), .int .u32 (wd s.d), .int .u32 (wd s.e), .int .u32 (wd s.f), .int .u32 (wd s.g), .int .u32 (wd s.h)] 23)).alloc (.cells #[.int .u32 0, .int .u32 0, .int .u32 0, .int .u32 0, .int .u32 0, .int .u32 0, .int .u32 0, .int .u32 0] 23)) = W := hW.symm
  rw [hW']
  rw [← hW] at h0 h1 hx hz
  have hN : w.heap.size + 2 ≤ W.heap.size := by omega
  have L0 := Made.Later.blk (N := w.heap.size + 2) h0 (by omega)
  have L1 := Made.Later.blk (N := w.heap.size + 2) h1 (by omega)
  have c0 : ∀ (z : Made.Later (w.heap.size + 2) W) j, z.world.cell? ⟨w.heap.size, j, none⟩ = #[Value.int .u32 (wd s.a), .int .u32 (wd s.b), .int .u32 (wd s.c), .int .u32 (wd s.d), .int .u32 (wd s.e), .int .u32 (wd s.f), .int .u32 (wd s.g), .int .u32 (wd s.h)][j]? := fun z => stcT_cell (L0 z)
  have HL1 := Aside0.mk L1
  have HX := Aside0.mk hx
  clear hW hW' L0 L1 h0 h1 hx hz
  refine Made.region_made_tail (w.heap.size + 2) 5 (by kernel_rfl) (by kernel_rfl) ?_
  simp only [List.take_succ_cons, List.take_zero, List.drop_succ_cons, List.drop_zero]
  repeat (go_big_quiet_step ((first
    | (go_at_call 26; exact Made.of_below hN (refconst_calls _ _))
    | (go_at_call 80; exact Made.of_below hN (turned_calls _ _ _ _)))))
  refine wpQuiet_nil ?_
  rintro _ ⟨z, rfl⟩
  have hc := stcT_cell (HL1.out z)
  have hf := stcT_free (HL1.out z)
  have HZ := Aside0.mk (HX.out.trans (z.below.mono (Nat.le_add_right _ _)))
  clear HL1 HX c0
  generalize z.world = W3 at *
  simp only [stv]
  go_wp2_with fail
  refine bodyPost_ret (v := stv (rnd s (kw k) x)) ?_ rfl ⟨rfl, ?_⟩
  · unfold stv
    simp [results, Tryd.results22, go_sem, hc]
  · exact below8g _ _ _ _ _ _ _ _ HZ.out (by omega)
end Go.Proofs.YtobgcjfelegpkaaDoor.Blk
