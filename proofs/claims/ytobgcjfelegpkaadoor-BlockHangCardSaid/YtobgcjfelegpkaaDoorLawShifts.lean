/- The walk of the law BlockShifts: whatever the state, the round and the two words, it answers true. -/
import Derived.Test.YtobgcjfelegpkaaDoorAwake
import Derived.Test.YtobgcjfelegpkaaDoorRefA
import Derived.Test.YtobgcjfelegpkaaDoorTl
import Derived.Test.YtobgcjfelegpkaaDoorLaidA
namespace Go.Proofs.YtobgcjfelegpkaaDoor.Blk
open Go.RowKit Go.Proofs.YtobgcjfelegpkaaDoor.PBw Go.Proofs.YtobgcjfelegpkaaDoor.GivA Go.Proofs.YtobgcjfelegpkaaDoorW.PrintWords Go.Proofs.YtobgcjfelegpkaaDoorW.PrintLast Go.Proofs.YtobgcjfelegpkaaDoorW.PrintMore Go.Proofs.Sp Go.Proofs.YtobgcjfelegpkaaDoor.Pure
set_option linter.unusedVariables false
set_option linter.unusedSimpArgs false
attribute [local go_sem high] EqA.eqSt
theorem add_sub_both (x y z : W32) : x + z - (y + z) = x - y := by
  apply BitVec.eq_of_toNat_eq
  simp only [BitVec.toNat_sub, BitVec.toNat_add]
  have := x.isLt; have := y.isLt; have := z.isLt
  omega
theorem add_0 (x : W32) : x + 0 = x := BitVec.add_zero x
theorem sub_rnd (p q r x y : W32) : p + x + q - (p + y + q) = x - y := by
  have e1 : p + x + q = x + (p + q) := by ac_rfl
  have e2 : p + y + q = y + (p + q) := by ac_rfl
  rw [e1, e2]
  exact add_sub_both x y (p + q)
theorem rnd_diff_a (s : St) (k x y : W32) : (rnd s k x).a - (rnd s k y).a = x - y := by
  show tOf s k x + (bs0 s.a + maj s.a s.b s.c) - (tOf s k y + (bs0 s.a + maj s.a s.b s.c)) = x - y
  unfold tOf
  exact sub_rnd _ _ 0 x y
theorem rnd_diff_e (s : St) (k x y : W32) : (rnd s k x).e - (rnd s k y).e = x - y := by
  show s.d + tOf s k x - (s.d + tOf s k y) = x - y
  unfold tOf
  have e1 : ∀ z : W32, s.d + (s.h + (bs1 s.e + ch s.e s.f s.g) + k + z) = (s.d + (s.h + (bs1 s.e + ch s.e s.f s.g) + k)) + z + 0 := fun z => by rw [add_0]; ac_rfl
  rw [e1, e1]
  exact sub_rnd _ _ 0 x y
theorem rnd_at (s : St) (k x : W32) : ∀ t : Nat, 1 ≤ t → t < 8 → t ≠ 4 → St.at (rnd s k x) t = St.at s (t - 1)
  | 0, h, _, _ => absurd h (by decide)
  | 1, _, _, _ => rfl
  | 2, _, _, _ => rfl
  | 3, _, _, _ => rfl
  | 4, _, _, h => absurd rfl h
  | 5, _, _, _ => rfl
  | 6, _, _, _ => rfl
  | 7, _, _, _ => rfl
  | n + 8, _, h, _ => absurd h (by omega)
theorem kw_neg : kw (-1) = 0 := rfl
theorem rnd_const (s : St) (k x : W32) : rnd s 0 (x + k) = rnd s k x := by
  have e : tOf s 0 (x + k) = tOf s k x := by
    unfold tOf
    rw [add_0]
    ac_rfl
  unfold rnd
  rw [e]
theorem round_minus (s : St) (k : Int) (x : W32) (w : World) (hT : Tab w) :
    Calls Tryd.prog 23 #[stv s, .int .i64 (-1), .int .u32 ((wd x + wd (kw k)) % 4294967296)] w fun e w' => e = .returned (stv (rnd s (kw k) x)) ∧ Below w.heap.size w w' := by
  rw [wd_add]
  have h := round_calls s (-1) (x + kw k) w hT
  rw [kw_neg, rnd_const] at h
  exact h
attribute [local go_sem] Fresh.made Oper.quietAt Oper.quietUpon
def put8W (W : World) (B : Nat) (s : St) : World := ((((((((W.setCell ⟨B, 0, none⟩ (.int .u32 (wd s.a))).setCell ⟨B, 1, none⟩ (.int .u32 (wd s.b))).setCell ⟨B, 2, none⟩ (.int .u32 (wd s.c))).setCell ⟨B, 3, none⟩ (.int .u32 (wd s.d))).setCell ⟨B, 4, none⟩ (.int .u32 (wd s.e))).setCell ⟨B, 5, none⟩ (.int .u32 (wd s.f))).setCell ⟨B, 6, none⟩ (.int .u32 (wd s.g))).setCell ⟨B, 7, none⟩ (.int .u32 (wd s.h)))
theorem put8W_self {W : World} {B T : Nat} (s : St) {u0 u1 u2 u3 u4 u5 u6 u7 : Value} (h : W.heap[B]? = some (.cells #[u0, u1, u2, u3, u4, u5, u6, u7] T (0, 0))) : (put8W W B s).heap[B]? = some (.cells (stc s) T (0, 0)) :=
  put8g _ _ _ _ _ _ _ _ _ _ _ _ _ _ _ _ h
theorem put8W_below {w W : World} {N B : Nat} (s : St) (h : Below N w W) (hB : N ≤ B) : Below N w (put8W W B s) := below8g _ _ _ _ _ _ _ _ h hB
theorem far8 {W : World} {B C T : Nat} {cs : Array Value} (v0 v1 v2 v3 v4 v5 v6 v7 : Value) (h : W.heap[C]? = some (.cells cs T (0, 0))) (hne : C ≠ B) :
    ((((((((W.setCell ⟨B, 0, none⟩ v0).setCell ⟨B, 1, none⟩ v1).setCell ⟨B, 2, none⟩ v2).setCell ⟨B, 3, none⟩ v3).setCell ⟨B, 4, none⟩ v4).setCell ⟨B, 5, none⟩ v5).setCell ⟨B, 6, none⟩ v6).setCell ⟨B, 7, none⟩ v7).heap[C]? = some (.cells cs T (0, 0)) :=
  blk_far (blk_far (blk_far (blk_far (blk_far (blk_far (blk_far (blk_far h (p := ⟨B, 0, none⟩) hne _) (p := ⟨B, 1, none⟩) hne _) (p := ⟨B, 2, none⟩) hne _) (p := ⟨B, 3, none⟩) hne _) (p := ⟨B, 4, none⟩) hne _) (p := ⟨B, 5, none⟩) hne _) (p := ⟨B, 6, none⟩) hne _) (p := ⟨B, 7, none⟩) hne _
theorem put8W_far {W : World} {B C T : Nat} {cs : Array Value} (s : St) (h : W.heap[C]? = some (.cells cs T (0, 0))) (hne : C ≠ B) : (put8W W B s).heap[C]? = some (.cells cs T (0, 0)) := far8 _ _ _ _ _ _ _ _ h hne
theorem neq_of {x y d : W32} (h : x - y = d) {a b : W32} (hd : d = a - b) : ((wd x - wd y) % 4294967296 != (wd a - wd b) % 4294967296) = false := by
  rw [wd_sub, wd_sub, h, hd]
  simp
set_option maxHeartbeats 4000000 in
set_option maxRecDepth 100000 in
theorem shifts_law (s : St) (k : Int) (x y : W32) (w : World) (hT : Tab w) :
    Calls Tryd.prog 6 #[stv s, .int .i64 k, .int .u32 (wd x), .int .u32 (wd y)] w fun e w' => e = .returned (.bool true) ∧ Below w.heap.size w w' := by
  have HT := Aside0.mk hT
  clear hT
  have HA := Aside0.mk awake_calls
  have H1 := Aside0.mk (round_calls s k x)
  have H2 := Aside0.mk (round_calls s k y)
  have H3 := Aside0.mk (round_minus s k x)
  have HC := Aside0.mk (constK_calls k)
  have HE1 := Aside0.mk (rnd_at s (kw k) x)
  have HE2 := Aside0.mk (rnd_at s (kw k) y)
  have HD1 := Aside0.mk (rnd_diff_a s (kw k) x y)
  have HD2 := Aside0.mk (rnd_diff_e s (kw k) x y)
  generalize hra : rnd s (kw k) x = ra at *
  generalize hrb : rnd s (kw k) y = rb at *
  clear hra hrb
  unfold stv
  unfold stv at H1 H2 H3
  go_enter Tryd.func6, Tryd.ntmps6
  go_wp2_with fail
  have T0 := HT.out.keep (below_alloc (Below.refl _ w) (.cells (stc s) 24))
  refine (HA.out _ T0).mono ?_
  rintro e w1 ⟨rfl, hb1⟩
  have g0 := blk_below (blk_new w (.cells (stc s) 24)) hb1
  have hx : Below w.heap.size w w1 := ((below_alloc (Below.refl _ w) (.cells (stc s) 24)).trans (hb1.mono (below_alloc (Below.refl _ w) (.cells (stc s) 24)).size))
  clear hb1 T0
  go_wp2_with fail
  have L0 := Made.Later.blk (N := w1.heap.size) g0 (blk_lt g0)
  have c0 : ∀ (z : Made.Later w1.heap.size w1) j, z.world.cell? ⟨w.heap.size, j, none⟩ = #[Value.int .u32 (wd s.a), .int .u32 (wd s.b), .int .u32 (wd s.c), .int .u32 (wd s.d), .int .u32 (wd s.e), .int .u32 (wd s.f), .int .u32 (wd s.g), .int .u32 (wd s.h)][j]? := fun z => stcT_cell (L0 z)
  have HTZ := Aside0.mk (fun (z : Made.Later w1.heap.size w1) => (HT.out.keep (hx.trans (z.below.mono hx.size))))
  have HL := Aside0.mk L0
  have hlt0 := blk_lt g0
  have HX := Aside0.mk hx
  clear L0 g0 hx
  refine Fresh.region_fresh [8, 9] (fun _ => .cells #[.int .u32 0, .int .u32 0, .int .u32 0, .int .u32 0, .int .u32 0, .int .u32 0, .int .u32 0, .int .u32 0] 24) 10 (by kernel_rfl) (by kernel_rfl) (by decide) (by kernel_rfl) (by decide) ?_ ?_
  · intro i hi
    rcases List.mem_cons.1 hi with rfl | hi
    · intro a w K hK
      unfold wpOp
      simp at hK
      go_simp
      exact .inl hK
    · obtain rfl := List.mem_singleton.1 hi
      intro a w K hK
      unfold wpOp
      simp at hK
      go_simp
      exact .inl hK
  simp only [List.take_succ_cons, List.take_zero, List.drop_succ_cons, List.drop_zero]
  iterate 3 (refine Fresh.wpMade_step rfl (fun K hK => ?_); go_simp; refine hK _ ?_; clear hK K)
  refine Fresh.wpMade_step rfl (fun K hK => ?_)
  go_simp
  apply Exists.intro
  refine ⟨fun z => ?_, hK _ ?_⟩
  exact H1.out _ (HTZ.out z)
  clear hK K
  iterate 3 (refine Fresh.wpMade_step rfl (fun K hK => ?_); go_simp; refine hK _ ?_; clear hK K)
  refine Fresh.wpMade_step rfl (fun K hK => ?_)
  go_simp
  apply Exists.intro
  refine ⟨fun z => ?_, hK _ ?_⟩
  exact H2.out _ (HTZ.out z)
  clear hK K
  refine Fresh.wpMade_skip rfl ?_
  refine Fresh.wpMade_skip rfl ?_
  refine Fresh.wpMade_nil ?_
  intro f w2 hG hf
  obtain ⟨A, hA⟩ := hf 8 (by decide)
  obtain ⟨B, hB⟩ := hf 9 (by decide)
  have gA := (hG.new 8 (by decide) A hA)
  have gB := (hG.new 9 (by decide) B hB)
  have gne := hG.ne 8 (by decide) 9 (by decide) (by decide) A B hA hB
  have hb2 := hG.below
  simp [Fresh.putF, hA, hB, Act.put]
  have gS : w2.heap[w.heap.size]? = some (.cells (stc s) 24 (0, 0)) := HL.out ⟨w2, hb2⟩
  have hAs : w.heap.size ≠ A := by have := hlt0; omega
  have hBs : w.heap.size ≠ B := by have := hlt0; omega
  have cA : ∀ j, w2.cell? ⟨A, j, none⟩ = #[Value.int .u32 0, .int .u32 0, .int .u32 0, .int .u32 0, .int .u32 0, .int .u32 0, .int .u32 0, .int .u32 0][j]? := fun j => blk_cell gA.2 j
  have fA : ∀ j, w2.frozen? ⟨A, j, none⟩ = false := fun j => blk_frozen gA.2 j
  have cB : ∀ j, w2.cell? ⟨B, j, none⟩ = #[Value.int .u32 0, .int .u32 0, .int .u32 0, .int .u32 0, .int .u32 0, .int .u32 0, .int .u32 0, .int .u32 0][j]? := fun j => blk_cell gB.2 j
  have fB : ∀ j, w2.frozen? ⟨B, j, none⟩ = false := fun j => blk_frozen gB.2 j
  have gne2 : B ≠ A := Ne.symm gne
  have hx2 := HX.out.trans (hb2.mono HX.out.size)
  have GA := Aside0.mk gA
  have GB := Aside0.mk gB
  have GS := Aside0.mk gS
  have GN := Aside0.mk gne
  have GSA := Aside0.mk hAs
  have GSB := Aside0.mk hBs
  have HX2 := Aside0.mk hx2
  clear gA gB gS hAs hBs hx2 hb2 hG hf hA hB c0 HL HX HTZ
  go_wp2_with fail
  have k1 : w.heap.size ≤ A := by have := GA.out.1; have := HX2.out.size; omega
  have k2 : w.heap.size ≤ B := by have := GB.out.1; omega
  obtain ⟨W3, hW3⟩ : ∃ W3, W3 = put8W (put8W w2 A ra) B rb := ⟨_, rfl⟩
  have kS : W3.heap[w.heap.size]? = some (.cells (stc s) 24 (0, 0)) := hW3 ▸ put8W_far _ (put8W_far _ GS.out GSA.out) GSB.out
  have kA : W3.heap[A]? = some (.cells (stc ra) 24 (0, 0)) := hW3 ▸ put8W_far _ (put8W_self _ GA.out.2) GN.out
  have kB : W3.heap[B]? = some (.cells (stc rb) 24 (0, 0)) := hW3 ▸ put8W_self _ (put8W_far _ GB.out.2 (Ne.symm GN.out))
  have kx : Below w.heap.size w W3 := hW3 ▸ put8W_below _ (put8W_below _ HX2.out k1) k2
  change Code.wp _ _ _ _ (put8W (put8W w2 A ra) B rb)
  rw [← hW3]
  have KS := Aside0.mk kS
  have KA := Aside0.mk kA
  have KB := Aside0.mk kB
  have KX := Aside0.mk kx
  clear hW3 kS kA kB kx cA fA cB fB gne2 GA GB GS GN GSA GSB HX2 k1 k2
  go_loopg [11] 7 (fun k i wr => ∃ t n : Nat, 1 ≤ t ∧ t + k = 8 ∧ i = .int .i64 t ∧ wr = W3.drewN n)
  case atStart => exact ⟨1, 0, by omega, rfl, rfl, rfl⟩
  case round =>
    obtain ⟨t, n, h1, ht, rfl, rfl⟩ := hrel
    by_cases hlt : t < 8
    · by_cases h4 : t = 4
      · subst h4
        go_wp2_with fail
        go_quiet (fail)
        go_wp2_with fail
        go_roundg (gk - 1)
        case measure => omega
        case rel => exact ⟨5, _, by omega, by omega, rfl, rfl⟩
      · have l1 : (t : Int) < 8 := by omega
        have l2 : ((t : Int) != 4) = true := by rw [bne_iff_ne]; omega
        have l3 : ((t : Int) == 4) = false := by rw [beq_eq_false_iff_ne]; omega
        have cA := stcT_at KA.out t hlt
        have cB := stcT_at KB.out t hlt
        have cS := stcT_at KS.out (t - 1) (by omega)
        rw [HE1.out t h1 hlt h4] at cA
        rw [HE2.out t h1 hlt h4] at cB
        generalize St.at s (t - 1) = q at *
        go_wp2_with fail
        go_quiet (fail)
        go_wp2_with fail
        go_roundg (gk - 1)
        case measure => omega
        case rel => exact ⟨t + 1, _, by omega, by omega, by go_num, rfl⟩
    · obtain rfl : t = 8 := by omega
      have cA := stcT_cell KA.out
      have cB := stcT_cell KB.out
      have b1 := neq_of HD1.out rfl
      have b2 := neq_of HD2.out rfl
      go_wp2_with fail
      have hS : (W3.drewN n).heap[w.heap.size]? = some (.cells (stc s) 24 (0, 0)) := blk_drewN KS.out n
      have hX : Below w.heap.size w (W3.drewN n) := pw_below_drewN KX.out n
      clear cA cB b1 b2 hlt ht h1 KS KA KB KX
      generalize W3.drewN n = W4 at *
      have L4 := Made.Later.blk (N := W4.heap.size) hS (blk_lt hS)
      have c4 : ∀ (z : Made.Later W4.heap.size W4) j, z.world.cell? ⟨w.heap.size, j, none⟩ = #[Value.int .u32 (wd s.a), .int .u32 (wd s.b), .int .u32 (wd s.c), .int .u32 (wd s.d), .int .u32 (wd s.e), .int .u32 (wd s.f), .int .u32 (wd s.g), .int .u32 (wd s.h)][j]? := fun z => stcT_cell (L4 z)
      have HTZ := Aside0.mk (fun (z : Made.Later W4.heap.size W4) => (HT.out.keep (hX.trans (z.below.mono hX.size))))
      have HX := Aside0.mk hX
      clear hS hX L4
      refine Made.region_made W4.heap.size (by kernel_rfl) (by kernel_rfl) ?_
      iterate 3 (go_big_quiet_step (fail))
      go_big_quiet_step ((go_at_call 23; exact Made.of_below (Nat.le_refl _) (H1.out _ (HTZ.out _))))
      iterate 3 (go_big_quiet_step (fail))
      go_big_quiet_step ((go_at_call 25; exact Made.of_below (Nat.le_refl _) (HC.out _ (HTZ.out _))))
      iterate 1 (go_big_quiet_step (fail))
      go_big_quiet_step ((go_at_call 23; exact Made.of_below (Nat.le_refl _) (H3.out _ (HTZ.out _))))
      iterate 2 (go_big_quiet_step (fail))
      refine wpQuiet_nil ?_
      rintro _ ⟨z, rfl⟩
      have HZ := Aside0.mk (HX.out.trans (z.below.mono HX.out.size))
      clear c4 HTZ
      generalize z.world = W5 at *
      go_wp2_with fail
      go_ret
      exact ⟨rfl, HZ.out⟩
theorem shifts_row (s : St) (k : Int) (_ : (Lit.int .i64 k).wf = true) (x : Int) (hx : (Lit.int .u32 x).wf = true) (y : Int) (hy : (Lit.int .u32 y).wf = true) (w : World) (hT : Tab w) :
    Calls Tryd.prog 6 #[stv s, .int .i64 k, .int .u32 x, .int .u32 y] w fun e w' => e = .returned (.bool true) ∧ Below w.heap.size w w' := by
  obtain ⟨x, rfl⟩ := Laid.word_of hx
  obtain ⟨y, rfl⟩ := Laid.word_of hy
  exact shifts_law s k x y w hT
end Go.Proofs.YtobgcjfelegpkaaDoor.Blk
