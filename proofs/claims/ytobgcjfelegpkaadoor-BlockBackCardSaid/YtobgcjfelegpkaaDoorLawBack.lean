/- The walk of the law BlockBack: whatever the state and the text, it answers true. -/
import Derived.Test.YtobgcjfelegpkaaDoorLawShifts
import Derived.Test.YtobgcjfelegpkaaDoorPad
namespace Go.Proofs.YtobgcjfelegpkaaDoor.Blk
open Go.RowKit Go.Proofs.YtobgcjfelegpkaaDoor.PBw Go.Proofs.YtobgcjfelegpkaaDoor.GivA Go.Proofs.YtobgcjfelegpkaaDoorW.PrintWords Go.Proofs.YtobgcjfelegpkaaDoorW.PrintLast Go.Proofs.YtobgcjfelegpkaaDoorW.PrintMore Go.Proofs.Sp Go.Proofs.YtobgcjfelegpkaaDoor.Pure
set_option linter.unusedVariables false
set_option linter.unusedSimpArgs false
attribute [local go_sem high] EqA.eqSt
attribute [local go_sem] Fresh.made Oper.quietAt Oper.quietUpon
theorem unround_rnd' (s : St) (k : Int) (x : W32) (w : World) (hT : Tab w) :
    Calls Tryd.prog 24 #[stv (rnd s (kw k) x), .int .i64 k, .int .u32 (wd x)] w fun e w' => e = .returned (stv s) ∧ Below w.heap.size w w' := by
  have h := unround_calls (rnd s (kw k) x) k x w hT
  rw [unrnd_rnd] at h
  exact h
theorem round_unrnd (s : St) (k : Int) (x : W32) (w : World) (hT : Tab w) :
    Calls Tryd.prog 23 #[stv (unrnd s (kw k) x), .int .i64 k, .int .u32 (wd x)] w fun e w' => e = .returned (stv s) ∧ Below w.heap.size w w' := by
  have h := round_calls (unrnd s (kw k) x) k x w hT
  rw [rnd_unrnd] at h
  exact h
theorem blk_below3 {w W : World} {g : Nat} {o : Obj} {N : Nat} (h : w.heap[g]? = some o) (hg : g < N) (hb : Below N w W) : W.heap[g]? = some o := (hb.block g hg).trans h
theorem addSt_at (x y : St) : ∀ t : Nat, t < 8 → St.at (addSt x y) t = St.at x t + St.at y t
  | 0, _ => rfl
  | 1, _ => rfl
  | 2, _ => rfl
  | 3, _ => rfl
  | 4, _ => rfl
  | 5, _ => rfl
  | 6, _ => rfl
  | 7, _ => rfl
  | n + 8, h => absurd h (by omega)
theorem add_sub_ne (x y : W32) : ((wd (x + y) - wd y) % 4294967296 != wd x) = false := by
  rw [wd_sub, BitVec.add_sub_cancel]
  simp
theorem back_long (s : St) (text : ByteArray) (h : 64 < text.size) (hm : text.size ≤ 140737488351232) (w : World) (hT : Tab w) :
    Calls Tryd.prog 7 #[stv s, .string text] w fun e w' => e = .returned (.bool true) ∧ Below w.heap.size w w' := by
  have HT := Aside0.mk hT
  clear hT
  have HA := Aside0.mk awake_calls
  have h1 : 64 < (text.size : Int) := by omega
  unfold stv
  go_enter Tryd.func7, Tryd.ntmps7
  go_wp2_with fail
  have T0 := HT.out.keep (below_alloc (Below.refl _ w) (.cells (stc s) 24))
  refine (HA.out _ T0).mono ?_
  rintro e w1 ⟨rfl, hb1⟩
  have hx : Below w.heap.size w w1 := ((below_alloc (Below.refl _ w) (.cells (stc s) 24)).trans (hb1.mono (below_alloc (Below.refl _ w) (.cells (stc s) 24)).size))
  clear hb1 T0
  go_wp2_with fail
  go_ret
  exact ⟨rfl, hx⟩
set_option maxHeartbeats 8000000 in
set_option maxRecDepth 100000 in
theorem back_law (s : St) (text : ByteArray) (h : text.size ≤ 64) (w : World) (hT : Tab w) :
    Calls Tryd.prog 7 #[stv s, .string text] w fun e w' => e = .returned (.bool true) ∧ Below w.heap.size w w' := by
  have HT := Aside0.mk hT
  clear hT
  have HA := Aside0.mk awake_calls
  have h1 : (text.size : Int) ≤ 64 := by omega
  have HPad := Aside0.mk (Pad.pad_run text h)
  have HConv := Aside0.mk (Pad.conv_at text h)
  have HWords := Aside0.mk (words_calls (Pad.padB text) (Pad.padB_size text h))
  have HNext := Aside0.mk (next_calls s (Pad.padB text) (Pad.padB_size text h))
  have hmk := Pad.make_run
  have hd : decide (64 < (text.size : Int)) = false := decide_eq_false (by omega)
  clear h
  unfold stv
  unfold stv at HNext
  go_enter Tryd.func7, Tryd.ntmps7
  go_wp2_with fail
  have T0 := HT.out.keep (below_alloc (Below.refl _ w) (.cells (stc s) 24))
  refine (HA.out _ T0).mono ?_
  rintro e w1 ⟨rfl, hb1⟩
  have g0 := blk_below (blk_new w (.cells (stc s) 24)) hb1
  have hx : Below w.heap.size w w1 := ((below_alloc (Below.refl _ w) (.cells (stc s) 24)).trans (hb1.mono (below_alloc (Below.refl _ w) (.cells (stc s) 24)).size))
  clear hb1 T0
  obtain ⟨w2, hcp, hcv, hk2, hb2⟩ := HPad.out w1
  have G0 := Aside0.mk (blk_below g0 hb2)
  have G2 := Aside0.mk hk2
  have HX := Aside0.mk (hx.trans (hb2.mono hx.size))
  have hg1 : w1.heap.size < w2.heap.size := blk_lt hk2
  clear g0 hx hk2 hb2 HPad
  go_wp2_with fail
  refine (HWords.out _).mono ?_
  rintro e w3 ⟨AW, cW, rfl, hsp, hAW, hcell, hb3⟩
  obtain ⟨BA, oA, sp⟩ := AW
  obtain rfl : sp = none := hsp
  simp only at hAW
  have HC := Aside0.mk hcell
  have g3 := blk_below G0.out hb3
  have K3 := Aside0.mk (blk_below G2.out hb3)
  have HX3 := Aside0.mk (HX.out.trans (hb3.mono HX.out.size))
  have hg3 : w1.heap.size < w3.heap.size := blk_lt K3.out
  clear hcell hb3 G0 G2 HX hcp hcv
  have c3 := stcT_cell g3
  have G3 := Aside0.mk g3
  have hB3 := blk_lt g3
  clear g3
  go_wp2_with fail
  have HX4 := Aside0.mk (below_alloc HX3.out (.cells (stc s) 24))
  have N0 := Aside0.mk (show (w3.alloc (.cells (stc s) 24)).heap[w3.heap.size]? = some (.cells (stc (runs (words (Pad.padB text).data.toList) s 0)) 24 (0, 0)) from blk_new w3 _)
  have HNE := Aside0.mk (show next s (Pad.padB text).data.toList = addSt (runs (words (Pad.padB text).data.toList) s 64) s from rfl)
  generalize hws : words (Pad.padB text).data.toList = ws at *
  clear hws
  go_loopg [9] 64 (fun k i wr => ∃ t : Nat, t + k = 64 ∧ i = .int .i64 t ∧ wr.heap[w3.heap.size]? = some (.cells (stc (runs ws s t)) 24 (0, 0)) ∧ Below w3.heap.size w3 wr)
  case atStart => exact ⟨0, rfl, rfl, N0.out, (Below.refl _ _).alloc (Nat.le_refl _) _⟩
  case round =>
    obtain ⟨t, ht, rfl, hb, hx⟩ := hrel
    have HR := Aside0.mk hx
    have HN := Aside0.mk hb
    clear hb N0 c3
    by_cases hlt : t < 64
    · have l1 : (t : Int) < 64 := by omega
      have hcx : wr.cell? ⟨BA, oA + t, none⟩ = some (.int .u32 (wd (ws.getD t 0))) := (hx.cell (p := ⟨BA, oA + t, none⟩) hAW).trans (HC.out t hlt)
      have TR := HT.out.keep (HX3.out.trans (hx.mono HX3.out.size))
      have hNlt := blk_lt HN.out
      have hBAlt : BA < wr.heap.size := Nat.lt_of_lt_of_le hAW hx.size
      have e1 : rnd (runs ws s t) (kws t) (ws.getD t 0) = runs ws s (t + 1) := rfl
      have R1 := Aside0.mk (round_calls (runs ws s t) (t : Int) (ws.getD t 0))
      have R2 := Aside0.mk (unround_rnd' (runs ws s t) (t : Int) (ws.getD t 0))
      have R3 := Aside0.mk (unround_calls (runs ws s t) (t : Int) (ws.getD t 0))
      have R4 := Aside0.mk (round_unrnd (runs ws s t) (t : Int) (ws.getD t 0))
      rw [show kw (t : Int) = kws t from rfl, e1] at R1 R2
      generalize runs ws s t = cur at *
      generalize hnxt : runs ws s (t + 1) = nxt at *
      have HNX := Aside0.mk hnxt
      clear hnxt
      generalize ws.getD t 0 = xw at *
      generalize unrnd cur (kw (t : Int)) xw = und at *
      clear e1
      unfold stv at R1 R2 R3 R4
      have LN := Made.Later.blk (N := wr.heap.size) HN.out hNlt
      have cN : ∀ (z : Made.Later wr.heap.size wr) j, z.world.cell? ⟨w3.heap.size, j, none⟩ = #[Value.int .u32 (wd cur.a), .int .u32 (wd cur.b), .int .u32 (wd cur.c), .int .u32 (wd cur.d), .int .u32 (wd cur.e), .int .u32 (wd cur.f), .int .u32 (wd cur.g), .int .u32 (wd cur.h)][j]? := fun z => stcT_cell (LN z)
      have cX : ∀ (z : Made.Later wr.heap.size wr), z.world.cell? ⟨BA, oA + t, none⟩ = some (.int .u32 (wd xw)) := Made.Later.cell hcx hBAlt
      have HTZ := Aside0.mk (fun (z : Made.Later wr.heap.size wr) => TR.keep (z.below))
      have HLN := Aside0.mk LN
      have HCX := Aside0.mk hcx
      have HTR := Aside0.mk TR
      clear hcx TR LN hx
      go_wp2_with fail
      refine Fresh.region_fresh [7] (fun _ => .cells #[.int .u32 0, .int .u32 0, .int .u32 0, .int .u32 0, .int .u32 0, .int .u32 0, .int .u32 0, .int .u32 0] 24) 8 (by kernel_rfl) (by kernel_rfl) (by decide) (by kernel_rfl) (by decide) ?_ ?_
      · intro i hi
        obtain rfl := List.mem_singleton.1 hi
        intro a w K hK
        unfold wpOp
        simp at hK
        go_simp
        exact .inl hK
      simp only [List.take_succ_cons, List.take_zero, List.drop_succ_cons, List.drop_zero]
      iterate 6 (refine Fresh.wpMade_step rfl (fun K hK => ?_); go_simp; refine hK _ ?_; clear hK K)
      refine Fresh.wpMade_step rfl (fun K hK => ?_)
      go_simp
      apply Exists.intro
      refine ⟨fun z => ?_, hK _ ?_⟩
      exact R1.out _ (HTZ.out z)
      clear hK K
      refine Fresh.wpMade_skip rfl ?_
      refine Fresh.wpMade_nil ?_
      intro f w4 hG hf
      obtain ⟨Bx, hB⟩ := hf 7 (by decide)
      have gB := (hG.new 7 (by decide) Bx hB)
      have hb4 := hG.below
      simp [Fresh.putF, hB, Act.put]
      have cB : ∀ j, w4.cell? ⟨Bx, j, none⟩ = #[Value.int .u32 0, .int .u32 0, .int .u32 0, .int .u32 0, .int .u32 0, .int .u32 0, .int .u32 0, .int .u32 0][j]? := fun j => blk_cell gB.2 j
      have fB : ∀ j, w4.frozen? ⟨Bx, j, none⟩ = false := fun j => blk_frozen gB.2 j
      have gN4 : w4.heap[w3.heap.size]? = some (.cells (stc cur) 24 (0, 0)) := HLN.out ⟨w4, hb4⟩
      have TR4 := HTR.out.keep hb4
      have hX4 := (HCX.out |> fun h => (hb4.cell (p := ⟨BA, oA + t, none⟩) hBAlt).trans h)
      have GB := Aside0.mk gB
      have GN4 := Aside0.mk gN4
      have T4 := Aside0.mk TR4
      have X4 := Aside0.mk hX4
      have HB4 := Aside0.mk (HR.out.trans (hb4.mono HR.out.size))
      have hne : w3.heap.size ≠ Bx := by have := gB.1; omega
      have hBx3 : w3.heap.size ≤ Bx := by have := gB.1; have := HR.out.size; omega
      have hBA4 : BA ≠ Bx := by omega
      clear gB hb4 hG hf hB gN4 TR4 hX4 HLN HCX HTR cN cX HTZ
      go_wp2_with fail
      obtain ⟨w5, hw5⟩ : ∃ w5, w5 = put8W w4 Bx nxt := ⟨_, rfl⟩
      have kN : w5.heap[w3.heap.size]? = some (.cells (stc cur) 24 (0, 0)) := hw5 ▸ put8W_far _ GN4.out hne
      have kB : w5.heap[Bx]? = some (.cells (stc nxt) 24 (0, 0)) := hw5 ▸ put8W_self _ GB.out.2
      have kx : Below w3.heap.size w3 w5 := hw5 ▸ put8W_below _ HB4.out hBx3
      have kX : w5.cell? ⟨BA, oA + t, none⟩ = some (.int .u32 (wd xw)) := (kx.cell (p := ⟨BA, oA + t, none⟩) hAW).trans ((HB4.out.cell (p := ⟨BA, oA + t, none⟩) hAW).symm.trans X4.out)
      have kT : Tab w5 := HT.out.keep (HX3.out.trans (kx.mono HX3.out.size))
      change Code.wp _ _ _ _ (put8W w4 Bx nxt)
      rw [← hw5]
      have L5N := Made.Later.blk (N := w5.heap.size) kN (blk_lt kN)
      have L5B := Made.Later.blk (N := w5.heap.size) kB (blk_lt kB)
      have c5N : ∀ (z : Made.Later w5.heap.size w5) j, z.world.cell? ⟨w3.heap.size, j, none⟩ = #[Value.int .u32 (wd cur.a), .int .u32 (wd cur.b), .int .u32 (wd cur.c), .int .u32 (wd cur.d), .int .u32 (wd cur.e), .int .u32 (wd cur.f), .int .u32 (wd cur.g), .int .u32 (wd cur.h)][j]? := fun z => stcT_cell (L5N z)
      have c5B : ∀ (z : Made.Later w5.heap.size w5) j, z.world.cell? ⟨Bx, j, none⟩ = #[Value.int .u32 (wd nxt.a), .int .u32 (wd nxt.b), .int .u32 (wd nxt.c), .int .u32 (wd nxt.d), .int .u32 (wd nxt.e), .int .u32 (wd nxt.f), .int .u32 (wd nxt.g), .int .u32 (wd nxt.h)][j]? := fun z => stcT_cell (L5B z)
      have c5X : ∀ (z : Made.Later w5.heap.size w5), z.world.cell? ⟨BA, oA + t, none⟩ = some (.int .u32 (wd xw)) := Made.Later.cell kX (World.block_lt_of_cell? w5 _ kX)
      have HTZ := Aside0.mk (fun (z : Made.Later w5.heap.size w5) => kT.keep z.below)
      have HLN := Aside0.mk L5N
      have HLB := Aside0.mk L5B
      have KX5 := Aside0.mk kx
      clear cB fB GB GN4 T4 X4 HB4 hw5 kN kB kx kX kT L5N L5B
      refine Made.region_made w5.heap.size (by kernel_rfl) (by kernel_rfl) ?_
      iterate 6 (go_big_quiet_step (fail))
      go_big_quiet_step ((go_at_call 24; exact Made.of_below (Nat.le_refl _) (R2.out _ (HTZ.out _))))
      iterate 9 (go_big_quiet_step (fail))
      go_big_quiet_step ((go_at_call 24; exact Made.of_below (Nat.le_refl _) (R3.out _ (HTZ.out _))))
      iterate 5 (go_big_quiet_step (fail))
      go_big_quiet_step ((go_at_call 23; exact Made.of_below (Nat.le_refl _) (R4.out _ (HTZ.out _))))
      iterate 3 (go_big_quiet_step (fail))
      refine wpQuiet_nil ?_
      rintro _ ⟨z, rfl⟩
      have g6N := HLN.out z
      have g6B := HLB.out z
      have HB6 := Aside0.mk (KX5.out.trans (z.below.mono KX5.out.size))
      clear c5N c5B c5X HTZ HLN HLB KX5
      generalize z.world = w6 at *
      have c6B := stcT_cell g6B
      have c6N := stcT_cell g6N
      have f6N := stcT_free g6N
      have G6 := Aside0.mk g6N
      clear g6N g6B
      go_wp2_with fail
      go_roundg (gk - 1)
      case measure => omega
      case rel =>
        refine ⟨t + 1, by omega, by go_num, ?_, ?_⟩
        · rw [HNX.out]; exact put8W_self nxt G6.out
        · exact put8W_below nxt HB6.out (Nat.le_refl _)
    · obtain rfl : t = 64 := by omega
      have gS := blk_below3 G3.out hB3 hx
      have gK := blk_below3 K3.out hg3 hx
      have TR := HT.out.keep (HX3.out.trans (hx.mono HX3.out.size))
      have cS := stcT_cell gS
      have hcv := HConv.out wr w1.heap.size gK
      have GS := Aside0.mk gS
      have T5 := Aside0.mk TR
      clear gS gK TR hx hlt ht
      rw [HNE.out] at HNext
      generalize hfin : runs ws s 64 = fin at *
      have HFIN := Aside0.mk hfin
      clear hfin HNE HConv
      generalize hnx : addSt fin s = nx at *
      have HNX := Aside0.mk hnx
      clear hnx
      go_wp2_with fail
      refine (HNext.out _ T5.out).mono ?_
      rintro e w7 ⟨rfl, hb7⟩
      have G7S := Aside0.mk (blk_below GS.out hb7)
      have G7N := Aside0.mk (blk_below HN.out hb7)
      have HR7 := Aside0.mk (HR.out.trans (hb7.mono HR.out.size))
      clear hb7 hcv cS GS T5
      go_wp2_with fail
      have h8S : (w7.alloc (.cells (stc nx) 24)).heap[w.heap.size]? = some (.cells (stc s) 24 (0, 0)) := blk_alloc G7S.out _
      have h8N : (w7.alloc (.cells (stc nx) 24)).heap[w3.heap.size]? = some (.cells (stc fin) 24 (0, 0)) := blk_alloc G7N.out _
      have h8O : (w7.alloc (.cells (stc nx) 24)).heap[w7.heap.size]? = some (.cells (stc nx) 24 (0, 0)) := blk_new w7 _
      have h8x : Below w3.heap.size w3 (w7.alloc (.cells (stc nx) 24)) := HR7.out.trans ((Below.refl _ _).alloc HR7.out.size _)
      have hW8' : (w7.alloc (.cells #[Value.int .u32 (wd nx.a), .int .u32 (wd nx.b), .int .u32 (wd nx.c), .int .u32 (wd nx.d), .int .u32 (wd nx.e), .int .u32 (wd nx.f), .int .u32 (wd nx.g), .int .u32 (wd nx.h)] 24)) = (w7.alloc (.cells (stc nx) 24)) := rfl
      rw [hW8']
      clear hW8'
      obtain ⟨w8, hW8⟩ : ∃ w8, w8 = w7.alloc (.cells (stc nx) 24) := ⟨_, rfl⟩
      rw [← hW8] at h8S h8N h8O h8x ⊢
      have H8S := Aside0.mk h8S
      have H8N := Aside0.mk h8N
      have H8O := Aside0.mk h8O
      have H8X := Aside0.mk h8x
      clear hW8 h8S h8N h8O h8x G7S G7N HR7
      go_loopg [13] 8 (fun k i wr => ∃ t n : Nat, t + k = 8 ∧ i = .int .i64 t ∧ wr = w8.drewN n)
      case atStart => exact ⟨0, 0, rfl, rfl, rfl⟩
      case round =>
        obtain ⟨t, n, ht, rfl, rfl⟩ := hrel
        by_cases hlt : t < 8
        · have l1 : (t : Int) < 8 := by omega
          have c1 := stcT_at H8O.out t hlt
          have c2 := stcT_at H8S.out t hlt
          have c3 := stcT_at H8N.out t hlt
          rw [← HNX.out, addSt_at fin s t hlt] at c1
          have hq := add_sub_ne (St.at fin t) (St.at s t)
          generalize hpq : wd (St.at fin t + St.at s t) = pq at *
          clear hpq
          generalize wd (St.at fin t) = p at *
          generalize wd (St.at s t) = q at *
          go_wp2_with fail
          go_quiet (fail)
          go_wp2_with fail
          go_roundg (gk - 1)
          case measure => omega
          case rel => exact ⟨t + 1, _, by omega, by go_num, rfl⟩
        · obtain rfl : t = 8 := by omega
          clear hlt ht
          go_wp2_with fail
          have G9 := Aside0.mk (show (w8.drewN n).heap[w3.heap.size]? = some (.cells (stc (runs ws s 64)) 24 (0, 0)) from by rw [HFIN.out]; exact blk_drewN H8N.out n)
          have S9 := Aside0.mk (show (w8.drewN n).heap[w.heap.size]? = some (.cells (stc s) 24 (0, 0)) from blk_drewN H8S.out n)
          have X9 := Aside0.mk (pw_below_drewN H8X.out n)
          generalize w8.drewN n = w9 at *
          clear H8S H8N H8O H8X HFIN HNX HNext HN HR
          go_loopg [14] 64 (fun k i wr => ∃ t : Nat, t = k ∧ t ≤ 64 ∧ i = .int .i64 ((t : Int) - 1) ∧ wr.heap[w3.heap.size]? = some (.cells (stc (runs ws s t)) 24 (0, 0)) ∧ Below w3.heap.size w3 wr)
          case atStart => exact ⟨64, rfl, Nat.le_refl _, rfl, G9.out, X9.out⟩
          case round =>
            obtain ⟨t, ht, ht2, rfl, hb, hx⟩ := hrel
            by_cases h0 : t = 0
            · subst h0
              have gS := blk_below3 G3.out hB3 hx
              have cS := stcT_cell gS
              have cN : ∀ j, wr.cell? ⟨w3.heap.size, j, none⟩ = #[Value.int .u32 (wd s.a), .int .u32 (wd s.b), .int .u32 (wd s.c), .int .u32 (wd s.d), .int .u32 (wd s.e), .int .u32 (wd s.f), .int .u32 (wd s.g), .int .u32 (wd s.h)][j]? := stcT_cell hb
              have HF := Aside0.mk (HX3.out.trans (hx.mono HX3.out.size))
              clear gS hb hx ht ht2
              go_wp2_with fail
              go_ret
              exact ⟨rfl, HF.out⟩
            · obtain ⟨m, rfl⟩ : ∃ m, t = m + 1 := ⟨t - 1, by omega⟩
              have hm : m < 64 := by omega
              have hi : (((m + 1 : Nat) : Int) - 1) = (m : Int) := by omega
              rw [hi]
              have l0 : (0 : Int) ≤ (m : Int) := by omega
              have l1 : (m : Int) < 64 := by omega
              have hcx : wr.cell? ⟨BA, oA + m, none⟩ = some (.int .u32 (wd (ws.getD m 0))) := (hx.cell (p := ⟨BA, oA + m, none⟩) hAW).trans (HC.out m hm)
              have TR := HT.out.keep (HX3.out.trans (hx.mono HX3.out.size))
              have R2 := Aside0.mk (unround_rnd' (runs ws s m) (m : Int) (ws.getD m 0))
              have e1 : rnd (runs ws s m) (kws m) (ws.getD m 0) = runs ws s (m + 1) := rfl
              rw [show kw (m : Int) = kws m from rfl, e1] at R2
              have hNlt := blk_lt hb
              have hBAlt : BA < wr.heap.size := Nat.lt_of_lt_of_le hAW hx.size
              have HR9 := Aside0.mk hx
              generalize runs ws s (m + 1) = cur at *
              generalize hprev : runs ws s m = prev at *
              have HPV := Aside0.mk hprev
              generalize ws.getD m 0 = xw at *
              clear e1 hprev
              unfold stv at R2
              have LN := Made.Later.blk (N := wr.heap.size) hb hNlt
              have cN : ∀ (z : Made.Later wr.heap.size wr) j, z.world.cell? ⟨w3.heap.size, j, none⟩ = #[Value.int .u32 (wd cur.a), .int .u32 (wd cur.b), .int .u32 (wd cur.c), .int .u32 (wd cur.d), .int .u32 (wd cur.e), .int .u32 (wd cur.f), .int .u32 (wd cur.g), .int .u32 (wd cur.h)][j]? := fun z => stcT_cell (LN z)
              have cX : ∀ (z : Made.Later wr.heap.size wr), z.world.cell? ⟨BA, oA + m, none⟩ = some (.int .u32 (wd xw)) := Made.Later.cell hcx hBAlt
              have HTZ := Aside0.mk (fun (z : Made.Later wr.heap.size wr) => TR.keep (z.below))
              have HLN := Aside0.mk LN
              clear hcx TR LN hx hb h0 hi
              go_wp2_with fail
              refine Made.region_made_tail wr.heap.size 7 (by kernel_rfl) (by kernel_rfl) ?_
              simp only [List.take_succ_cons, List.take_zero, List.drop_succ_cons, List.drop_zero]
              iterate 6 (go_big_quiet_step (fail))
              go_big_quiet_step ((go_at_call 24; exact Made.of_below (Nat.le_refl _) (R2.out _ (HTZ.out _))))
              refine wpQuiet_nil ?_
              rintro _ ⟨z, rfl⟩
              have gz := HLN.out z
              have HZ := Aside0.mk (HR9.out.trans (z.below.mono HR9.out.size))
              clear cN cX HTZ HLN
              generalize z.world = w6 at *
              have cz := stcT_cell gz
              have fz := stcT_free gz
              have GZ := Aside0.mk gz
              clear gz
              go_wp2_with fail
              go_roundg (gk - 1)
              case measure => omega
              case rel =>
                refine ⟨m, by omega, by omega, rfl, ?_, ?_⟩
                · rw [HPV.out]; exact put8W_self prev GZ.out
                · exact put8W_below prev HZ.out (Nat.le_refl _)
theorem back_row (s : St) (text : ByteArray) (hm : text.size ≤ 140737488351232) (w : World) (hT : Tab w) :
    Calls Tryd.prog 7 #[stv s, .string text] w fun e w' => e = .returned (.bool true) ∧ Below w.heap.size w w' := by
  by_cases h : text.size ≤ 64
  · exact back_law s text h w hT
  · exact back_long s text (by omega) hm w hT
end Go.Proofs.YtobgcjfelegpkaaDoor.Blk
