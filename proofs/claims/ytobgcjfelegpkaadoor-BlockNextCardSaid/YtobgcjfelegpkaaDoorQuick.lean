/- The contract of the reference's Quick: what comes of a state by a block of 64 bytes, by the known constants. -/
import Derived.Test.YtobgcjfelegpkaaDoorRefB
namespace Go.Proofs.YtobgcjfelegpkaaDoor.Blk
open Go.RowKit Go.Proofs.YtobgcjfelegpkaaDoor.PBw Go.Proofs.YtobgcjfelegpkaaDoor.GivA Go.Proofs.YtobgcjfelegpkaaDoorW.PrintWords Go.Proofs.YtobgcjfelegpkaaDoorW.PrintLast Go.Proofs.YtobgcjfelegpkaaDoorW.PrintMore Go.Proofs.Sp Go.Proofs.YtobgcjfelegpkaaDoor.Pure
set_option linter.unusedVariables false
set_option linter.unusedSimpArgs false
theorem refright_some (x : W32) (n : Nat) (m : Int) (hm : m = (n : Int)) (hn : n < 32) (h0 : 0 < n) : paymasterref04_right.f (wd x) m = some (wd (x.rotateRight n)) := by
  subst hm
  unfold paymasterref04_right.f
  have e2 : IntKind.u64.wrap (32 - (n : Int)) = ((32 - n : Nat) : Int) := by simp [IntKind.wrap, IntKind.bits, IntKind.signed]; omega
  rw [e2, if_pos (by omega), if_pos (by omega)]
  congr 1
  unfold shl shr
  have e3 : min ((32 - n : Nat) : Int).toNat IntKind.u32.bits = 32 - n := by show min _ 32 = _; omega
  have e4 : min (n : Int).toNat IntKind.u32.bits = n := by show min _ 32 = _; omega
  rw [e3, e4, shl_wd, shr_wd, bits_or]
  congr 1
  apply BitVec.eq_of_getLsbD_eq
  intro i hi
  simp only [BitVec.getLsbD_or, BitVec.getLsbD_ushiftRight, BitVec.getLsbD_shiftLeft, BitVec.getLsbD_rotateRight, Nat.mod_eq_of_lt hn, Bool.cond_decide]
  by_cases a : i < 32 - n
  · simp [a, hi]
  · rw [if_neg a]
    have : x.getLsbD (n + i) = false := BitVec.getLsbD_of_ge _ _ (by omega)
    simp [a, this]
theorem refright_calls (x : W32) (m : Int) (h0 : 0 < m) (h1 : m < 32) (w : World) : Calls Tryd.prog 85 #[.int .u32 (wd x), .int .u64 m] w fun e w' => e = .returned (.int .u32 (wd (x.rotateRight m.toNat))) ∧ ∃ n, w' = w.drewN n := by
  refine (paymasterref04_right.calls (wd x) m _ w (refright_some x m.toNat m (by omega) (by omega) (by omega))).mono ?_
  rintro e w' ⟨rfl, hd⟩
  exact ⟨rfl, hd.out⟩
def rowC (b : List UInt8) (t : Nat) : Array Value := ((Pure.rowAt b t).map (Value.int .u32)).toArray
theorem rowC_set (b : List UInt8) (t : Nat) (h : t < 64) : (rowC b t).setIfInBounds t (.int .u32 (wd (nextWord b (sched b t)))) = rowC b (t + 1) := by
  unfold rowC
  rw [← rowAt_set b t h, List.map_set]
  simp
theorem rowC_at (b : List UInt8) (t i : Nat) (hi : i < t) (ht : t ≤ 64) {W : World} {B T : Nat} (h : W.heap[B]? = some (.cells (rowC b t) T (0, 0))) : W.cell? ⟨B, i, none⟩ = some (.int .u32 (wd ((sched b t).getD i 0))) := by
  rw [blk_cell h i]
  have hl := rowAt_length b t ht
  have hr := rd_rowAt b t i hi
  unfold rd at hr
  rw [Int.toNat_natCast, List.getD_eq_getElem?_getD, List.getElem?_eq_getElem (by omega)] at hr
  unfold rowC
  rw [List.getElem?_toArray, List.getElem?_map, List.getElem?_eq_getElem (by omega)]
  simp only [Option.map_some, Option.getD_some] at hr ⊢
  rw [hr]
theorem rowC_some (b : List UInt8) (t i : Nat) (hi : i < 64) (ht : t ≤ 64) {W : World} {B T : Nat} (h : W.heap[B]? = some (.cells (rowC b t) T (0, 0))) : ∃ x, W.cell? ⟨B, i, none⟩ = some (.int .u32 x) := by
  have hl := rowAt_length b t ht
  refine ⟨(Pure.rowAt b t)[i]'(by omega), ?_⟩
  rw [blk_cell h i]
  unfold rowC
  rw [List.getElem?_toArray, List.getElem?_map, List.getElem?_eq_getElem (by omega)]
  rfl
theorem byte_get (b : ByteArray) (t : Nat) (h : t < b.size) : ((b[t]'h).toNat : Int) = ((b.data.toList.getD t 0).toNat : Int) := by
  have h' : t < b.data.size := h
  rw [List.getD_eq_getElem?_getD, Array.getElem?_toList, Array.getElem?_eq_getElem h']
  rfl
theorem word_first (b : ByteArray) (t : Nat) (h : t < 16) (n0 : 4 * t < b.size) (n1 : 4 * t + 1 < b.size) (n2 : 4 * t + 2 < b.size) (n3 : 4 * t + 3 < b.size) :
    Go.bits .or .u32 (Go.bits .or .u32 (Go.bits .or .u32 (((b[4 * t]'n0).toNat : Int) % 4294967296 * 16777216 % 4294967296) (((b[4 * t + 1]'n1).toNat : Int) % 4294967296 * 65536 % 4294967296)) (((b[4 * t + 2]'n2).toNat : Int) % 4294967296 * 256 % 4294967296)) (((b[4 * t + 3]'n3).toNat : Int) % 4294967296) = wd (nextWord b.data.toList (sched b.data.toList t)) := by
  rw [byte_get b _ n0, byte_get b _ n1, byte_get b _ n2, byte_get b _ n3, nextWord, sched_length, if_pos h, be4_wd]
  exact or4 _ _ _ _ (byte_lt _ _) (byte_lt _ _) (byte_lt _ _) (byte_lt _ _)
theorem quick_word (x16 x15 x7 x2 : W32) : (wd x16 + Go.bits .xor .u32 (Go.bits .xor .u32 (wd (x15.rotateRight 7)) (wd (x15.rotateRight 18))) (wd x15 / 8) + wd x7 + Go.bits .xor .u32 (Go.bits .xor .u32 (wd (x2.rotateRight 17)) (wd (x2.rotateRight 19))) (wd x2 / 1024)) % 4294967296 = wd (x16 + ss0 x15 + x7 + ss1 x2) := by
  have e3 : wd x15 / 8 = wd (x15 >>> (3 : Nat)) := shr_wd x15 3
  have e10 : wd x2 / 1024 = wd (x2 >>> (10 : Nat)) := shr_wd x2 10
  rw [e3, e10, bits_xor, bits_xor, bits_xor, bits_xor]
  simp only [← wd_add, Int.emod_add_emod, ss0, ss1]
theorem next_tail (b : List UInt8) (t : Nat) (h : 16 ≤ t) : nextWord b (sched b t) = (sched b t).getD (t - 16) 0 + ss0 ((sched b t).getD (t - 15) 0) + (sched b t).getD (t - 7) 0 + ss1 ((sched b t).getD (t - 2) 0) := by
  rw [nextWord, sched_length, if_neg (by omega)]
theorem not_wd (x : W32) : (4294967295 - wd x) % 4294967296 = wd (~~~x) := by
  unfold wd
  rw [BitVec.toNat_not]
  have := x.isLt
  omega
theorem sum7 (h x y k w b m : W32) : (wd h + wd x + wd y + wd k + wd w + (wd b + wd m)) % 4294967296 = wd (h + x + y + k + w + (b + m)) := by
  simp only [← wd_add, Int.emod_add_emod, Int.add_emod_emod]
theorem sum6 (d h x y k w : W32) : (wd d + (wd h + wd x + wd y + wd k + wd w)) % 4294967296 = wd (d + (h + x + y + k + w)) := by
  simp only [← wd_add, Int.emod_add_emod, Int.add_emod_emod]
theorem quick_a (cur : St) (k x : W32) : (wd cur.h + Go.bits .xor .u32 (Go.bits .xor .u32 (wd (cur.e.rotateRight 6)) (wd (cur.e.rotateRight 11))) (wd (cur.e.rotateRight 25)) + Go.bits .xor .u32 (Go.bits .and .u32 (wd cur.e) (wd cur.f)) (Go.bits .and .u32 ((4294967295 - wd cur.e) % 4294967296) (wd cur.g)) + wd k + wd x +
    (Go.bits .xor .u32 (Go.bits .xor .u32 (wd (cur.a.rotateRight 2)) (wd (cur.a.rotateRight 13))) (wd (cur.a.rotateRight 22)) + Go.bits .xor .u32 (Go.bits .xor .u32 (Go.bits .and .u32 (wd cur.a) (wd cur.b)) (Go.bits .and .u32 (wd cur.a) (wd cur.c))) (Go.bits .and .u32 (wd cur.b) (wd cur.c)))) % 4294967296 = wd (rnd cur k x).a := by
  rw [not_wd]
  simp only [bits_xor, bits_and]
  rw [sum7]
  congr 1
  show _ = tOf cur k x + (bs0 cur.a + maj cur.a cur.b cur.c)
  unfold tOf
  show cur.h + bs1 cur.e + ch cur.e cur.f cur.g + k + x + (bs0 cur.a + maj cur.a cur.b cur.c) = _
  ac_rfl
theorem quick_e (cur : St) (k x : W32) : (wd cur.d + (wd cur.h + Go.bits .xor .u32 (Go.bits .xor .u32 (wd (cur.e.rotateRight 6)) (wd (cur.e.rotateRight 11))) (wd (cur.e.rotateRight 25)) + Go.bits .xor .u32 (Go.bits .and .u32 (wd cur.e) (wd cur.f)) (Go.bits .and .u32 ((4294967295 - wd cur.e) % 4294967296) (wd cur.g)) + wd k + wd x)) % 4294967296 = wd (rnd cur k x).e := by
  rw [not_wd]
  simp only [bits_xor, bits_and]
  rw [sum6]
  congr 1
  show _ = cur.d + tOf cur k x
  unfold tOf
  show cur.d + (cur.h + bs1 cur.e + ch cur.e cur.f cur.g + k + x) = _
  ac_rfl
theorem heap3 (w : World) (o0 o1 o2 : Obj) : (((w.alloc o0).alloc o1).alloc o2).heap[w.heap.size]? = some o0 ∧ (((w.alloc o0).alloc o1).alloc o2).heap[w.heap.size + 1]? = some o1 ∧ (((w.alloc o0).alloc o1).alloc o2).heap[w.heap.size + 2]? = some o2 := by
  refine ⟨blk_alloc (blk_alloc (blk_new w _) _) _, blk_alloc ?_ _, ?_⟩
  · have := blk_new (w.alloc o0) o1
    rw [World.size_alloc] at this
    exact this
  · have := blk_new ((w.alloc o0).alloc o1) o2
    rw [World.size_alloc, World.size_alloc] at this
    exact this
set_option maxHeartbeats 8000000 in
set_option maxRecDepth 100000 in
theorem quick_calls (s : St) (b : ByteArray) (h64 : b.size = 64) (w : World) (BT oT cT : Nat) (hcT : 64 ≤ cT) (hBT : BT < w.heap.size) (hcell : ∀ (t : Nat), t < 64 → w.cell? ⟨BT, oT + t, none⟩ = some (.int .u32 (wd (kws t)))) :
    Calls Tryd.prog 33 #[stv s, .string b, .slice (some ⟨BT, oT, none⟩) 64 cT] w fun e w' => e = .returned (stv (next s b.data.toList)) ∧ Below w.heap.size w w' := by
  have HT := Aside0.mk hcell
  have H64 := Aside0.mk h64
  have hsz : (b.size : Int) ≤ 64 := by omega
  have hsz2 : (64 : Int) ≤ b.size := by omega
  clear hcell h64
  have HNE := Aside0.mk (show next s b.data.toList = addSt (runs (words b.data.toList) s 64) s from rfl)
  generalize next s b.data.toList = nx at *
  unfold stv
  go_enter Tryd.func33, Tryd.ntmps33
  go_wp2_with fail
  have hd := Aside0.mk (heap3 w (.cells (stc s) 23) (.cells (stc zeroSt) 23) (.cells (rowC b.data.toList 0) 102))
  have hx0 := Aside0.mk (below_alloc (below_alloc (below_alloc (Below.refl _ w) (.cells (stc s) 23)) (.cells (stc zeroSt) 23)) (.cells (rowC b.data.toList 0) 102))
  go_loopg [8] 16 (fun k i wr => ∃ t : Nat, t + k = 16 ∧ i = .int .i64 t ∧ wr.heap[w.heap.size]? = some (.cells (stc s) 23 (0, 0)) ∧ wr.heap[w.heap.size + 1]? = some (.cells (stc zeroSt) 23 (0, 0)) ∧ wr.heap[w.heap.size + 2]? = some (.cells (rowC b.data.toList t) 102 (0, 0)) ∧ Below w.heap.size w wr)
  case atStart => exact ⟨0, rfl, rfl, hd.out.1, hd.out.2.1, hd.out.2.2, hx0.out⟩
  case round =>
    obtain ⟨t, ht, rfl, hb0, hb1, hb2, hx⟩ := hrel
    have H0 := Aside0.mk hb0
    have H1 := Aside0.mk hb1
    have H2 := Aside0.mk hb2
    have HX := Aside0.mk hx
    clear hd hx0
    by_cases hlt : t < 16
    · have l1 : (t : Int) < 16 := by omega
      have m0 : 4 * (t : Int) < b.size := by omega
      have m1 : 4 * (t : Int) + 1 < b.size := by omega
      have m2 : 4 * (t : Int) + 2 < b.size := by omega
      have m3 : 4 * (t : Int) + 3 < b.size := by omega
      have q0 : 0 ≤ 4 * (t : Int) := by omega
      have q1 : 0 ≤ 4 * (t : Int) + 1 := by omega
      have q2 : 0 ≤ 4 * (t : Int) + 2 := by omega
      have q3 : 0 ≤ 4 * (t : Int) + 3 := by omega
      have n0 : 4 * t < b.size := by omega
      have n1 : 4 * t + 1 < b.size := by omega
      have n2 : 4 * t + 2 < b.size := by omega
      have n3 : 4 * t + 3 < b.size := by omega
      have LZ := Aside0.mk (fun z : Made.Later wr.heap.size wr => And.intro (Made.Later.blk hb0 (blk_lt hb0) z) (And.intro (Made.Later.blk hb1 (blk_lt hb1) z) (Made.Later.blk hb2 (blk_lt hb2) z)))
      clear hb0 hb1 hb2 hx
      go_wp2_with fail
      refine Made.region_made_tail wr.heap.size 31 (by kernel_rfl) (by kernel_rfl) ?_
      simp only [List.take_succ_cons, List.take_zero, List.drop_succ_cons, List.drop_zero]
      iterate 31 (go_big_quiet_step (fail))
      refine wpQuiet_nil ?_
      rintro _ ⟨z, rfl⟩
      obtain ⟨g0, g1, g2⟩ := LZ.out z
      have GX := Aside0.mk (HX.out.trans (z.below.mono HX.out.size))
      clear LZ
      generalize z.world = w6 at *
      obtain ⟨x0, cb⟩ := rowC_some b.data.toList t t (by omega) (by omega) g2
      have fb := blk_frozen g2 t
      have G0 := Aside0.mk g0
      have G1 := Aside0.mk g1
      have G2 := Aside0.mk g2
      clear g0 g1 g2
      go_wp2_with fail
      go_roundg (gk - 1)
      case measure => omega
      case rel =>
        refine ⟨t + 1, by omega, by go_num, blk_far G0.out (p := ⟨w.heap.size + 1 + 1, t, none⟩) (by simp; omega) _, blk_far G1.out (p := ⟨w.heap.size + 1 + 1, t, none⟩) (by simp) _, ?_, GX.out.setCell (p := ⟨w.heap.size + 1 + 1, t, none⟩) (by simp; omega) _⟩
        rw [word_first b t hlt n0 n1 n2 n3]
        exact blk_put G2.out t _ (rowC_set _ _ (by omega))
    · obtain rfl : t = 16 := by omega
      clear hb0 hb1 hb2 hx hlt ht
      go_wp2_with fail
      go_loopg [9] 48 (fun k i wr => ∃ t : Nat, 16 ≤ t ∧ t + k = 64 ∧ i = .int .i64 t ∧ wr.heap[w.heap.size]? = some (.cells (stc s) 23 (0, 0)) ∧ wr.heap[w.heap.size + 1]? = some (.cells (stc zeroSt) 23 (0, 0)) ∧ wr.heap[w.heap.size + 2]? = some (.cells (rowC b.data.toList t) 102 (0, 0)) ∧ Below w.heap.size w wr)
      case atStart => exact ⟨16, Nat.le_refl _, rfl, rfl, H0.out, H1.out, H2.out, HX.out⟩
      case round =>
        clear H0 H1 H2 HX
        obtain ⟨t, h16, ht, rfl, hb0, hb1, hb2, hx⟩ := hrel
        have H0 := Aside0.mk hb0
        have H1 := Aside0.mk hb1
        have H2 := Aside0.mk hb2
        have HX := Aside0.mk hx
        by_cases hlt : t < 64
        · have l1 : (t : Int) < 64 := by omega
          have l2 : (16 : Int) ≤ (t : Int) := by omega
          have z15 := rowC_at b.data.toList t (t - 15) (by omega) (by omega) hb2
          have z2 := rowC_at b.data.toList t (t - 2) (by omega) (by omega) hb2
          have z16 := rowC_at b.data.toList t (t - 16) (by omega) (by omega) hb2
          have z7 := rowC_at b.data.toList t (t - 7) (by omega) (by omega) hb2
          have HNW := Aside0.mk (next_tail b.data.toList t h16)
          generalize (sched b.data.toList t).getD (t - 15) 0 = x15 at *
          generalize (sched b.data.toList t).getD (t - 2) 0 = x2 at *
          generalize (sched b.data.toList t).getD (t - 16) 0 = x16 at *
          generalize (sched b.data.toList t).getD (t - 7) 0 = x7 at *
          have Z16 := Aside0.mk z16
          have Z7 := Aside0.mk z7
          clear hb0 hb1 hb2 hx z16 z7
          go_wp2_with fail
          go_quiet (fail)
          have Y16 := Aside0.mk (show (wr.drewN nq).cell? ⟨w.heap.size + 2, t - 16, none⟩ = some (.int .u32 (wd x16)) from Z16.out)
          have Y7 := Aside0.mk (show (wr.drewN nq).cell? ⟨w.heap.size + 2, t - 7, none⟩ = some (.int .u32 (wd x7)) from Z7.out)
          have G0 := Aside0.mk (blk_drewN H0.out nq)
          have G1 := Aside0.mk (blk_drewN H1.out nq)
          have G2 := Aside0.mk (blk_drewN H2.out nq)
          have GX := Aside0.mk (pw_below_drewN HX.out nq)
          clear H0 H1 H2 HX z15 z2 Z16 Z7
          generalize wr.drewN nq = w5 at *
          have LZ := Aside0.mk (fun z : Made.Later w5.heap.size w5 => And.intro (Made.Later.blk G0.out (blk_lt G0.out) z) (And.intro (Made.Later.blk G1.out (blk_lt G1.out) z) (Made.Later.blk G2.out (blk_lt G2.out) z)))
          have c16 : ∀ z : Made.Later w5.heap.size w5, z.world.cell? ⟨w.heap.size + 2, t - 16, none⟩ = some (.int .u32 (wd x16)) := Made.Later.cell Y16.out (World.block_lt_of_cell? w5 _ Y16.out)
          have c7 : ∀ z : Made.Later w5.heap.size w5, z.world.cell? ⟨w.heap.size + 2, t - 7, none⟩ = some (.int .u32 (wd x7)) := Made.Later.cell Y7.out (World.block_lt_of_cell? w5 _ Y7.out)
          go_wp2_with fail
          refine Made.region_made_tail w5.heap.size 29 (by kernel_rfl) (by kernel_rfl) ?_
          simp only [List.take_succ_cons, List.take_zero, List.drop_succ_cons, List.drop_zero]
          repeat (go_big_quiet_step ((go_at_call 85; exact Made.of_drawn (refright_calls _ _ (by decide) (by decide) _))))
          refine wpQuiet_nil ?_
          rintro _ ⟨z, rfl⟩
          obtain ⟨g0, g1, g2⟩ := LZ.out z
          have GX2 := Aside0.mk (GX.out.trans (z.below.mono GX.out.size))
          clear LZ c16 c7 G0 G1 G2 Y16 Y7
          generalize z.world = w6 at *
          obtain ⟨x0, cb⟩ := rowC_some b.data.toList t t (by omega) (by omega) g2
          have fb := blk_frozen g2 t
          have G0 := Aside0.mk g0
          have G1 := Aside0.mk g1
          have G2 := Aside0.mk g2
          clear g0 g1 g2
          go_wp2_with fail
          go_roundg (gk - 1)
          case measure => omega
          case rel =>
            refine ⟨t + 1, by omega, by omega, by go_num, blk_far G0.out (p := ⟨w.heap.size + 1 + 1, t, none⟩) (by simp; omega) _, blk_far G1.out (p := ⟨w.heap.size + 1 + 1, t, none⟩) (by simp) _, ?_, GX2.out.setCell (p := ⟨w.heap.size + 1 + 1, t, none⟩) (by simp; omega) _⟩
            rw [quick_word, ← HNW.out]
            exact blk_put G2.out t _ (rowC_set _ _ (by omega))
        · obtain rfl : t = 64 := by omega
          have c0 := stcT_cell hb0
          have hltT := Nat.lt_of_lt_of_le hBT hx.size
          have HRow := Aside0.mk (fun t (h : t < 64) => rowC_at b.data.toList 64 t h (Nat.le_refl _) hb2)
          have HTab := Aside0.mk (fun t (h : t < 64) => (hx.cell (p := ⟨BT, oT + t, none⟩) hBT).trans (HT.out t h))
          have lb2 := blk_lt hb2
          have lb0 := blk_lt hb0
          have lb1 := blk_lt hb1
          clear hb0 hb1 hb2 hx hlt ht h16
          go_wp2_with fail
          have HR2 := Aside0.mk (show ∀ t : Nat, t < 64 → wr.cell? ⟨w.heap.size + 2, t, none⟩ = some (.int .u32 (wd ((words b.data.toList).getD t 0))) from HRow.out)
          clear HRow
          generalize words b.data.toList = ws at *
          have GN := Aside0.mk (show (wr.alloc (.cells (stc s) 23)).heap[wr.heap.size]? = some (.cells (stc (runs ws s 0)) 23 (0, 0)) from blk_new wr _)
          clear c0
          obtain ⟨wo, rfl⟩ : ∃ wo : World, wo = wr := ⟨wr, rfl⟩
          go_loopg [13] 64 (fun k i wr => ∃ t : Nat, t + k = 64 ∧ i = .int .i64 t ∧ wr.heap[wo.heap.size]? = some (.cells (stc (runs ws s t)) 23 (0, 0)) ∧ Below wo.heap.size wo wr)
          case atStart => exact ⟨0, rfl, rfl, GN.out, (Below.refl _ _).alloc (Nat.le_refl _) _⟩
          case round =>
            clear GN
            obtain ⟨t, ht, rfl, hb, hx2⟩ := hrel
            have HN := Aside0.mk hb
            have HX2 := Aside0.mk hx2
            by_cases hlt : t < 64
            · have l1 : (t : Int) < 64 := by omega
              have cw := (hx2.cell (p := ⟨w.heap.size + 2, t, none⟩) lb2).trans (HR2.out t hlt)
              have ck := (hx2.cell (p := ⟨BT, oT + t, none⟩) hltT).trans (HTab.out t hlt)
              have cN := stcT_cell hb
              have e1 := Aside0.mk (show rnd (runs ws s t) (kws t) (ws.getD t 0) = runs ws s (t + 1) from rfl)
              generalize runs ws s t = cur at *
              generalize hnxt : runs ws s (t + 1) = nxt at *
              have HNX := Aside0.mk hnxt
              clear hnxt
              generalize ws.getD t 0 = xw at *
              generalize kws t = kk at *
              have CW := Aside0.mk cw
              have CK := Aside0.mk ck
              clear hb hx2
              go_wp2_with fail
              go_quiet (fail)
              have HN_A := Aside0.mk (blk_drewN HN.out nq)
              have HX_A := Aside0.mk (pw_below_drewN HX2.out nq)
              have CW_A := Aside0.mk (show (wr.drewN nq).cell? ⟨w.heap.size + 2, t, none⟩ = some (.int .u32 (wd xw)) from CW.out)
              have CK_A := Aside0.mk (show (wr.drewN nq).cell? ⟨BT, oT + t, none⟩ = some (.int .u32 (wd kk)) from CK.out)
              clear HN HX2 CW CK cw ck cN
              have HN := HN_A
              have HX2 := HX_A
              have CW := CW_A
              have CK := CK_A
              clear HN_A HX_A CW_A CK_A
              generalize wr.drewN nq = wr at *
              have cN := stcT_cell HN.out
              have cw := CW.out
              have ck := CK.out
              go_wp2_with fail
              go_quiet (fail)
              have HN_A := Aside0.mk (blk_drewN HN.out nq)
              have HX_A := Aside0.mk (pw_below_drewN HX2.out nq)
              have CW_A := Aside0.mk (show (wr.drewN nq).cell? ⟨w.heap.size + 2, t, none⟩ = some (.int .u32 (wd xw)) from CW.out)
              have CK_A := Aside0.mk (show (wr.drewN nq).cell? ⟨BT, oT + t, none⟩ = some (.int .u32 (wd kk)) from CK.out)
              clear HN HX2 CW CK cw ck cN
              have HN := HN_A
              have HX2 := HX_A
              have CW := CW_A
              have CK := CK_A
              clear HN_A HX_A CW_A CK_A
              generalize wr.drewN nq = wr at *
              have cN := stcT_cell HN.out
              have cw := CW.out
              have ck := CK.out
              go_wp2_with fail
              go_quiet ((go_at_call 85; exact Calls.quiet_of (refright_calls _ _ (by decide) (by decide) _)))
              have HN_A := Aside0.mk (blk_drewN HN.out nq)
              have HX_A := Aside0.mk (pw_below_drewN HX2.out nq)
              have CW_A := Aside0.mk (show (wr.drewN nq).cell? ⟨w.heap.size + 2, t, none⟩ = some (.int .u32 (wd xw)) from CW.out)
              have CK_A := Aside0.mk (show (wr.drewN nq).cell? ⟨BT, oT + t, none⟩ = some (.int .u32 (wd kk)) from CK.out)
              clear HN HX2 CW CK cw ck cN
              have HN := HN_A
              have HX2 := HX_A
              have CW := CW_A
              have CK := CK_A
              clear HN_A HX_A CW_A CK_A
              generalize wr.drewN nq = wr at *
              have cN := stcT_cell HN.out
              have cw := CW.out
              have ck := CK.out
              go_wp2_with fail
              refine (refright_calls _ _ (by decide) (by decide) _).mono ?_
              rintro e w' ⟨rfl, n1, rfl⟩
              go_wp2_with fail
              refine (refright_calls _ _ (by decide) (by decide) _).mono ?_
              rintro e w' ⟨rfl, n2, rfl⟩
              go_wp2_with fail
              refine (refright_calls _ _ (by decide) (by decide) _).mono ?_
              rintro e w' ⟨rfl, n3, rfl⟩
              have fN := stcT_free HN.out
              go_wp2_with fail
              go_roundg (gk - 1)
              case measure => omega
              case rel =>
                refine ⟨t + 1, by omega, by go_num, ?_, below8g _ _ _ _ _ _ _ _ (pw_below_drewN HX2.out _) (Nat.le_refl _)⟩
                rw [quick_a, quick_e, HNX.out, ← e1.out]
                exact put8g _ _ _ _ _ _ _ _ _ _ _ _ _ _ _ _ (blk_drewN HN.out _)
            · obtain rfl : t = 64 := by omega
              have b0' := Aside0.mk (blk_below H0.out hx2)
              have b1' := Aside0.mk (blk_below H1.out hx2)
              clear hb hx2 hlt ht
              generalize runs ws s 64 = cur at *
              have G1 := Aside0.mk (show wr.heap[wo.heap.size]? = some (.cells (stc (mixSt cur s 0)) 23 (0, 0)) from HN.out)
              go_wp2_with fail
              go_loopg [22] 8 (fun k i wq => ∃ t : Nat, t + k = 8 ∧ i = .int .i64 t ∧ wq.heap[wo.heap.size]? = some (.cells (stc (mixSt cur s t)) 23 (0, 0)) ∧ Below wo.heap.size wo wq)
              case atStart => exact ⟨0, rfl, rfl, G1.out, HX2.out⟩
              case round =>
                obtain ⟨t, ht, rfl, hb, hx3⟩ := hrel
                have HX3 := Aside0.mk hx3
                have HE2 := Aside0.mk hb
                have bs := blk_below H0.out hx3
                have br := blk_below H1.out hx3
                by_cases hlt : t < 8
                · have c1 := stcT_at hb t hlt
                  rw [mixSt_at _ _ _ hlt] at c1
                  have c2 := stcT_at bs t hlt
                  have f1 := stcT_free hb t
                  generalize hp : St.at cur t = p at *
                  generalize hq : St.at s t = q at *
                  have Hp := Aside0.mk hp
                  have Hq := Aside0.mk hq
                  have l1 : (t : Int) < 8 := by omega
                  clear hb hx3 bs br hp hq
                  go_wp2_with fail
                  go_region
                  all_goals
                    go_wp2_with fail
                    go_roundg (gk - 1)
                    case measure => omega
                    case rel =>
                      refine ⟨t + 1, by omega, by go_num, ?_, ?_⟩
                      · refine blk_drew ?_
                        rw [wd_add, ← Hp.out, ← Hq.out]
                        exact blk_put HE2.out t _ (mixSt_set _ _ _ hlt)
                      · exact (HX3.out.setCell (p := ⟨wo.heap.size, t, none⟩) (Nat.le_refl _) _).drew
                · obtain rfl : t = 8 := by omega
                  have e8 : mixSt cur s 8 = nx := by rw [HNE.out]; rfl
                  rw [e8] at hb
                  have c1 := stcT_cell hb
                  have c2 := stcT_cell br
                  have f2 := stcT_free br
                  clear hb hx3 bs hlt e8 HNE
                  go_wp2_with fail
                  refine bodyPost_ret (v := stv nx) (by unfold stv; simp [results, Tryd.results33, go_sem, c2]) rfl ⟨rfl, ?_⟩
                  exact put8V_below nx (HX.out.trans (HX3.out.mono HX.out.size)) (by omega)
end Go.Proofs.YtobgcjfelegpkaaDoor.Blk
