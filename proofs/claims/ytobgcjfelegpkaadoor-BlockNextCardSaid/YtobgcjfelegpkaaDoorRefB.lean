/- Contracts of the reference's Words, Constants, Table and Next. -/
import Derived.Test.YtobgcjfelegpkaaDoorRefA
namespace Go.Proofs.YtobgcjfelegpkaaDoor.Blk
open Go.RowKit Go.Proofs.YtobgcjfelegpkaaDoor.PBw Go.Proofs.YtobgcjfelegpkaaDoor.GivA Go.Proofs.YtobgcjfelegpkaaDoorW.PrintWords Go.Proofs.YtobgcjfelegpkaaDoorW.PrintLast Go.Proofs.YtobgcjfelegpkaaDoorW.PrintMore Go.Proofs.Sp Go.Proofs.YtobgcjfelegpkaaDoor.Pure
set_option linter.unusedVariables false
set_option linter.unusedSimpArgs false
/-- A row of 64 words in memory, by what each is. -/
theorem row_of_R {w w' : World} {v : Value} {l : List Int} {base : Nat} {ok : Nat → Prop} (hl : l.length = 64) (hR : Kd.R (Kd.int .u32) 22 w' base ok v l) : ∃ B o c, v = .slice (some ⟨B, o, none⟩) 64 c ∧ 64 ≤ c ∧ B < w'.heap.size ∧ (∀ (t : Nat), t < 64 → w'.cell? ⟨B, o + t, none⟩ = some (.int .u32 (l.getD t 0))) := by
  obtain ⟨A, c, rfl, hcap, hC⟩ := Kd.R_reads hR
  rw [hl] at hC hcap ⊢
  obtain ⟨ad, rfl, h0⟩ := Kd.at_int hC 0 (by decide) (by decide)
  have hspot : ad.spot = none := World.cell?_spot (by simpa [Addr.add] using h0)
  obtain ⟨B, o, sp⟩ := ad
  obtain rfl : sp = none := hspot
  refine ⟨B, o, c, rfl, hcap, World.block_lt_of_cell? w' _ (by simpa [Addr.add] using h0), fun t ht => ?_⟩
  obtain ⟨ad2, e2, h2⟩ := Kd.at_int hC (t : Int) (by omega) (by omega)
  obtain rfl := Option.some.inj e2
  rw [Int.toNat_natCast] at h2
  have e : rd l (t : Int) = l.getD t 0 := by unfold rd; rw [Int.toNat_natCast]
  rw [← e, ← h2]
  congr 1
  unfold Addr.add
  split <;> simp_all
theorem getD_map (l : List W32) (t : Nat) : (l.map wd).getD t 0 = wd (l.getD t 0) := by
  have := rd_map l t
  unfold rd at this
  rw [Int.toNat_natCast] at this
  exact this
theorem refwords_calls (b : ByteArray) (h : b.size = 64) (w : World) : Calls Tryd.prog 84 #[.string b] w fun e w' => ∃ B o c, e = .returned (.tuple #[.slice (some ⟨B, o, none⟩) 64 c, .int .i64 0]) ∧ 64 ≤ c ∧ B < w'.heap.size ∧
    (∀ (t : Nat), t < 64 → w'.cell? ⟨B, o + t, none⟩ = some (.int .u32 (wd ((words b.data.toList).getD t 0)))) ∧ Below w.heap.size w w' := by
  refine (paymasterref04_Words.calls 201 b _ _ w (refw_some b h 201 (by decide))).mono ?_
  rintro e w' ⟨v, rfl, hR, hB⟩
  obtain ⟨B, o, c, rfl, h1, h2, h3⟩ := row_of_R (w := w) (by rw [List.length_map]; exact sched_length _ 64) hR
  refine ⟨B, o, c, rfl, h1, h2, fun t ht => ?_, hB⟩
  rw [h3 t ht, getD_map]
theorem refwords_none (b : ByteArray) (h : ¬ b.size = 64) (w : World) : Calls Tryd.prog 84 #[.string b] w fun e w' => ∃ A c, e = .returned (.tuple #[.slice A 0 c, .int .i64 2]) ∧ Below w.heap.size w w' := by
  refine (paymasterref04_Words.calls 1 b [] 2 w (by unfold paymasterref04_Words.f; rw [if_neg (by omega)])).mono ?_
  rintro e w' ⟨v, rfl, hR, hB⟩
  obtain ⟨A, c, rfl, _, hC⟩ := Kd.R_reads hR
  exact ⟨A, c, rfl, hB⟩
theorem kTab_length : kTab.length = 64 := rfl
theorem kTab_kws (t : Nat) (h : t < 64) : kTab.getD t 0 = wd (kws t) := by
  unfold kws
  rw [wd_kw]
  unfold kAt
  rw [if_neg (by omega), if_neg (by omega), Int.toNat_natCast]
theorem const_mono (k a : Nat) (hk : 8001 ≤ k) (ha : a < 64) : paymasterref04_Constant.f k (a : Int) = some (kTab.getD a 0) :=
  at_rounds (paymasterref04_Constant.mono (a : Int)) hk (const_in a ha)
theorem constants_go (d : Nat) : ∀ (k t : Nat), t + d = 64 → 8001 + d < k → paymasterref04_Constants.l0 k (kTab.take t) (t : Int) = some kTab := by
  induction d with
  | zero =>
    intro k t ht hk
    obtain ⟨k, rfl⟩ : ∃ m, k = m + 1 := ⟨k - 1, by omega⟩
    obtain rfl : t = 64 := by omega
    simp only [paymasterref04_Constants.l0]
    rw [if_neg (by omega), List.take_of_length_le (by rw [kTab_length]; omega)]
  | succ d ih =>
    intro k t ht hk
    obtain ⟨k, rfl⟩ : ∃ m, k = m + 1 := ⟨k - 1, by omega⟩
    have hl : (kTab.take t).length = t := by rw [List.length_take, kTab_length]; omega
    simp only [paymasterref04_Constants.l0]
    rw [if_pos (by omega), const_mono k t (by omega) (by omega), Option.bind_some, hl, if_pos (by omega), wrap64_in (by omega) (by omega)]
    have e : kTab.take t ++ [kTab.getD t 0] = kTab.take (t + 1) := by
      rw [List.take_succ_eq_append_getElem (by rw [kTab_length]; omega), List.getD_eq_getElem?_getD, List.getElem?_eq_getElem (by rw [kTab_length]; omega)]
      rfl
    rw [e]
    exact ih k (t + 1) (by omega) (by omega)
theorem constants_calls (w : World) : Calls Tryd.prog 32 #[] w fun e w' => ∃ B o c, e = .returned (.slice (some ⟨B, o, none⟩) 64 c) ∧ 64 ≤ c ∧ B < w'.heap.size ∧
    (∀ (t : Nat), t < 64 → w'.cell? ⟨B, o + t, none⟩ = some (.int .u32 (wd (kws t)))) ∧ Below w.heap.size w w' := by
  refine (paymasterref04_Constants.calls 8066 kTab w (constants_go 64 8066 0 rfl (by decide))).mono ?_
  rintro e w' ⟨v, rfl, hR, hB⟩
  obtain ⟨B, o, c, rfl, h1, h2, h3⟩ := row_of_R (w := w) kTab_length hR
  refine ⟨B, o, c, rfl, h1, h2, fun t ht => ?_, hB⟩
  rw [h3 t ht, kTab_kws t ht]
theorem table_calls (w : World) : Calls Tryd.prog 34 #[] w fun e w' => ∃ B o c, e = .returned (.slice (some ⟨B, o, none⟩) 64 c) ∧ 64 ≤ c ∧ B < w'.heap.size ∧
    (∀ (t : Nat), t < 64 → w'.cell? ⟨B, o + t, none⟩ = some (.int .u32 (wd (kws t)))) ∧ Below w.heap.size w w' := by
  refine (paymasterref04_Table.calls kTab w rfl).mono ?_
  rintro e w' ⟨v, rfl, hR, hB⟩
  obtain ⟨B, o, c, rfl, h1, h2, h3⟩ := row_of_R (w := w) kTab_length hR
  refine ⟨B, o, c, rfl, h1, h2, fun t ht => ?_, hB⟩
  rw [h3 t ht, kTab_kws t ht]
def put8V (W : World) (B : Nat) (s : St) : World := ((((((((W.setCell ⟨B, 0, none⟩ (.int .u32 (wd s.a))).setCell ⟨B, 1, none⟩ (.int .u32 (wd s.b))).setCell ⟨B, 2, none⟩ (.int .u32 (wd s.c))).setCell ⟨B, 3, none⟩ (.int .u32 (wd s.d))).setCell ⟨B, 4, none⟩ (.int .u32 (wd s.e))).setCell ⟨B, 5, none⟩ (.int .u32 (wd s.f))).setCell ⟨B, 6, none⟩ (.int .u32 (wd s.g))).setCell ⟨B, 7, none⟩ (.int .u32 (wd s.h)))
theorem put8V_self {W : World} {B T : Nat} (s : St) {u0 u1 u2 u3 u4 u5 u6 u7 : Value} (h : W.heap[B]? = some (.cells #[u0, u1, u2, u3, u4, u5, u6, u7] T (0, 0))) : (put8V W B s).heap[B]? = some (.cells (stc s) T (0, 0)) :=
  put8g _ _ _ _ _ _ _ _ _ _ _ _ _ _ _ _ h
theorem put8V_below {w W : World} {N B : Nat} (s : St) (h : Below N w W) (hB : N ≤ B) : Below N w (put8V W B s) := below8g _ _ _ _ _ _ _ _ h hB
theorem below_two {w w1 : World} {o1 o2 : Obj} (h : Below ((w.alloc o1).alloc o2).heap.size ((w.alloc o1).alloc o2) w1) : Below w.heap.size w w1 :=
  (below_alloc (below_alloc (Below.refl _ w) o1) o2).trans (h.mono (by simp; omega))
set_option maxHeartbeats 4000000 in
set_option maxRecDepth 100000 in
theorem refnext_calls (s : St) (b : ByteArray) (h64 : b.size = 64) (w : World) (BT oT cT : Nat) (hcT : 64 ≤ cT) (hBT : BT < w.heap.size) (hcell : ∀ (t : Nat), t < 64 → w.cell? ⟨BT, oT + t, none⟩ = some (.int .u32 (wd (kws t)))) :
    Calls Tryd.prog 31 #[stv s, .string b, .slice (some ⟨BT, oT, none⟩) 64 cT] w fun e w' => e = .returned (.tuple #[stv (next s b.data.toList), .int .i64 0]) ∧ Below w.heap.size w w' := by
  have HT := Aside0.mk hcell
  have HW := Aside0.mk (refwords_calls b h64)
  have HNE := Aside0.mk (show next s b.data.toList = addSt (runs (words b.data.toList) s 64) s from rfl)
  generalize hws : words b.data.toList = ws at *
  generalize next s b.data.toList = nx at *
  clear hws h64 hcell
  unfold stv
  go_enter Tryd.func31, Tryd.ntmps31
  go_wp2_with fail
  refine (HW.out _).mono ?_
  rintro e w1 ⟨BA, oA, cW, rfl, hcap, hA, hcw, hb1⟩
  have HC := Aside0.mk hcw
  have HX := Aside0.mk (below_two hb1)
  have b0 := Aside0.mk (blk_below (blk_alloc (blk_new w (.cells (stc s) 23)) (.cells (stc zeroSt) 23)) hb1)
  have b1 : w1.heap[w.heap.size + 1]? = some (.cells (stc zeroSt) 23 (0, 0)) := by
    refine blk_below ?_ hb1
    have := blk_new (w.alloc (.cells (stc s) 23)) (.cells (stc zeroSt) 23)
    rw [World.size_alloc] at this
    exact this
  have HB1 := Aside0.mk b1
  have hsz : w.heap.size + 2 ≤ w1.heap.size := by have := hb1.size; simpa using this
  have c0 := stcT_cell b0.out
  clear hb1 hcw b1
  go_wp2_with fail
  have G0 := Aside0.mk (show (w1.alloc (.cells (stc s) 23)).heap[w1.heap.size]? = some (.cells (stc (runs ws s 0)) 23 (0, 0)) from blk_new w1 _)
  clear c0
  go_loopg [11] 64 (fun k i wr => ∃ t : Nat, t + k = 64 ∧ i = .int .i64 t ∧ wr.heap[w1.heap.size]? = some (.cells (stc (runs ws s t)) 23 (0, 0)) ∧ Below w1.heap.size w1 wr)
  case atStart => exact ⟨0, rfl, rfl, G0.out, (Below.refl _ _).alloc (Nat.le_refl _) _⟩
  case round =>
    obtain ⟨t, ht, rfl, hb, hx⟩ := hrel
    have HR := Aside0.mk hx
    have HN := Aside0.mk hb
    by_cases hlt : t < 64
    · have l1 : (t : Int) < 64 := by omega
      have hcx : wr.cell? ⟨BA, oA + t, none⟩ = some (.int .u32 (wd (ws.getD t 0))) := (hx.cell (p := ⟨BA, oA + t, none⟩) hA).trans (HC.out t hlt)
      have hBT1 : BT < w1.heap.size := by omega
      have hck : wr.cell? ⟨BT, oT + t, none⟩ = some (.int .u32 (wd (kws t))) := (hx.cell (p := ⟨BT, oT + t, none⟩) hBT1).trans ((HX.out.cell (p := ⟨BT, oT + t, none⟩) hBT).trans (HT.out t hlt))
      have R1 := Aside0.mk (turned_calls (runs ws s t) (kws t) (ws.getD t 0))
      have e1 : rnd (runs ws s t) (kws t) (ws.getD t 0) = runs ws s (t + 1) := rfl
      rw [e1] at R1
      have hlN := blk_lt hb
      have hlA : BA < wr.heap.size := Nat.lt_of_lt_of_le hA hx.size
      have hlT : BT < wr.heap.size := Nat.lt_of_lt_of_le hBT1 hx.size
      generalize runs ws s t = cur at *
      generalize hnxt : runs ws s (t + 1) = nxt at *
      have HNX := Aside0.mk hnxt
      generalize ws.getD t 0 = xw at *
      generalize kws t = kk at *
      clear e1 hnxt
      unfold stv at R1
      have LN := Made.Later.blk (N := wr.heap.size) hb hlN
      have cN : ∀ (z : Made.Later wr.heap.size wr) j, z.world.cell? ⟨w1.heap.size, j, none⟩ = #[Value.int .u32 (wd cur.a), .int .u32 (wd cur.b), .int .u32 (wd cur.c), .int .u32 (wd cur.d), .int .u32 (wd cur.e), .int .u32 (wd cur.f), .int .u32 (wd cur.g), .int .u32 (wd cur.h)][j]? := fun z => stcT_cell (LN z)
      have cX : ∀ (z : Made.Later wr.heap.size wr), z.world.cell? ⟨BA, oA + t, none⟩ = some (.int .u32 (wd xw)) := Made.Later.cell hcx hlA
      have cK : ∀ (z : Made.Later wr.heap.size wr), z.world.cell? ⟨BT, oT + t, none⟩ = some (.int .u32 (wd kk)) := Made.Later.cell hck hlT
      have HLN := Aside0.mk LN
      clear hcx hck LN hx hb
      go_wp2_with fail
      refine Made.region_made_tail wr.heap.size 10 (by kernel_rfl) (by kernel_rfl) ?_
      simp only [List.take_succ_cons, List.take_zero, List.drop_succ_cons, List.drop_zero]
      iterate 9 (go_big_quiet_step (fail))
      go_big_quiet_step ((go_at_call 80; exact Made.of_below (Nat.le_refl _) (R1.out _)))
      refine wpQuiet_nil ?_
      rintro _ ⟨z, rfl⟩
      have gz := HLN.out z
      have HZ := Aside0.mk (HR.out.trans (z.below.mono HR.out.size))
      clear cN cX cK HLN
      generalize z.world = w6 at *
      have cz := stcT_cell gz
      have fz := stcT_free gz
      have GZ := Aside0.mk gz
      clear gz
      go_wp2_with fail
      go_roundg (gk - 1)
      case measure => omega
      case rel =>
        refine ⟨t + 1, by omega, by go_num, ?_, ?_⟩
        · rw [HNX.out]; exact put8V_self nxt GZ.out
        · exact put8V_below nxt HZ.out (Nat.le_refl _)
    · obtain rfl : t = 64 := by omega
      clear hlt ht hb
      have b0' := Aside0.mk (blk_below b0.out hx)
      have b1' := Aside0.mk (blk_below HB1.out hx)
      clear hx
      generalize runs ws s 64 = cur at *
      have G1 := Aside0.mk (show wr.heap[w1.heap.size]? = some (.cells (stc (mixSt cur s 0)) 23 (0, 0)) from HN.out)
      go_wp2_with fail
      go_loopg [12] 8 (fun k i wq => ∃ t : Nat, t + k = 8 ∧ i = .int .i64 t ∧ wq.heap[w1.heap.size]? = some (.cells (stc (mixSt cur s t)) 23 (0, 0)) ∧ Below w1.heap.size w1 wq)
      case atStart => exact ⟨0, rfl, rfl, G1.out, HR.out⟩
      case round =>
        obtain ⟨t, ht, rfl, hb, hx⟩ := hrel
        have HX2 := Aside0.mk hx
        have HE2 := Aside0.mk hb
        have bs := blk_below b0.out hx
        have br := blk_below HB1.out hx
        by_cases hlt : t < 8
        · have c1 := stcT_at hb t hlt
          rw [mixSt_at _ _ _ hlt] at c1
          have c2 := stcT_at bs t hlt
          have f1 := stcT_free hb t
          generalize hp : St.at cur t = p at *
          generalize hq : St.at s t = q at *
          have Hp := Aside0.mk hp
          have Hq := Aside0.mk hq
          have l1 : (t : Int) < 8 := by omega
          clear hb hx bs br hp hq
          go_wp2_with fail
          go_region
          all_goals
            go_wp2_with fail
            go_roundg (gk - 1)
            case measure => omega
            case rel =>
              refine ⟨t + 1, by omega, by go_num, ?_, ?_⟩
              · refine blk_drew ?_
                rw [wd_add, ← Hp.out, ← Hq.out]
                exact blk_put HE2.out t _ (mixSt_set _ _ _ hlt)
              · exact (HX2.out.setCell (p := ⟨w1.heap.size, t, none⟩) (Nat.le_refl _) _).drew
        · obtain rfl : t = 8 := by omega
          have e8 : mixSt cur s 8 = nx := by rw [HNE.out]; rfl
          rw [e8] at hb
          have c1 := stcT_cell hb
          have c2 := stcT_cell br
          have f2 := stcT_free br
          clear hb hx bs hlt e8 HNE
          go_wp2_with fail
          refine bodyPost_ret (v := .tuple #[stv nx, .int .i64 0]) (by unfold stv; simp [results, Tryd.results31, go_sem, c2]) rfl ⟨rfl, ?_⟩
          exact put8V_below nx (HX.out.trans (HX2.out.mono (by omega))) (by omega)
set_option maxHeartbeats 4000000 in
set_option maxRecDepth 100000 in
theorem refnext_none (s : St) (b : ByteArray) (h64 : ¬ b.size = 64) (w : World) (AT : Option Addr) (cT : Nat) :
    Calls Tryd.prog 31 #[stv s, .string b, .slice AT 64 cT] w fun e w' => e = .returned (.tuple #[stv zeroSt, .int .i64 2]) ∧ Below w.heap.size w w' := by
  have HW := Aside0.mk (refwords_none b h64)
  clear h64
  unfold stv
  go_enter Tryd.func31, Tryd.ntmps31
  go_wp2_with fail
  refine (HW.out _).mono ?_
  rintro e w1 ⟨A, c, rfl, hb1⟩
  have HX := Aside0.mk (below_two hb1)
  have b1 : w1.heap[w.heap.size + 1]? = some (.cells (stc zeroSt) 23 (0, 0)) := by
    refine blk_below ?_ hb1
    have := blk_new (w.alloc (.cells (stc s) 23)) (.cells (stc zeroSt) 23)
    rw [World.size_alloc] at this
    exact this
  have c1 := stcT_cell b1
  have f1 := stcT_free b1
  clear hb1 b1
  go_wp2_with fail
  refine bodyPost_ret (v := .tuple #[stv zeroSt, .int .i64 2]) (by unfold stv; simp [results, Tryd.results31, go_sem, c1]; exact ⟨rfl, rfl, rfl, rfl, rfl, rfl, rfl, rfl⟩) rfl ⟨rfl, ?_⟩
  exact put8V_below zeroSt HX.out (by omega)
end Go.Proofs.YtobgcjfelegpkaaDoor.Blk
