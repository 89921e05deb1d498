/- The law TagTexts: it answers true for every input. -/
import Derived.Test.YtomninikmcmmcaaDoorQq
import Derived.Test.YtomninikmcmmcaaDoorMg
import Derived.Test.YtomninikmcmmcaaDoorMk
import Derived.Test.YtomninikmcmmcaaDoorKd
import Derived.Test.YtomninikmcmmcaaDoorRel
namespace Go.Proofs.YtomninikmcmmcaaDoor.Tag
open Go Go.RowKit Go.Proofs.YtomninikmcmmcaaDoorW.PrintWords Go.Proofs.YtomninikmcmmcaaDoor.PTg Go.Proofs.YtomninikmcmmcaaDoor.PTr Go.Proofs.YtomninikmcmmcaaDoor.PTq Go.Proofs.YtomninikmcmmcaaDoor.PTk Go.Proofs.YtomninikmcmmcaaDoor.GivL Go.Proofs.YtomninikmcmmcaaDoor.GivR Go.Proofs.YtomninikmcmmcaaDoor.GivU Go.Proofs.YtomninikmcmmcaaDoor.Ids Go.Proofs.YtomninikmcmmcaaDoor.Kds
set_option linter.unusedVariables false
set_option linter.unusedSimpArgs false
def vT (t : ByteArray) (n : Int) (p : Bool) (i s : ByteArray) (h l : Int) (r1 : Bool) (r2 r3 : ByteArray) (r4 r5 : Int) (r6 m wd ml : Bool) (T : ByteArray) : Nat → Value
  | 0 => .string t
  | 1 => .bool m
  | 2 => .string t
  | 3 => .bool m
  | 4 => .bool true
  | 5 => .bool true
  | 6 => .int .i64 n
  | 7 => .bool wd
  | 8 => .int .i64 n
  | 9 => .bool wd
  | 10 => .bool true
  | 11 => .bool true
  | 12 => .bool true
  | 13 => .agg #[.bool p, .string i, .string s, .int .u64 h, .int .u64 l]
  | 14 => .bool ml
  | 15 => .agg #[.bool p, .string i, .string s, .int .u64 h, .int .u64 l]
  | 16 => .bool ml
  | 17 => .bool true
  | 18 => .bool true
  | 19 => .bool true
  | 20 => .agg #[.bool p, .string i, .string s, .int .u64 h, .int .u64 l]
  | 21 => .string T
  | 22 => .agg #[.bool p, .string i, .string s, .int .u64 h, .int .u64 l]
  | 23 => .string T
  | 24 => .bool true
  | 25 => .bool true
  | 26 => .bool true
  | 27 => .agg #[.bool r1, .string r2, .string r3, .int .u64 r4, .int .u64 r5]
  | 28 => .agg #[.bool r1, .string r2, .string r3, .int .u64 r4, .int .u64 r5]
  | 29 => .bool true
  | 30 => .bool true
  | 31 => .bool true
  | 32 => .bool r6
  | 33 => .bool r6
  | 34 => .bool true
  | 35 => .bool true
  | 36 => .bool true
  | _ => .bool false
abbrev leafC (p : Bool) (i s : ByteArray) (h l : Int) : Obj := .cells #[.bool p, .string i, .string s, .int .u64 h, .int .u64 l] 39 (0, 0)
/-- What is known of the world between two calls of the law. -/
structure Kp (w : World) (ga gb : Nat) (p : Bool) (i s : ByteArray) (h l : Int) (r1 : Bool) (r2 r3 : ByteArray) (r4 r5 : Int) (W : World) : Prop where
  below : Below w.heap.size w W
  arg : W.heap[w.heap.size]? = some (leafC p i s h l)
  a : W.heap[ga]? = some (leafC r1 r2 r3 r4 r5)
  b : W.heap[gb]? = some (leafC r1 r2 r3 r4 r5)
theorem Kp.step {w : World} {ga gb : Nat} {p : Bool} {i s : ByteArray} {h l : Int} {r1 : Bool} {r2 r3 : ByteArray} {r4 r5 : Int} {W W' : World} (k : Kp w ga gb p i s h l r1 r2 r3 r4 r5 W) (hb : Below W.heap.size W W') : Kp w ga gb p i s h l r1 r2 r3 r4 r5 W' :=
  ⟨k.below.trans (hb.mono k.below.size), blk_below k.arg hb, blk_below k.a hb, blk_below k.b hb⟩
structure Cl (W : World) (g : Nat) (p : Bool) (i s : ByteArray) (h l : Int) : Prop where
  c0 : W.cell? ⟨g, 0, none⟩ = some (.bool p)
  c1 : W.cell? ⟨g, 1, none⟩ = some (.string i)
  c2 : W.cell? ⟨g, 2, none⟩ = some (.string s)
  c3 : W.cell? ⟨g, 3, none⟩ = some (.int .u64 h)
  c4 : W.cell? ⟨g, 4, none⟩ = some (.int .u64 l)
theorem Cl.of {W : World} {g : Nat} {p : Bool} {i s : ByteArray} {h l : Int} (k : W.heap[g]? = some (leafC p i s h l)) : Cl W g p i s h l :=
  ⟨(blk_cell k 0).trans rfl, (blk_cell k 1).trans rfl, (blk_cell k 2).trans rfl, (blk_cell k 3).trans rfl, (blk_cell k 4).trans rfl⟩
set_option maxHeartbeats 8000000 in
set_option maxRecDepth 100000 in
theorem tagTexts_go (p : Bool) (i s : ByteArray) (h l : Int) (hh : In64 h) (hl : In64 l) (t : ByteArray) (ht : t.size ≤ 140737488351232) (n : Int) (w : World) (hT : TabU w) :
    Calls Tryd.prog 4 #[.agg #[.bool p, .string i, .string s, .int .u64 h, .int .u64 l], .string t, .int .i64 n] w fun e w' => e = .returned (.bool true) ∧ Below w.heap.size w w' := by
  have HT := Aside0.mk hT
  have HL := Aside0.mk (fun w => paymasterlaw07_LongLeaf.calls p i s h l _ w (longleaf_some p i s h l))
  clear hT
  by_cases hlong : i.size > 300 ∨ s.size > 300
  · rw [decide_eq_true hlong] at HL
    go_enter Tryd.func4, Tryd.ntmps4
    go_wp2_with fail
    refine (HL.out _).mono ?_
    rintro e w1 ⟨rfl, b1⟩
    have B1 : Below w.heap.size w w1 := ((Below.refl _ w).alloc (Nat.le_refl _) _).trans (b1.mono (by simp))
    clear b1
    go_wp2_with fail
    go_ret
    exact ⟨rfl, B1⟩
  rw [decide_eq_false hlong] at HL
  by_cases hlt : (t.size : Int) > 1000
  · go_enter Tryd.func4, Tryd.ntmps4
    go_wp2_with fail
    refine (HL.out _).mono ?_
    rintro e w1 ⟨rfl, b1⟩
    have B1 : Below w.heap.size w w1 := ((Below.refl _ w).alloc (Nat.le_refl _) _).trans (b1.mono (by simp))
    clear b1
    go_wp2_with fail
    go_ret
    exact ⟨rfl, B1⟩
  obtain ⟨r, hr, tr⟩ := read_told t (by omega) 20 (Nat.le_refl _)
  obtain ⟨q, hq, tq⟩ := refread_told t (by omega) 400 (Nat.le_refl _)
  obtain rfl := tr.one tq
  obtain ⟨r1, r2, r3, r4, r5, r6⟩ := r
  have HR := Aside0.mk (fun w hT => tag_Read.calls 20 t r1 r2 r3 r4 r5 r6 w hT hr)
  have HQ := Aside0.mk (fun w => paymasterref07_Read.calls 400 t r1 r2 r3 r4 r5 r6 w hq)
  have H3 := Aside0.mk (fun w hT => tag_MayId.calls t _ w hT (mayid_some t (by omega)))
  have H4 := Aside0.mk (fun w => paymasterref07_MayId.calls 2000 t _ w (refmayid_some t (by omega) 2000 (by omega)))
  have H5 := Aside0.mk (fun w => tag_MayWidth.calls n _ w (width_some n))
  have H6 := Aside0.mk (fun w => paymasterref07_MayWidth.calls n _ w (refwidth_some n))
  have H7 := Aside0.mk (fun w hT => tag_MayLeaf.calls p i s h l _ w hT (mayleaf_some p i s h l (by omega)))
  have H8 := Aside0.mk (fun w => paymasterref07_MayLeaf.calls 2000 p i s h l _ w (refmayleaf_some p i s h l (by omega) 2000 (by omega)))
  have H9 := Aside0.mk (fun w hT => tag_LeafText.calls p i s h l _ w hT (leaftext_some p i s h l (by omega) hh.1 hh.2 hl.1 hl.2))
  have H10 := Aside0.mk (fun w => paymasterref07_LeafText.calls 2000 p i s h l _ w (refleaftext_some p i s h l (by omega) hh.1 hh.2 hl.1 hl.2 2000 (by omega)))
  clear hr hq tr tq hh hl ht hlong
  generalize mayId t = m at *
  generalize decide (1 ≤ n ∧ n ≤ 32) = wd at *
  generalize (if mayL p i s h l = true then leafT p i s h l else (⟨#[]⟩ : ByteArray)) = T at *
  generalize mayL p i s h l = ml at *
  go_enter Tryd.func4, Tryd.ntmps4
  go_wp2_with fail
  refine (HL.out _).mono ?_
  rintro e w1 ⟨rfl, b1⟩
  have B1 : Below w.heap.size w w1 := ((Below.refl _ w).alloc (Nat.le_refl _) _).trans (b1.mono (by simp))
  have A1 : w1.heap[w.heap.size]? = some (leafC p i s h l) := blk_below (blk_new w _) b1
  have G1 := blk_lt A1
  have A1 := Aside0.mk A1
  have B1 := Aside0.mk B1
  clear b1 HL
  go_wp2_with fail
  refine (HR.out _ (HT.out.keep B1.out)).mono ?_
  rintro e w2 ⟨rfl, b2⟩
  have A2 := Aside0.mk (blk_below A1.out b2)
  have B2 := Aside0.mk (B1.out.trans (b2.mono B1.out.size))
  clear b2 HR A1 B1 G1
  go_wp2_with fail
  refine (HQ.out _).mono ?_
  rintro e w4 ⟨rfl, b4⟩
  have A4 := Aside0.mk (blk_below (blk_alloc A2.out _) b4)
  have R4 : Aside0 (w4.heap[w2.heap.size]? = some (leafC r1 r2 r3 r4 r5)) := Aside0.mk (blk_below (blk_new w2 _) b4)
  have B4 := Aside0.mk ((B2.out.alloc B2.out.size (leafC r1 r2 r3 r4 r5)).trans (b4.mono (Nat.le_trans B2.out.size (by simp))))
  clear b4 HQ A2 B2
  go_wp2_with fail
  have K5 : Aside0 (Kp w w2.heap.size w4.heap.size p i s h l r1 r2 r3 r4 r5 (w4.alloc (.cells #[.bool r1, .string r2, .string r3, .int .u64 r4, .int .u64 r5] 39))) := Aside0.mk ⟨B4.out.alloc B4.out.size _, blk_alloc A4.out _, blk_alloc R4.out _, blk_new w4 _⟩
  clear A4 R4 B4
  generalize w4.alloc (.cells #[.bool r1, .string r2, .string r3, .int .u64 r4, .int .u64 r5] 39) = w5 at K5 ⊢
  generalize w4.heap.size = gb at K5 ⊢
  generalize w2.heap.size = ga at K5 ⊢
  refine Rel.region_rel [] (fun _ => .cells #[] 0 (0, 0)) (fun j v _ => v = vT t n p i s h l r1 r2 r3 r4 r5 r6 m wd ml T j) 37 [] (by kernel_rfl) (by kernel_rfl) (by decide) (fun i hi => by cases hi) (fun _ _ _ _ h _ => h) (fun i hi => by cases hi) ?_ ?_
  · simp only [List.take_succ_cons, List.take_zero]
    refine ⟨?_, ?_, ?_, ?_, ?_, ?_, ?_, ?_, ?_, ?_, ?_, ?_, ?_, ?_, ?_, ?_, ?_, ?_, ?_, ?_, ?_, ?_, ?_, ?_, ?_, ?_, ?_, ?_, ?_, ?_, ?_, ?_, ?_, ?_, ?_, ?_, ?_, trivial⟩
    · refine Rel.Upon.of [] (by kernel_rfl) ?_
      intro vals z hb hN hd
      simp only [Rel.rp]
      go_wp2_with fail
      exact ⟨Below.refl _ _, rfl⟩
    · refine Rel.Upon.of [0] (by kernel_rfl) ?_
      intro vals z hb hN hd
      simp only [Rel.ra] at hd
      have d0 := hd
      replace d0 : vals 0 = .string t := d0
      simp only [Rel.rp, d0]
      go_wp2_with fail
      refine (H3.out _ (HT.out.keep (K5.out.step hb).below)).mono ?_; rintro e z1 ⟨rfl, hbz0⟩; have hbz := hbz0; clear hbz0
      go_wp2_with fail
      first | rfl | exact ⟨hbz, rfl⟩
    · refine Rel.Upon.of [] (by kernel_rfl) ?_
      intro vals z hb hN hd
      simp only [Rel.rp]
      go_wp2_with fail
      exact ⟨Below.refl _ _, rfl⟩
    · refine Rel.Upon.of [2] (by kernel_rfl) ?_
      intro vals z hb hN hd
      simp only [Rel.ra] at hd
      have d2 := hd
      replace d2 : vals 2 = .string t := d2
      simp only [Rel.rp, d2]
      go_wp2_with fail
      refine (H4.out _).mono ?_; rintro e z1 ⟨rfl, hbz0⟩; have hbz := hbz0.below; clear hbz0
      go_wp2_with fail
      first | rfl | exact ⟨hbz, rfl⟩
    · refine Rel.Upon.of [1, 3] (by kernel_rfl) ?_
      intro vals z hb hN hd
      simp only [Rel.ra] at hd
      obtain ⟨d1, d3⟩ := hd
      replace d1 : vals 1 = .bool m := d1
      replace d3 : vals 3 = .bool m := d3
      simp only [Rel.rp, d1, d3]
      go_wp2_with fail
      exact ⟨Below.refl _ _, rfl⟩
    · refine Rel.Upon.of [4] (by kernel_rfl) ?_
      intro vals z hb hN hd
      simp only [Rel.ra] at hd
      have d4 := hd
      replace d4 : vals 4 = .bool true := d4
      simp only [Rel.rp, d4]
      go_wp2_with fail
      exact ⟨Below.refl _ _, rfl⟩
    · refine Rel.Upon.of [5] (by kernel_rfl) ?_
      intro vals z hb hN hd
      simp only [Rel.ra] at hd
      have d5 := hd
      replace d5 : vals 5 = .bool true := d5
      simp only [Rel.rp, d5]
      go_wp2_with fail
      exact ⟨Below.refl _ _, rfl⟩
    · refine Rel.Upon.of [5, 6] (by kernel_rfl) ?_
      intro vals z hb hN hd
      simp only [Rel.ra] at hd
      obtain ⟨d5, d6⟩ := hd
      replace d5 : vals 5 = .bool true := d5
      replace d6 : vals 6 = .int .i64 n := d6
      simp only [Rel.rp, d5, d6]
      go_wp2_with fail
      refine (H5.out _).mono ?_; rintro e z1 ⟨rfl, hbz0⟩; have hbz := hbz0.below; clear hbz0
      go_wp2_with fail
      first | rfl | exact ⟨hbz, rfl⟩
    · refine Rel.Upon.of [5] (by kernel_rfl) ?_
      intro vals z hb hN hd
      simp only [Rel.ra] at hd
      have d5 := hd
      replace d5 : vals 5 = .bool true := d5
      simp only [Rel.rp, d5]
      go_wp2_with fail
      exact ⟨Below.refl _ _, rfl⟩
    · refine Rel.Upon.of [5, 8] (by kernel_rfl) ?_
      intro vals z hb hN hd
      simp only [Rel.ra] at hd
      obtain ⟨d5, d8⟩ := hd
      replace d5 : vals 5 = .bool true := d5
      replace d8 : vals 8 = .int .i64 n := d8
      simp only [Rel.rp, d5, d8]
      go_wp2_with fail
      refine (H6.out _).mono ?_; rintro e z1 ⟨rfl, hbz0⟩; have hbz := hbz0.below; clear hbz0
      go_wp2_with fail
      first | rfl | exact ⟨hbz, rfl⟩
    · refine Rel.Upon.of [5, 7, 9] (by kernel_rfl) ?_
      intro vals z hb hN hd
      simp only [Rel.ra] at hd
      obtain ⟨d5, d7, d9⟩ := hd
      replace d5 : vals 5 = .bool true := d5
      replace d7 : vals 7 = .bool wd := d7
      replace d9 : vals 9 = .bool wd := d9
      simp only [Rel.rp, d5, d7, d9]
      go_wp2_with fail
      exact ⟨Below.refl _ _, rfl⟩
    · refine Rel.Upon.of [5, 10] (by kernel_rfl) ?_
      intro vals z hb hN hd
      simp only [Rel.ra] at hd
      obtain ⟨d5, d10⟩ := hd
      replace d5 : vals 5 = .bool true := d5
      replace d10 : vals 10 = .bool true := d10
      simp only [Rel.rp, d5, d10]
      go_wp2_with fail
      exact ⟨Below.refl _ _, rfl⟩
    · refine Rel.Upon.of [11] (by kernel_rfl) ?_
      intro vals z hb hN hd
      simp only [Rel.ra] at hd
      have d11 := hd
      replace d11 : vals 11 = .bool true := d11
      simp only [Rel.rp, d11]
      go_wp2_with fail
      exact ⟨Below.refl _ _, rfl⟩
    · refine Rel.Upon.of [12] (by kernel_rfl) ?_
      intro vals z hb hN hd
      simp only [Rel.ra] at hd
      have d12 := hd
      replace d12 : vals 12 = .bool true := d12
      have kz := K5.out.step hb
      obtain ⟨c0, c1, c2, c3, c4⟩ := Cl.of kz.arg
      simp only [Rel.rp, d12]
      go_wp2_with fail
      exact ⟨Below.refl _ _, rfl⟩
    · refine Rel.Upon.of [12, 13] (by kernel_rfl) ?_
      intro vals z hb hN hd
      simp only [Rel.ra] at hd
      obtain ⟨d12, d13⟩ := hd
      replace d12 : vals 12 = .bool true := d12
      replace d13 : vals 13 = .agg #[.bool p, .string i, .string s, .int .u64 h, .int .u64 l] := d13
      simp only [Rel.rp, d12, d13]
      go_wp2_with fail
      refine (H7.out _ (HT.out.keep (K5.out.step hb).below)).mono ?_; rintro e z1 ⟨rfl, hbz0⟩; have hbz := hbz0; clear hbz0
      go_wp2_with fail
      first | rfl | exact ⟨hbz, rfl⟩
    · refine Rel.Upon.of [12] (by kernel_rfl) ?_
      intro vals z hb hN hd
      simp only [Rel.ra] at hd
      have d12 := hd
      replace d12 : vals 12 = .bool true := d12
      have kz := K5.out.step hb
      obtain ⟨c0, c1, c2, c3, c4⟩ := Cl.of kz.arg
      simp only [Rel.rp, d12]
      go_wp2_with fail
      exact ⟨Below.refl _ _, rfl⟩
    · refine Rel.Upon.of [12, 15] (by kernel_rfl) ?_
      intro vals z hb hN hd
      simp only [Rel.ra] at hd
      obtain ⟨d12, d15⟩ := hd
      replace d12 : vals 12 = .bool true := d12
      replace d15 : vals 15 = .agg #[.bool p, .string i, .string s, .int .u64 h, .int .u64 l] := d15
      simp only [Rel.rp, d12, d15]
      go_wp2_with fail
      refine (H8.out _).mono ?_; rintro e z1 ⟨rfl, hbz0⟩; have hbz := hbz0; clear hbz0
      go_wp2_with fail
      first | rfl | exact ⟨hbz, rfl⟩
    · refine Rel.Upon.of [12, 14, 16] (by kernel_rfl) ?_
      intro vals z hb hN hd
      simp only [Rel.ra] at hd
      obtain ⟨d12, d14, d16⟩ := hd
      replace d12 : vals 12 = .bool true := d12
      replace d14 : vals 14 = .bool ml := d14
      replace d16 : vals 16 = .bool ml := d16
      simp only [Rel.rp, d12, d14, d16]
      go_wp2_with fail
      exact ⟨Below.refl _ _, rfl⟩
    · refine Rel.Upon.of [12, 17] (by kernel_rfl) ?_
      intro vals z hb hN hd
      simp only [Rel.ra] at hd
      obtain ⟨d12, d17⟩ := hd
      replace d12 : vals 12 = .bool true := d12
      replace d17 : vals 17 = .bool true := d17
      simp only [Rel.rp, d12, d17]
      go_wp2_with fail
      exact ⟨Below.refl _ _, rfl⟩
    · refine Rel.Upon.of [18] (by kernel_rfl) ?_
      intro vals z hb hN hd
      simp only [Rel.ra] at hd
      have d18 := hd
      replace d18 : vals 18 = .bool true := d18
      simp only [Rel.rp, d18]
      go_wp2_with fail
      exact ⟨Below.refl _ _, rfl⟩
    · refine Rel.Upon.of [19] (by kernel_rfl) ?_
      intro vals z hb hN hd
      simp only [Rel.ra] at hd
      have d19 := hd
      replace d19 : vals 19 = .bool true := d19
      have kz := K5.out.step hb
      obtain ⟨c0, c1, c2, c3, c4⟩ := Cl.of kz.arg
      simp only [Rel.rp, d19]
      go_wp2_with fail
      exact ⟨Below.refl _ _, rfl⟩
    · refine Rel.Upon.of [19, 20] (by kernel_rfl) ?_
      intro vals z hb hN hd
      simp only [Rel.ra] at hd
      obtain ⟨d19, d20⟩ := hd
      replace d19 : vals 19 = .bool true := d19
      replace d20 : vals 20 = .agg #[.bool p, .string i, .string s, .int .u64 h, .int .u64 l] := d20
      simp only [Rel.rp, d19, d20]
      go_wp2_with fail
      refine (H9.out _ (HT.out.keep (K5.out.step hb).below)).mono ?_; rintro e z1 ⟨rfl, hbz0⟩; have hbz := hbz0; clear hbz0
      go_wp2_with fail
      first | rfl | exact ⟨hbz, rfl⟩
    · refine Rel.Upon.of [19] (by kernel_rfl) ?_
      intro vals z hb hN hd
      simp only [Rel.ra] at hd
      have d19 := hd
      replace d19 : vals 19 = .bool true := d19
      have kz := K5.out.step hb
      obtain ⟨c0, c1, c2, c3, c4⟩ := Cl.of kz.arg
      simp only [Rel.rp, d19]
      go_wp2_with fail
      exact ⟨Below.refl _ _, rfl⟩
    · refine Rel.Upon.of [19, 22] (by kernel_rfl) ?_
      intro vals z hb hN hd
      simp only [Rel.ra] at hd
      obtain ⟨d19, d22⟩ := hd
      replace d19 : vals 19 = .bool true := d19
      replace d22 : vals 22 = .agg #[.bool p, .string i, .string s, .int .u64 h, .int .u64 l] := d22
      simp only [Rel.rp, d19, d22]
      go_wp2_with fail
      refine (H10.out _).mono ?_; rintro e z1 ⟨rfl, hbz0⟩; have hbz := hbz0; clear hbz0
      go_wp2_with fail
      first | rfl | exact ⟨hbz, rfl⟩
    · refine Rel.Upon.of [19, 21, 23] (by kernel_rfl) ?_
      intro vals z hb hN hd
      simp only [Rel.ra] at hd
      obtain ⟨d19, d21, d23⟩ := hd
      replace d19 : vals 19 = .bool true := d19
      replace d21 : vals 21 = .string T := d21
      replace d23 : vals 23 = .string T := d23
      simp only [Rel.rp, d19, d21, d23]
      go_wp2_with fail
      exact ⟨Below.refl _ _, rfl⟩
    · refine Rel.Upon.of [19, 24] (by kernel_rfl) ?_
      intro vals z hb hN hd
      simp only [Rel.ra] at hd
      obtain ⟨d19, d24⟩ := hd
      replace d19 : vals 19 = .bool true := d19
      replace d24 : vals 24 = .bool true := d24
      simp only [Rel.rp, d19, d24]
      go_wp2_with fail
      exact ⟨Below.refl _ _, rfl⟩
    · refine Rel.Upon.of [25] (by kernel_rfl) ?_
      intro vals z hb hN hd
      simp only [Rel.ra] at hd
      have d25 := hd
      replace d25 : vals 25 = .bool true := d25
      simp only [Rel.rp, d25]
      go_wp2_with fail
      exact ⟨Below.refl _ _, rfl⟩
    · refine Rel.Upon.of [26] (by kernel_rfl) ?_
      intro vals z hb hN hd
      simp only [Rel.ra] at hd
      have d26 := hd
      replace d26 : vals 26 = .bool true := d26
      have kz := K5.out.step hb
      obtain ⟨c0, c1, c2, c3, c4⟩ := Cl.of kz.a
      simp only [Rel.rp, d26]
      go_wp2_with fail
      exact ⟨Below.refl _ _, rfl⟩
    · refine Rel.Upon.of [26] (by kernel_rfl) ?_
      intro vals z hb hN hd
      simp only [Rel.ra] at hd
      have d26 := hd
      replace d26 : vals 26 = .bool true := d26
      have kz := K5.out.step hb
      obtain ⟨c0, c1, c2, c3, c4⟩ := Cl.of kz.b
      simp only [Rel.rp, d26]
      go_wp2_with fail
      exact ⟨Below.refl _ _, rfl⟩
    · refine Rel.Upon.of [26, 27, 28] (by kernel_rfl) ?_
      intro vals z hb hN hd
      simp only [Rel.ra] at hd
      obtain ⟨d26, d27, d28⟩ := hd
      replace d26 : vals 26 = .bool true := d26
      replace d27 : vals 27 = .agg #[.bool r1, .string r2, .string r3, .int .u64 r4, .int .u64 r5] := d27
      replace d28 : vals 28 = .agg #[.bool r1, .string r2, .string r3, .int .u64 r4, .int .u64 r5] := d28
      simp only [Rel.rp, d26, d27, d28]
      go_wp2_with fail
      exact ⟨Below.refl _ _, rfl⟩
    · refine Rel.Upon.of [26, 29] (by kernel_rfl) ?_
      intro vals z hb hN hd
      simp only [Rel.ra] at hd
      obtain ⟨d26, d29⟩ := hd
      replace d26 : vals 26 = .bool true := d26
      replace d29 : vals 29 = .bool true := d29
      simp only [Rel.rp, d26, d29]
      go_wp2_with fail
      exact ⟨Below.refl _ _, rfl⟩
    · refine Rel.Upon.of [30] (by kernel_rfl) ?_
      intro vals z hb hN hd
      simp only [Rel.ra] at hd
      have d30 := hd
      replace d30 : vals 30 = .bool true := d30
      simp only [Rel.rp, d30]
      go_wp2_with fail
      exact ⟨Below.refl _ _, rfl⟩
    · refine Rel.Upon.of [31] (by kernel_rfl) ?_
      intro vals z hb hN hd
      simp only [Rel.ra] at hd
      have d31 := hd
      replace d31 : vals 31 = .bool true := d31
      simp only [Rel.rp, d31]
      go_wp2_with fail
      exact ⟨Below.refl _ _, rfl⟩
    · refine Rel.Upon.of [31] (by kernel_rfl) ?_
      intro vals z hb hN hd
      simp only [Rel.ra] at hd
      have d31 := hd
      replace d31 : vals 31 = .bool true := d31
      simp only [Rel.rp, d31]
      go_wp2_with fail
      exact ⟨Below.refl _ _, rfl⟩
    · refine Rel.Upon.of [31, 32, 33] (by kernel_rfl) ?_
      intro vals z hb hN hd
      simp only [Rel.ra] at hd
      obtain ⟨d31, d32, d33⟩ := hd
      replace d31 : vals 31 = .bool true := d31
      replace d32 : vals 32 = .bool r6 := d32
      replace d33 : vals 33 = .bool r6 := d33
      simp only [Rel.rp, d31, d32, d33]
      go_wp2_with fail
      exact ⟨Below.refl _ _, rfl⟩
    · refine Rel.Upon.of [31, 34] (by kernel_rfl) ?_
      intro vals z hb hN hd
      simp only [Rel.ra] at hd
      obtain ⟨d31, d34⟩ := hd
      replace d31 : vals 31 = .bool true := d31
      replace d34 : vals 34 = .bool true := d34
      simp only [Rel.rp, d31, d34]
      go_wp2_with fail
      exact ⟨Below.refl _ _, rfl⟩
    · refine Rel.Upon.of [35] (by kernel_rfl) ?_
      intro vals z hb hN hd
      simp only [Rel.ra] at hd
      have d35 := hd
      replace d35 : vals 35 = .bool true := d35
      simp only [Rel.rp, d35]
      go_wp2_with fail
      exact ⟨Below.refl _ _, rfl⟩
  · intro vals wf hb hN hrel _
    have d0 : vals 0 = .string t := hrel 0 (by decide)
    have d1 : vals 1 = .bool m := hrel 1 (by decide)
    have d2 : vals 2 = .string t := hrel 2 (by decide)
    have d3 : vals 3 = .bool m := hrel 3 (by decide)
    have d4 : vals 4 = .bool true := hrel 4 (by decide)
    have d5 : vals 5 = .bool true := hrel 5 (by decide)
    have d6 : vals 6 = .int .i64 n := hrel 6 (by decide)
    have d7 : vals 7 = .bool wd := hrel 7 (by decide)
    have d8 : vals 8 = .int .i64 n := hrel 8 (by decide)
    have d9 : vals 9 = .bool wd := hrel 9 (by decide)
    have d10 : vals 10 = .bool true := hrel 10 (by decide)
    have d11 : vals 11 = .bool true := hrel 11 (by decide)
    have d12 : vals 12 = .bool true := hrel 12 (by decide)
    have d13 : vals 13 = .agg #[.bool p, .string i, .string s, .int .u64 h, .int .u64 l] := hrel 13 (by decide)
    have d14 : vals 14 = .bool ml := hrel 14 (by decide)
    have d15 : vals 15 = .agg #[.bool p, .string i, .string s, .int .u64 h, .int .u64 l] := hrel 15 (by decide)
    have d16 : vals 16 = .bool ml := hrel 16 (by decide)
    have d17 : vals 17 = .bool true := hrel 17 (by decide)
    have d18 : vals 18 = .bool true := hrel 18 (by decide)
    have d19 : vals 19 = .bool true := hrel 19 (by decide)
    have d20 : vals 20 = .agg #[.bool p, .string i, .string s, .int .u64 h, .int .u64 l] := hrel 20 (by decide)
    have d21 : vals 21 = .string T := hrel 21 (by decide)
    have d22 : vals 22 = .agg #[.bool p, .string i, .string s, .int .u64 h, .int .u64 l] := hrel 22 (by decide)
    have d23 : vals 23 = .string T := hrel 23 (by decide)
    have d24 : vals 24 = .bool true := hrel 24 (by decide)
    have d25 : vals 25 = .bool true := hrel 25 (by decide)
    have d26 : vals 26 = .bool true := hrel 26 (by decide)
    have d27 : vals 27 = .agg #[.bool r1, .string r2, .string r3, .int .u64 r4, .int .u64 r5] := hrel 27 (by decide)
    have d28 : vals 28 = .agg #[.bool r1, .string r2, .string r3, .int .u64 r4, .int .u64 r5] := hrel 28 (by decide)
    have d29 : vals 29 = .bool true := hrel 29 (by decide)
    have d30 : vals 30 = .bool true := hrel 30 (by decide)
    have d31 : vals 31 = .bool true := hrel 31 (by decide)
    have d32 : vals 32 = .bool r6 := hrel 32 (by decide)
    have d33 : vals 33 = .bool r6 := hrel 33 (by decide)
    have d34 : vals 34 = .bool true := hrel 34 (by decide)
    have d35 : vals 35 = .bool true := hrel 35 (by decide)
    have d36 : vals 36 = .bool true := hrel 36 (by decide)
    simp only [List.drop_succ_cons, List.drop_zero]
    rw [show List.range 37 = [0, 1, 2, 3, 4, 5, 6, 7, 8, 9, 10, 11, 12, 13, 14, 15, 16, 17, 18, 19, 20, 21, 22, 23, 24, 25, 26, 27, 28, 29, 30, 31, 32, 33, 34, 35, 36] from rfl]
    simp only [Rel.rp, d0, d1, d2, d3, d4, d5, d6, d7, d8, d9, d10, d11, d12, d13, d14, d15, d16, d17, d18, d19, d20, d21, d22, d23, d24, d25, d26, d27, d28, d29, d30, d31, d32, d33, d34, d35, d36]
    clear hrel hN
    have K6 := K5.out.step hb
    go_wp2_with fail
    go_ret
    exact ⟨rfl, K6.below⟩
theorem tagTexts_row (x : S39) (g : Good39 x) (t : ByteArray) (ht : t.size ≤ 140737488351232) (n : Int) (hn : (Lit.int .i64 n).wf = true) (w : World) (hT : TabU w) :
    Calls Tryd.prog 4 #[.agg #[.bool x.f0, .string x.f1, .string x.f2, .int .u64 x.f3.f0, .int .u64 x.f3.f1], .string t, .int .i64 n] w fun e w' => e = .returned (.bool true) ∧ Below w.heap.size w w' :=
  tagTexts_go x.f0 x.f1 x.f2 x.f3.f0 x.f3.f1 (wf64 g.2.2.2.1) (wf64 g.2.2.2.2) t ht n w hT
end Go.Proofs.YtomninikmcmmcaaDoor.Tag
