/- The law TagNodes: it answers true for every input. -/
import Derived.Test.YtomninikmcmmcaaDoorNd
import Derived.Test.YtomninikmcmmcaaDoorKd
import Derived.Test.YtomninikmcmmcaaDoorRel
namespace Go.Proofs.YtomninikmcmmcaaDoor.Nod
open Go Go.RowKit Go.Proofs.YtomninikmcmmcaaDoorW.PrintWords Go.Proofs.YtomninikmcmmcaaDoor.PTg Go.Proofs.YtomninikmcmmcaaDoor.PTr Go.Proofs.YtomninikmcmmcaaDoor.PTh Go.Proofs.YtomninikmcmmcaaDoor.PTn Go.Proofs.YtomninikmcmmcaaDoor.GivU Go.Proofs.YtomninikmcmmcaaDoor.GivW Go.Proofs.YtomninikmcmmcaaDoor.GivL Go.Proofs.YtomninikmcmmcaaDoor.GivR Go.Proofs.YtomninikmcmmcaaDoor.Ids Go.Proofs.YtomninikmcmmcaaDoor.Oct Go.Proofs.YtomninikmcmmcaaDoor.Tag Go.Proofs.YtomninikmcmmcaaDoor.Kds
set_option linter.unusedVariables false
set_option linter.unusedSimpArgs false
theorem eqA57 (d : Nat) (w : World) (x0 y0 : ByteArray) (x1 y1 : Int) (x2 y2 : Int) :
    (Op.equalIn (d + 3) 57 (.agg #[.string x0, .int .u64 x1, .int .u64 x2]) (.agg #[.string y0, .int .u64 y1, .int .u64 y2])).run Tryd.prog w = .ok (x0.toList == y0.toList && ((x1 == y1 && (x2 == y2)))) w := by
  refine eqA_of Tryd.underlying57 (by kernel_rfl) ?_; refine eqf_cons (by rfl) (by go_simp; rfl) (by go_simp; rfl) (by go_simp) ?_; exact eqf_last (by rfl) (by go_simp) (by go_simp) (eqA37 (d + 0) w _ _ _ _)
attribute [local go_sem high] eqA57
structure Kq (w : World) (g : Nat) (p : Bool) (i s : ByteArray) (h l : Int) (a : ByteArray) (x y : Int) (b : ByteArray) (z0 w0 : Int) (W : World) : Prop where
  below : Below w.heap.size w W
  f : W.heap[g]? = some (.cells #[.bool p, .string i, .string s, .int .u64 h, .int .u64 l] 39 (0, 0))
  l : W.heap[g + 1]? = some (.cells #[.string a, .int .u64 x, .int .u64 y] 57 (0, 0))
  r : W.heap[g + 1 + 1]? = some (.cells #[.string b, .int .u64 z0, .int .u64 w0] 57 (0, 0))
theorem Kq.step {w : World} {g : Nat} {p : Bool} {i s : ByteArray} {h l : Int} {a : ByteArray} {x y : Int} {b : ByteArray} {z0 w0 : Int} {W W' : World} (k : Kq w g p i s h l a x y b z0 w0 W) (hb : Below W.heap.size W W') : Kq w g p i s h l a x y b z0 w0 W' :=
  ⟨k.below.trans (hb.mono k.below.size), blk_below k.f hb, blk_below k.l hb, blk_below k.r hb⟩
def RNd (p : Bool) (i s : ByteArray) (h l : Int) (a : ByteArray) (x y : Int) (b : ByteArray) (z0 w0 : Int) (t : ByteArray) (n : Int) (P D L1 : ByteArray) (L2 L3 : Int) : Nat → Value → World → Prop
  | 0, v, _ => v = .agg #[.string a, .int .u64 x, .int .u64 y]
  | 1, v, _ => v = .agg #[.string b, .int .u64 z0, .int .u64 w0]
  | 2, v, _ => v = .string P
  | 3, v, _ => v = .agg #[.string a, .int .u64 x, .int .u64 y]
  | 4, v, _ => v = .agg #[.string b, .int .u64 z0, .int .u64 w0]
  | 5, v, _ => v = .string P
  | 6, v, _ => v = .bool true
  | 7, v, _ => v = .bool true
  | 8, v, _ => v = .int .i64 n
  | 9, v, _ => v = .string t
  | 10, v, _ => v = .string D
  | 11, v, _ => v = .int .i64 n
  | 12, v, _ => v = .string t
  | 13, v, _ => v = .string D
  | 14, v, _ => v = .bool true
  | 15, v, _ => v = .bool true
  | 16, v, _ => v = .bool true
  | 17, v, _ => v = .int .i64 n
  | 18, v, _ => v = .agg #[.bool p, .string i, .string s, .int .u64 h, .int .u64 l]
  | 19, v, _ => v = .agg #[.string L1, .int .u64 L2, .int .u64 L3]
  | 20, v, _ => v = .int .i64 n
  | 21, v, _ => v = .agg #[.bool p, .string i, .string s, .int .u64 h, .int .u64 l]
  | 22, v, _ => v = .agg #[.string L1, .int .u64 L2, .int .u64 L3]
  | 23, v, _ => v = .bool true
  | 24, v, _ => v = .bool true
  | _, _, _ => True
theorem RNd_later (p : Bool) (i s : ByteArray) (h l : Int) (a : ByteArray) (x y : Int) (b : ByteArray) (z0 w0 : Int) (t : ByteArray) (n : Int) (P D L1 : ByteArray) (L2 L3 : Int) : ∀ jj v w w', RNd p i s h l a x y b z0 w0 t n P D L1 L2 L3 jj v w → Below w.heap.size w w' → RNd p i s h l a x y b z0 w0 t n P D L1 L2 L3 jj v w' := by
  intro jj v w w' h hb
  match jj with
  | 0 | 1 | 2 | 3 | 4 | 5 | 6 | 7 | 8 | 9 | 10 | 11 | 12 | 13 | 14 | 15 | 16 | 17 | 18 | 19 | 20 | 21 | 22 | 23 | 24 | _ + 25 => exact h
set_option maxHeartbeats 16000000 in
set_option maxRecDepth 100000 in
theorem tagNodes_go (p : Bool) (i s : ByteArray) (h l : Int) (hh : In64 h) (hl : In64 l) (a : ByteArray) (x y : Int) (b : ByteArray) (z0 w0 : Int) (hx : In64 x) (hy : In64 y) (hz : In64 z0) (hw : In64 w0) (t : ByteArray) (n : Int) (w : World) (hT : Tab2 w) :
    Calls Tryd.prog 7 #[.agg #[.bool p, .string i, .string s, .int .u64 h, .int .u64 l], .agg #[.string a, .int .u64 x, .int .u64 y], .agg #[.string b, .int .u64 z0, .int .u64 w0], .string t, .int .i64 n] w fun e w' => e = .returned (.bool true) ∧ Below w.heap.size w w' := by
  have HT := Aside0.mk hT
  have HG := Aside0.mk (fun w => paymasterlaw07_LongLeaf.calls p i s h l _ w (longleaf_some p i s h l))
  clear hT
  go_enter Tryd.func7, Tryd.ntmps7
  go_wp2_with fail
  have K : Aside0 (Kq w w.heap.size p i s h l a x y b z0 w0 (((w.alloc (.cells #[.bool p, .string i, .string s, .int .u64 h, .int .u64 l] 39)).alloc (.cells #[.string a, .int .u64 x, .int .u64 y] 57)).alloc (.cells #[.string b, .int .u64 z0, .int .u64 w0] 57))) := Aside0.mk ⟨((((Below.refl _ w).alloc (Nat.le_refl _) _).alloc (by simp) _).alloc (by simp; omega) _), blk_alloc (blk_alloc (blk_new w _) _) _, by
    have := blk_alloc (blk_new (w.alloc (.cells #[.bool p, .string i, .string s, .int .u64 h, .int .u64 l] 39)) (.cells #[.string a, .int .u64 x, .int .u64 y] 57)) (.cells #[.string b, .int .u64 z0, .int .u64 w0] 57)
    simpa using this, by
    have := blk_new ((w.alloc (.cells #[.bool p, .string i, .string s, .int .u64 h, .int .u64 l] 39)).alloc (.cells #[.string a, .int .u64 x, .int .u64 y] 57)) (.cells #[.string b, .int .u64 z0, .int .u64 w0] 57)
    simpa using this⟩
  generalize ((w.alloc (.cells #[.bool p, .string i, .string s, .int .u64 h, .int .u64 l] 39)).alloc (.cells #[.string a, .int .u64 x, .int .u64 y] 57)).alloc (.cells #[.string b, .int .u64 z0, .int .u64 w0] 57) = w1 at K ⊢
  by_cases hA : i.size > 300 ∨ s.size > 300
  · rw [decide_eq_true hA] at HG
    refine (HG.out _).mono ?_
    rintro e w3 ⟨rfl, b3⟩
    have K3 := Aside0.mk (K.out.step b3)
    clear b3
    go_wp2_with fail
    go_ret
    exact ⟨rfl, K3.out.below⟩
  rw [decide_eq_false hA] at HG
  refine (HG.out _).mono ?_
  rintro e w3 ⟨rfl, b3⟩
  have K3 := Aside0.mk (K.out.step b3)
  clear b3 K HG
  have cl := (blk_cell K3.out.l 0).trans rfl
  have cr := (blk_cell K3.out.r 0).trans rfl
  by_cases h1 : (a.size : Int) > 100
  · go_wp2_with fail
    go_ret
    exact ⟨rfl, K3.out.below⟩
  by_cases h2 : (b.size : Int) > 100
  · go_wp2_with fail
    go_ret
    exact ⟨rfl, K3.out.below⟩
  by_cases h3 : (t.size : Int) > 1000
  · go_wp2_with fail
    go_ret
    exact ⟨rfl, K3.out.below⟩
  have HP := Aside0.mk (fun w => tag_NodeText.calls a x y b z0 w0 _ w (nodetext_some a b x y z0 w0 (by omega) (by omega) hx hy hz hw))
  have HPr := Aside0.mk (fun w => paymasterref07_NodeText.calls 10 a x y b z0 w0 _ w (refnodetext_some a b x y z0 w0 (by omega) (by omega) hx hy hz hw 10 (by decide)))
  have HD := Aside0.mk (fun w hT => tag_Digest.calls n t _ w hT (digest_some n t (by omega)))
  have HDr := Aside0.mk (fun w => paymasterref07_Digest.calls n t _ w (refdigest_some n t (by omega)))
  obtain ⟨L1, L2, L3, eL⟩ : ∃ u v z, lnT n p i s h l = (u, v, z) := ⟨_, _, _, rfl⟩
  have HL := Aside0.mk (fun w hT => tag_LeafNode.calls 1 n p i s h l L1 L2 L3 w hT ((leafnode_some n p i s h l (by omega) hh hl 1 (by decide)).trans (congrArg some eL)))
  have HLr := Aside0.mk (fun w => paymasterref07_LeafNode.calls (i.size + 40) n p i s h l L1 L2 L3 w ((refleafnode_some n p i s h l (by omega) hh hl _ (Nat.le_refl _)).trans (congrArg some eL)))
  clear hx hy hz hw hh hl hA eL
  generalize nodeT a x y b z0 w0 = P at HP HPr
  generalize dgT n t = D at HD HDr
  have K := K3
  clear K3
  go_wp2_with fail
  refine Rel.region_rel [] (fun _ => .cells #[] 0 (0, 0)) (RNd p i s h l a x y b z0 w0 t n P D L1 L2 L3) 25 [] (by kernel_rfl) (by kernel_rfl) (by decide) (fun i hi => by cases hi) (RNd_later p i s h l a x y b z0 w0 t n P D L1 L2 L3) (fun i hi => by cases hi) ?_ ?_
  · simp only [List.take_succ_cons, List.take_zero]
    refine ⟨?_, ?_, ?_, ?_, ?_, ?_, ?_, ?_, ?_, ?_, ?_, ?_, ?_, ?_, ?_, ?_, ?_, ?_, ?_, ?_, ?_, ?_, ?_, ?_, ?_, trivial⟩
    · refine Rel.Upon.of [] (by kernel_rfl) ?_
      intro vals z hb hN hd
      have kz := K.out.step hb
      have c0 := (blk_cell kz.l 0).trans rfl
      have c1 := (blk_cell kz.l 1).trans rfl
      have c2 := (blk_cell kz.l 2).trans rfl
      simp only [Rel.rp]
      go_wp2_with fail
      exact ⟨Below.refl _ _, rfl⟩
    · refine Rel.Upon.of [] (by kernel_rfl) ?_
      intro vals z hb hN hd
      have kz := K.out.step hb
      have c0 := (blk_cell kz.r 0).trans rfl
      have c1 := (blk_cell kz.r 1).trans rfl
      have c2 := (blk_cell kz.r 2).trans rfl
      simp only [Rel.rp]
      go_wp2_with fail
      exact ⟨Below.refl _ _, rfl⟩
    · refine Rel.Upon.of [0, 1] (by kernel_rfl) ?_
      intro vals z hb hN hd
      simp only [Rel.ra] at hd
      obtain ⟨d0, d1⟩ := hd
      replace d0 : vals 0 = .agg #[.string a, .int .u64 x, .int .u64 y] := d0
      replace d1 : vals 1 = .agg #[.string b, .int .u64 z0, .int .u64 w0] := d1
      simp only [Rel.rp, d0, d1]
      go_wp2_with fail
      refine (HP.out _).mono ?_; rintro e z1 ⟨rfl, hbz⟩
      go_wp2_with fail
      first | rfl | exact ⟨hbz, rfl⟩
    · refine Rel.Upon.of [] (by kernel_rfl) ?_
      intro vals z hb hN hd
      have kz := K.out.step hb
      have c0 := (blk_cell kz.l 0).trans rfl
      have c1 := (blk_cell kz.l 1).trans rfl
      have c2 := (blk_cell kz.l 2).trans rfl
      simp only [Rel.rp]
      go_wp2_with fail
      exact ⟨Below.refl _ _, rfl⟩
    · refine Rel.Upon.of [] (by kernel_rfl) ?_
      intro vals z hb hN hd
      have kz := K.out.step hb
      have c0 := (blk_cell kz.r 0).trans rfl
      have c1 := (blk_cell kz.r 1).trans rfl
      have c2 := (blk_cell kz.r 2).trans rfl
      simp only [Rel.rp]
      go_wp2_with fail
      exact ⟨Below.refl _ _, rfl⟩
    · refine Rel.Upon.of [3, 4] (by kernel_rfl) ?_
      intro vals z hb hN hd
      simp only [Rel.ra] at hd
      obtain ⟨d3, d4⟩ := hd
      replace d3 : vals 3 = .agg #[.string a, .int .u64 x, .int .u64 y] := d3
      replace d4 : vals 4 = .agg #[.string b, .int .u64 z0, .int .u64 w0] := d4
      simp only [Rel.rp, d3, d4]
      go_wp2_with fail
      refine (HPr.out _).mono ?_; rintro e z1 ⟨rfl, hbz⟩
      go_wp2_with fail
      first | rfl | exact ⟨hbz, rfl⟩
    · refine Rel.Upon.of [2, 5] (by kernel_rfl) ?_
      intro vals z hb hN hd
      simp only [Rel.ra] at hd
      obtain ⟨d2, d5⟩ := hd
      replace d2 : vals 2 = .string P := d2
      replace d5 : vals 5 = .string P := d5
      simp only [Rel.rp, d2, d5]
      go_wp2_with fail
      exact ⟨Below.refl _ _, rfl⟩
    · refine Rel.Upon.of [6] (by kernel_rfl) ?_
      intro vals z hb hN hd
      simp only [Rel.ra] at hd
      have d6 := hd
      replace d6 : vals 6 = .bool true := d6
      simp only [Rel.rp, d6]
      go_wp2_with fail
      exact ⟨Below.refl _ _, rfl⟩
    · refine Rel.Upon.of [7] (by kernel_rfl) ?_
      intro vals z hb hN hd
      simp only [Rel.ra] at hd
      have d7 := hd
      replace d7 : vals 7 = .bool true := d7
      simp only [Rel.rp, d7]
      go_wp2_with fail
      exact ⟨Below.refl _ _, rfl⟩
    · refine Rel.Upon.of [7] (by kernel_rfl) ?_
      intro vals z hb hN hd
      simp only [Rel.ra] at hd
      have d7 := hd
      replace d7 : vals 7 = .bool true := d7
      simp only [Rel.rp, d7]
      go_wp2_with fail
      exact ⟨Below.refl _ _, rfl⟩
    · refine Rel.Upon.of [7, 8, 9] (by kernel_rfl) ?_
      intro vals z hb hN hd
      simp only [Rel.ra] at hd
      obtain ⟨d7, d8, d9⟩ := hd
      replace d7 : vals 7 = .bool true := d7
      replace d8 : vals 8 = .int .i64 n := d8
      replace d9 : vals 9 = .string t := d9
      simp only [Rel.rp, d7, d8, d9]
      go_wp2_with fail
      refine (HD.out _ (HT.out.keep (K.out.step hb).below)).mono ?_; rintro e z1 ⟨rfl, hbz⟩
      go_wp2_with fail
      first | rfl | exact ⟨hbz, rfl⟩
    · refine Rel.Upon.of [7] (by kernel_rfl) ?_
      intro vals z hb hN hd
      simp only [Rel.ra] at hd
      have d7 := hd
      replace d7 : vals 7 = .bool true := d7
      simp only [Rel.rp, d7]
      go_wp2_with fail
      exact ⟨Below.refl _ _, rfl⟩
    · refine Rel.Upon.of [7] (by kernel_rfl) ?_
      intro vals z hb hN hd
      simp only [Rel.ra] at hd
      have d7 := hd
      replace d7 : vals 7 = .bool true := d7
      simp only [Rel.rp, d7]
      go_wp2_with fail
      exact ⟨Below.refl _ _, rfl⟩
    · refine Rel.Upon.of [7, 11, 12] (by kernel_rfl) ?_
      intro vals z hb hN hd
      simp only [Rel.ra] at hd
      obtain ⟨d7, d11, d12⟩ := hd
      replace d7 : vals 7 = .bool true := d7
      replace d11 : vals 11 = .int .i64 n := d11
      replace d12 : vals 12 = .string t := d12
      simp only [Rel.rp, d7, d11, d12]
      go_wp2_with fail
      refine (HDr.out _).mono ?_; rintro e z1 ⟨rfl, hbz⟩
      go_wp2_with fail
      first | rfl | exact ⟨hbz, rfl⟩
    · refine Rel.Upon.of [7, 10, 13] (by kernel_rfl) ?_
      intro vals z hb hN hd
      simp only [Rel.ra] at hd
      obtain ⟨d7, d10, d13⟩ := hd
      replace d7 : vals 7 = .bool true := d7
      replace d10 : vals 10 = .string D := d10
      replace d13 : vals 13 = .string D := d13
      simp only [Rel.rp, d7, d10, d13]
      go_wp2_with fail
      exact ⟨Below.refl _ _, rfl⟩
    · refine Rel.Upon.of [7, 14] (by kernel_rfl) ?_
      intro vals z hb hN hd
      simp only [Rel.ra] at hd
      obtain ⟨d7, d14⟩ := hd
      replace d7 : vals 7 = .bool true := d7
      replace d14 : vals 14 = .bool true := d14
      simp only [Rel.rp, d7, d14]
      go_wp2_with fail
      exact ⟨Below.refl _ _, rfl⟩
    · refine Rel.Upon.of [15] (by kernel_rfl) ?_
      intro vals z hb hN hd
      simp only [Rel.ra] at hd
      have d15 := hd
      replace d15 : vals 15 = .bool true := d15
      simp only [Rel.rp, d15]
      go_wp2_with fail
      exact ⟨Below.refl _ _, rfl⟩
    · refine Rel.Upon.of [16] (by kernel_rfl) ?_
      intro vals z hb hN hd
      simp only [Rel.ra] at hd
      have d16 := hd
      replace d16 : vals 16 = .bool true := d16
      simp only [Rel.rp, d16]
      go_wp2_with fail
      exact ⟨Below.refl _ _, rfl⟩
    · refine Rel.Upon.of [16] (by kernel_rfl) ?_
      intro vals z hb hN hd
      simp only [Rel.ra] at hd
      have d16 := hd
      replace d16 : vals 16 = .bool true := d16
      have kz := K.out.step hb
      have c0 := (blk_cell kz.f 0).trans rfl
      have c1 := (blk_cell kz.f 1).trans rfl
      have c2 := (blk_cell kz.f 2).trans rfl
      have c3 := (blk_cell kz.f 3).trans rfl
      have c4 := (blk_cell kz.f 4).trans rfl
      simp only [Rel.rp, d16]
      go_wp2_with fail
      exact ⟨Below.refl _ _, rfl⟩
    · refine Rel.Upon.of [16, 17, 18] (by kernel_rfl) ?_
      intro vals z hb hN hd
      simp only [Rel.ra] at hd
      obtain ⟨d16, d17, d18⟩ := hd
      replace d16 : vals 16 = .bool true := d16
      replace d17 : vals 17 = .int .i64 n := d17
      replace d18 : vals 18 = .agg #[.bool p, .string i, .string s, .int .u64 h, .int .u64 l] := d18
      simp only [Rel.rp, d16, d17, d18]
      go_wp2_with fail
      refine (HL.out _ (HT.out.keep (K.out.step hb).below)).mono ?_; rintro e z1 ⟨rfl, hbz⟩
      go_wp2_with fail
      first | rfl | exact ⟨hbz, rfl⟩
    · refine Rel.Upon.of [16] (by kernel_rfl) ?_
      intro vals z hb hN hd
      simp only [Rel.ra] at hd
      have d16 := hd
      replace d16 : vals 16 = .bool true := d16
      simp only [Rel.rp, d16]
      go_wp2_with fail
      exact ⟨Below.refl _ _, rfl⟩
    · refine Rel.Upon.of [16] (by kernel_rfl) ?_
      intro vals z hb hN hd
      simp only [Rel.ra] at hd
      have d16 := hd
      replace d16 : vals 16 = .bool true := d16
      have kz := K.out.step hb
      have c0 := (blk_cell kz.f 0).trans rfl
      have c1 := (blk_cell kz.f 1).trans rfl
      have c2 := (blk_cell kz.f 2).trans rfl
      have c3 := (blk_cell kz.f 3).trans rfl
      have c4 := (blk_cell kz.f 4).trans rfl
      simp only [Rel.rp, d16]
      go_wp2_with fail
      exact ⟨Below.refl _ _, rfl⟩
    · refine Rel.Upon.of [16, 20, 21] (by kernel_rfl) ?_
      intro vals z hb hN hd
      simp only [Rel.ra] at hd
      obtain ⟨d16, d20, d21⟩ := hd
      replace d16 : vals 16 = .bool true := d16
      replace d20 : vals 20 = .int .i64 n := d20
      replace d21 : vals 21 = .agg #[.bool p, .string i, .string s, .int .u64 h, .int .u64 l] := d21
      simp only [Rel.rp, d16, d20, d21]
      go_wp2_with fail
      refine (HLr.out _).mono ?_; rintro e z1 ⟨rfl, hbz⟩
      go_wp2_with fail
      first | rfl | exact ⟨hbz, rfl⟩
    · refine Rel.Upon.of [16, 19, 22] (by kernel_rfl) ?_
      intro vals z hb hN hd
      simp only [Rel.ra] at hd
      obtain ⟨d16, d19, d22⟩ := hd
      replace d16 : vals 16 = .bool true := d16
      replace d19 : vals 19 = .agg #[.string L1, .int .u64 L2, .int .u64 L3] := d19
      replace d22 : vals 22 = .agg #[.string L1, .int .u64 L2, .int .u64 L3] := d22
      simp only [Rel.rp, d16, d19, d22]
      go_wp2_with fail
      exact ⟨Below.refl _ _, rfl⟩
    · refine Rel.Upon.of [16, 23] (by kernel_rfl) ?_
      intro vals z hb hN hd
      simp only [Rel.ra] at hd
      obtain ⟨d16, d23⟩ := hd
      replace d16 : vals 16 = .bool true := d16
      replace d23 : vals 23 = .bool true := d23
      simp only [Rel.rp, d16, d23]
      go_wp2_with fail
      exact ⟨Below.refl _ _, rfl⟩
  · intro vals wf hb hN hrel _
    have d0 : vals 0 = .agg #[.string a, .int .u64 x, .int .u64 y] := hrel 0 (by decide)
    have d1 : vals 1 = .agg #[.string b, .int .u64 z0, .int .u64 w0] := hrel 1 (by decide)
    have d2 : vals 2 = .string P := hrel 2 (by decide)
    have d3 : vals 3 = .agg #[.string a, .int .u64 x, .int .u64 y] := hrel 3 (by decide)
    have d4 : vals 4 = .agg #[.string b, .int .u64 z0, .int .u64 w0] := hrel 4 (by decide)
    have d5 : vals 5 = .string P := hrel 5 (by decide)
    have d6 : vals 6 = .bool true := hrel 6 (by decide)
    have d7 : vals 7 = .bool true := hrel 7 (by decide)
    have d8 : vals 8 = .int .i64 n := hrel 8 (by decide)
    have d9 : vals 9 = .string t := hrel 9 (by decide)
    have d10 : vals 10 = .string D := hrel 10 (by decide)
    have d11 : vals 11 = .int .i64 n := hrel 11 (by decide)
    have d12 : vals 12 = .string t := hrel 12 (by decide)
    have d13 : vals 13 = .string D := hrel 13 (by decide)
    have d14 : vals 14 = .bool true := hrel 14 (by decide)
    have d15 : vals 15 = .bool true := hrel 15 (by decide)
    have d16 : vals 16 = .bool true := hrel 16 (by decide)
    have d17 : vals 17 = .int .i64 n := hrel 17 (by decide)
    have d18 : vals 18 = .agg #[.bool p, .string i, .string s, .int .u64 h, .int .u64 l] := hrel 18 (by decide)
    have d19 : vals 19 = .agg #[.string L1, .int .u64 L2, .int .u64 L3] := hrel 19 (by decide)
    have d20 : vals 20 = .int .i64 n := hrel 20 (by decide)
    have d21 : vals 21 = .agg #[.bool p, .string i, .string s, .int .u64 h, .int .u64 l] := hrel 21 (by decide)
    have d22 : vals 22 = .agg #[.string L1, .int .u64 L2, .int .u64 L3] := hrel 22 (by decide)
    have d23 : vals 23 = .bool true := hrel 23 (by decide)
    have d24 : vals 24 = .bool true := hrel 24 (by decide)
    simp only [List.drop_succ_cons, List.drop_zero]
    rw [show List.range 25 = [0, 1, 2, 3, 4, 5, 6, 7, 8, 9, 10, 11, 12, 13, 14, 15, 16, 17, 18, 19, 20, 21, 22, 23, 24] from rfl]
    simp only [Rel.rp, d0, d1, d2, d3, d4, d5, d6, d7, d8, d9, d10, d11, d12, d13, d14, d15, d16, d17, d18, d19, d20, d21, d22, d23, d24]
    clear hrel hN
    go_wp2_with fail
    have K6 := K.out.step hb
    go_ret
    exact ⟨rfl, K6.below⟩
theorem tagNodes_row (x : S39) (gx : Good39 x) (y : S57) (gy : Good57 y) (z : S57) (gz : Good57 z) (t : ByteArray) (_ : t.size ≤ 140737488351232) (n : Int) (_ : (Lit.int .i64 n).wf = true) (w : World) (hT : Tab2 w) :
    Calls Tryd.prog 7 #[.agg #[.bool x.f0, .string x.f1, .string x.f2, .int .u64 x.f3.f0, .int .u64 x.f3.f1], .agg #[.string y.f0, .int .u64 y.f1.f0, .int .u64 y.f1.f1], .agg #[.string z.f0, .int .u64 z.f1.f0, .int .u64 z.f1.f1], .string t, .int .i64 n] w fun e w' => e = .returned (.bool true) ∧ Below w.heap.size w w' :=
  tagNodes_go x.f0 x.f1 x.f2 x.f3.f0 x.f3.f1 (wf64 gx.2.2.2.1) (wf64 gx.2.2.2.2) y.f0 y.f1.f0 y.f1.f1 z.f0 z.f1.f0 z.f1.f1 (wf64 gy.2.1) (wf64 gy.2.2) (wf64 gz.2.1) (wf64 gz.2.2) t n w hT
end Go.Proofs.YtomninikmcmmcaaDoor.Nod
