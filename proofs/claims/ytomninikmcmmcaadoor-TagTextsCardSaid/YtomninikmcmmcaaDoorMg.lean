/- Texts of this session, put together: GivL, PureTl, PureTi, PureTq. -/
import Derived.Test.YtomninikmcmmcaaDoorPTgA
import Derived.Test.YtomninikmcmmcaaDoorMb
import Derived.Test.YtomninikmcmmcaaDoorRel
import Derived.WalkKit
import Derived.Test.YtomninikmcmmcaaDoorMa
section
/- tag.sized, tag.LeafText, tag.NodeText as given functions, by hand. -/
namespace Go.Proofs.YtomninikmcmmcaaDoor.GivL
open Go Go.RowKit Go.Proofs.YtomninikmcmmcaaDoorW.PrintWords Go.Proofs.YtomninikmcmmcaaDoor.PTg Go.Proofs.YtomninikmcmmcaaDoor.GivU Go.Proofs.YtomninikmcmmcaaDoor.GivT Go.Proofs.YtomninikmcmmcaaDoor.Ids Go.Proofs.YtomninikmcmmcaaDoor.Oct Go.Proofs.YtomninikmcmmcaaDoor.Tag
set_option linter.unusedVariables false
set_option linter.unusedSimpArgs false
theorem conv1n (W : World) (g n : Nat) (hn : n < 256) (h : W.heap[g]? = some (.cells #[.int .u8 (n : Int)] 5 (0, 0))) :
    (convert 65 9 (.slice (some ⟨g, 0, none⟩) 1 1)).run Tryd.prog W = .ok (.string (one n)) W := by
  refine Lib.run_convert_whole W 65 5 9 Tryd.underlying65 Tryd.underlying5 Tryd.underlying9 g 0 (one n) (fun j hj => ?_) 1
  have hj' : j < 1 := hj
  obtain rfl : j = 0 := by omega
  rw [blk_cell h]
  show some (Value.int .u8 (n : Int)) = some (Value.int .u8 ((UInt8.ofNat n).toNat : Int))
  rw [UInt8.toNat_ofNat', show n % 2 ^ 8 = n by omega]
set_option maxHeartbeats 4000000 in
set_option maxRecDepth 100000 in
theorem sized_calls (s : ByteArray) (hs : s.size < 256) (w : World) :
    Calls Tryd.prog 72 #[.string s] w fun e w' => e = .returned (.string (one s.size ++ s)) ∧ Below w.heap.size w w' := by
  have hm : (s.size : Int) % 256 = s.size := by omega
  have hc := conv1n (w.alloc (.cells #[.int .u8 (s.size : Int)] 5)) w.heap.size s.size hs (blk_new _ _)
  have H0 := Aside0.mk ((Below.refl w.heap.size w).alloc (Nat.le_refl _) (.cells #[.int .u8 (s.size : Int)] 5))
  have hq : ¬ (9223372036854775807 < (one s.size).size + s.size) := by simp only [one_size]; omega
  go_enter Tryd.func72, Tryd.ntmps72
  go_wp2_with fail
  go_ret
  exact ⟨rfl, H0.out⟩
def RLp (g : Nat) (s : ByteArray) : Nat → Value → World → Prop
  | 0, v, w => ∃ A, v = .slice (some ⟨A, 0, none⟩) 1 1 ∧ w.heap[A]? = some (.cells #[.int .u8 (2)] 5 (0, 0))
  | 1, v, _ => v = .string (one 2)
  | 2, v, _ => v = .pointer (some ⟨g, 2, none⟩)
  | 3, v, _ => v = .string s
  | 4, v, _ => v = .string (one s.size ++ s)
  | 5, v, _ => v = .string (one 2 ++ (one s.size ++ s))
  | _, _, _ => True
theorem RLp_later (g : Nat) (s : ByteArray) : ∀ jj v w w', RLp g s jj v w → Below w.heap.size w w' → RLp g s jj v w' := by
  intro jj v w w' h hb
  match jj with
  | 0 => obtain ⟨A, h1, h2⟩ := h; exact ⟨A, h1, blk_below h2 hb⟩
  | 1 | 2 | 3 | 4 | 5 | _ + 6 => exact h
def RLa (g : Nat) (i s : ByteArray) (h l : Int) : Nat → Value → World → Prop
  | 0, v, w => ∃ A, v = .slice (some ⟨A, 0, none⟩) 1 1 ∧ w.heap[A]? = some (.cells #[.int .u8 (0)] 5 (0, 0))
  | 1, v, _ => v = .string (one 0)
  | 2, v, _ => v = .pointer (some ⟨g, 1, none⟩)
  | 3, v, _ => v = .string i
  | 4, v, _ => v = .string (one i.size ++ i)
  | 5, v, _ => v = .string (one 0 ++ (one i.size ++ i))
  | 6, v, _ => v = .pointer (some ⟨g, 2, none⟩)
  | 7, v, _ => v = .string s
  | 8, v, _ => v = .string (one s.size ++ s)
  | 9, v, _ => v = .string (one 0 ++ (one i.size ++ i) ++ (one s.size ++ s))
  | 10, v, _ => v = .pointer (some ⟨g, 3, none⟩)
  | 11, v, _ => v = .agg #[.int .u64 h, .int .u64 l]
  | 12, v, _ => v = .string (be16 h.toNat l.toNat)
  | 13, v, _ => v = .string (one 0 ++ (one i.size ++ i) ++ (one s.size ++ s) ++ be16 h.toNat l.toNat)
  | _, _, _ => True
theorem RLa_later (g : Nat) (i s : ByteArray) (h l : Int) : ∀ jj v w w', RLa g i s h l jj v w → Below w.heap.size w w' → RLa g i s h l jj v w' := by
  intro jj v w w' h hb
  match jj with
  | 0 => obtain ⟨A, h1, h2⟩ := h; exact ⟨A, h1, blk_below h2 hb⟩
  | 1 | 2 | 3 | 4 | 5 | 6 | 7 | 8 | 9 | 10 | 11 | 12 | 13 | _ + 14 => exact h
def RNo (g q : Nat) (a b : ByteArray) (x y z0 w0 : Int) : Nat → Value → World → Prop
  | 0, v, w => ∃ A, v = .slice (some ⟨A, 0, none⟩) 1 1 ∧ w.heap[A]? = some (.cells #[.int .u8 (1)] 5 (0, 0))
  | 1, v, _ => v = .string (one 1)
  | 2, v, _ => v = .pointer (some ⟨g, 0, none⟩)
  | 3, v, _ => v = .string a
  | 4, v, _ => v = .string (one 1 ++ a)
  | 5, v, _ => v = .pointer (some ⟨g, 1, none⟩)
  | 6, v, _ => v = .agg #[.int .u64 x, .int .u64 y]
  | 7, v, _ => v = .string (be16 x.toNat y.toNat)
  | 8, v, _ => v = .string (one 1 ++ a ++ be16 x.toNat y.toNat)
  | 9, v, _ => v = .pointer (some ⟨q, 0, none⟩)
  | 10, v, _ => v = .string b
  | 11, v, _ => v = .string (one 1 ++ a ++ be16 x.toNat y.toNat ++ b)
  | 12, v, _ => v = .pointer (some ⟨q, 1, none⟩)
  | 13, v, _ => v = .agg #[.int .u64 z0, .int .u64 w0]
  | 14, v, _ => v = .string (be16 z0.toNat w0.toNat)
  | 15, v, _ => v = .string (one 1 ++ a ++ be16 x.toNat y.toNat ++ b ++ be16 z0.toNat w0.toNat)
  | _, _, _ => True
theorem RNo_later (g q : Nat) (a b : ByteArray) (x y z0 w0 : Int) : ∀ jj v w w', RNo g q a b x y z0 w0 jj v w → Below w.heap.size w w' → RNo g q a b x y z0 w0 jj v w' := by
  intro jj v w w' h hb
  match jj with
  | 0 => obtain ⟨A, h1, h2⟩ := h; exact ⟨A, h1, blk_below h2 hb⟩
  | 1 | 2 | 3 | 4 | 5 | 6 | 7 | 8 | 9 | 10 | 11 | 12 | 13 | 14 | 15 | _ + 16 => exact h
set_option maxHeartbeats 8000000 in
set_option maxRecDepth 100000 in
theorem leaftext_calls (p : Bool) (i s : ByteArray) (h l : Int) (hi : i.size < 4611686018427387904) (h0 : 0 ≤ h) (h1 : h < 18446744073709551616) (l0 : 0 ≤ l) (l1 : l < 18446744073709551616) (w : World) (hT : TabU w) :
    Calls Tryd.prog 29 #[.agg #[.bool p, .string i, .string s, .int .u64 h, .int .u64 l]] w fun e w' => e = .returned (.string (if mayL p i s h l = true then leafT p i s h l else ⟨#[]⟩)) ∧ Below w.heap.size w w' := by
  have HM := Aside0.mk (tag_MayLeaf.calls p i s h l _ (w.alloc (.cells #[.bool p, .string i, .string s, .int .u64 h, .int .u64 l] 39)) (TabU.keep hT ((Below.refl _ w).alloc (Nat.le_refl _) _)) (mayleaf_some p i s h l hi))
  have HS := Aside0.mk (fun s hs w => sized_calls s hs w)
  have HB := Aside0.mk (fun w => u128_Bytes.calls h l _ w (bytes_some h l h0 h1 l0 l1))
  have hshort := may_short p i s h l
  unfold leafT
  obtain ⟨m, hm⟩ : ∃ m, mayL p i s h l = m := ⟨_, rfl⟩
  rw [hm] at HM hshort ⊢
  clear hm h0 h1 l0 l1 hi hT
  go_enter Tryd.func29, Tryd.ntmps29
  go_wp2_with fail
  refine HM.out.mono ?_
  rintro e w1 ⟨rfl, b1⟩
  have B1 : Aside0 (Below w.heap.size w w1) := Aside0.mk (((Below.refl _ w).alloc (Nat.le_refl _) _).trans (b1.mono (by simp)))
  have A1 : Aside0 (w1.heap[w.heap.size]? = some (.cells #[.bool p, .string i, .string s, .int .u64 h, .int .u64 l] 39 (0, 0))) := Aside0.mk (blk_below (blk_new w _) b1)
  clear b1 HM
  generalize w.heap.size = g at A1 ⊢
  have c0 := (blk_cell A1.out 0).trans rfl
  cases m
  · go_wp2_with fail
    go_ret
    exact ⟨rfl, B1.out⟩
  obtain ⟨hs0, hp0⟩ := hshort rfl
  have hs : s.size < 256 := by omega
  cases p
  · rw [if_neg (by decide)] at hp0
    have hi2 : i.size < 256 := by omega
    clear hshort hp0 hs0
    go_wp2_with fail
    refine Rel.region_rel [] (fun _ => .cells #[] 0 (0, 0)) (RLa g i s h l) 14 [] (by kernel_rfl) (by kernel_rfl) (by decide) (fun i hi => by cases hi) (RLa_later g i s h l) (fun i hi => by cases hi) ?_ ?_
    · simp only [List.take_succ_cons, List.take_zero]
      refine ⟨?_, ?_, ?_, ?_, ?_, ?_, ?_, ?_, ?_, ?_, ?_, ?_, ?_, ?_, trivial⟩
      · refine Rel.Upon.of [] (by kernel_rfl) ?_
        intro vals z hb hN hd
        simp only [Rel.rp]
        go_wp2_with fail
        exact ⟨(Below.refl _ _).alloc (Nat.le_refl _) _, z.heap.size, rfl, blk_new _ _⟩
      · refine Rel.Upon.of [0] (by kernel_rfl) ?_
        intro vals z hb hN hd
        simp only [Rel.ra] at hd
        have d0 := hd
        replace d0 : ∃ A, vals 0 = .slice (some ⟨A, 0, none⟩) 1 1 ∧ z.heap[A]? = some (.cells #[.int .u8 (0)] 5 (0, 0)) := d0
        obtain ⟨A0, e0, h0⟩ := d0
        have hc0 := conv1n z A0 _ (by decide) h0
        simp only [Rel.rp, e0]
        go_wp2_with fail
        exact ⟨Below.refl _ _, rfl⟩
      · refine Rel.Upon.of [] (by kernel_rfl) ?_
        intro vals z hb hN hd
        simp only [Rel.rp]
        go_wp2_with fail
        exact ⟨Below.refl _ _, rfl⟩
      · refine Rel.Upon.of [2] (by kernel_rfl) ?_
        intro vals z hb hN hd
        simp only [Rel.ra] at hd
        have d2 := hd
        replace d2 : vals 2 = .pointer (some ⟨g, 1, none⟩) := d2
        have c1 := (blk_cell (blk_below A1.out hb) 1).trans rfl
        simp only [Rel.rp, d2]
        go_wp2_with fail
        exact ⟨Below.refl _ _, rfl⟩
      · refine Rel.Upon.of [3] (by kernel_rfl) ?_
        intro vals z hb hN hd
        simp only [Rel.ra] at hd
        have d3 := hd
        replace d3 : vals 3 = .string i := d3
        simp only [Rel.rp, d3]
        go_wp2_with fail
        refine (HS.out i hi2 _).mono ?_; rintro e z1 ⟨rfl, hbz⟩
        go_wp2_with fail
        first | rfl | exact ⟨hbz, rfl⟩
      · refine Rel.Upon.of [1, 4] (by kernel_rfl) ?_
        intro vals z hb hN hd
        simp only [Rel.ra] at hd
        obtain ⟨d1, d4⟩ := hd
        replace d1 : vals 1 = .string (one 0) := d1
        replace d4 : vals 4 = .string (one i.size ++ i) := d4
        have hq : ¬ (9223372036854775807 < (one 0).size + ((one i.size).size + i.size)) := by simp only [one_size, be16_size]; omega
        simp only [Rel.rp, d1, d4]
        go_wp2_with fail
        exact ⟨Below.refl _ _, rfl⟩
      · refine Rel.Upon.of [] (by kernel_rfl) ?_
        intro vals z hb hN hd
        simp only [Rel.rp]
        go_wp2_with fail
        exact ⟨Below.refl _ _, rfl⟩
      · refine Rel.Upon.of [6] (by kernel_rfl) ?_
        intro vals z hb hN hd
        simp only [Rel.ra] at hd
        have d6 := hd
        replace d6 : vals 6 = .pointer (some ⟨g, 2, none⟩) := d6
        have c2 := (blk_cell (blk_below A1.out hb) 2).trans rfl
        simp only [Rel.rp, d6]
        go_wp2_with fail
        exact ⟨Below.refl _ _, rfl⟩
      · refine Rel.Upon.of [7] (by kernel_rfl) ?_
        intro vals z hb hN hd
        simp only [Rel.ra] at hd
        have d7 := hd
        replace d7 : vals 7 = .string s := d7
        simp only [Rel.rp, d7]
        go_wp2_with fail
        refine (HS.out s hs _).mono ?_; rintro e z1 ⟨rfl, hbz⟩
        go_wp2_with fail
        first | rfl | exact ⟨hbz, rfl⟩
      · refine Rel.Upon.of [5, 8] (by kernel_rfl) ?_
        intro vals z hb hN hd
        simp only [Rel.ra] at hd
        obtain ⟨d5, d8⟩ := hd
        replace d5 : vals 5 = .string (one 0 ++ (one i.size ++ i)) := d5
        replace d8 : vals 8 = .string (one s.size ++ s) := d8
        have hq : ¬ (9223372036854775807 < (one 0).size + ((one i.size).size + i.size) + ((one s.size).size + s.size)) := by simp only [one_size, be16_size]; omega
        simp only [Rel.rp, d5, d8]
        go_wp2_with fail
        exact ⟨Below.refl _ _, rfl⟩
      · refine Rel.Upon.of [] (by kernel_rfl) ?_
        intro vals z hb hN hd
        simp only [Rel.rp]
        go_wp2_with fail
        exact ⟨Below.refl _ _, rfl⟩
      · refine Rel.Upon.of [10] (by kernel_rfl) ?_
        intro vals z hb hN hd
        simp only [Rel.ra] at hd
        have d10 := hd
        replace d10 : vals 10 = .pointer (some ⟨g, 3, none⟩) := d10
        have c3 := (blk_cell (blk_below A1.out hb) 3).trans rfl
        have c4 := (blk_cell (blk_below A1.out hb) 4).trans rfl
        simp only [Rel.rp, d10]
        go_wp2_with fail
        exact ⟨Below.refl _ _, rfl⟩
      · refine Rel.Upon.of [11] (by kernel_rfl) ?_
        intro vals z hb hN hd
        simp only [Rel.ra] at hd
        have d11 := hd
        replace d11 : vals 11 = .agg #[.int .u64 h, .int .u64 l] := d11
        simp only [Rel.rp, d11]
        go_wp2_with fail
        refine (HB.out _).mono ?_; rintro e z1 ⟨rfl, hbz⟩
        go_wp2_with fail
        first | rfl | exact ⟨hbz, rfl⟩
      · refine Rel.Upon.of [9, 12] (by kernel_rfl) ?_
        intro vals z hb hN hd
        simp only [Rel.ra] at hd
        obtain ⟨d9, d12⟩ := hd
        replace d9 : vals 9 = .string (one 0 ++ (one i.size ++ i) ++ (one s.size ++ s)) := d9
        replace d12 : vals 12 = .string (be16 h.toNat l.toNat) := d12
        have hq : ¬ (9223372036854775807 < (one 0).size + ((one i.size).size + i.size) + ((one s.size).size + s.size) + (be16 h.toNat l.toNat).size) := by simp only [one_size, be16_size]; omega
        simp only [Rel.rp, d9, d12]
        go_wp2_with fail
        exact ⟨Below.refl _ _, rfl⟩
    · intro vals wf hb hN hrel _
      generalize ev0 : vals 0 = v0
      have d1 : vals 1 = .string (one 0) := hrel 1 (by decide)
      have d2 : vals 2 = .pointer (some ⟨g, 1, none⟩) := hrel 2 (by decide)
      have d3 : vals 3 = .string i := hrel 3 (by decide)
      have d4 : vals 4 = .string (one i.size ++ i) := hrel 4 (by decide)
      have d5 : vals 5 = .string (one 0 ++ (one i.size ++ i)) := hrel 5 (by decide)
      have d6 : vals 6 = .pointer (some ⟨g, 2, none⟩) := hrel 6 (by decide)
      have d7 : vals 7 = .string s := hrel 7 (by decide)
      have d8 : vals 8 = .string (one s.size ++ s) := hrel 8 (by decide)
      have d9 : vals 9 = .string (one 0 ++ (one i.size ++ i) ++ (one s.size ++ s)) := hrel 9 (by decide)
      have d10 : vals 10 = .pointer (some ⟨g, 3, none⟩) := hrel 10 (by decide)
      have d11 : vals 11 = .agg #[.int .u64 h, .int .u64 l] := hrel 11 (by decide)
      have d12 : vals 12 = .string (be16 h.toNat l.toNat) := hrel 12 (by decide)
      have d13 : vals 13 = .string (one 0 ++ (one i.size ++ i) ++ (one s.size ++ s) ++ be16 h.toNat l.toNat) := hrel 13 (by decide)
      simp only [List.drop_succ_cons, List.drop_zero]
      rw [show List.range 14 = [0, 1, 2, 3, 4, 5, 6, 7, 8, 9, 10, 11, 12, 13] from rfl]
      simp only [Rel.rp, ev0, d1, d2, d3, d4, d5, d6, d7, d8, d9, d10, d11, d12, d13]
      clear hrel hN
      go_wp2_with fail
      go_ret
      refine ⟨congrArg (fun x : ByteArray => Ending.returned (Value.string x)) ?_, B1.out.trans (hb.mono B1.out.size)⟩
      simp only [app_assoc]
  · clear hshort hp0 hs0
    go_wp2_with fail
    refine Rel.region_rel [] (fun _ => .cells #[] 0 (0, 0)) (RLp g s) 6 [] (by kernel_rfl) (by kernel_rfl) (by decide) (fun i hi => by cases hi) (RLp_later g s) (fun i hi => by cases hi) ?_ ?_
    · simp only [List.take_succ_cons, List.take_zero]
      refine ⟨?_, ?_, ?_, ?_, ?_, ?_, trivial⟩
      · refine Rel.Upon.of [] (by kernel_rfl) ?_
        intro vals z hb hN hd
        simp only [Rel.rp]
        go_wp2_with fail
        exact ⟨(Below.refl _ _).alloc (Nat.le_refl _) _, z.heap.size, rfl, blk_new _ _⟩
      · refine Rel.Upon.of [0] (by kernel_rfl) ?_
        intro vals z hb hN hd
        simp only [Rel.ra] at hd
        have d0 := hd
        replace d0 : ∃ A, vals 0 = .slice (some ⟨A, 0, none⟩) 1 1 ∧ z.heap[A]? = some (.cells #[.int .u8 (2)] 5 (0, 0)) := d0
        obtain ⟨A0, e0, h0⟩ := d0
        have hc0 := conv1n z A0 _ (by decide) h0
        simp only [Rel.rp, e0]
        go_wp2_with fail
        exact ⟨Below.refl _ _, rfl⟩
      · refine Rel.Upon.of [] (by kernel_rfl) ?_
        intro vals z hb hN hd
        simp only [Rel.rp]
        go_wp2_with fail
        exact ⟨Below.refl _ _, rfl⟩
      · refine Rel.Upon.of [2] (by kernel_rfl) ?_
        intro vals z hb hN hd
        simp only [Rel.ra] at hd
        have d2 := hd
        replace d2 : vals 2 = .pointer (some ⟨g, 2, none⟩) := d2
        have c2 := (blk_cell (blk_below A1.out hb) 2).trans rfl
        simp only [Rel.rp, d2]
        go_wp2_with fail
        exact ⟨Below.refl _ _, rfl⟩
      · refine Rel.Upon.of [3] (by kernel_rfl) ?_
        intro vals z hb hN hd
        simp only [Rel.ra] at hd
        have d3 := hd
        replace d3 : vals 3 = .string s := d3
        simp only [Rel.rp, d3]
        go_wp2_with fail
        refine (HS.out s hs _).mono ?_; rintro e z1 ⟨rfl, hbz⟩
        go_wp2_with fail
        first | rfl | exact ⟨hbz, rfl⟩
      · refine Rel.Upon.of [1, 4] (by kernel_rfl) ?_
        intro vals z hb hN hd
        simp only [Rel.ra] at hd
        obtain ⟨d1, d4⟩ := hd
        replace d1 : vals 1 = .string (one 2) := d1
        replace d4 : vals 4 = .string (one s.size ++ s) := d4
        have hq : ¬ (9223372036854775807 < (one 2).size + ((one s.size).size + s.size)) := by simp only [one_size, be16_size]; omega
        simp only [Rel.rp, d1, d4]
        go_wp2_with fail
        exact ⟨Below.refl _ _, rfl⟩
    · intro vals wf hb hN hrel _
      generalize ev0 : vals 0 = v0
      have d1 : vals 1 = .string (one 2) := hrel 1 (by decide)
      have d2 : vals 2 = .pointer (some ⟨g, 2, none⟩) := hrel 2 (by decide)
      have d3 : vals 3 = .string s := hrel 3 (by decide)
      have d4 : vals 4 = .string (one s.size ++ s) := hrel 4 (by decide)
      have d5 : vals 5 = .string (one 2 ++ (one s.size ++ s)) := hrel 5 (by decide)
      simp only [List.drop_succ_cons, List.drop_zero]
      rw [show List.range 6 = [0, 1, 2, 3, 4, 5] from rfl]
      simp only [Rel.rp, ev0, d1, d2, d3, d4, d5]
      clear hrel hN
      go_wp2_with fail
      go_ret
      exact ⟨rfl, B1.out.trans (hb.mono B1.out.size)⟩
/-- A leaf's text. -/
def tag_LeafText.f (p : Bool) (i s : ByteArray) (h l : Int) : Option ByteArray :=
  if (decide (i.size < 4611686018427387904) && (in64 h && in64 l)) = true then some (if mayL p i s h l = true then leafT p i s h l else ⟨#[]⟩) else none
theorem tag_LeafText.calls (p : Bool) (i s : ByteArray) (h l : Int) (r : ByteArray) (w : World) (hT : TabU w) (e : tag_LeafText.f p i s h l = some r) :
    Calls Tryd.prog 29 #[.agg #[.bool p, .string i, .string s, .int .u64 h, .int .u64 l]] w fun e w' => e = .returned (.string r) ∧ Below w.heap.size w w' := by
  unfold tag_LeafText.f in64 at e
  split at e
  · rename_i hc
    simp only [Bool.and_eq_true, decide_eq_true_eq] at hc
    obtain rfl := Option.some.inj e
    exact leaftext_calls p i s h l hc.1 hc.2.1.1 hc.2.1.2 hc.2.2.1 hc.2.2.2 w hT
  · cases e
theorem leaftext_f (p : Bool) (i s : ByteArray) (h l : Int) (hi : i.size < 4611686018427387904) (h0 : 0 ≤ h) (h1 : h < 18446744073709551616) (l0 : 0 ≤ l) (l1 : l < 18446744073709551616) :
    tag_LeafText.f p i s h l = some (if mayL p i s h l = true then leafT p i s h l else ⟨#[]⟩) := by
  unfold tag_LeafText.f in64
  rw [decide_eq_true hi, decide_eq_true ⟨h0, h1⟩, decide_eq_true ⟨l0, l1⟩]
  rfl
/-- A node's text. -/
def nodeT (a : ByteArray) (x y : Int) (b : ByteArray) (z w : Int) : ByteArray := one 1 ++ (a ++ (be16 x.toNat y.toNat ++ (b ++ be16 z.toNat w.toNat)))
set_option maxHeartbeats 8000000 in
set_option maxRecDepth 100000 in
theorem nodetext_calls (a : ByteArray) (x y : Int) (b : ByteArray) (z0 w0 : Int) (ha : a.size ≤ 1000000) (hb0 : b.size ≤ 1000000) (x0 : 0 ≤ x) (x1 : x < 18446744073709551616) (y0 : 0 ≤ y) (y1 : y < 18446744073709551616) (hz0 : 0 ≤ z0) (hz1 : z0 < 18446744073709551616) (hw0 : 0 ≤ w0) (hw1 : w0 < 18446744073709551616) (w : World) :
    Calls Tryd.prog 42 #[.agg #[.string a, .int .u64 x, .int .u64 y], .agg #[.string b, .int .u64 z0, .int .u64 w0]] w fun e w' => e = .returned (.string (nodeT a x y b z0 w0)) ∧ Below w.heap.size w w' := by
  have HB1 := Aside0.mk (fun w => u128_Bytes.calls x y _ w (bytes_some x y x0 x1 y0 y1))
  have HB2 := Aside0.mk (fun w => u128_Bytes.calls z0 w0 _ w (bytes_some z0 w0 hz0 hz1 hw0 hw1))
  clear x0 x1 y0 y1 hz0 hz1 hw0 hw1
  unfold nodeT
  go_enter Tryd.func42, Tryd.ntmps42
  go_wp2_with fail
  have A1 := Aside0.mk (blk_alloc (blk_new w (.cells #[.string a, .int .u64 x, .int .u64 y] 57)) (.cells #[.string b, .int .u64 z0, .int .u64 w0] 57))
  have A2 := Aside0.mk (blk_new (w.alloc (.cells #[.string a, .int .u64 x, .int .u64 y] 57)) (.cells #[.string b, .int .u64 z0, .int .u64 w0] 57))
  have B1 : Aside0 (Below w.heap.size w _) := Aside0.mk (((Below.refl _ w).alloc (Nat.le_refl _) (.cells #[.string a, .int .u64 x, .int .u64 y] 57)).alloc (by simp) (.cells #[.string b, .int .u64 z0, .int .u64 w0] 57))
  simp only [alloc_size] at A1 A2 B1 ⊢
  generalize (w.alloc (.cells #[.string a, .int .u64 x, .int .u64 y] 57)).alloc (.cells #[.string b, .int .u64 z0, .int .u64 w0] 57) = w1 at A1 A2 B1 ⊢
  generalize w.heap.size + 1 = q at A2 ⊢
  generalize w.heap.size = g at A1 ⊢
  refine Rel.region_rel [] (fun _ => .cells #[] 0 (0, 0)) (RNo g q a b x y z0 w0) 16 [] (by kernel_rfl) (by kernel_rfl) (by decide) (fun i hi => by cases hi) (RNo_later g q a b x y z0 w0) (fun i hi => by cases hi) ?_ ?_
  · simp only [List.take_succ_cons, List.take_zero]
    refine ⟨?_, ?_, ?_, ?_, ?_, ?_, ?_, ?_, ?_, ?_, ?_, ?_, ?_, ?_, ?_, ?_, trivial⟩
    · refine Rel.Upon.of [] (by kernel_rfl) ?_
      intro vals z hb hN hd
      simp only [Rel.rp]
      go_wp2_with fail
      exact ⟨(Below.refl _ _).alloc (Nat.le_refl _) _, z.heap.size, rfl, blk_new _ _⟩
    · refine Rel.Upon.of [0] (by kernel_rfl) ?_
      intro vals z hb hN hd
      simp only [Rel.ra] at hd
      have d0 := hd
      replace d0 : ∃ A, vals 0 = .slice (some ⟨A, 0, none⟩) 1 1 ∧ z.heap[A]? = some (.cells #[.int .u8 (1)] 5 (0, 0)) := d0
      obtain ⟨A0, e0, h0⟩ := d0
      have hc0 := conv1n z A0 _ (by decide) h0
      simp only [Rel.rp, e0]
      go_wp2_with fail
      exact ⟨Below.refl _ _, rfl⟩
    · refine Rel.Upon.of [] (by kernel_rfl) ?_
      intro vals z hb hN hd
      simp only [Rel.rp]
      go_wp2_with fail
      exact ⟨Below.refl _ _, rfl⟩
    · refine Rel.Upon.of [2] (by kernel_rfl) ?_
      intro vals z hb hN hd
      simp only [Rel.ra] at hd
      have d2 := hd
      replace d2 : vals 2 = .pointer (some ⟨g, 0, none⟩) := d2
      have c2 := (blk_cell (blk_below A1.out hb) 0).trans rfl
      simp only [Rel.rp, d2]
      go_wp2_with fail
      exact ⟨Below.refl _ _, rfl⟩
    · refine Rel.Upon.of [1, 3] (by kernel_rfl) ?_
      intro vals z hb hN hd
      simp only [Rel.ra] at hd
      obtain ⟨d1, d3⟩ := hd
      replace d1 : vals 1 = .string (one 1) := d1
      replace d3 : vals 3 = .string a := d3
      have hq : ¬ (9223372036854775807 < (one 1).size + a.size) := by simp only [one_size, be16_size]; omega
      simp only [Rel.rp, d1, d3]
      go_wp2_with fail
      exact ⟨Below.refl _ _, rfl⟩
    · refine Rel.Upon.of [] (by kernel_rfl) ?_
      intro vals z hb hN hd
      simp only [Rel.rp]
      go_wp2_with fail
      exact ⟨Below.refl _ _, rfl⟩
    · refine Rel.Upon.of [5] (by kernel_rfl) ?_
      intro vals z hb hN hd
      simp only [Rel.ra] at hd
      have d5 := hd
      replace d5 : vals 5 = .pointer (some ⟨g, 1, none⟩) := d5
      have c3 := (blk_cell (blk_below A1.out hb) 1).trans rfl
      have c4 := (blk_cell (blk_below A1.out hb) 2).trans rfl
      simp only [Rel.rp, d5]
      go_wp2_with fail
      exact ⟨Below.refl _ _, rfl⟩
    · refine Rel.Upon.of [6] (by kernel_rfl) ?_
      intro vals z hb hN hd
      simp only [Rel.ra] at hd
      have d6 := hd
      replace d6 : vals 6 = .agg #[.int .u64 x, .int .u64 y] := d6
      simp only [Rel.rp, d6]
      go_wp2_with fail
      refine (HB1.out _).mono ?_; rintro e z1 ⟨rfl, hbz⟩
      go_wp2_with fail
      first | rfl | exact ⟨hbz, rfl⟩
    · refine Rel.Upon.of [4, 7] (by kernel_rfl) ?_
      intro vals z hb hN hd
      simp only [Rel.ra] at hd
      obtain ⟨d4, d7⟩ := hd
      replace d4 : vals 4 = .string (one 1 ++ a) := d4
      replace d7 : vals 7 = .string (be16 x.toNat y.toNat) := d7
      have hq : ¬ (9223372036854775807 < (one 1).size + a.size + (be16 x.toNat y.toNat).size) := by simp only [one_size, be16_size]; omega
      simp only [Rel.rp, d4, d7]
      go_wp2_with fail
      exact ⟨Below.refl _ _, rfl⟩
    · refine Rel.Upon.of [] (by kernel_rfl) ?_
      intro vals z hb hN hd
      simp only [Rel.rp]
      go_wp2_with fail
      exact ⟨Below.refl _ _, rfl⟩
    · refine Rel.Upon.of [9] (by kernel_rfl) ?_
      intro vals z hb hN hd
      simp only [Rel.ra] at hd
      have d9 := hd
      replace d9 : vals 9 = .pointer (some ⟨q, 0, none⟩) := d9
      have c2 := (blk_cell (blk_below A2.out hb) 0).trans rfl
      simp only [Rel.rp, d9]
      go_wp2_with fail
      exact ⟨Below.refl _ _, rfl⟩
    · refine Rel.Upon.of [8, 10] (by kernel_rfl) ?_
      intro vals z hb hN hd
      simp only [Rel.ra] at hd
      obtain ⟨d8, d10⟩ := hd
      replace d8 : vals 8 = .string (one 1 ++ a ++ be16 x.toNat y.toNat) := d8
      replace d10 : vals 10 = .string b := d10
      have hq : ¬ (9223372036854775807 < (one 1).size + a.size + (be16 x.toNat y.toNat).size + b.size) := by simp only [one_size, be16_size]; omega
      simp only [Rel.rp, d8, d10]
      go_wp2_with fail
      exact ⟨Below.refl _ _, rfl⟩
    · refine Rel.Upon.of [] (by kernel_rfl) ?_
      intro vals z hb hN hd
      simp only [Rel.rp]
      go_wp2_with fail
      exact ⟨Below.refl _ _, rfl⟩
    · refine Rel.Upon.of [12] (by kernel_rfl) ?_
      intro vals z hb hN hd
      simp only [Rel.ra] at hd
      have d12 := hd
      replace d12 : vals 12 = .pointer (some ⟨q, 1, none⟩) := d12
      have c3 := (blk_cell (blk_below A2.out hb) 1).trans rfl
      have c4 := (blk_cell (blk_below A2.out hb) 2).trans rfl
      simp only [Rel.rp, d12]
      go_wp2_with fail
      exact ⟨Below.refl _ _, rfl⟩
    · refine Rel.Upon.of [13] (by kernel_rfl) ?_
      intro vals z hb hN hd
      simp only [Rel.ra] at hd
      have d13 := hd
      replace d13 : vals 13 = .agg #[.int .u64 z0, .int .u64 w0] := d13
      simp only [Rel.rp, d13]
      go_wp2_with fail
      refine (HB2.out _).mono ?_; rintro e z1 ⟨rfl, hbz⟩
      go_wp2_with fail
      first | rfl | exact ⟨hbz, rfl⟩
    · refine Rel.Upon.of [11, 14] (by kernel_rfl) ?_
      intro vals z hb hN hd
      simp only [Rel.ra] at hd
      obtain ⟨d11, d14⟩ := hd
      replace d11 : vals 11 = .string (one 1 ++ a ++ be16 x.toNat y.toNat ++ b) := d11
      replace d14 : vals 14 = .string (be16 z0.toNat w0.toNat) := d14
      have hq : ¬ (9223372036854775807 < (one 1).size + a.size + (be16 x.toNat y.toNat).size + b.size + (be16 z0.toNat w0.toNat).size) := by simp only [one_size, be16_size]; omega
      simp only [Rel.rp, d11, d14]
      go_wp2_with fail
      exact ⟨Below.refl _ _, rfl⟩
  · intro vals wf hb hN hrel _
    generalize ev0 : vals 0 = v0
    have d1 : vals 1 = .string (one 1) := hrel 1 (by decide)
    have d2 : vals 2 = .pointer (some ⟨g, 0, none⟩) := hrel 2 (by decide)
    have d3 : vals 3 = .string a := hrel 3 (by decide)
    have d4 : vals 4 = .string (one 1 ++ a) := hrel 4 (by decide)
    have d5 : vals 5 = .pointer (some ⟨g, 1, none⟩) := hrel 5 (by decide)
    have d6 : vals 6 = .agg #[.int .u64 x, .int .u64 y] := hrel 6 (by decide)
    have d7 : vals 7 = .string (be16 x.toNat y.toNat) := hrel 7 (by decide)
    have d8 : vals 8 = .string (one 1 ++ a ++ be16 x.toNat y.toNat) := hrel 8 (by decide)
    have d9 : vals 9 = .pointer (some ⟨q, 0, none⟩) := hrel 9 (by decide)
    have d10 : vals 10 = .string b := hrel 10 (by decide)
    have d11 : vals 11 = .string (one 1 ++ a ++ be16 x.toNat y.toNat ++ b) := hrel 11 (by decide)
    have d12 : vals 12 = .pointer (some ⟨q, 1, none⟩) := hrel 12 (by decide)
    have d13 : vals 13 = .agg #[.int .u64 z0, .int .u64 w0] := hrel 13 (by decide)
    have d14 : vals 14 = .string (be16 z0.toNat w0.toNat) := hrel 14 (by decide)
    have d15 : vals 15 = .string (one 1 ++ a ++ be16 x.toNat y.toNat ++ b ++ be16 z0.toNat w0.toNat) := hrel 15 (by decide)
    simp only [List.drop_succ_cons, List.drop_zero]
    rw [show List.range 16 = [0, 1, 2, 3, 4, 5, 6, 7, 8, 9, 10, 11, 12, 13, 14, 15] from rfl]
    simp only [Rel.rp, ev0, d1, d2, d3, d4, d5, d6, d7, d8, d9, d10, d11, d12, d13, d14, d15]
    clear hrel hN
    go_wp2_with fail
    go_ret
    refine ⟨congrArg (fun x : ByteArray => Ending.returned (Value.string x)) ?_, B1.out.trans (hb.mono B1.out.size)⟩
    simp only [app_assoc]
def tag_NodeText.f (a : ByteArray) (x y : Int) (b : ByteArray) (z w : Int) : Option ByteArray :=
  if (decide (a.size ≤ 1000000 ∧ b.size ≤ 1000000) && (in64 x && (in64 y && (in64 z && in64 w)))) = true then some (nodeT a x y b z w) else none
theorem tag_NodeText.calls (a : ByteArray) (x y : Int) (b : ByteArray) (z0 w0 : Int) (r : ByteArray) (w : World) (e : tag_NodeText.f a x y b z0 w0 = some r) :
    Calls Tryd.prog 42 #[.agg #[.string a, .int .u64 x, .int .u64 y], .agg #[.string b, .int .u64 z0, .int .u64 w0]] w fun e w' => e = .returned (.string r) ∧ Below w.heap.size w w' := by
  unfold tag_NodeText.f in64 at e
  split at e
  · rename_i hc
    simp only [Bool.and_eq_true, decide_eq_true_eq] at hc
    obtain rfl := Option.some.inj e
    obtain ⟨⟨c1, c2⟩, ⟨c3, c4⟩, ⟨c5, c6⟩, ⟨c7, c8⟩, c9, c10⟩ := hc
    exact nodetext_calls a x y b z0 w0 c1 c2 c3 c4 c5 c6 c7 c8 c9 c10 w
  · cases e
end Go.Proofs.YtomninikmcmmcaaDoor.GivL
end
section
/- Plain law of chapter 07's texts: a leaf's text, and the leaf that a text is. -/
namespace Go.Proofs.YtomninikmcmmcaaDoor.Tag
open Go Go.RowKit Go.Proofs.YtomninikmcmmcaaDoorW.PrintWords Go.Proofs.YtomninikmcmmcaaDoor.PTg Go.Proofs.YtomninikmcmmcaaDoor.GivL Go.Proofs.YtomninikmcmmcaaDoor.GivU Go.Proofs.YtomninikmcmmcaaDoor.GivT Go.Proofs.YtomninikmcmmcaaDoor.Ids Go.Proofs.YtomninikmcmmcaaDoor.Oct
set_option linter.unusedVariables false
set_option linter.unusedSimpArgs false
theorem leaftext_some (p : Bool) (i s : ByteArray) (h l : Int) (hi : i.size < 4611686018427387904) (h0 : 0 ≤ h) (h1 : h < 18446744073709551616) (l0 : 0 ≤ l) (l1 : l < 18446744073709551616) :
    tag_LeafText.f p i s h l = some (if mayL p i s h l = true then leafT p i s h l else ⟨#[]⟩) := leaftext_f p i s h l hi h0 h1 l0 l1
/-! a leaf's text tells the leaf -/
theorem app_inj {a b c d : ByteArray} (h : a ++ b = c ++ d) (hl : a.size = c.size) : a = c ∧ b = d := by
  have := congrArg (fun x : ByteArray => x.data.toList) h
  simp only [app_list] at this
  obtain ⟨h1, h2⟩ := List.append_inj this (by rw [← size_list, ← size_list]; exact hl)
  exact ⟨ba_ext h1, ba_ext h2⟩
theorem one_inj {a b : Nat} (ha : a < 256) (hb : b < 256) (h : one a = one b) : a = b := by
  have h2 : [UInt8.ofNat a] = [UInt8.ofNat b] := congrArg (fun x : ByteArray => x.data.toList) h
  have h3 := congrArg UInt8.toNat (List.cons.inj h2).1
  simp only [UInt8.toNat_ofNat'] at h3
  omega
theorem be16_inj {a b c d : Nat} (ha : a < 18446744073709551616) (hb : b < 18446744073709551616) (hc : c < 18446744073709551616) (hd : d < 18446744073709551616) (h : be16 a b = be16 c d) : a = c ∧ b = d := by
  have h2 : valN (be16 a b).data.toList = valN (be16 c d).data.toList := congrArg (fun x : ByteArray => valN x.data.toList) h
  rw [be16_list a b ha hb, be16_list c d hc hd, valN_beN, valN_beN] at h2
  unfold v128 at h2
  omega
theorem leafT_inj (p q : Bool) (i j s t : ByteArray) (a b c d : Int) (a0 : 0 ≤ a) (a1 : a < 18446744073709551616) (b0 : 0 ≤ b) (b1 : b < 18446744073709551616) (c0 : 0 ≤ c) (c1 : c < 18446744073709551616) (d0 : 0 ≤ d) (d1 : d < 18446744073709551616)
    (hp : mayL p i s a b = true) (hq : mayL q j t c d = true) (h : leafT p i s a b = leafT q j t c d) : p = q ∧ i = j ∧ s = t ∧ a = c ∧ b = d := by
  obtain ⟨s1, p1⟩ := may_short p i s a b hp
  obtain ⟨t1, q1⟩ := may_short q j t c d hq
  unfold leafT at h
  cases p <;> cases q
  · rw [if_neg (by decide)] at p1 q1
    rw [if_neg (by decide), if_neg (by decide)] at h
    obtain ⟨_, h⟩ := app_inj h rfl
    simp only [app_assoc] at h
    obtain ⟨e1, h⟩ := app_inj h rfl
    have e1 := one_inj (by omega) (by omega) e1
    obtain ⟨e2, h⟩ := app_inj h e1
    obtain ⟨e3, h⟩ := app_inj h rfl
    have e3 := one_inj (by omega) (by omega) e3
    obtain ⟨e4, h⟩ := app_inj h e3
    obtain ⟨e5, e6⟩ := be16_inj (by omega) (by omega) (by omega) (by omega) h
    exact ⟨rfl, e2, e4, by omega, by omega⟩
  · rw [if_neg (by decide), if_pos rfl] at h
    obtain ⟨e, _⟩ := app_inj h rfl
    exact absurd (one_inj (by decide) (by decide) e) (by decide)
  · rw [if_pos rfl, if_neg (by decide)] at h
    obtain ⟨e, _⟩ := app_inj h rfl
    exact absurd (one_inj (by decide) (by decide) e) (by decide)
  · rw [if_pos rfl] at p1 q1
    rw [if_pos rfl, if_pos rfl] at h
    obtain ⟨_, h⟩ := app_inj h rfl
    obtain ⟨e1, h⟩ := app_inj h rfl
    have e1 := one_inj (by omega) (by omega) e1
    refine ⟨rfl, ?_, h, by omega, by omega⟩
    apply ba_ext
    have z1 : i.data.toList = [] := List.eq_nil_of_length_eq_zero (by rw [← size_list]; exact p1.1)
    have z2 : j.data.toList = [] := List.eq_nil_of_length_eq_zero (by rw [← size_list]; exact q1.1)
    rw [z1, z2]
end Go.Proofs.YtomninikmcmmcaaDoor.Tag
end
section
/- Numbers of 64 bits. -/
namespace Go.Proofs.YtomninikmcmmcaaDoor.Tag
open Go Go.RowKit
set_option linter.unusedVariables false
set_option linter.unusedSimpArgs false
def In64 (n : Int) : Prop := 0 ≤ n ∧ n < 18446744073709551616
theorem wf64 {n : Int} (h : (Lit.int .u64 n).wf = true) : 0 ≤ n ∧ n < 18446744073709551616 := by
  simp [Lit.wf, IntKind.min, IntKind.max, IntKind.signed, IntKind.bits] at h
  omega
theorem zero64 : In64 0 := ⟨by decide, by decide⟩
end Go.Proofs.YtomninikmcmmcaaDoor.Tag
end
section
/- Plain law of chapter 07: the leaf that a text is, as the reference reads it; the law TagTexts. -/
namespace Go.Proofs.YtomninikmcmmcaaDoor.Tag
open Go Go.RowKit Go.Proofs.YtomninikmcmmcaaDoorW.PrintWords Go.Proofs.YtomninikmcmmcaaDoor.PTg Go.Proofs.YtomninikmcmmcaaDoor.GivU Go.Proofs.YtomninikmcmmcaaDoor.GivT Go.Proofs.YtomninikmcmmcaaDoor.Ids Go.Proofs.YtomninikmcmmcaaDoor.Oct
set_option linter.unusedVariables false
set_option linter.unusedSimpArgs false
theorem longleaf_some (p : Bool) (i s : ByteArray) (h l : Int) : paymasterlaw07_LongLeaf.f p i s h l = some (decide (i.size > 300 ∨ s.size > 300)) := by
  unfold paymasterlaw07_LongLeaf.f
  by_cases h1 : i.size > 300
  · rw [if_pos (by omega), decide_eq_true (.inl h1)]
  · rw [if_neg (by omega)]
    by_cases h2 : s.size > 300
    · rw [decide_eq_true (by omega), decide_eq_true (.inr h2)]
    · rw [decide_eq_false (by omega), decide_eq_false (by omega)]
theorem width_some (n : Int) : tag_MayWidth.f n = some (decide (1 ≤ n ∧ n ≤ 32)) := by
  unfold tag_MayWidth.f
  by_cases h : n ≥ 1
  · rw [if_pos h]
    exact congrArg some (decide_eq_decide.2 ⟨fun a => ⟨h, a⟩, fun a => a.2⟩)
  · rw [if_neg h, decide_eq_false (fun a => h a.1)]
end Go.Proofs.YtomninikmcmmcaaDoor.Tag
end
