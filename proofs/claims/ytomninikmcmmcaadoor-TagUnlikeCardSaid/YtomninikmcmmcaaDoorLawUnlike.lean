/- The law TagUnlike: it answers true for every input. -/
import Derived.Test.YtomninikmcmmcaaDoorPureTu
import Derived.Test.YtomninikmcmmcaaDoorMg
import Derived.Test.YtomninikmcmmcaaDoorAwake7
import Derived.Test.YtomninikmcmmcaaDoorKd
import Derived.Test.YtomninikmcmmcaaDoorRel
import Derived.Deep.LoopGhost
import Derived.LoopTactic
namespace Go.Proofs.YtomninikmcmmcaaDoor.Unl
open Go Go.RowKit Go.Proofs.YtomninikmcmmcaaDoorW.PrintWords Go.Proofs.YtomninikmcmmcaaDoor.PTg Go.Proofs.YtomninikmcmmcaaDoor.GivU Go.Proofs.YtomninikmcmmcaaDoor.GivW Go.Proofs.YtomninikmcmmcaaDoor.GivL Go.Proofs.YtomninikmcmmcaaDoor.Ids Go.Proofs.YtomninikmcmmcaaDoor.Oct Go.Proofs.YtomninikmcmmcaaDoor.Tag Go.Proofs.YtomninikmcmmcaaDoor.Awake7 Go.Proofs.YtomninikmcmmcaaDoor.Kds
set_option linter.unusedVariables false
set_option linter.unusedSimpArgs false
theorem eqA39 (d : Nat) (w : World) (x0 y0 : Bool) (x1 y1 : ByteArray) (x2 y2 : ByteArray) (x3 y3 : Int) (x4 y4 : Int) :
    (Op.equalIn (d + 3) 39 (.agg #[.bool x0, .string x1, .string x2, .int .u64 x3, .int .u64 x4]) (.agg #[.bool y0, .string y1, .string y2, .int .u64 y3, .int .u64 y4])).run Tryd.prog w = .ok (x0 == y0 && (x1.toList == y1.toList && (x2.toList == y2.toList && ((x3 == y3 && (x4 == y4)))))) w := by
  refine eqA_of Tryd.underlying39 (by kernel_rfl) ?_; refine eqf_cons (by rfl) (by go_simp; rfl) (by go_simp; rfl) (by go_simp) ?_; refine eqf_cons (by rfl) (by go_simp; rfl) (by go_simp; rfl) (by go_simp) ?_; refine eqf_cons (by rfl) (by go_simp; rfl) (by go_simp; rfl) (by go_simp) ?_; exact eqf_last (by rfl) (by go_simp) (by go_simp) (eqA37 (d + 0) w _ _ _ _)
theorem eqA57 (d : Nat) (w : World) (x0 y0 : ByteArray) (x1 y1 : Int) (x2 y2 : Int) :
    (Op.equalIn (d + 3) 57 (.agg #[.string x0, .int .u64 x1, .int .u64 x2]) (.agg #[.string y0, .int .u64 y1, .int .u64 y2])).run Tryd.prog w = .ok (x0.toList == y0.toList && ((x1 == y1 && (x2 == y2)))) w := by
  refine eqA_of Tryd.underlying57 (by kernel_rfl) ?_; refine eqf_cons (by rfl) (by go_simp; rfl) (by go_simp; rfl) (by go_simp) ?_; exact eqf_last (by rfl) (by go_simp) (by go_simp) (eqA37 (d + 0) w _ _ _ _)
attribute [local go_sem high] eqA39 eqA57
abbrev arrC (H : Nat → ByteArray) (X Y : Nat → Int) : Obj := .cells #[.string (H 0), .int .u64 (X 0), .int .u64 (Y 0), .string (H 1), .int .u64 (X 1), .int .u64 (Y 1), .string (H 2), .int .u64 (X 2), .int .u64 (Y 2), .string (H 3), .int .u64 (X 3), .int .u64 (Y 3)] 74 (0, 0)
def updH (H : Nat → ByteArray) (k : Nat) (s : ByteArray) : Nat → ByteArray := fun j => if j = k then s else H j
theorem updH_self (H : Nat → ByteArray) (k : Nat) (s : ByteArray) : updH H k s k = s := if_pos rfl
theorem updH_ne (H : Nat → ByteArray) (k j : Nat) (s : ByteArray) (h : j ≠ k) : updH H k s j = H j := if_neg h
theorem updH_updH (H : Nat → ByteArray) (k : Nat) (s t : ByteArray) : updH (updH H k s) k t = updH H k t := by
  funext j
  unfold updH
  split <;> rfl
theorem updH_id (H : Nat → ByteArray) (k : Nat) : updH H k (H k) = H := by
  funext j
  unfold updH
  split
  · rename_i h; rw [h]
  · rfl
/-- What is known of the world. -/
structure Kn (w : World) (g : Nat) (p : Bool) (i s : ByteArray) (h l : Int) (q : Bool) (j t : ByteArray) (c d : Int) (X Y : Nat → Int) (H : Nat → ByteArray) (W : World) : Prop where
  below : Below w.heap.size w W
  a : W.heap[g]? = some (leafC p i s h l)
  b : W.heap[g + 1]? = some (leafC q j t c d)
  n : W.heap[g + 1 + 1]? = some (arrC H X Y)
  big : w.heap.size ≤ g
theorem Kn.step {w : World} {g : Nat} {p : Bool} {i s : ByteArray} {h l : Int} {q : Bool} {j t : ByteArray} {c d : Int} {X Y : Nat → Int} {H : Nat → ByteArray} {W W' : World} (k : Kn w g p i s h l q j t c d X Y H W) (hb : Below W.heap.size W W') : Kn w g p i s h l q j t c d X Y H W' :=
  ⟨k.below.trans (hb.mono k.below.size), blk_below k.a hb, blk_below k.b hb, blk_below k.n hb, k.big⟩
theorem Kn.put {w : World} {g : Nat} {p : Bool} {i s : ByteArray} {h l : Int} {q : Bool} {j t : ByteArray} {c d : Int} {X Y : Nat → Int} {H : Nat → ByteArray} {W : World} (k : Kn w g p i s h l q j t c d X Y H W) (m : Nat) (hm : m < 4) (u : ByteArray) : Kn w g p i s h l q j t c d X Y (updH H m u) (W.setCell ⟨g + 1 + 1, 3 * m, none⟩ (.string u)) := by
  have hb := k.big
  refine ⟨below_set k.below (show w.heap.size ≤ g + 1 + 1 by omega), ?_, ?_, ?_, k.big⟩
  · rw [← k.a]; simp only [World.setCell, Array.getElem?_modify]; rw [if_neg (by omega)]
  · rw [← k.b]; simp only [World.setCell, Array.getElem?_modify]; rw [if_neg (by omega)]
  · have hn := k.n
    simp only [World.setCell, Array.getElem?_modify, hn, if_true, Option.map_some]
    rcases (show m = 0 ∨ m = 1 ∨ m = 2 ∨ m = 3 by omega) with rfl | rfl | rfl | rfl <;> rfl
def RA14 (p : Bool) (i s : ByteArray) (h l : Int) (q : Bool) (j t : ByteArray) (c d : Int) (T1 T2 : ByteArray) : Nat → Value → World → Prop
  | 0, v, _ => v = .agg #[.bool p, .string i, .string s, .int .u64 h, .int .u64 l]
  | 1, v, _ => v = .string T1
  | 2, v, _ => v = .agg #[.bool q, .string j, .string t, .int .u64 c, .int .u64 d]
  | 3, v, _ => v = .string T2
  | _, _, _ => True
theorem RA14_later (p : Bool) (i s : ByteArray) (h l : Int) (q : Bool) (j t : ByteArray) (c d : Int) (T1 T2 : ByteArray) : ∀ jj v w w', RA14 p i s h l q j t c d T1 T2 jj v w → Below w.heap.size w w' → RA14 p i s h l q j t c d T1 T2 jj v w' := by
  intro jj v w w' h hb
  match jj with
  | 0 | 1 | 2 | 3 | _ + 4 => exact h
def RA15 (GG : Nat) (H : Nat → ByteArray) (X Y : Nat → Int) (P Q : ByteArray) : Nat → Value → World → Prop
  | 0, v, _ => v = .pointer (some ⟨GG + 1 + 1, 0, none⟩)
  | 1, v, _ => v = .agg #[.string (H 0), .int .u64 (X 0), .int .u64 (Y 0)]
  | 2, v, _ => v = .pointer (some ⟨GG + 1 + 1, 3, none⟩)
  | 3, v, _ => v = .agg #[.string (H 1), .int .u64 (X 1), .int .u64 (Y 1)]
  | 4, v, _ => v = .string P
  | 5, v, _ => v = .pointer (some ⟨GG + 1 + 1, 6, none⟩)
  | 6, v, _ => v = .agg #[.string (H 2), .int .u64 (X 2), .int .u64 (Y 2)]
  | 7, v, _ => v = .pointer (some ⟨GG + 1 + 1, 9, none⟩)
  | 8, v, _ => v = .agg #[.string (H 3), .int .u64 (X 3), .int .u64 (Y 3)]
  | 9, v, _ => v = .string Q
  | _, _, _ => True
theorem RA15_later (GG : Nat) (H : Nat → ByteArray) (X Y : Nat → Int) (P Q : ByteArray) : ∀ jj v w w', RA15 GG H X Y P Q jj v w → Below w.heap.size w w' → RA15 GG H X Y P Q jj v w' := by
  intro jj v w w' h hb
  match jj with
  | 0 | 1 | 2 | 3 | 4 | 5 | 6 | 7 | 8 | 9 | _ + 10 => exact h
theorem plain_T (p : Bool) (i s : ByteArray) (h l : Int) (a b : ByteArray) (x y z w : Int) : ((if mayL p i s h l = true then leafT p i s h l else ⟨#[]⟩).toList == (nodeT a x y b z w).toList) = false := by
  rw [beq_eq_false_iff_ne]
  intro e
  have e2 := (toList_iff _ _).1 e
  split at e2
  · exact leaf_node_ne p i s h l a b x y z w e2
  · have e3 := congrArg ByteArray.size e2
    rw [nodeT_size] at e3
    exact absurd e3 (by show ¬ (0 = _); omega)
theorem plain_N (p : Bool) (i s : ByteArray) (h l : Int) : ((if mayL p i s h l = true then leafT p i s h l else ⟨#[]⟩).toList == ([] : List UInt8)) = !(mayL p i s h l) := by
  cases hm : mayL p i s h l
  · rw [if_neg (by decide), (empty_list _).2 rfl]; rfl
  · rw [if_pos rfl]
    show _ = false
    rw [beq_eq_false_iff_ne]
    intro e
    have e2 := (empty_list _).1 e
    have := leafT_pos p i s h l
    omega
theorem plain_E (p : Bool) (i s : ByteArray) (h l : Int) (q : Bool) (j t : ByteArray) (c d : Int) (hh : In64 h) (hl : In64 l) (hc : In64 c) (hd : In64 d) (h1 : mayL p i s h l = true) (h2 : mayL q j t c d = true) :
    ((if mayL p i s h l = true then leafT p i s h l else ⟨#[]⟩).toList == (if mayL q j t c d = true then leafT q j t c d else ⟨#[]⟩).toList) = (p == q && (i.toList == j.toList && (s.toList == t.toList && ((h == c && (l == d)))))) := by
  rw [if_pos h1, if_pos h2, Bool.eq_iff_iff]
  simp only [beq_iff_eq, Bool.and_eq_true, toList_iff]
  constructor
  · intro e
    obtain ⟨e1, e2, e3, e4, e5⟩ := leafT_inj p q i j s t h l c d hh.1 hh.2 hl.1 hl.2 hc.1 hc.2 hd.1 hd.2 h1 h2 e
    exact ⟨e1, e2, e3, e4, e5⟩
  · rintro ⟨rfl, rfl, rfl, rfl, rfl⟩
    rfl
theorem plain_Q (H : Nat → ByteArray) (X Y : Nat → Int) (hX : ∀ k, k < 4 → In64 (X k)) (hY : ∀ k, k < 4 → In64 (Y k)) (wd : Nat) (hH : ∀ k, k < 4 → (H k).size = wd) :
    ((nodeT (H 0) (X 0) (Y 0) (H 1) (X 1) (Y 1)).toList == (nodeT (H 2) (X 2) (Y 2) (H 3) (X 3) (Y 3)).toList) = (((H 0).toList == (H 2).toList && ((X 0 == X 2 && (Y 0 == Y 2)))) && ((H 1).toList == (H 3).toList && ((X 1 == X 3 && (Y 1 == Y 3))))) := by
  rw [Bool.eq_iff_iff]
  simp only [beq_iff_eq, Bool.and_eq_true, toList_iff]
  constructor
  · intro e
    exact nodeT_inj _ _ _ _ _ _ _ _ _ _ _ _ (by rw [hH 0 (by decide), hH 2 (by decide)]) (by rw [hH 1 (by decide), hH 3 (by decide)]) (hX 0 (by decide)) (hY 0 (by decide)) (hX 1 (by decide)) (hY 1 (by decide)) (hX 2 (by decide)) (hY 2 (by decide)) (hX 3 (by decide)) (hY 3 (by decide)) e
  · rintro ⟨⟨e1, e2, e3⟩, e4, e5, e6⟩
    rw [e1, e2, e3, e4, e5, e6]

theorem wd_range (n : Int) : ∃ k : Nat, 1 ≤ k ∧ k ≤ 32 ∧ wrap64 (1 + wrap64 (Int.tmod (IntKind.u64.wrap n) 32)) = (k : Int) := by
  have h0 : 0 ≤ IntKind.u64.wrap n := by simp [IntKind.wrap, IntKind.bits, IntKind.signed]; omega
  generalize IntKind.u64.wrap n = m at h0
  refine ⟨(1 + Int.tmod m 32).toNat, ?_, ?_, ?_⟩
  all_goals rw [Int.tmod_eq_emod_of_nonneg h0]
  · omega
  · omega
  · unfold wrap64; omega
set_option maxHeartbeats 16000000 in
set_option maxRecDepth 100000 in
theorem tagUnlike_go (p : Bool) (i s : ByteArray) (h l : Int) (hh : In64 h) (hl : In64 l) (q : Bool) (j t : ByteArray) (c d : Int) (hc : In64 c) (hd0 : In64 d) (H0 : Nat → ByteArray) (X Y : Nat → Int) (hX : ∀ k, k < 4 → In64 (X k)) (hY : ∀ k, k < 4 → In64 (Y k)) (n : Int) (w : World) (hT : Tab2 w) :
    Calls Tryd.prog 15 #[.agg #[.bool p, .string i, .string s, .int .u64 h, .int .u64 l], .agg #[.bool q, .string j, .string t, .int .u64 c, .int .u64 d], .agg #[.string (H0 0), .int .u64 (X 0), .int .u64 (Y 0), .string (H0 1), .int .u64 (X 1), .int .u64 (Y 1), .string (H0 2), .int .u64 (X 2), .int .u64 (Y 2), .string (H0 3), .int .u64 (X 3), .int .u64 (Y 3)], .int .i64 n] w fun e w' => e = .returned (.bool true) ∧ Below w.heap.size w w' := by
  have HT := Aside0.mk hT
  have HAw := Aside0.mk (fun w hT => awake_calls w hT)
  have HL1 := Aside0.mk (fun w => paymasterlaw07_LongLeaf.calls p i s h l _ w (longleaf_some p i s h l))
  have HL2 := Aside0.mk (fun w => paymasterlaw07_LongLeaf.calls q j t c d _ w (longleaf_some q j t c d))
  obtain ⟨wd, hw1, hw2, hwd⟩ := wd_range n
  clear hT
  go_enter Tryd.func15, Tryd.ntmps15
  go_wp2_with fail
  have K : Aside0 (Kn w w.heap.size p i s h l q j t c d X Y H0 (((w.alloc (leafC p i s h l)).alloc (leafC q j t c d)).alloc (arrC H0 X Y))) := Aside0.mk ⟨((((Below.refl _ w).alloc (Nat.le_refl _) _).alloc (by simp) _).alloc (by simp; omega) _), blk_alloc (blk_alloc (blk_new w _) _) _, by
    have := blk_alloc (blk_new (w.alloc (leafC p i s h l)) (leafC q j t c d)) (arrC H0 X Y)
    simpa using this, by
    have := blk_new ((w.alloc (leafC p i s h l)).alloc (leafC q j t c d)) (arrC H0 X Y)
    simpa using this, Nat.le_refl _⟩
  generalize ((w.alloc (leafC p i s h l)).alloc (leafC q j t c d)).alloc (arrC H0 X Y) = w1 at K ⊢
  refine (HAw.out _ (HT.out.keep K.out.below)).mono ?_
  rintro e w2 ⟨rfl, b2⟩
  have K2 := Aside0.mk (K.out.step b2)
  clear b2 K HAw
  clear w1
  have a0 := (blk_cell K2.out.a 0).trans rfl
  have a1 := (blk_cell K2.out.a 1).trans rfl
  have a2 := (blk_cell K2.out.a 2).trans rfl
  have a3 := (blk_cell K2.out.a 3).trans rfl
  have a4 := (blk_cell K2.out.a 4).trans rfl
  by_cases hA : i.size > 300 ∨ s.size > 300
  · rw [decide_eq_true hA] at HL1
    go_wp2_with fail
    refine (HL1.out _).mono ?_
    rintro e w3 ⟨rfl, b3⟩
    have K3 := Aside0.mk (K2.out.step b3)
    clear b3
    go_wp2_with fail
    go_ret
    exact ⟨rfl, K3.out.below⟩
  rw [decide_eq_false hA] at HL1
  have b0 := (blk_cell K2.out.b 0).trans rfl
  have b1 := (blk_cell K2.out.b 1).trans rfl
  have b2 := (blk_cell K2.out.b 2).trans rfl
  have b3 := (blk_cell K2.out.b 3).trans rfl
  have b4 := (blk_cell K2.out.b 4).trans rfl
  go_wp2_with fail
  refine (HL1.out _).mono ?_
  rintro e w3 ⟨rfl, hb3⟩
  have K3 := Aside0.mk (K2.out.step hb3)
  clear hb3 K2 a0 a1 a2 a3 a4 b0 b1 b2 b3 b4 HL1
  have b0 := (blk_cell K3.out.b 0).trans rfl
  have b1 := (blk_cell K3.out.b 1).trans rfl
  have b2 := (blk_cell K3.out.b 2).trans rfl
  have b3 := (blk_cell K3.out.b 3).trans rfl
  have b4 := (blk_cell K3.out.b 4).trans rfl
  by_cases hB : j.size > 300 ∨ t.size > 300
  · rw [decide_eq_true hB] at HL2
    go_wp2_with fail
    refine (HL2.out _).mono ?_
    rintro e w4 ⟨rfl, hb4⟩
    have K4 := Aside0.mk (K3.out.step hb4)
    clear hb4
    go_wp2_with fail
    go_ret
    exact ⟨rfl, K4.out.below⟩
  rw [decide_eq_false hB] at HL2
  go_wp2_with fail
  refine (HL2.out _).mono ?_
  rintro e w4 ⟨rfl, hb4⟩
  have K4 := Aside0.mk (K3.out.step hb4)
  clear hb4 K3 b0 b1 b2 b3 b4 HL2
  go_wp2_with fail
  clear hwd
  go_loopg [10] 5 (fun k v W => ∃ (m : Nat) (H : Nat → ByteArray), v = .int .i64 (m : Int) ∧ m ≤ 4 ∧ m + k = 5 ∧ Kn w w.heap.size p i s h l q j t c d X Y H W ∧ (∀ z, z < m → (H z).size = wd))
  case atStart => exact ⟨0, H0, rfl, by omega, rfl, K4.out, fun z hz => absurd hz (by omega)⟩
  case round =>
    obtain ⟨m, H, rfl, hm4, hm, K5, hH⟩ := hrel
    obtain ⟨G, rfl⟩ : ∃ G, G = gk := ⟨gk, rfl⟩
    clear K4
    have K5 := Aside0.mk K5
    rcases (show m = 0 ∨ m = 1 ∨ m = 2 ∨ m = 3 ∨ m = 4 by omega) with rfl | rfl | rfl | rfl | rfl
    · have n0 := (blk_cell K5.out.n 0).trans rfl
      by_cases hl : ((H 0).size : Int) > 100
      · go_wp2_with fail
        go_ret
        exact ⟨rfl, K5.out.below⟩
      go_wp2_with fail
      clear n0
      go_loopg [] (wd - (H 0).size + 1) (fun k W => ∃ u : ByteArray, Kn w w.heap.size p i s h l q j t c d X Y (updH H 0 u) W ∧ u.size ≤ 100 ∧ wd - u.size + 1 = k)
      case atStart => exact ⟨H 0, by rw [updH_id]; exact K5.out, by omega, rfl⟩
      case round =>
        obtain ⟨u, K6, hu1, hu2⟩ := hrel
        clear K5
        have K6 := Aside0.mk K6
        have n0 : wr.cell? ⟨w.heap.size + 1 + 1, 0, none⟩ = some (.string u) := (blk_cell K6.out.n 0).trans rfl
        have fz := blk_frozen K6.out.n 0
        by_cases hu : (u.size : Int) < wd
        · have hq : ¬ (9223372036854775807 < u.size + 1) := by omega
          go_wp2_with fail
          go_roundg (gk - 1)
          case measure => omega
          case rel => exact ⟨u ++ ⟨#[120]⟩, by have := K6.out.put 0 (by decide) (u ++ ⟨#[120]⟩); rwa [updH_updH] at this, by rw [ByteArray.size_append]; show u.size + 1 ≤ 100; omega, by rw [ByteArray.size_append]; show wd - (u.size + 1) + 1 = gk - 1; omega⟩
        · have hs0 : (0 : Int) ≤ wd := by omega
          have hs1 : (wd : Int) ≤ u.size := by omega
          go_wp2_with fail
          go_roundg (G - 1)
          case measure => omega
          case rel => exact ⟨1, updH H 0 (u.extract 0 wd), rfl, by omega, by omega, by have := K6.out.put 0 (by decide) (u.extract 0 wd); rwa [updH_updH] at this, fun z hz => by
            by_cases h0 : z = 0
            · subst h0; rw [updH_self, ByteArray.size_extract]; omega
            · rw [updH_ne _ _ _ _ h0]; exact hH z (by omega)⟩
    · have n0 := (blk_cell K5.out.n 3).trans rfl
      by_cases hl : ((H 1).size : Int) > 100
      · go_wp2_with fail
        go_ret
        exact ⟨rfl, K5.out.below⟩
      go_wp2_with fail
      clear n0
      go_loopg [] (wd - (H 1).size + 1) (fun k W => ∃ u : ByteArray, Kn w w.heap.size p i s h l q j t c d X Y (updH H 1 u) W ∧ u.size ≤ 100 ∧ wd - u.size + 1 = k)
      case atStart => exact ⟨H 1, by rw [updH_id]; exact K5.out, by omega, rfl⟩
      case round =>
        obtain ⟨u, K6, hu1, hu2⟩ := hrel
        clear K5
        have K6 := Aside0.mk K6
        have n0 : wr.cell? ⟨w.heap.size + 1 + 1, 3, none⟩ = some (.string u) := (blk_cell K6.out.n 3).trans rfl
        have fz := blk_frozen K6.out.n 3
        by_cases hu : (u.size : Int) < wd
        · have hq : ¬ (9223372036854775807 < u.size + 1) := by omega
          go_wp2_with fail
          go_roundg (gk - 1)
          case measure => omega
          case rel => exact ⟨u ++ ⟨#[120]⟩, by have := K6.out.put 1 (by decide) (u ++ ⟨#[120]⟩); rwa [updH_updH] at this, by rw [ByteArray.size_append]; show u.size + 1 ≤ 100; omega, by rw [ByteArray.size_append]; show wd - (u.size + 1) + 1 = gk - 1; omega⟩
        · have hs0 : (0 : Int) ≤ wd := by omega
          have hs1 : (wd : Int) ≤ u.size := by omega
          go_wp2_with fail
          go_roundg (G - 1)
          case measure => omega
          case rel => exact ⟨2, updH H 1 (u.extract 0 wd), rfl, by omega, by omega, by have := K6.out.put 1 (by decide) (u.extract 0 wd); rwa [updH_updH] at this, fun z hz => by
            by_cases h0 : z = 1
            · subst h0; rw [updH_self, ByteArray.size_extract]; omega
            · rw [updH_ne _ _ _ _ h0]; exact hH z (by omega)⟩
    · have n0 := (blk_cell K5.out.n 6).trans rfl
      by_cases hl : ((H 2).size : Int) > 100
      · go_wp2_with fail
        go_ret
        exact ⟨rfl, K5.out.below⟩
      go_wp2_with fail
      clear n0
      go_loopg [] (wd - (H 2).size + 1) (fun k W => ∃ u : ByteArray, Kn w w.heap.size p i s h l q j t c d X Y (updH H 2 u) W ∧ u.size ≤ 100 ∧ wd - u.size + 1 = k)
      case atStart => exact ⟨H 2, by rw [updH_id]; exact K5.out, by omega, rfl⟩
      case round =>
        obtain ⟨u, K6, hu1, hu2⟩ := hrel
        clear K5
        have K6 := Aside0.mk K6
        have n0 : wr.cell? ⟨w.heap.size + 1 + 1, 6, none⟩ = some (.string u) := (blk_cell K6.out.n 6).trans rfl
        have fz := blk_frozen K6.out.n 6
        by_cases hu : (u.size : Int) < wd
        · have hq : ¬ (9223372036854775807 < u.size + 1) := by omega
          go_wp2_with fail
          go_roundg (gk - 1)
          case measure => omega
          case rel => exact ⟨u ++ ⟨#[120]⟩, by have := K6.out.put 2 (by decide) (u ++ ⟨#[120]⟩); rwa [updH_updH] at this, by rw [ByteArray.size_append]; show u.size + 1 ≤ 100; omega, by rw [ByteArray.size_append]; show wd - (u.size + 1) + 1 = gk - 1; omega⟩
        · have hs0 : (0 : Int) ≤ wd := by omega
          have hs1 : (wd : Int) ≤ u.size := by omega
          go_wp2_with fail
          go_roundg (G - 1)
          case measure => omega
          case rel => exact ⟨3, updH H 2 (u.extract 0 wd), rfl, by omega, by omega, by have := K6.out.put 2 (by decide) (u.extract 0 wd); rwa [updH_updH] at this, fun z hz => by
            by_cases h0 : z = 2
            · subst h0; rw [updH_self, ByteArray.size_extract]; omega
            · rw [updH_ne _ _ _ _ h0]; exact hH z (by omega)⟩
    · have n0 := (blk_cell K5.out.n 9).trans rfl
      by_cases hl : ((H 3).size : Int) > 100
      · go_wp2_with fail
        go_ret
        exact ⟨rfl, K5.out.below⟩
      go_wp2_with fail
      clear n0
      go_loopg [] (wd - (H 3).size + 1) (fun k W => ∃ u : ByteArray, Kn w w.heap.size p i s h l q j t c d X Y (updH H 3 u) W ∧ u.size ≤ 100 ∧ wd - u.size + 1 = k)
      case atStart => exact ⟨H 3, by rw [updH_id]; exact K5.out, by omega, rfl⟩
      case round =>
        obtain ⟨u, K6, hu1, hu2⟩ := hrel
        clear K5
        have K6 := Aside0.mk K6
        have n0 : wr.cell? ⟨w.heap.size + 1 + 1, 9, none⟩ = some (.string u) := (blk_cell K6.out.n 9).trans rfl
        have fz := blk_frozen K6.out.n 9
        by_cases hu : (u.size : Int) < wd
        · have hq : ¬ (9223372036854775807 < u.size + 1) := by omega
          go_wp2_with fail
          go_roundg (gk - 1)
          case measure => omega
          case rel => exact ⟨u ++ ⟨#[120]⟩, by have := K6.out.put 3 (by decide) (u ++ ⟨#[120]⟩); rwa [updH_updH] at this, by rw [ByteArray.size_append]; show u.size + 1 ≤ 100; omega, by rw [ByteArray.size_append]; show wd - (u.size + 1) + 1 = gk - 1; omega⟩
        · have hs0 : (0 : Int) ≤ wd := by omega
          have hs1 : (wd : Int) ≤ u.size := by omega
          go_wp2_with fail
          go_roundg (G - 1)
          case measure => omega
          case rel => exact ⟨4, updH H 3 (u.extract 0 wd), rfl, by omega, by omega, by have := K6.out.put 3 (by decide) (u.extract 0 wd); rwa [updH_updH] at this, fun z hz => by
            by_cases h0 : z = 3
            · subst h0; rw [updH_self, ByteArray.size_extract]; omega
            · rw [updH_ne _ _ _ _ h0]; exact hH z (by omega)⟩
    · have q0 := hH 0 (by decide)
      have q1 := hH 1 (by decide)
      have q2 := hH 2 (by decide)
      have q3 := hH 3 (by decide)
      have HX := Aside0.mk (fun w hT => tag_LeafText.calls p i s h l _ w hT (leaftext_f p i s h l (by omega) hh.1 hh.2 hl.1 hl.2))
      have HY := Aside0.mk (fun w hT => tag_LeafText.calls q j t c d _ w hT (leaftext_f q j t c d (by omega) hc.1 hc.2 hd0.1 hd0.2))
      have HP := Aside0.mk (fun w => tag_NodeText.calls (H 0) (X 0) (Y 0) (H 1) (X 1) (Y 1) _ w (nodetext_some _ _ _ _ _ _ (by omega) (by omega) (hX 0 (by decide)) (hY 0 (by decide)) (hX 1 (by decide)) (hY 1 (by decide))))
      have HQ := Aside0.mk (fun w => tag_NodeText.calls (H 2) (X 2) (Y 2) (H 3) (X 3) (Y 3) _ w (nodetext_some _ _ _ _ _ _ (by omega) (by omega) (hX 2 (by decide)) (hY 2 (by decide)) (hX 3 (by decide)) (hY 3 (by decide))))
      have HM1 := Aside0.mk (fun w hT => tag_MayLeaf.calls p i s h l _ w hT (mayleaf_some p i s h l (by omega)))
      have HM2 := Aside0.mk (fun w hT => tag_MayLeaf.calls q j t c d _ w hT (mayleaf_some q j t c d (by omega)))
      have f1 := plain_T p i s h l (H 0) (H 1) (X 0) (Y 0) (X 1) (Y 1)
      have f2 := plain_N p i s h l
      have f3 := plain_E p i s h l q j t c d hh hl hc hd0
      have f4 := plain_Q H X Y hX hY wd hH
      have f5 : (nodeT (H 0) (X 0) (Y 0) (H 1) (X 1) (Y 1)).size = 33 + 2 * wd := by rw [nodeT_size]; omega
      clear hX hY hH q0 q1 q2 q3 hh hl hc hd0 hA hB
      generalize (if mayL p i s h l = true then leafT p i s h l else (⟨#[]⟩ : ByteArray)) = T1 at *
      generalize (if mayL q j t c d = true then leafT q j t c d else (⟨#[]⟩ : ByteArray)) = T2 at *
      generalize mayL p i s h l = m1 at *
      generalize mayL q j t c d = m2 at *
      generalize nodeT (H 0) (X 0) (Y 0) (H 1) (X 1) (Y 1) = P at *
      generalize nodeT (H 2) (X 2) (Y 2) (H 3) (X 3) (Y 3) = Q at *
      have K := K5
      clear K5
      go_wp2_with fail

      refine Rel.region_rel [] (fun _ => .cells #[] 0 (0, 0)) (RA14 p i s h l q j t c d T1 T2) 4 [] (by kernel_rfl) (by kernel_rfl) (by decide) (fun i hi => by cases hi) (RA14_later p i s h l q j t c d T1 T2) (fun i hi => by cases hi) ?_ ?_
      · simp only [List.take_succ_cons, List.take_zero]
        refine ⟨?_, ?_, ?_, ?_, trivial⟩
        · refine Rel.Upon.of [] (by kernel_rfl) ?_
          intro vals z hb hN hd
          have kz := K.out.step hb
          have c0 := (blk_cell kz.a 0).trans rfl
          have c1 := (blk_cell kz.a 1).trans rfl
          have c2 := (blk_cell kz.a 2).trans rfl
          have c3 := (blk_cell kz.a 3).trans rfl
          have c4 := (blk_cell kz.a 4).trans rfl
          simp only [Rel.rp]
          go_wp2_with fail
          exact ⟨Below.refl _ _, rfl⟩
        · refine Rel.Upon.of [0] (by kernel_rfl) ?_
          intro vals z hb hN hd
          simp only [Rel.ra] at hd
          have d0 := hd
          replace d0 : vals 0 = .agg #[.bool p, .string i, .string s, .int .u64 h, .int .u64 l] := d0
          simp only [Rel.rp, d0]
          go_wp2_with fail
          refine (HX.out _ (HT.out.keep (K.out.step hb).below).utf).mono ?_; rintro e z1 ⟨rfl, hbz⟩
          go_wp2_with fail
          first | rfl | exact ⟨hbz, rfl⟩
        · refine Rel.Upon.of [] (by kernel_rfl) ?_
          intro vals z hb hN hd
          have kz := K.out.step hb
          have c0 := (blk_cell kz.b 0).trans rfl
          have c1 := (blk_cell kz.b 1).trans rfl
          have c2 := (blk_cell kz.b 2).trans rfl
          have c3 := (blk_cell kz.b 3).trans rfl
          have c4 := (blk_cell kz.b 4).trans rfl
          simp only [Rel.rp]
          go_wp2_with fail
          exact ⟨Below.refl _ _, rfl⟩
        · refine Rel.Upon.of [2] (by kernel_rfl) ?_
          intro vals z hb hN hd
          simp only [Rel.ra] at hd
          have d2 := hd
          replace d2 : vals 2 = .agg #[.bool q, .string j, .string t, .int .u64 c, .int .u64 d] := d2
          simp only [Rel.rp, d2]
          go_wp2_with fail
          refine (HY.out _ (HT.out.keep (K.out.step hb).below).utf).mono ?_; rintro e z1 ⟨rfl, hbz⟩
          go_wp2_with fail
          first | rfl | exact ⟨hbz, rfl⟩
      · intro vals wf hb hN hrel _
        have d0 : vals 0 = .agg #[.bool p, .string i, .string s, .int .u64 h, .int .u64 l] := hrel 0 (by decide)
        have d1 : vals 1 = .string T1 := hrel 1 (by decide)
        have d2 : vals 2 = .agg #[.bool q, .string j, .string t, .int .u64 c, .int .u64 d] := hrel 2 (by decide)
        have d3 : vals 3 = .string T2 := hrel 3 (by decide)
        simp only [List.drop_succ_cons, List.drop_zero]
        rw [show List.range 4 = [0, 1, 2, 3] from rfl]
        simp only [Rel.rp, d0, d1, d2, d3]
        clear hrel hN
        go_wp2_with fail
        have K2 := Aside0.mk (K.out.step hb)
        clear K hb d0 d1 d2 d3 HX HY
        have K := K2
        clear K2
        refine Rel.region_rel [] (fun _ => .cells #[] 0 (0, 0)) (RA15 w.heap.size H X Y P Q) 10 [] (by kernel_rfl) (by kernel_rfl) (by decide) (fun i hi => by cases hi) (RA15_later w.heap.size H X Y P Q) (fun i hi => by cases hi) ?_ ?_
        · simp only [List.take_succ_cons, List.take_zero]
          refine ⟨?_, ?_, ?_, ?_, ?_, ?_, ?_, ?_, ?_, ?_, trivial⟩
          · refine Rel.Upon.of [] (by kernel_rfl) ?_
            intro vals z hb hN hd
            simp only [Rel.rp]
            go_wp2_with fail
            exact ⟨Below.refl _ _, rfl⟩
          · refine Rel.Upon.of [0] (by kernel_rfl) ?_
            intro vals z hb hN hd
            simp only [Rel.ra] at hd
            have d0 := hd
            replace d0 : vals 0 = .pointer (some ⟨w.heap.size + 1 + 1, 0, none⟩) := d0
            have kz := K.out.step hb
            have c0 := (blk_cell kz.n 0).trans rfl
            have c1 := (blk_cell kz.n 1).trans rfl
            have c2 := (blk_cell kz.n 2).trans rfl
            simp only [Rel.rp, d0]
            go_wp2_with fail
            exact ⟨Below.refl _ _, rfl⟩
          · refine Rel.Upon.of [] (by kernel_rfl) ?_
            intro vals z hb hN hd
            simp only [Rel.rp]
            go_wp2_with fail
            exact ⟨Below.refl _ _, rfl⟩
          · refine Rel.Upon.of [2] (by kernel_rfl) ?_
            intro vals z hb hN hd
            simp only [Rel.ra] at hd
            have d2 := hd
            replace d2 : vals 2 = .pointer (some ⟨w.heap.size + 1 + 1, 3, none⟩) := d2
            have kz := K.out.step hb
            have c3 := (blk_cell kz.n 3).trans rfl
            have c4 := (blk_cell kz.n 4).trans rfl
            have c5 := (blk_cell kz.n 5).trans rfl
            simp only [Rel.rp, d2]
            go_wp2_with fail
            exact ⟨Below.refl _ _, rfl⟩
          · refine Rel.Upon.of [1, 3] (by kernel_rfl) ?_
            intro vals z hb hN hd
            simp only [Rel.ra] at hd
            obtain ⟨d1, d3⟩ := hd
            replace d1 : vals 1 = .agg #[.string (H 0), .int .u64 (X 0), .int .u64 (Y 0)] := d1
            replace d3 : vals 3 = .agg #[.string (H 1), .int .u64 (X 1), .int .u64 (Y 1)] := d3
            simp only [Rel.rp, d1, d3]
            go_wp2_with fail
            refine (HP.out _).mono ?_; rintro e z1 ⟨rfl, hbz⟩
            go_wp2_with fail
            first | rfl | exact ⟨hbz, rfl⟩
          · refine Rel.Upon.of [] (by kernel_rfl) ?_
            intro vals z hb hN hd
            simp only [Rel.rp]
            go_wp2_with fail
            exact ⟨Below.refl _ _, rfl⟩
          · refine Rel.Upon.of [5] (by kernel_rfl) ?_
            intro vals z hb hN hd
            simp only [Rel.ra] at hd
            have d5 := hd
            replace d5 : vals 5 = .pointer (some ⟨w.heap.size + 1 + 1, 6, none⟩) := d5
            have kz := K.out.step hb
            have c6 := (blk_cell kz.n 6).trans rfl
            have c7 := (blk_cell kz.n 7).trans rfl
            have c8 := (blk_cell kz.n 8).trans rfl
            simp only [Rel.rp, d5]
            go_wp2_with fail
            exact ⟨Below.refl _ _, rfl⟩
          · refine Rel.Upon.of [] (by kernel_rfl) ?_
            intro vals z hb hN hd
            simp only [Rel.rp]
            go_wp2_with fail
            exact ⟨Below.refl _ _, rfl⟩
          · refine Rel.Upon.of [7] (by kernel_rfl) ?_
            intro vals z hb hN hd
            simp only [Rel.ra] at hd
            have d7 := hd
            replace d7 : vals 7 = .pointer (some ⟨w.heap.size + 1 + 1, 9, none⟩) := d7
            have kz := K.out.step hb
            have c9 := (blk_cell kz.n 9).trans rfl
            have c10 := (blk_cell kz.n 10).trans rfl
            have c11 := (blk_cell kz.n 11).trans rfl
            simp only [Rel.rp, d7]
            go_wp2_with fail
            exact ⟨Below.refl _ _, rfl⟩
          · refine Rel.Upon.of [6, 8] (by kernel_rfl) ?_
            intro vals z hb hN hd
            simp only [Rel.ra] at hd
            obtain ⟨d6, d8⟩ := hd
            replace d6 : vals 6 = .agg #[.string (H 2), .int .u64 (X 2), .int .u64 (Y 2)] := d6
            replace d8 : vals 8 = .agg #[.string (H 3), .int .u64 (X 3), .int .u64 (Y 3)] := d8
            simp only [Rel.rp, d6, d8]
            go_wp2_with fail
            refine (HQ.out _).mono ?_; rintro e z1 ⟨rfl, hbz⟩
            go_wp2_with fail
            first | rfl | exact ⟨hbz, rfl⟩
        · intro vals wf hb hN hrel _
          have d0 : vals 0 = .pointer (some ⟨w.heap.size + 1 + 1, 0, none⟩) := hrel 0 (by decide)
          have d1 : vals 1 = .agg #[.string (H 0), .int .u64 (X 0), .int .u64 (Y 0)] := hrel 1 (by decide)
          have d2 : vals 2 = .pointer (some ⟨w.heap.size + 1 + 1, 3, none⟩) := hrel 2 (by decide)
          have d3 : vals 3 = .agg #[.string (H 1), .int .u64 (X 1), .int .u64 (Y 1)] := hrel 3 (by decide)
          have d4 : vals 4 = .string P := hrel 4 (by decide)
          have d5 : vals 5 = .pointer (some ⟨w.heap.size + 1 + 1, 6, none⟩) := hrel 5 (by decide)
          have d6 : vals 6 = .agg #[.string (H 2), .int .u64 (X 2), .int .u64 (Y 2)] := hrel 6 (by decide)
          have d7 : vals 7 = .pointer (some ⟨w.heap.size + 1 + 1, 9, none⟩) := hrel 7 (by decide)
          have d8 : vals 8 = .agg #[.string (H 3), .int .u64 (X 3), .int .u64 (Y 3)] := hrel 8 (by decide)
          have d9 : vals 9 = .string Q := hrel 9 (by decide)
          simp only [List.drop_succ_cons, List.drop_zero]
          rw [show List.range 10 = [0, 1, 2, 3, 4, 5, 6, 7, 8, 9] from rfl]
          simp only [Rel.rp, d0, d1, d2, d3, d4, d5, d6, d7, d8, d9]
          clear hrel hN
          have K2 := Aside0.mk (K.out.step hb)
          clear K hb d0 d1 d2 d3 d4 d5 d6 d7 d8 d9 HP HQ
          generalize wf = w5 at K2 ⊢
          have f2e := f2
          simp only [List.beq_nil_eq] at f2e
          generalize hx2 : ((H 0).toList == (H 2).toList && ((X 0 == X 2 && (Y 0 == Y 2)))) = e1 at f4
          generalize hx3 : ((H 1).toList == (H 3).toList && ((X 1 == X 3 && (Y 1 == Y 3)))) = e2 at f4
          have HE1 := Aside0.mk hx2
          have HE2 := Aside0.mk hx3
          have F4 := Aside0.mk f4
          have F5 := Aside0.mk f5
          clear hx2 hx3 f4 f5
          cases m1
          · have a0 := (blk_cell K2.out.a 0).trans rfl
            have a1 := (blk_cell K2.out.a 1).trans rfl
            have a2 := (blk_cell K2.out.a 2).trans rfl
            have a3 := (blk_cell K2.out.a 3).trans rfl
            have a4 := (blk_cell K2.out.a 4).trans rfl
            have b0 := (blk_cell K2.out.b 0).trans rfl
            have b1 := (blk_cell K2.out.b 1).trans rfl
            have b2 := (blk_cell K2.out.b 2).trans rfl
            have b3 := (blk_cell K2.out.b 3).trans rfl
            have b4 := (blk_cell K2.out.b 4).trans rfl
            go_wp2_with fail
            refine (HM1.out _ (HT.out.keep K2.out.below).utf).mono ?_
            rintro e wq1 ⟨rfl, hbq⟩
            have KK1 := Aside0.mk (K2.out.step hbq)
            clear a0 a1 a2 a3 a4 b0 b1 b2 b3 b4
            clear hbq
            have a0 := (blk_cell KK1.out.a 0).trans rfl
            have a1 := (blk_cell KK1.out.a 1).trans rfl
            have a2 := (blk_cell KK1.out.a 2).trans rfl
            have a3 := (blk_cell KK1.out.a 3).trans rfl
            have a4 := (blk_cell KK1.out.a 4).trans rfl
            have b0 := (blk_cell KK1.out.b 0).trans rfl
            have b1 := (blk_cell KK1.out.b 1).trans rfl
            have b2 := (blk_cell KK1.out.b 2).trans rfl
            have b3 := (blk_cell KK1.out.b 3).trans rfl
            have b4 := (blk_cell KK1.out.b 4).trans rfl
            go_wp2_with fail
            refine (HM1.out _ (HT.out.keep KK1.out.below).utf).mono ?_
            rintro e wq2 ⟨rfl, hbq⟩
            have KK2 := Aside0.mk (KK1.out.step hbq)
            clear a0 a1 a2 a3 a4 b0 b1 b2 b3 b4
            clear hbq
            have a0 := (blk_cell KK2.out.a 0).trans rfl
            have a1 := (blk_cell KK2.out.a 1).trans rfl
            have a2 := (blk_cell KK2.out.a 2).trans rfl
            have a3 := (blk_cell KK2.out.a 3).trans rfl
            have a4 := (blk_cell KK2.out.a 4).trans rfl
            have b0 := (blk_cell KK2.out.b 0).trans rfl
            have b1 := (blk_cell KK2.out.b 1).trans rfl
            have b2 := (blk_cell KK2.out.b 2).trans rfl
            have b3 := (blk_cell KK2.out.b 3).trans rfl
            have b4 := (blk_cell KK2.out.b 4).trans rfl
            have n0 := (blk_cell KK2.out.n 0).trans rfl
            have n1 := (blk_cell KK2.out.n 1).trans rfl
            have n2 := (blk_cell KK2.out.n 2).trans rfl
            have n3 := (blk_cell KK2.out.n 3).trans rfl
            have n4 := (blk_cell KK2.out.n 4).trans rfl
            have n5 := (blk_cell KK2.out.n 5).trans rfl
            have n6 := (blk_cell KK2.out.n 6).trans rfl
            have n7 := (blk_cell KK2.out.n 7).trans rfl
            have n8 := (blk_cell KK2.out.n 8).trans rfl
            have n9 := (blk_cell KK2.out.n 9).trans rfl
            have n10 := (blk_cell KK2.out.n 10).trans rfl
            have n11 := (blk_cell KK2.out.n 11).trans rfl
            have h1 := HE1.out
            have h2 := HE2.out
            have h4 := F4.out
            have h5 := F5.out
            have k1 : ((P.size : Nat) : Int) = 33 + 2 * (wd : Int) := by omega
            clear h5
            cases e1
            all_goals cases e2
            all_goals simp only [Bool.and_true, Bool.and_false, Bool.true_and, Bool.false_and] at h4
            all_goals go_wp2_with fail
            all_goals go_ret
            all_goals exact ⟨rfl, KK2.out.below⟩
          · cases m2
            · have a0 := (blk_cell K2.out.a 0).trans rfl
              have a1 := (blk_cell K2.out.a 1).trans rfl
              have a2 := (blk_cell K2.out.a 2).trans rfl
              have a3 := (blk_cell K2.out.a 3).trans rfl
              have a4 := (blk_cell K2.out.a 4).trans rfl
              have b0 := (blk_cell K2.out.b 0).trans rfl
              have b1 := (blk_cell K2.out.b 1).trans rfl
              have b2 := (blk_cell K2.out.b 2).trans rfl
              have b3 := (blk_cell K2.out.b 3).trans rfl
              have b4 := (blk_cell K2.out.b 4).trans rfl
              go_wp2_with fail
              refine (HM1.out _ (HT.out.keep K2.out.below).utf).mono ?_
              rintro e wq3 ⟨rfl, hbq⟩
              have KK3 := Aside0.mk (K2.out.step hbq)
              clear a0 a1 a2 a3 a4 b0 b1 b2 b3 b4
              clear hbq
              have a0 := (blk_cell KK3.out.a 0).trans rfl
              have a1 := (blk_cell KK3.out.a 1).trans rfl
              have a2 := (blk_cell KK3.out.a 2).trans rfl
              have a3 := (blk_cell KK3.out.a 3).trans rfl
              have a4 := (blk_cell KK3.out.a 4).trans rfl
              have b0 := (blk_cell KK3.out.b 0).trans rfl
              have b1 := (blk_cell KK3.out.b 1).trans rfl
              have b2 := (blk_cell KK3.out.b 2).trans rfl
              have b3 := (blk_cell KK3.out.b 3).trans rfl
              have b4 := (blk_cell KK3.out.b 4).trans rfl
              go_wp2_with fail
              refine (HM2.out _ (HT.out.keep KK3.out.below).utf).mono ?_
              rintro e wq4 ⟨rfl, hbq⟩
              have KK4 := Aside0.mk (KK3.out.step hbq)
              clear a0 a1 a2 a3 a4 b0 b1 b2 b3 b4
              clear hbq
              have a0 := (blk_cell KK4.out.a 0).trans rfl
              have a1 := (blk_cell KK4.out.a 1).trans rfl
              have a2 := (blk_cell KK4.out.a 2).trans rfl
              have a3 := (blk_cell KK4.out.a 3).trans rfl
              have a4 := (blk_cell KK4.out.a 4).trans rfl
              have b0 := (blk_cell KK4.out.b 0).trans rfl
              have b1 := (blk_cell KK4.out.b 1).trans rfl
              have b2 := (blk_cell KK4.out.b 2).trans rfl
              have b3 := (blk_cell KK4.out.b 3).trans rfl
              have b4 := (blk_cell KK4.out.b 4).trans rfl
              go_wp2_with fail
              refine (HM1.out _ (HT.out.keep KK4.out.below).utf).mono ?_
              rintro e wq5 ⟨rfl, hbq⟩
              have KK5 := Aside0.mk (KK4.out.step hbq)
              clear a0 a1 a2 a3 a4 b0 b1 b2 b3 b4
              clear hbq
              have a0 := (blk_cell KK5.out.a 0).trans rfl
              have a1 := (blk_cell KK5.out.a 1).trans rfl
              have a2 := (blk_cell KK5.out.a 2).trans rfl
              have a3 := (blk_cell KK5.out.a 3).trans rfl
              have a4 := (blk_cell KK5.out.a 4).trans rfl
              have b0 := (blk_cell KK5.out.b 0).trans rfl
              have b1 := (blk_cell KK5.out.b 1).trans rfl
              have b2 := (blk_cell KK5.out.b 2).trans rfl
              have b3 := (blk_cell KK5.out.b 3).trans rfl
              have b4 := (blk_cell KK5.out.b 4).trans rfl
              have n0 := (blk_cell KK5.out.n 0).trans rfl
              have n1 := (blk_cell KK5.out.n 1).trans rfl
              have n2 := (blk_cell KK5.out.n 2).trans rfl
              have n3 := (blk_cell KK5.out.n 3).trans rfl
              have n4 := (blk_cell KK5.out.n 4).trans rfl
              have n5 := (blk_cell KK5.out.n 5).trans rfl
              have n6 := (blk_cell KK5.out.n 6).trans rfl
              have n7 := (blk_cell KK5.out.n 7).trans rfl
              have n8 := (blk_cell KK5.out.n 8).trans rfl
              have n9 := (blk_cell KK5.out.n 9).trans rfl
              have n10 := (blk_cell KK5.out.n 10).trans rfl
              have n11 := (blk_cell KK5.out.n 11).trans rfl
              have h1 := HE1.out
              have h2 := HE2.out
              have h4 := F4.out
              have h5 := F5.out
              have k1 : ((P.size : Nat) : Int) = 33 + 2 * (wd : Int) := by omega
              clear h5
              cases e1
              all_goals cases e2
              all_goals simp only [Bool.and_true, Bool.and_false, Bool.true_and, Bool.false_and] at h4
              all_goals go_wp2_with fail
              all_goals go_ret
              all_goals exact ⟨rfl, KK5.out.below⟩
            · have g3 := f3 rfl rfl
              generalize hx4 : (p == q && (i.toList == j.toList && (s.toList == t.toList && ((h == c && (l == d)))))) = eb at g3
              have a0 := (blk_cell K2.out.a 0).trans rfl
              have a1 := (blk_cell K2.out.a 1).trans rfl
              have a2 := (blk_cell K2.out.a 2).trans rfl
              have a3 := (blk_cell K2.out.a 3).trans rfl
              have a4 := (blk_cell K2.out.a 4).trans rfl
              have b0 := (blk_cell K2.out.b 0).trans rfl
              have b1 := (blk_cell K2.out.b 1).trans rfl
              have b2 := (blk_cell K2.out.b 2).trans rfl
              have b3 := (blk_cell K2.out.b 3).trans rfl
              have b4 := (blk_cell K2.out.b 4).trans rfl
              go_wp2_with fail
              refine (HM1.out _ (HT.out.keep K2.out.below).utf).mono ?_
              rintro e wq6 ⟨rfl, hbq⟩
              have KK6 := Aside0.mk (K2.out.step hbq)
              clear a0 a1 a2 a3 a4 b0 b1 b2 b3 b4
              clear hbq
              have a0 := (blk_cell KK6.out.a 0).trans rfl
              have a1 := (blk_cell KK6.out.a 1).trans rfl
              have a2 := (blk_cell KK6.out.a 2).trans rfl
              have a3 := (blk_cell KK6.out.a 3).trans rfl
              have a4 := (blk_cell KK6.out.a 4).trans rfl
              have b0 := (blk_cell KK6.out.b 0).trans rfl
              have b1 := (blk_cell KK6.out.b 1).trans rfl
              have b2 := (blk_cell KK6.out.b 2).trans rfl
              have b3 := (blk_cell KK6.out.b 3).trans rfl
              have b4 := (blk_cell KK6.out.b 4).trans rfl
              go_wp2_with fail
              refine (HM2.out _ (HT.out.keep KK6.out.below).utf).mono ?_
              rintro e wq7 ⟨rfl, hbq⟩
              have KK7 := Aside0.mk (KK6.out.step hbq)
              clear a0 a1 a2 a3 a4 b0 b1 b2 b3 b4
              clear hbq
              have a0 := (blk_cell KK7.out.a 0).trans rfl
              have a1 := (blk_cell KK7.out.a 1).trans rfl
              have a2 := (blk_cell KK7.out.a 2).trans rfl
              have a3 := (blk_cell KK7.out.a 3).trans rfl
              have a4 := (blk_cell KK7.out.a 4).trans rfl
              have b0 := (blk_cell KK7.out.b 0).trans rfl
              have b1 := (blk_cell KK7.out.b 1).trans rfl
              have b2 := (blk_cell KK7.out.b 2).trans rfl
              have b3 := (blk_cell KK7.out.b 3).trans rfl
              have b4 := (blk_cell KK7.out.b 4).trans rfl
              cases eb
              · go_wp2_with fail
                refine (HM1.out _ (HT.out.keep KK7.out.below).utf).mono ?_
                rintro e wq8 ⟨rfl, hbq⟩
                have KK8 := Aside0.mk (KK7.out.step hbq)
                clear a0 a1 a2 a3 a4 b0 b1 b2 b3 b4
                clear hbq
                have a0 := (blk_cell KK8.out.a 0).trans rfl
                have a1 := (blk_cell KK8.out.a 1).trans rfl
                have a2 := (blk_cell KK8.out.a 2).trans rfl
                have a3 := (blk_cell KK8.out.a 3).trans rfl
                have a4 := (blk_cell KK8.out.a 4).trans rfl
                have b0 := (blk_cell KK8.out.b 0).trans rfl
                have b1 := (blk_cell KK8.out.b 1).trans rfl
                have b2 := (blk_cell KK8.out.b 2).trans rfl
                have b3 := (blk_cell KK8.out.b 3).trans rfl
                have b4 := (blk_cell KK8.out.b 4).trans rfl
                have n0 := (blk_cell KK8.out.n 0).trans rfl
                have n1 := (blk_cell KK8.out.n 1).trans rfl
                have n2 := (blk_cell KK8.out.n 2).trans rfl
                have n3 := (blk_cell KK8.out.n 3).trans rfl
                have n4 := (blk_cell KK8.out.n 4).trans rfl
                have n5 := (blk_cell KK8.out.n 5).trans rfl
                have n6 := (blk_cell KK8.out.n 6).trans rfl
                have n7 := (blk_cell KK8.out.n 7).trans rfl
                have n8 := (blk_cell KK8.out.n 8).trans rfl
                have n9 := (blk_cell KK8.out.n 9).trans rfl
                have n10 := (blk_cell KK8.out.n 10).trans rfl
                have n11 := (blk_cell KK8.out.n 11).trans rfl
                have h1 := HE1.out
                have h2 := HE2.out
                have h4 := F4.out
                have h5 := F5.out
                have k1 : ((P.size : Nat) : Int) = 33 + 2 * (wd : Int) := by omega
                clear h5
                cases e1
                all_goals cases e2
                all_goals simp only [Bool.and_true, Bool.and_false, Bool.true_and, Bool.false_and] at h4
                all_goals go_wp2_with fail
                all_goals go_ret
                all_goals exact ⟨rfl, KK8.out.below⟩
              · go_wp2_with fail
                refine (HM1.out _ (HT.out.keep KK7.out.below).utf).mono ?_
                rintro e wq9 ⟨rfl, hbq⟩
                have KK9 := Aside0.mk (KK7.out.step hbq)
                clear a0 a1 a2 a3 a4 b0 b1 b2 b3 b4
                clear hbq
                have a0 := (blk_cell KK9.out.a 0).trans rfl
                have a1 := (blk_cell KK9.out.a 1).trans rfl
                have a2 := (blk_cell KK9.out.a 2).trans rfl
                have a3 := (blk_cell KK9.out.a 3).trans rfl
                have a4 := (blk_cell KK9.out.a 4).trans rfl
                have b0 := (blk_cell KK9.out.b 0).trans rfl
                have b1 := (blk_cell KK9.out.b 1).trans rfl
                have b2 := (blk_cell KK9.out.b 2).trans rfl
                have b3 := (blk_cell KK9.out.b 3).trans rfl
                have b4 := (blk_cell KK9.out.b 4).trans rfl
                have n0 := (blk_cell KK9.out.n 0).trans rfl
                have n1 := (blk_cell KK9.out.n 1).trans rfl
                have n2 := (blk_cell KK9.out.n 2).trans rfl
                have n3 := (blk_cell KK9.out.n 3).trans rfl
                have n4 := (blk_cell KK9.out.n 4).trans rfl
                have n5 := (blk_cell KK9.out.n 5).trans rfl
                have n6 := (blk_cell KK9.out.n 6).trans rfl
                have n7 := (blk_cell KK9.out.n 7).trans rfl
                have n8 := (blk_cell KK9.out.n 8).trans rfl
                have n9 := (blk_cell KK9.out.n 9).trans rfl
                have n10 := (blk_cell KK9.out.n 10).trans rfl
                have n11 := (blk_cell KK9.out.n 11).trans rfl
                have h1 := HE1.out
                have h2 := HE2.out
                have h4 := F4.out
                have h5 := F5.out
                have k1 : ((P.size : Nat) : Int) = 33 + 2 * (wd : Int) := by omega
                clear h5
                cases e1
                all_goals cases e2
                all_goals simp only [Bool.and_true, Bool.and_false, Bool.true_and, Bool.false_and] at h4
                all_goals go_wp2_with fail
                all_goals go_ret
                all_goals exact ⟨rfl, KK9.out.below⟩
end Go.Proofs.YtomninikmcmmcaaDoor.Unl
