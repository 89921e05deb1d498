/- The law HmacDigests: it answers true for every input. -/
import Derived.Test.YtomninikmcmmcaaDoorLt
import Derived.Test.YtomninikmcmmcaaDoorRel
namespace Go.Proofs.YtomninikmcmmcaaDoor.Sha
open Go Go.RowKit Go.Shelf Go.Proofs.YtomninikmcmmcaaDoor.Rng Go.Proofs.YtomninikmcmmcaaDoorW.PrintWords Go.Proofs.Sp Go.Proofs.YtomninikmcmmcaaDoor.Blk Go.Proofs.YtomninikmcmmcaaDoor.GivA
set_option linter.unusedVariables false
set_option linter.unusedSimpArgs false
theorem XRow.other {g : Nat} {s : ByteArray} {c : UInt8} {t : Nat} {w : World} (h : XRow g s c t w) (p : Addr) (hp : p.block ≠ g) (v : Value) : XRow g s c t (w.setCell p v) where
  cell := fun j hj => by rw [World.cell?_setCell_other _ _ _ _ (fun e => hp (by rw [e])), h.cell j hj]
  free := fun j hj => by rw [World.frozen?_setCell]; exact h.free j hj
theorem XRow.below {g : Nat} {s : ByteArray} {c : UInt8} {t : Nat} {w w' : World} (h : XRow g s c t w) (hb : Below w.heap.size w w') : XRow g s c t w' where
  cell := fun j hj => (hb.cell (World.block_lt_of_cell? w _ (h.cell j hj))).trans (h.cell j hj)
  free := fun j hj => by
    have hlt := World.block_lt_of_cell? w _ (h.cell j hj)
    rw [World.frozen?_of_block (w := w) (w' := w') (hb.block g hlt)]
    exact h.free j hj
theorem XRow.of_block {g : Nat} {s : ByteArray} {c : UInt8} {t : Nat} {w w' : World} (h : XRow g s c t w) (e : w'.heap[g]? = w.heap[g]?) : XRow g s c t w' where
  cell := fun j hj => (World.cell?_of_block (w := w) (w' := w') e).trans (h.cell j hj)
  free := fun j hj => (World.frozen?_of_block (w := w) (w' := w') e).trans (h.free j hj)
theorem add_at (g j : Nat) : (⟨g, 0, none⟩ : Addr).add j = ⟨g, j, none⟩ := by
  unfold Addr.add
  split <;> simp_all
theorem own_slice {w : World} {base n : Nat} {v : Value} {xs : List Value} (h : w.ownsRow base 5 1 v n xs) (h0 : n ≠ 0) : ∃ g cap, v = .slice (some ⟨g, 0, none⟩) n cap ∧ base ≤ g ∧ n ≤ cap := by
  obtain ⟨h1, h2 | ⟨g, cap, cur, e, h3, h4, h5, h6, h7, h8⟩⟩ := h
  · exact absurd h2.2 h0
  · exact ⟨g, cap, e, h3, h5⟩
/-- A row of one's own that holds a text's bytes. -/
theorem XRow.own {b : ByteArray} {c : UInt8} {w : World} {base g cap : Nat} {n : Nat} (hb : b.size = n) (h : w.ownsRow base 5 1 (.slice (some ⟨g, 0, none⟩) n cap) n (Lib.byteCells b.data.toList)) : XRow g b c 0 w := by
  have hl : b.data.toList.length = n := by rw [data_size, hb]
  obtain ⟨h1, h2 | ⟨g', cap', cur, e, h3, h4, h5, h6, h7, h8⟩⟩ := h
  · cases h2.1
  · injection e with e1 _ _
    injection e1 with e1
    injection e1 with e1
    subst e1
    constructor
    · intro j hj
      have hj2 : j < b.data.toList.length := by omega
      have hc : cur[j]? = some (.int .u8 ((mixX b c 0 j).toNat : Int)) := by
        have h9 : (cur.toList.take (n * 1))[j]? = (Lib.byteCells b.data.toList)[j]? := by rw [h8]
        rw [List.getElem?_take, if_pos (by omega), Array.getElem?_toList] at h9
        rw [h9]
        unfold mixX
        rw [if_neg (Nat.not_lt_zero _), List.getD_eq_getElem?_getD, List.getElem?_eq_getElem hj2]
        simp [Lib.byteCells, List.getElem?_eq_getElem hj2]
      rw [blk_cell' h4 j, hc]
    · intro j hj
      exact Lib.frozen_of_heap h4 j
def v15 (key m f d : ByteArray) (n q : Int) (N : Nat) : Nat → Value
  | 0 => .string key
  | 1 => .string m
  | 2 => .int .i64 n
  | 3 => .string f
  | 4 => .string d
  | 5 => .int .i64 q
  | 6 => .string f
  | 7 => .bool true
  | 8 => .bool true
  | 9 => .string key
  | 10 => .string m
  | 11 => .int .u64 (N : Nat)
  | 12 => .int .u64 (N : Nat)
  | 13 => .bool true
  | 14 => .bool true
  | _ => undef
def v16 (d ob ib m im e1 oe : ByteArray) (g1 g2 c1 c2 : Nat) : Nat → Value
  | 0 => .string d
  | 1 => .slice (some ⟨g2, 0, none⟩) 64 c2
  | 2 => .string ob
  | 3 => .slice (some ⟨g1, 0, none⟩) 64 c1
  | 4 => .string ib
  | 5 => .string m
  | 6 => .string im
  | 7 => .string e1
  | 8 => .string oe
  | 9 => .string d
  | 10 => .bool false
  | 11 => .bool false
  | 12 => .string d
  | 13 => .int .i64 32
  | 14 => .bool false
  | 15 => .bool false
  | _ => undef
def v14 (g0 g1 g2 cp c1 c2 t : Nat) (y : UInt8) : Nat → Value
  | 0 => .slice (some ⟨g1, 0, none⟩) 64 c1
  | 1 => .int .i64 (t : Int)
  | 2 => .slice (some ⟨g2, 0, none⟩) 64 c2
  | 3 => .int .i64 (t : Int)
  | 4 => .slice (some ⟨g0, 0, none⟩) 64 cp
  | 5 => .int .i64 (t : Int)
  | 6 => .pointer (some ⟨g0, t, none⟩)
  | 7 => .int .u8 (y.toNat : Int)
  | 8 => .int .u8 (Go.bits .xor .u8 (y.toNat : Int) 54)
  | 9 => .slice (some ⟨g0, 0, none⟩) 64 cp
  | 10 => .int .i64 (t : Int)
  | 11 => .pointer (some ⟨g0, t, none⟩)
  | 12 => .int .u8 (y.toNat : Int)
  | 13 => .int .u8 (Go.bits .xor .u8 (y.toNat : Int) 92)
  | _ => undef
set_option maxHeartbeats 4000000 in
set_option maxRecDepth 100000 in
theorem hmacDigests_row (key : ByteArray) (hk : key.size ≤ 140737488351232) (m : ByteArray) (hm : m.size ≤ 140737488351232) (n : Int) (hn : (Lit.int .i64 n).wf = true) (w : World) (hT : Tab w) :
    Calls Tryd.prog 10 #[.string key, .string m, .int .i64 n] w fun e w' => e = .returned (.bool true) ∧ Below w.heap.size w w' := by
  have HT := Aside0.mk hT
  have HA := Aside0.mk awake_calls
  clear hT
  go_enter Tryd.func10, Tryd.ntmps10
  go_wp2_with fail
  refine (HA.out _ HT.out).mono ?_
  rintro e w0 ⟨rfl, hb0⟩
  have HB0 := Aside0.mk hb0
  clear hb0 HA
  by_cases h1 : (key.size : Int) > 1000
  · go_wp2
    go_ret
    exact ⟨rfl, HB0.out⟩
  by_cases h2 : (m.size : Int) > 1000
  · go_wp2
    go_ret
    exact ⟨rfl, HB0.out⟩
  have hbz := kBlock_size key
  have HK := Aside0.mk (fun w h => kblock_calls key w h (by omega))
  have HM := Aside0.mk (fun w h => mac_calls key m w h (by omega) (by omega))
  have HD := Aside0.mk (show mac key m = sha (xorB (kBlock key) 92 ++ sha (xorB (kBlock key) 54 ++ m)) from rfl)
  have HS := Aside0.mk (fun (x : ByteArray) (h : x.size ≤ 2000) w hT => shasum_calls x w hT (by omega))
  have HF := Aside0.mk (fun w h => hfirst_calls key m n w h (by omega) (by omega))
  have HN := Aside0.mk (fun w h => number_calls key m w h (by omega) (by omega))
  have hd := mac_size key m
  unfold firstB at HF
  unfold mac8 at HN
  generalize mac key m = d at *
  generalize kBlock key = b at *
  go_wp2_with fail
  refine (HK.out _ (HT.out.keep HB0.out)).mono ?_
  rintro e w1 ⟨rfl, b1⟩
  have B1 := Aside0.mk (HB0.out.trans (b1.mono HB0.out.size))
  clear b1 HB0 HK
  have hcv := run_bytes_of_string (P := Tryd.prog) w1 9 65 5 b Tryd.underlying9 Tryd.underlying65 Tryd.underlying5
  rw [hbz] at hcv
  have X0 := XRow.start b 0 w1 (grownCap w1 64 0 5)
  have hnc : (64 : Nat) ≤ grownCap w1 64 0 5 := grownCap_ge w1 64 0 5
  generalize grownCap w1 64 0 5 = cp at *
  have B2 := Aside0.mk ((B1.out.alloc B1.out.size (.cells (bytesRow b cp) 5 ((bytesRow b cp).size, (bytesRow b cp).size + 1))).drew)
  have hdr : ((w1.drew.alloc (.cells (bytesRow b cp) 5 ((bytesRow b cp).size, (bytesRow b cp).size + 1)))) = (w1.alloc (.cells (bytesRow b cp) 5 ((bytesRow b cp).size, (bytesRow b cp).size + 1))).drew := rfl
  have hsz : (w1.alloc (.cells (bytesRow b cp) 5 ((bytesRow b cp).size, (bytesRow b cp).size + 1))).drew.heap.size = w1.heap.size + 1 := Array.size_push _
  rw [hdr] at hcv
  clear hdr
  generalize (w1.alloc (.cells (bytesRow b cp) 5 ((bytesRow b cp).size, (bytesRow b cp).size + 1))).drew = W at *
  have hc0 : ∀ j, j < 64 → W.cell? ⟨w1.heap.size, j, none⟩ = some (.int .u8 ((b.data.toList.getD j 0).toNat : Int)) := fun j hj => (X0.cell j (by omega)).trans (by unfold mixX; rw [if_neg (Nat.not_lt_zero _)])
  have HC0 := Aside0.mk hc0
  have HX0 := Aside0.mk X0
  clear hc0 X0
  have HWB := Aside0.mk B1.out.size
  clear B1
  obtain ⟨i0, hi, hz0, hz1, hz2⟩ := info_parts (P := Tryd.prog) (e := 5) (z := .int .u8 0) (size := 1) (bytes := 1) (by kernel_rfl)
  have hown1 : (W.alloc (.cells #[] 5)).ownsRow (w1.heap.size + 1) 5 1 (.slice (some ⟨w1.heap.size + 1, 0, none⟩) 0 0) 0 [] := by
    rw [← hsz]
    exact ⟨rfl, .inr ⟨W.heap.size, 0, #[], rfl, Nat.le_refl _, blk_new W _, Nat.le_refl _, by decide, rfl, rfl⟩⟩
  have hln : (Lib.byteCells b.data.toList).length = 64 := by rw [byteCells_length, data_size, hbz]
  have hsz1 : (W.alloc (.cells #[] 5)).heap.size = W.heap.size + 1 := Array.size_push _
  have hnews : ∀ j u, (Lib.byteCells b.data.toList)[j]? = some u → W.cell? ⟨w1.heap.size, j, none⟩ = some u ∧ u.oneCell' = true := fun j u hu => by
    have hj : j < 64 := by
      rcases Nat.lt_or_ge j 64 with h | h
      · exact h
      · rw [List.getElem?_eq_none (by omega)] at hu; cases hu
    have hjl : j < b.data.toList.length := by rw [data_size, hbz]; exact hj
    have e : (Lib.byteCells b.data.toList)[j]? = some (.int .u8 ((b.data.toList.getD j 0).toNat : Int)) := by
      rw [List.getD_eq_getElem?_getD, List.getElem?_eq_getElem hjl]
      simp [Lib.byteCells, List.getElem?_eq_getElem hjl]
    rw [e] at hu
    obtain rfl := Option.some.inj hu
    exact ⟨HC0.out j hj, rfl⟩
  have HNW := Aside0.mk hnews
  have HOB := Aside0.mk (fun {v : World} {base g cap : Nat} (c : UInt8) h => XRow.own (b := b) (c := c) (w := v) (base := base) (g := g) (cap := cap) hbz h)
  clear hnews
  generalize Lib.byteCells b.data.toList = news at *
  go_wp2_with (at_builtin; refine wpList_append_own _ rfl _ _ 65 rfl (w1.heap.size + 1) 5 i0 (.int .u8 0) 1 1 Tryd.underlying65 hi hz0 hz1 hz2 rfl (by decide) _ _ _ rfl hown1 ⟨w1.heap.size, 0, none⟩ 64 cp news rfl hln ?c1 ?c2 ?c3 ?c4 ?c5 ?_)
  case c1 =>
    intro j u hu
    have h := (HNW.out j u hu).1
    have hlt := World.block_lt_of_cell? W _ h
    have hx := (World.cell?_alloc_lt W (.cells #[] 5) _ hlt).trans h
    first | exact hx | (rw [add_at]; exact hx)
  case c2 =>
    intro u hu
    obtain ⟨j, hj⟩ := List.getElem?_of_mem hu
    exact (HNW.out j u hj).2
  case c3 => decide
  case c4 => omega
  case c5 => omega
  intro v1 W1 hown2 hgrow1 _
  obtain ⟨g1, c1, rfl, hg1, hc1⟩ := own_slice hown2 (by decide)
  have R1 := Aside0.mk (HOB.out 54 hown2)
  have l1 : g1 < W1.heap.size := World.block_lt_of_cell? W1 _ (R1.out.cell 0 (by omega))
  have e1 : W1.heap[w1.heap.size]? = W.heap[w1.heap.size]? := by
    rw [hgrow1.block w1.heap.size (by omega) (fun e => by have e := Option.some.inj e; replace e : w1.heap.size = w1.heap.size + 1 := e; omega)]
    exact Below.heap_alloc _ _ _ (by omega)
  have R0 := Aside0.mk (HX0.out.of_block e1)
  have B3 := Aside0.mk ((B2.out.alloc B2.out.size (.cells #[] 5)).grown hgrow1 (by have := B2.out.size; omega) (fun k hk => by obtain rfl := Option.some.inj hk; have := HWB.out; show w.heap.size ≤ w1.heap.size + 1; omega))
  have HNW1 := Aside0.mk (show ∀ j u, news[j]? = some u → W1.cell? ⟨w1.heap.size, j, none⟩ = some u from fun j u hu => (World.cell?_of_block (w := W) (w' := W1) e1).trans (HNW.out j u hu).1)
  have hown3 : (W1.alloc (.cells #[] 5)).ownsRow W1.heap.size 5 1 (.slice (some ⟨W1.heap.size, 0, none⟩) 0 0) 0 [] := ⟨rfl, .inr ⟨W1.heap.size, 0, #[], rfl, Nat.le_refl _, blk_new W1 _, Nat.le_refl _, by decide, rfl, rfl⟩⟩
  have hsz3 : (W1.alloc (.cells #[] 5)).heap.size = W1.heap.size + 1 := Array.size_push _
  clear hown1 hgrow1 hown2
  go_wp2_with (at_builtin; refine wpList_append_own _ rfl _ _ 65 rfl W1.heap.size 5 i0 (.int .u8 0) 1 1 Tryd.underlying65 hi hz0 hz1 hz2 rfl (by decide) _ _ _ rfl hown3 ⟨w1.heap.size, 0, none⟩ 64 cp news rfl hln ?d1 ?d2 ?d3 ?d4 ?d5 ?_)
  case d1 =>
    intro j u hu
    have h := HNW1.out j u hu
    have hlt := World.block_lt_of_cell? W1 _ h
    have hx := (World.cell?_alloc_lt W1 (.cells #[] 5) _ hlt).trans h
    first | exact hx | (rw [add_at]; exact hx)
  case d2 =>
    intro u hu
    obtain ⟨j, hj⟩ := List.getElem?_of_mem hu
    exact (HNW.out j u hj).2
  case d3 => decide
  all_goals first | omega | skip
  intro v2 W2 hown4 hgrow2 _
  obtain ⟨g2, c2, rfl, hg2, hc2⟩ := own_slice hown4 (by decide)
  have Q2 := Aside0.mk (HOB.out 92 hown4)
  have k1 : W2.heap[g1]? = W1.heap[g1]? := by
    rw [hgrow2.block g1 (by rw [hsz3]; exact Nat.lt_succ_of_lt l1) (fun e => by have e := Option.some.inj e; replace e : g1 = W1.heap.size := e; omega)]
    exact Below.heap_alloc _ _ _ l1
  have l0 : w1.heap.size < W1.heap.size := World.block_lt_of_cell? W1 _ (R0.out.cell 0 (by omega))
  have k0 : W2.heap[w1.heap.size]? = W1.heap[w1.heap.size]? := by
    rw [hgrow2.block w1.heap.size (by rw [hsz3]; exact Nat.lt_succ_of_lt l0) (fun e => by have e := Option.some.inj e; replace e : w1.heap.size = W1.heap.size := e; omega)]
    exact Below.heap_alloc _ _ _ l0
  have Q1 := Aside0.mk (R1.out.of_block k1)
  have Q0 := Aside0.mk (R0.out.of_block k0)
  have B4 := Aside0.mk ((B3.out.alloc B3.out.size (.cells #[] 5)).grown hgrow2 (by have := B3.out.size; omega) (fun k hk => by obtain rfl := Option.some.inj hk; exact B3.out.size))
  have n12 : g1 ≠ g2 := by
    have : g1 < W1.heap.size := l1
    omega
  have n01 : w1.heap.size ≠ g1 := by omega
  have n02 : w1.heap.size ≠ g2 := by
    have : w1.heap.size < W1.heap.size := l0
    omega
  have hw0 : w.heap.size ≤ w1.heap.size := HWB.out
  have hw1 : w.heap.size ≤ g1 := by omega
  have hw2 : w.heap.size ≤ g2 := by
    have : g1 < W1.heap.size := l1
    omega
  generalize w1.heap.size = g0 at *
  clear hown3 hown4 hgrow2 R1 R0 HNW1 HNW HOB hsz hsz1 hsz3 l0 l1 k0 k1 e1 HX0 HC0 hi hz0 hz1 hz2 hln B3 B2 HWB hg1 hg2 hcv
  clear news
  go_wp2_with fail
  go_loopg [10] 64 (fun k v wr => ∃ t : Nat, t + k = 64 ∧ v = .int .i64 (t : Int) ∧ XRow g1 b 54 t wr ∧ XRow g2 b 92 t wr ∧ XRow g0 b 0 0 wr ∧ Below w.heap.size w wr)
  case atStart => exact ⟨0, rfl, rfl, Q1.out, Q2.out, Q0.out, B4.out⟩
  case round =>
    clear Q1 Q2 Q0 B4
    obtain ⟨t, ht, rfl, h3, h4, h5, hB⟩ := hrel
    have X1 := Aside0.mk h3
    have X2 := Aside0.mk h4
    have X3 := Aside0.mk h5
    have HB := Aside0.mk hB
    clear hB
    by_cases hlt : t < 64
    · have q1 := h3.cell t (by omega)
      have q2 := h4.cell t (by omega)
      have q3 := h5.cell t (by omega)
      have f1 := h3.free t (by omega)
      have f2 := h4.free t (by omega)
      have S1 := Aside0.mk (fun w' (h : XRow g1 b 54 t w') => h.set (by omega))
      have S2 := Aside0.mk (fun w' (h : XRow g2 b 92 t w') => h.set (by omega))
      have e1 : ∀ c, mixX b c t t = b.data.toList.getD t 0 := fun c => by unfold mixX; rw [if_neg (Nat.lt_irrefl _)]
      have e2 : mixX b 0 0 t = b.data.toList.getD t 0 := by unfold mixX; rw [if_neg (Nat.not_lt_zero _)]
      rw [e1] at q1 q2 S1 S2
      rw [e2] at q3
      generalize b.data.toList.getD t 0 = y at *
      have O1 := xor_u8 y 54
      have O2 := xor_u8 y 92
      have t1 : (((54 : UInt8).toNat : Nat) : Int) = 54 := rfl
      have t2 : (((92 : UInt8).toNat : Nat) : Int) = 92 := rfl
      rw [t1] at O1
      rw [t2] at O2
      rw [← O1] at S1
      rw [← O2] at S2
      clear h3 h4 h5 e1 e2 O1 O2 t1 t2
      have l1 : (t : Int) < 64 := by omega
      have l0 : 0 ≤ (t : Int) := by omega
      clear f1 f2 q1 q2
      go_wp2_with fail
      refine Rel.region_rel [] (fun _ => .cells #[] 0 (0, 0)) (fun j v _ => v = v14 g0 g1 g2 cp c1 c2 t y j) 14 [2, 3, 13] (by kernel_rfl) (by kernel_rfl) (by decide) (fun i hi v c a w h => by simp only [List.mem_cons, List.not_mem_nil, or_false] at hi; rcases hi with rfl | rfl | rfl <;> exact h) (fun _ _ _ _ h _ => h) (fun i hi => by cases hi) ?_ ?_
      · simp only [List.take_succ_cons, List.take_zero]
        refine ⟨?_, ?_, ?_, ?_, ?_, ?_, ?_, ?_, ?_, ?_, ?_, ?_, ?_, ?_, trivial⟩
        · refine Rel.Upon.of [] (by kernel_rfl) ?_
          intro vals z hb hN hd
          simp only [Rel.rp]
          go_wp2_with fail
          exact ⟨Below.refl _ _, rfl⟩
        · refine Rel.Upon.of [] (by kernel_rfl) ?_
          intro vals z hb hN hd
          simp only [Rel.rp]
          go_wp2_with fail
          exact ⟨Below.refl _ _, rfl⟩
        · refine Rel.UponF.of [] (by kernel_rfl) ?_
          intro vals z hb hN hd
          simp only [Rel.rp]
          refine ⟨.slice (some ⟨g2, 0, none⟩) 64 c2, .inl ⟨by rfl, fun w' => ?_⟩, rfl⟩
          go_simp
        · refine Rel.UponF.of [] (by kernel_rfl) ?_
          intro vals z hb hN hd
          simp only [Rel.rp]
          refine ⟨.int .i64 (t : Int), .inl ⟨by rfl, fun w' => ?_⟩, rfl⟩
          go_simp
        · refine Rel.Upon.of [] (by kernel_rfl) ?_
          intro vals z hb hN hd
          simp only [Rel.rp]
          go_wp2_with fail
          exact ⟨Below.refl _ _, rfl⟩
        · refine Rel.Upon.of [] (by kernel_rfl) ?_
          intro vals z hb hN hd
          simp only [Rel.rp]
          go_wp2_with fail
          exact ⟨Below.refl _ _, rfl⟩
        · refine Rel.Upon.of [4, 5] (by kernel_rfl) ?_
          intro vals z hb hN hd
          simp only [Rel.ra] at hd
          obtain ⟨d4, d5⟩ := hd
          replace d4 : vals 4 = .slice (some ⟨g0, 0, none⟩) 64 cp := d4
          replace d5 : vals 5 = .int .i64 (t : Int) := d5
          simp only [Rel.rp, d4, d5]
          go_wp2_with fail
          exact ⟨Below.refl _ _, rfl⟩
        · refine Rel.Upon.of [6] (by kernel_rfl) ?_
          intro vals z hb hN hd
          simp only [Rel.ra] at hd
          have d6 := hd
          replace d6 : vals 6 = .pointer (some ⟨g0, t, none⟩) := d6
          have cz := (hb.cell (World.block_lt_of_cell? _ _ q3)).trans q3
          simp only [Rel.rp, d6]
          go_wp2_with fail
          exact ⟨Below.refl _ _, rfl⟩
        · refine Rel.Upon.of [7] (by kernel_rfl) ?_
          intro vals z hb hN hd
          simp only [Rel.ra] at hd
          have d7 := hd
          replace d7 : vals 7 = .int .u8 (y.toNat : Int) := d7
          simp only [Rel.rp, d7]
          go_wp2_with fail
          exact ⟨Below.refl _ _, rfl⟩
        · refine Rel.Upon.of [] (by kernel_rfl) ?_
          intro vals z hb hN hd
          simp only [Rel.rp]
          go_wp2_with fail
          exact ⟨Below.refl _ _, rfl⟩
        · refine Rel.Upon.of [] (by kernel_rfl) ?_
          intro vals z hb hN hd
          simp only [Rel.rp]
          go_wp2_with fail
          exact ⟨Below.refl _ _, rfl⟩
        · refine Rel.Upon.of [9, 10] (by kernel_rfl) ?_
          intro vals z hb hN hd
          simp only [Rel.ra] at hd
          obtain ⟨d9, d10⟩ := hd
          replace d9 : vals 9 = .slice (some ⟨g0, 0, none⟩) 64 cp := d9
          replace d10 : vals 10 = .int .i64 (t : Int) := d10
          simp only [Rel.rp, d9, d10]
          go_wp2_with fail
          exact ⟨Below.refl _ _, rfl⟩
        · refine Rel.Upon.of [11] (by kernel_rfl) ?_
          intro vals z hb hN hd
          simp only [Rel.ra] at hd
          have d11 := hd
          replace d11 : vals 11 = .pointer (some ⟨g0, t, none⟩) := d11
          have cz := (hb.cell (World.block_lt_of_cell? _ _ q3)).trans q3
          simp only [Rel.rp, d11]
          go_wp2_with fail
          exact ⟨Below.refl _ _, rfl⟩
        · refine Rel.UponF.of [12] (by kernel_rfl) ?_
          intro vals z hb hN hd
          simp only [Rel.ra] at hd
          have d12 := hd
          replace d12 : vals 12 = .int .u8 (y.toNat : Int) := d12
          simp only [Rel.rp, d12]
          refine ⟨.int .u8 (Go.bits .xor .u8 (y.toNat : Int) 92), .inl ⟨by rfl, fun w' => ?_⟩, rfl⟩
          go_simp
      · intro vals wf hb hN hrel _
        have d0 : vals 0 = .slice (some ⟨g1, 0, none⟩) 64 c1 := hrel 0 (by decide)
        have d1 : vals 1 = .int .i64 (t : Int) := hrel 1 (by decide)
        have d2 : vals 2 = .slice (some ⟨g2, 0, none⟩) 64 c2 := hrel 2 (by decide)
        have d3 : vals 3 = .int .i64 (t : Int) := hrel 3 (by decide)
        have d8 : vals 8 = .int .u8 (Go.bits .xor .u8 (y.toNat : Int) 54) := hrel 8 (by decide)
        have d13 : vals 13 = .int .u8 (Go.bits .xor .u8 (y.toNat : Int) 92) := hrel 13 (by decide)
        have Y1 := Aside0.mk (X1.out.below hb)
        have Y2 := Aside0.mk (X2.out.below hb)
        have Y3 := Aside0.mk (X3.out.below hb)
        have HB2 := Aside0.mk (HB.out.trans (hb.mono HB.out.size))
        have q1 := Y1.out.cell t (by omega)
        have f1 := Y1.out.free t (by omega)
        have q2 := Y2.out.cell t (by omega)
        have f2 := Y2.out.free t (by omega)
        have q4 : (wf.setCell ⟨g1, t, none⟩ (.int .u8 (Go.bits .xor .u8 (y.toNat : Int) 54))).cell? ⟨g2, t, none⟩ = some (.int .u8 ((mixX b 92 t t).toNat : Int)) := by
          rw [World.cell?_setCell_other _ _ _ _ (fun e => n12 (by injection e)), q2]
        simp only [List.drop_succ_cons, List.drop_zero]
        rw [show List.range 14 = [0, 1, 2, 3, 4, 5, 6, 7, 8, 9, 10, 11, 12, 13] from rfl]
        generalize e4 : vals 4 = u4
        generalize e5 : vals 5 = u5
        generalize e6 : vals 6 = u6
        generalize e7 : vals 7 = u7
        generalize e9 : vals 9 = u9
        generalize e10 : vals 10 = u10
        generalize e11 : vals 11 = u11
        generalize e12 : vals 12 = u12
        simp only [Rel.rp, d0, d1, d2, d3, d8, d13, e4, e5, e6, e7, e9, e10, e11, e12]
        clear hrel hb hN X1 X2 X3 HB
        go_wp2_with fail
        go_roundg (gk - 1)
        case measure => omega
        case rel =>
          refine ⟨t + 1, by omega, by go_num, ?_, ?_, ?_, ?_⟩
          · exact (S1.out _ Y1.out).other ⟨g2, t, none⟩ (fun e => n12 e.symm) _
          · exact S2.out _ (Y2.out.other ⟨g1, t, none⟩ n12 _)
          · exact (Y3.out.other ⟨g1, t, none⟩ (fun e => n01 e.symm) _).other ⟨g2, t, none⟩ (fun e => n02 e.symm) _
          · exact (HB2.out.setCell (p := ⟨g1, t, none⟩) hw1 _).setCell (p := ⟨g2, t, none⟩) hw2 _
    · obtain rfl : t = 64 := by omega
      have hib : (xorB b 54).size = 64 := by rw [xorB_size, hbz]
      have hob : (xorB b 92).size = 64 := by rw [xorB_size, hbz]
      have him : (xorB b 54 ++ m).size = 64 + m.size := by rw [ByteArray.size_append, hib]
      have hoe : (xorB b 92 ++ sha (xorB b 54 ++ m)).size = 96 := by rw [ByteArray.size_append, hob, sha_size]
      have HS1 := Aside0.mk (HS.out (xorB b 54 ++ m) (by omega))
      have HS2 := Aside0.mk (HS.out (xorB b 92 ++ sha (xorB b 54 ++ m)) (by omega))
      rw [← HD.out] at HS2
      have hes := sha_size (xorB b 54 ++ m)
      have HCV := Aside0.mk (fun (z : World) (g cap : Nat) (c : UInt8) (h : XRow g b c 64 z) => show (convert 65 9 (.slice (some ⟨g, 0, none⟩) 64 cap)).run Tryd.prog z = .ok (.string (xorB b c)) z from by
        have hconv := Lib.run_convert_whole (P := Tryd.prog) z 65 5 9 Tryd.underlying65 Tryd.underlying5 Tryd.underlying9 g 0 (xorB b c) (fun j hj => by
          have hj' : j < b.size := by rw [xorB_size] at hj; exact hj
          rw [Nat.zero_add, h.cell j hj', byte_get' _ j hj, xorB_get b c j hj']
          unfold mixX
          rw [if_pos (by omega)]) cap
        rw [xorB_size, hbz] at hconv
        exact hconv)
      clear h3 h4 h5 hlt ht X3 HS
      go_wp2_with fail
      refine (HM.out _ (HT.out.keep HB.out)).mono ?_
      rintro e w7 ⟨rfl, b7⟩
      have HB7 := Aside0.mk (HB.out.trans (b7.mono HB.out.size))
      have HC1 := Aside0.mk (fun z (h : Below w7.heap.size w7 z) => HCV.out z g1 c1 54 ((X1.out.below b7).below h))
      have HC2 := Aside0.mk (fun z (h : Below w7.heap.size w7 z) => HCV.out z g2 c2 92 ((X2.out.below b7).below h))
      have s1 : ((xorB b 54).size : Int) = 64 := by omega
      have s2 : ((xorB b 92).size : Int) = 64 := by omega
      have s3 : ((sha (xorB b 54 ++ m)).size : Int) = 32 := by omega
      have s4 : (d.size : Int) = 32 := by omega
      clear b7 HB HM HCV X1 X2 HD hes hib hob him
      generalize hA1 : xorB b 92 ++ sha (xorB b 54 ++ m) = oe at *
      generalize hA2 : sha (xorB b 54 ++ m) = e1 at *
      generalize hA3 : xorB b 54 ++ m = im at *
      generalize xorB b 92 = ob at *
      generalize xorB b 54 = ib at *
      go_wp2_with fail
      refine Rel.region_rel [] (fun _ => .cells #[] 0 (0, 0)) (fun j v _ => v = v16 d ob ib m im e1 oe g1 g2 c1 c2 j) 16 [] (by kernel_rfl) (by kernel_rfl) (by decide) (fun i hi => by cases hi) (fun _ _ _ _ h _ => h) (fun i hi => by cases hi) ?_ ?_
      · simp only [List.take_succ_cons, List.take_zero]
        refine ⟨?_, ?_, ?_, ?_, ?_, ?_, ?_, ?_, ?_, ?_, ?_, ?_, ?_, ?_, ?_, ?_, trivial⟩
        · refine Rel.Upon.of [] (by kernel_rfl) ?_
          intro vals z hb hN hd
          simp only [Rel.rp]
          go_wp2_with fail
          exact ⟨Below.refl _ _, rfl⟩
        · refine Rel.Upon.of [] (by kernel_rfl) ?_
          intro vals z hb hN hd
          simp only [Rel.rp]
          go_wp2_with fail
          exact ⟨Below.refl _ _, rfl⟩
        · refine Rel.Upon.of [1] (by kernel_rfl) ?_
          intro vals z hb hN hd
          simp only [Rel.ra] at hd
          have d1 := hd
          replace d1 : vals 1 = .slice (some ⟨g2, 0, none⟩) 64 c2 := d1
          have cz := HC2.out _ hb
          simp only [Rel.rp, d1]
          go_wp2_with fail
          exact ⟨Below.refl _ _, rfl⟩
        · refine Rel.Upon.of [] (by kernel_rfl) ?_
          intro vals z hb hN hd
          simp only [Rel.rp]
          go_wp2_with fail
          exact ⟨Below.refl _ _, rfl⟩
        · refine Rel.Upon.of [3] (by kernel_rfl) ?_
          intro vals z hb hN hd
          simp only [Rel.ra] at hd
          have d3 := hd
          replace d3 : vals 3 = .slice (some ⟨g1, 0, none⟩) 64 c1 := d3
          have cz := HC1.out _ hb
          simp only [Rel.rp, d3]
          go_wp2_with fail
          exact ⟨Below.refl _ _, rfl⟩
        · refine Rel.Upon.of [] (by kernel_rfl) ?_
          intro vals z hb hN hd
          simp only [Rel.rp]
          go_wp2_with fail
          exact ⟨Below.refl _ _, rfl⟩
        · refine Rel.Upon.of [4, 5] (by kernel_rfl) ?_
          intro vals z hb hN hd
          simp only [Rel.ra] at hd
          obtain ⟨d4, d5⟩ := hd
          replace d4 : vals 4 = .string ib := d4
          replace d5 : vals 5 = .string m := d5
          simp only [Rel.rp, d4, d5]
          go_wp2_with fail
          exact ⟨Below.refl _ _, rfl⟩
        · refine Rel.Upon.of [6] (by kernel_rfl) ?_
          intro vals z hb hN hd
          simp only [Rel.ra] at hd
          have d6 := hd
          replace d6 : vals 6 = .string im := d6
          simp only [Rel.rp, d6]
          go_wp2_with fail
          refine (HS1.out _ (HT.out.keep (HB7.out.trans (hb.mono HB7.out.size)))).mono ?_
          rintro e z1 ⟨rfl, hbz⟩
          go_wp2_with fail
          rfl
        · refine Rel.Upon.of [2, 7] (by kernel_rfl) ?_
          intro vals z hb hN hd
          simp only [Rel.ra] at hd
          obtain ⟨d2, d7⟩ := hd
          replace d2 : vals 2 = .string ob := d2
          replace d7 : vals 7 = .string e1 := d7
          simp only [Rel.rp, d2, d7]
          go_wp2_with fail
          exact ⟨Below.refl _ _, rfl⟩
        · refine Rel.Upon.of [8] (by kernel_rfl) ?_
          intro vals z hb hN hd
          simp only [Rel.ra] at hd
          have d8 := hd
          replace d8 : vals 8 = .string oe := d8
          simp only [Rel.rp, d8]
          go_wp2_with fail
          refine (HS2.out _ (HT.out.keep (HB7.out.trans (hb.mono HB7.out.size)))).mono ?_
          rintro e z1 ⟨rfl, hbz⟩
          go_wp2_with fail
          rfl
        · refine Rel.Upon.of [0, 9] (by kernel_rfl) ?_
          intro vals z hb hN hd
          simp only [Rel.ra] at hd
          obtain ⟨d0, d9⟩ := hd
          replace d0 : vals 0 = .string d := d0
          replace d9 : vals 9 = .string d := d9
          simp only [Rel.rp, d0, d9]
          go_wp2_with fail
          exact ⟨Below.refl _ _, rfl⟩
        · refine Rel.Upon.of [10] (by kernel_rfl) ?_
          intro vals z hb hN hd
          simp only [Rel.ra] at hd
          have d10 := hd
          replace d10 : vals 10 = .bool false := d10
          simp only [Rel.rp, d10]
          go_wp2_with fail
          exact ⟨Below.refl _ _, rfl⟩
        · refine Rel.Upon.of [11] (by kernel_rfl) ?_
          intro vals z hb hN hd
          simp only [Rel.ra] at hd
          have d11 := hd
          replace d11 : vals 11 = .bool false := d11
          simp only [Rel.rp, d11]
          go_wp2_with fail
          exact ⟨Below.refl _ _, rfl⟩
        · refine Rel.Upon.of [11, 12] (by kernel_rfl) ?_
          intro vals z hb hN hd
          simp only [Rel.ra] at hd
          obtain ⟨d11, d12⟩ := hd
          replace d11 : vals 11 = .bool false := d11
          replace d12 : vals 12 = .string d := d12
          simp only [Rel.rp, d11, d12]
          go_wp2_with fail
          exact ⟨Below.refl _ _, rfl⟩
        · refine Rel.Upon.of [11, 13] (by kernel_rfl) ?_
          intro vals z hb hN hd
          simp only [Rel.ra] at hd
          obtain ⟨d11, d13⟩ := hd
          replace d11 : vals 11 = .bool false := d11
          replace d13 : vals 13 = .int .i64 32 := d13
          simp only [Rel.rp, d11, d13]
          go_wp2_with fail
          exact ⟨Below.refl _ _, rfl⟩
        · refine Rel.Upon.of [11, 14] (by kernel_rfl) ?_
          intro vals z hb hN hd
          simp only [Rel.ra] at hd
          obtain ⟨d11, d14⟩ := hd
          replace d11 : vals 11 = .bool false := d11
          replace d14 : vals 14 = .bool false := d14
          simp only [Rel.rp, d11, d14]
          go_wp2_with fail
          exact ⟨Below.refl _ _, rfl⟩
      · intro vals wf hb hN hrel _
        have dl : vals 15 = .bool false := hrel 15 (by decide)
        have HB := Aside0.mk (HB7.out.trans (hb.mono HB7.out.size))
        simp only [List.drop_succ_cons, List.drop_zero]
        rw [show List.range 16 = [0, 1, 2, 3, 4, 5, 6, 7, 8, 9, 10, 11, 12, 13, 14, 15] from rfl]
        generalize q0 : vals 0 = u0
        generalize q1 : vals 1 = u1
        generalize q2 : vals 2 = u2
        generalize q3 : vals 3 = u3
        generalize q4 : vals 4 = u4
        generalize q5 : vals 5 = u5
        generalize q6 : vals 6 = u6
        generalize q7 : vals 7 = u7
        generalize q8 : vals 8 = u8
        generalize q9 : vals 9 = u9
        generalize q10 : vals 10 = u10
        generalize q11 : vals 11 = u11
        generalize q12 : vals 12 = u12
        generalize q13 : vals 13 = u13
        generalize q14 : vals 14 = u14
        simp only [Rel.rp, dl, q0, q1, q2, q3, q4, q5, q6, q7, q8, q9, q10, q11, q12, q13, q14]
        clear hrel hb hN
        go_wp2_with fail
        go_loopg [13, 14] 8 (fun k nv v wr => ∃ t : Nat, t + k = 8 ∧ nv = .int .u64 (num8 (d.data.toList.take t) : Nat) ∧ v = .int .i64 (t : Int) ∧ Below w.heap.size w wr)
        case atStart => exact ⟨0, rfl, rfl, rfl, HB.out⟩
        case round =>
          clear HB
          obtain ⟨t, ht, rfl, rfl, hB⟩ := hrel
          have HB := Aside0.mk hB
          clear hB
          by_cases hlt : t < 8
          · have h1' : t < d.data.toList.length := by rw [data_size]; omega
            have HSn := Aside0.mk (show num8 (d.data.toList.take (t + 1)) = num8 (d.data.toList.take t) * 256 + (d.data.toList.getD t 0).toNat by
              rw [List.take_succ_eq_append_getElem h1', num8_snoc, List.getD_eq_getElem?_getD, List.getElem?_eq_getElem h1']; rfl)
            have hq := num8_lt (d.data.toList.take t)
            have hq2 : 256 ^ (d.data.toList.take t).length ≤ 256 ^ 7 := Nat.pow_le_pow_right (by decide) (by rw [List.length_take]; omega)
            have e7 : (256 : Nat) ^ 7 = 72057594037927936 := by decide
            have hn2 : num8 (d.data.toList.take t) < 72057594037927936 := by omega
            have hb2 := (d.data.toList.getD t 0).toNat_lt
            have HBG := Aside0.mk (fun h => byte_get' d t h)
            generalize num8 (d.data.toList.take t) = x at *
            generalize d.data.toList.getD t 0 = y at *
            clear hq hq2 e7 h1'
            have l1 : (t : Int) < 8 := by omega
            have l2 : (t : Int) < d.size := by omega
            have l3 : t < d.size := by omega
            go_wp2_with fail
            go_roundg (gk - 1)
            case measure => omega
            case rel =>
              refine ⟨t + 1, by omega, ?_, by go_num, HB.out⟩
              rw [HSn.out, HBG.out l3, wrapU (n := (y.toNat : Int)) (by omega) (by omega), wrapU (by omega) (by omega)]
              congr 1
          · obtain rfl : t = 8 := by omega
            clear hlt ht
            have hmx : min (max n 0) 32 = max 0 (min n 32) := by omega
            rw [hmx] at HF
            generalize hq : max 0 (min n 32) = q at *
            have p0 : 0 ≤ q := by omega
            have p1 : q ≤ 32 := by omega
            have p2 : q ≤ d.size := by omega
            clear hq hmx hn
            generalize hf : d.extract 0 q.toNat = f at *
            generalize num8 (List.take 8 d.data.toList) = N at *
            go_wp2_with fail
            refine Rel.region_rel [] (fun _ => .cells #[] 0 (0, 0)) (fun j v _ => v = v15 key m f d n q N j) 15 [] (by kernel_rfl) (by kernel_rfl) (by decide) (fun i hi => by cases hi) (fun _ _ _ _ h _ => h) (fun i hi => by cases hi) ?_ ?_
            · simp only [List.take_succ_cons, List.take_zero]
              refine ⟨?_, ?_, ?_, ?_, ?_, ?_, ?_, ?_, ?_, ?_, ?_, ?_, ?_, ?_, ?_, trivial⟩
              · refine Rel.Upon.of [] (by kernel_rfl) ?_
                intro vals z hb hN hd
                simp only [Rel.rp]
                go_wp2_with fail
                exact ⟨Below.refl _ _, rfl⟩
              · refine Rel.Upon.of [] (by kernel_rfl) ?_
                intro vals z hb hN hd
                simp only [Rel.rp]
                go_wp2_with fail
                exact ⟨Below.refl _ _, rfl⟩
              · refine Rel.Upon.of [] (by kernel_rfl) ?_
                intro vals z hb hN hd
                simp only [Rel.rp]
                go_wp2_with fail
                exact ⟨Below.refl _ _, rfl⟩
              · refine Rel.Upon.of [0, 1, 2] (by kernel_rfl) ?_
                intro vals z hb hN hd
                simp only [Rel.ra] at hd
                obtain ⟨d0, d1, d2⟩ := hd
                replace d0 : vals 0 = .string key := d0
                replace d1 : vals 1 = .string m := d1
                replace d2 : vals 2 = .int .i64 n := d2
                simp only [Rel.rp, d0, d1, d2]
                go_wp2_with fail
                refine (HF.out _ (HT.out.keep (HB.out.trans (hb.mono HB.out.size)))).mono ?_
                rintro e z1 ⟨rfl, hbz⟩
                go_wp2_with fail
                rfl
              · refine Rel.Upon.of [] (by kernel_rfl) ?_
                intro vals z hb hN hd
                simp only [Rel.rp]
                go_wp2_with fail
                exact ⟨Below.refl _ _, rfl⟩
              · refine Rel.Upon.of [] (by kernel_rfl) ?_
                intro vals z hb hN hd
                simp only [Rel.rp]
                go_wp2_with fail
                exact ⟨Below.refl _ _, rfl⟩
              · refine Rel.Upon.of [4, 5] (by kernel_rfl) ?_
                intro vals z hb hN hd
                simp only [Rel.ra] at hd
                obtain ⟨d4, d5⟩ := hd
                replace d4 : vals 4 = .string d := d4
                replace d5 : vals 5 = .int .i64 q := d5
                simp only [Rel.rp, d4, d5]
                go_wp2_with fail
                exact ⟨Below.refl _ _, rfl⟩
              · refine Rel.Upon.of [3, 6] (by kernel_rfl) ?_
                intro vals z hb hN hd
                simp only [Rel.ra] at hd
                obtain ⟨d3, d6⟩ := hd
                replace d3 : vals 3 = .string f := d3
                replace d6 : vals 6 = .string f := d6
                simp only [Rel.rp, d3, d6]
                go_wp2_with fail
                exact ⟨Below.refl _ _, rfl⟩
              · refine Rel.Upon.of [7] (by kernel_rfl) ?_
                intro vals z hb hN hd
                simp only [Rel.ra] at hd
                have d7 := hd
                replace d7 : vals 7 = .bool true := d7
                simp only [Rel.rp, d7]
                go_wp2_with fail
                exact ⟨Below.refl _ _, rfl⟩
              · refine Rel.Upon.of [8] (by kernel_rfl) ?_
                intro vals z hb hN hd
                simp only [Rel.ra] at hd
                have d8 := hd
                replace d8 : vals 8 = .bool true := d8
                simp only [Rel.rp, d8]
                go_wp2_with fail
                exact ⟨Below.refl _ _, rfl⟩
              · refine Rel.Upon.of [8] (by kernel_rfl) ?_
                intro vals z hb hN hd
                simp only [Rel.ra] at hd
                have d8 := hd
                replace d8 : vals 8 = .bool true := d8
                simp only [Rel.rp, d8]
                go_wp2_with fail
                exact ⟨Below.refl _ _, rfl⟩
              · refine Rel.Upon.of [8, 9, 10] (by kernel_rfl) ?_
                intro vals z hb hN hd
                simp only [Rel.ra] at hd
                obtain ⟨d8, d9, d10⟩ := hd
                replace d8 : vals 8 = .bool true := d8
                replace d9 : vals 9 = .string key := d9
                replace d10 : vals 10 = .string m := d10
                simp only [Rel.rp, d8, d9, d10]
                go_wp2_with fail
                refine (HN.out _ (HT.out.keep (HB.out.trans (hb.mono HB.out.size)))).mono ?_
                rintro e z1 ⟨rfl, hbz⟩
                go_wp2_with fail
                rfl
              · refine Rel.Upon.of [8] (by kernel_rfl) ?_
                intro vals z hb hN hd
                simp only [Rel.ra] at hd
                have d8 := hd
                replace d8 : vals 8 = .bool true := d8
                simp only [Rel.rp, d8]
                go_wp2_with fail
                exact ⟨Below.refl _ _, rfl⟩
              · refine Rel.Upon.of [8, 11, 12] (by kernel_rfl) ?_
                intro vals z hb hN hd
                simp only [Rel.ra] at hd
                obtain ⟨d8, d11, d12⟩ := hd
                replace d8 : vals 8 = .bool true := d8
                replace d11 : vals 11 = .int .u64 (N : Nat) := d11
                replace d12 : vals 12 = .int .u64 (N : Nat) := d12
                simp only [Rel.rp, d8, d11, d12]
                go_wp2_with fail
                exact ⟨Below.refl _ _, rfl⟩
              · refine Rel.Upon.of [8, 13] (by kernel_rfl) ?_
                intro vals z hb hN hd
                simp only [Rel.ra] at hd
                obtain ⟨d8, d13⟩ := hd
                replace d8 : vals 8 = .bool true := d8
                replace d13 : vals 13 = .bool true := d13
                simp only [Rel.rp, d8, d13]
                go_wp2_with fail
                exact ⟨Below.refl _ _, rfl⟩
            · intro vals wf hb hN hrel _
              have dl : vals 14 = .bool true := hrel 14 (by decide)
              have HB9 := Aside0.mk (HB.out.trans (hb.mono HB.out.size))
              simp only [List.drop_succ_cons, List.drop_zero]
              rw [show List.range 15 = [0, 1, 2, 3, 4, 5, 6, 7, 8, 9, 10, 11, 12, 13, 14] from rfl]
              generalize r0 : vals 0 = u0
              generalize r1 : vals 1 = u1
              generalize r2 : vals 2 = u2
              generalize r3 : vals 3 = u3
              generalize r4 : vals 4 = u4
              generalize r5 : vals 5 = u5
              generalize r6 : vals 6 = u6
              generalize r7 : vals 7 = u7
              generalize r8 : vals 8 = u8
              generalize r9 : vals 9 = u9
              generalize r10 : vals 10 = u10
              generalize r11 : vals 11 = u11
              generalize r12 : vals 12 = u12
              generalize r13 : vals 13 = u13
              simp only [Rel.rp, dl, r0, r1, r2, r3, r4, r5, r6, r7, r8, r9, r10, r11, r12, r13]
              clear hrel hb hN
              go_wp2_with fail
              go_ret
              exact ⟨rfl, HB9.out⟩
end Go.Proofs.YtomninikmcmmcaaDoor.Sha
