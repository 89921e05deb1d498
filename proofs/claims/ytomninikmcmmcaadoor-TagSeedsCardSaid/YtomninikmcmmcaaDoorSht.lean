/- Texts of this session, put together: ShaIt, ShaT, ShaM. -/
import Derived.Test.YtomninikmcmmcaaDoorSk
import Derived.Test.YtomninikmcmmcaaDoorRg
import Derived.Shelf.Abstract
import Derived.Shelf.RegionOpen
import Derived.OwnWalkIn
import Derived.TacticsInMore
import Derived.LoopNIn
import Derived.LoopIn
import Derived.Lib.Builder
import Derived.Test.YtomninikmcmmcaaDoorShelf
import Derived.Test.YtomninikmcmmcaaDoorIdA
import Derived.Laws.NewBlocks
import Derived.Lib.AppendStr
import Derived.Lib.BufferRead
import Derived.Lib.SlBytesRow
section
/- The iterator over a text's blocks: its contract. -/
namespace Go.Proofs.YtomninikmcmmcaaDoor.Sha
open Go Go.RowKit Go.Shelf Go.Proofs.YtomninikmcmmcaaDoor.Rng Go.Proofs.YtomninikmcmmcaaDoorW.PrintWords
set_option linter.unusedVariables false
set_option linter.unusedSimpArgs false
attribute [local go_sem] Oper.semAt_some
def strI (b : ByteArray) (i : Nat) : ByteArray := if i < b.size / 64 then b.extract (64 * i) (64 * i + 64) else b.extract (64 * (b.size / 64)) b.size
def item (b : ByteArray) (i : Nat) : Array Value := #[.string (strI b i), .bool (decide (i < b.size / 64))]
def cellLen (Bc : Nat) (w : World) : Nat := match w.cell? ⟨Bc, 0, none⟩ with | some (.string s) => s.size | _ => 0
theorem cellLen_of {w : World} {B T : Nat} {s : ByteArray} (h : w.heap[B]? = some (.cells #[.string s] T (0, 0))) : cellLen B w = s.size := by
  unfold cellLen
  rw [Lib.cell_of_heap h]
  rfl
theorem cut_first (b : ByteArray) (i : Nat) (h : i < b.size / 64) : item b i = #[.string ((b.extract (64 * i) b.size).extract 0 64), .bool true] := by
  unfold item strI
  rw [if_pos h, decide_eq_true h]
  have e : b.extract (64 * i) (64 * i + 64) = (b.extract (64 * i) b.size).extract 0 64 := by
    apply ext_list
    rw [extract_list, extract_list, extract_list, List.drop_zero, Nat.sub_zero, List.take_take]
    congr 1
    omega
  rw [e]
theorem cut_rest (b : ByteArray) (i : Nat) (h : i < b.size / 64) : (b.extract (64 * i) b.size).extract 64 (b.extract (64 * i) b.size).size = b.extract (64 * (i + 1)) b.size := by
  apply ext_list
  rw [extract_list, extract_list, extract_list, ByteArray.size_extract, List.drop_take, List.drop_drop, List.take_take]
  congr 1
  · omega
theorem cut_last (b : ByteArray) : item b (b.size / 64) = #[.string (b.extract (64 * (b.size / 64)) b.size), .bool false] := by
  unfold item strI
  rw [if_neg (by omega), decide_eq_false (by omega)]
theorem cut_all (b : ByteArray) : b.extract (64 * 0) b.size = b := by
  apply ext_list
  rw [extract_list, Nat.mul_zero, List.drop_zero, Nat.sub_zero, List.take_of_length_le (by rw [data_size]; omega)]
theorem box_cell {w : World} {B : Nat} {v : Value} {T : Nat} (h : w.heap[B]? = some (.cells #[v] T (0, 0))) : w.cell? ⟨B, 0, none⟩ = some v := by rw [Lib.cell_of_heap h]; rfl
theorem box_free {w : World} {B : Nat} {v : Value} {T : Nat} (h : w.heap[B]? = some (.cells #[v] T (0, 0))) : w.frozen? ⟨B, 0, none⟩ = false := Lib.frozen_of_heap h 0
theorem box_set {w : World} {B : Nat} {v u : Value} {T : Nat} (h : w.heap[B]? = some (.cells #[v] T (0, 0))) : (w.setCell ⟨B, 0, none⟩ u).heap[B]? = some (.cells #[u] T (0, 0)) := by
  simp [World.setCell, Array.getElem?_modify, h]
set_option maxHeartbeats 2000000 in
set_option maxRecDepth 100000 in
theorem blocks1_seq (F : Fence) (n : Nat) (hF : F.fn 113) (hro : F.round = none) (hn : 1 ≤ n) (Bc : Nat) (b : ByteArray) (hb : b.size ≤ 9223372036854775807) :
    SeqB F n Tryd.prog 113 #[.pointer (some ⟨Bc, 0, none⟩)] Bc (.cells #[.string b] 9 (0, 0)) (item b) (b.size / 64 + 1) := by
  intro l J W hbc hB hY h0
  refine callsIn_of_wp Tryd.func113 rfl hF ?_ hro
  simp only [Tryd.ntmps113, List.size_toArray, List.length_cons, List.length_nil, Nat.reduceAdd, Nat.reduceSub, Array.replicate_succ, Array.replicate_zero, List.push_toArray, List.append_toArray, List.nil_append, List.cons_append]
  gi_wp2
  gi_loopw [] (fun wr => ∃ i : Nat, i ≤ b.size / 64 ∧ wr.heap[Bc]? = some (.cells #[.string (b.extract (64 * i) b.size)] 9 (0, 0)) ∧ J i wr) (fun wr => cellLen Bc wr)
  case atStart => exact ⟨0, Nat.zero_le _, by rw [cut_all]; exact hbc, h0⟩
  case round =>
    obtain ⟨i, hi, hc, hj⟩ := hrel
    have c0 := box_cell hc
    have f0 := box_free hc
    have hcl : (b.extract (64 * i) b.size).size = b.size - 64 * i := by rw [ByteArray.size_extract]; omega
    by_cases hlt : i < b.size / 64
    · obtain ⟨fn, tmps, assign, body, hy, hR⟩ := hY i wr hj (by omega)
      rw [cut_first b i hlt] at hy
      have hrest := cut_rest b i hlt
      generalize b.extract (64 * i) b.size = cur at *
      have hm1 : 64 ≤ cur.size := by omega
      have hm2 : cur.size ≤ 9223372036854775807 := by omega
      have Hcl := Aside0.mk hcl
      have Hr := Aside0.mk hrest
      clear hcl hrest
      gi_wp2
      refine hR.mono ?_
      rintro e W3 ⟨rfl, hJ3, hk3⟩
      have hc3 : W3.heap[Bc]? = some (.cells #[.string cur] 9 (0, 0)) := hk3.trans hc
      have c3 := box_cell hc3
      have f3 := box_free hc3
      gi_wp2
      go_roundw
      case rel => exact ⟨i + 1, by omega, by rw [← Hr.out]; exact box_set hc3, hB.set _ _ _ hJ3⟩
      case measure =>
        have e1 := cellLen_of (box_set (u := .string (cur.extract 64 cur.size)) hc3)
        have e2 := cellLen_of hc
        rw [e1, e2, ByteArray.size_extract]
        omega
    · obtain rfl : i = b.size / 64 := by omega
      obtain ⟨fn, tmps, assign, body, hy, hR⟩ := hY _ wr hj (by omega)
      rw [cut_last b] at hy
      generalize b.extract (64 * (b.size / 64)) b.size = cur at *
      have hm1 : cur.size < 64 := by omega
      clear hcl hlt
      gi_wp2
      refine hR.mono ?_
      rintro e W3 ⟨rfl, hJ3, hk3⟩
      gi_wp2
      go_end0
      exact ⟨⟨_, rfl⟩, hJ3⟩
end Go.Proofs.YtomninikmcmmcaaDoor.Sha
end
section
/- A running digest in memory, and what takes makes of it. -/
namespace Go.Proofs.YtomninikmcmmcaaDoor.Sha
open Go Go.RowKit Go.Shelf Go.Proofs.YtomninikmcmmcaaDoor.Rng Go.Proofs.YtomninikmcmmcaaDoorW.PrintWords Go.Proofs.Sp Go.Proofs.YtomninikmcmmcaaDoor.Blk Go.Proofs.YtomninikmcmmcaaDoor.GivA
set_option linter.unusedVariables false
set_option linter.unusedSimpArgs false
attribute [local go_sem] Oper.semAt_some
theorem results_none {fn : Func} (h : fn.results = #[]) (tmps : Array Value) (P : Program) (w : World) : (results fn tmps).run P w = .ok (.tuple #[]) w := by
  unfold results
  rw [h]
  simp
/-- All but block g, and what is new, is as it was. -/
structure Touch (g : Nat) (w w' : World) : Prop where
  os : w'.os = w.os
  tape : w'.tape = w.tape
  output : w'.output = w.output
  size : w.heap.size ≤ w'.heap.size
  keep : ∀ k, k < w.heap.size → k ≠ g → w'.heap[k]? = w.heap[k]?
theorem Touch.refl (g : Nat) (w : World) : Touch g w w := ⟨rfl, rfl, rfl, Nat.le_refl _, fun _ _ _ => rfl⟩
theorem Touch.trans {g : Nat} {a b c : World} (h : Touch g a b) (k : Touch g b c) : Touch g a c :=
  ⟨k.os.trans h.os, k.tape.trans h.tape, k.output.trans h.output, Nat.le_trans h.size k.size, fun i hi hg => (k.keep i (Nat.lt_of_lt_of_le hi h.size) hg).trans (h.keep i hi hg)⟩
theorem Touch.of_below {w w' : World} (h : Below w.heap.size w w') (g : Nat) : Touch g w w' := ⟨h.os, h.tape, h.output, h.size, fun k hk _ => h.block k hk⟩
theorem Touch.below {g N : Nat} {v w w' : World} (h : Touch g w w') (hb : Below N v w) (hN : N ≤ g) (hs : N ≤ w.heap.size) : Below N v w' :=
  hb.trans ⟨h.os, h.tape, h.output, h.size, fun k hk => h.keep k (by omega) (by omega)⟩
theorem Touch.set {g : Nat} {w w' : World} (h : Touch g w w') (p : Addr) (hp : p.block = g) (v : Value) : Touch g w (w'.setCell p v) :=
  ⟨h.os, h.tape, h.output, by simpa [World.setCell] using h.size, fun k hk hg => (Below.heap_setCell _ _ _ _ (by rw [hp]; exact hg)).trans (h.keep k hk hg)⟩
theorem Touch.setNew {g : Nat} {w w' : World} (h : Touch g w w') (p : Addr) (hp : w.heap.size ≤ p.block) (v : Value) : Touch g w (w'.setCell p v) :=
  ⟨h.os, h.tape, h.output, by simpa [World.setCell] using h.size, fun k hk hg => (Below.heap_setCell _ _ _ _ (by omega)).trans (h.keep k hk hg)⟩
theorem Touch.alloc {g : Nat} {w w' : World} (h : Touch g w w') (o : Obj) : Touch g w (w'.alloc o) :=
  h.trans (Touch.of_below ((Below.refl _ _).alloc (Nat.le_refl _) o) g)
theorem Touch.drew {g : Nat} {w w' : World} (h : Touch g w w') : Touch g w w'.drew := ⟨h.os, h.tape, h.output, h.size, h.keep⟩
theorem Touch.put {g : Nat} {w w' : World} (h : Touch g w w') (r : Nat) (o : Obj) (hr : w.heap.size ≤ r) : Touch g w (w'.putObj r o) :=
  ⟨h.os, h.tape, h.output, by simpa using h.size, fun k hk hg => (World.putObj_heap_other (by omega)).trans (h.keep k hk hg)⟩
theorem Touch.blk {g B : Nat} {w w' : World} {o : Obj} (h : Touch g w w') (hb : w.heap[B]? = some o) (hg : B ≠ g) : w'.heap[B]? = some o :=
  (h.keep B (Array.getElem?_eq_some_iff.1 hb).1 hg).trans hb
/-- The cells of a running digest. -/
def shaC (s : St) (r : ByteArray) (n : Nat) : Array Value := #[.bool true, .int .u32 (wd s.a), .int .u32 (wd s.b), .int .u32 (wd s.c), .int .u32 (wd s.d), .int .u32 (wd s.e), .int .u32 (wd s.f), .int .u32 (wd s.g), .int .u32 (wd s.h), .string r, .int .u64 (n : Int)]
def ShaC (p : Nat) (s : St) (r : ByteArray) (n : Nat) (w : World) : Prop := w.heap[p]? = some (.cells (shaC s r n) 98 (0, 0))
def ShaAt (p : Nat) (m : ByteArray) (w : World) : Prop := ShaC p (sT m) (rT m) m.size w
theorem blk_cell' {W : World} {B T : Nat} {cs : Array Value} (h : W.heap[B]? = some (.cells cs T (0, 0))) : ∀ j, W.cell? ⟨B, j, none⟩ = cs[j]? := fun j => blk_cell h j
theorem tab_touch {p : Nat} {s : St} {r : ByteArray} {n : Nat} {w w' : World} (hT : Tab w) (h : ShaC p s r n w) (ht : Touch p w w') : Tab w' := fun k hk => by
  have hc := hT k hk
  have hlt := World.block_lt_of_cell? w _ hc
  have hne : 3 ≠ p := by
    intro e
    have h0 := hT 0 (by decide)
    rw [e, blk_cell h] at h0
    simp [shaC] at h0
  rw [World.cell?_of_block (w := w) (w' := w') (a := ⟨3, k, none⟩) (ht.keep _ hlt hne)]
  exact hc
set_option maxHeartbeats 2000000 in
set_option maxRecDepth 100000 in
theorem blocks_calls (b : ByteArray) (w : World) : Calls Tryd.prog 102 #[.string b] w fun e w' => e = .returned (.func (.func 113) #[] #[.pointer (some ⟨w.heap.size, 0, none⟩)]) ∧ w.alloc (.cells #[.string b] 9) = w' := by
  go_enter Tryd.func102, Tryd.ntmps102
  go_wp2
  go_ret
  exact ⟨rfl, rfl⟩
theorem clone_calls (s : ByteArray) (h : s.size ≤ 281474976710656) (w : World) : Calls Tryd.prog 104 #[.string s] w fun e w' => e = .returned (.string s) ∧ Below w.heap.size w w' := by
  go_enter Tryd.func104, Tryd.ntmps104
  go_wp2_with (go_at_call 116; refine (Tryd.stringslite_Clone s _ h).mono ?_; rintro e w' ⟨rfl, hb⟩)
  go_ret
  exact ⟨rfl, hb⟩
theorem next_ext (s : St) (b : ByteArray) (h64 : b.size = 64) (w : World) (hT : Tab w) :
    Calls Tryd.prog 103 #[.agg #[.int .u32 (wd s.a), .int .u32 (wd s.b), .int .u32 (wd s.c), .int .u32 (wd s.d), .int .u32 (wd s.e), .int .u32 (wd s.f), .int .u32 (wd s.g), .int .u32 (wd s.h)], .string b] w
      fun e w' => e = .returned (.tuple #[.agg #[.int .u32 (wd (next s b.data.toList).a), .int .u32 (wd (next s b.data.toList).b), .int .u32 (wd (next s b.data.toList).c), .int .u32 (wd (next s b.data.toList).d), .int .u32 (wd (next s b.data.toList).e), .int .u32 (wd (next s b.data.toList).f), .int .u32 (wd (next s b.data.toList).g), .int .u32 (wd (next s b.data.toList).h)], .int .i64 0]) ∧ Below w.heap.size w w' :=
  next_calls s b h64 w hT
theorem shaC_cells {p : Nat} {s : St} {r : ByteArray} {n : Nat} {w : World} (h : ShaC p s r n w) : ∀ j, w.cell? ⟨p, j, none⟩ = #[Value.bool true, .int .u32 (wd s.a), .int .u32 (wd s.b), .int .u32 (wd s.c), .int .u32 (wd s.d), .int .u32 (wd s.e), .int .u32 (wd s.f), .int .u32 (wd s.g), .int .u32 (wd s.h), .string r, .int .u64 (n : Int)][j]? := blk_cell' h
def put8S (W : World) (p : Nat) (s : St) : World := ((((((((W.setCell ⟨p, 1, none⟩ (.int .u32 (wd s.a))).setCell ⟨p, 2, none⟩ (.int .u32 (wd s.b))).setCell ⟨p, 3, none⟩ (.int .u32 (wd s.c))).setCell ⟨p, 4, none⟩ (.int .u32 (wd s.d))).setCell ⟨p, 5, none⟩ (.int .u32 (wd s.e))).setCell ⟨p, 6, none⟩ (.int .u32 (wd s.f))).setCell ⟨p, 7, none⟩ (.int .u32 (wd s.g))).setCell ⟨p, 8, none⟩ (.int .u32 (wd s.h)))
theorem put8S_sha {p : Nat} {s s2 : St} {r : ByteArray} {n : Nat} {w : World} (h : w.heap[p]? = some (.cells (shaC s r n) 98 (0, 0))) : ShaC p s2 r n (put8S w p s2) := by
  have h0 : w.heap[p]? = some (.cells #[.bool true, .int .u32 (wd s.a), .int .u32 (wd s.b), .int .u32 (wd s.c), .int .u32 (wd s.d), .int .u32 (wd s.e), .int .u32 (wd s.f), .int .u32 (wd s.g), .int .u32 (wd s.h), .string r, .int .u64 (n : Int)] 98 (0, 0)) := h
  have h1 : (w.setCell ⟨p, 1, none⟩ (.int .u32 (wd s2.a))).heap[p]? = some (.cells #[.bool true, .int .u32 (wd s2.a), .int .u32 (wd s.b), .int .u32 (wd s.c), .int .u32 (wd s.d), .int .u32 (wd s.e), .int .u32 (wd s.f), .int .u32 (wd s.g), .int .u32 (wd s.h), .string r, .int .u64 (n : Int)] 98 (0, 0)) := blk_put h0 1 _ rfl
  have h2 : ((w.setCell ⟨p, 1, none⟩ (.int .u32 (wd s2.a))).setCell ⟨p, 2, none⟩ (.int .u32 (wd s2.b))).heap[p]? = some (.cells #[.bool true, .int .u32 (wd s2.a), .int .u32 (wd s2.b), .int .u32 (wd s.c), .int .u32 (wd s.d), .int .u32 (wd s.e), .int .u32 (wd s.f), .int .u32 (wd s.g), .int .u32 (wd s.h), .string r, .int .u64 (n : Int)] 98 (0, 0)) := blk_put h1 2 _ rfl
  have h3 : (((w.setCell ⟨p, 1, none⟩ (.int .u32 (wd s2.a))).setCell ⟨p, 2, none⟩ (.int .u32 (wd s2.b))).setCell ⟨p, 3, none⟩ (.int .u32 (wd s2.c))).heap[p]? = some (.cells #[.bool true, .int .u32 (wd s2.a), .int .u32 (wd s2.b), .int .u32 (wd s2.c), .int .u32 (wd s.d), .int .u32 (wd s.e), .int .u32 (wd s.f), .int .u32 (wd s.g), .int .u32 (wd s.h), .string r, .int .u64 (n : Int)] 98 (0, 0)) := blk_put h2 3 _ rfl
  have h4 : ((((w.setCell ⟨p, 1, none⟩ (.int .u32 (wd s2.a))).setCell ⟨p, 2, none⟩ (.int .u32 (wd s2.b))).setCell ⟨p, 3, none⟩ (.int .u32 (wd s2.c))).setCell ⟨p, 4, none⟩ (.int .u32 (wd s2.d))).heap[p]? = some (.cells #[.bool true, .int .u32 (wd s2.a), .int .u32 (wd s2.b), .int .u32 (wd s2.c), .int .u32 (wd s2.d), .int .u32 (wd s.e), .int .u32 (wd s.f), .int .u32 (wd s.g), .int .u32 (wd s.h), .string r, .int .u64 (n : Int)] 98 (0, 0)) := blk_put h3 4 _ rfl
  have h5 : (((((w.setCell ⟨p, 1, none⟩ (.int .u32 (wd s2.a))).setCell ⟨p, 2, none⟩ (.int .u32 (wd s2.b))).setCell ⟨p, 3, none⟩ (.int .u32 (wd s2.c))).setCell ⟨p, 4, none⟩ (.int .u32 (wd s2.d))).setCell ⟨p, 5, none⟩ (.int .u32 (wd s2.e))).heap[p]? = some (.cells #[.bool true, .int .u32 (wd s2.a), .int .u32 (wd s2.b), .int .u32 (wd s2.c), .int .u32 (wd s2.d), .int .u32 (wd s2.e), .int .u32 (wd s.f), .int .u32 (wd s.g), .int .u32 (wd s.h), .string r, .int .u64 (n : Int)] 98 (0, 0)) := blk_put h4 5 _ rfl
  have h6 : ((((((w.setCell ⟨p, 1, none⟩ (.int .u32 (wd s2.a))).setCell ⟨p, 2, none⟩ (.int .u32 (wd s2.b))).setCell ⟨p, 3, none⟩ (.int .u32 (wd s2.c))).setCell ⟨p, 4, none⟩ (.int .u32 (wd s2.d))).setCell ⟨p, 5, none⟩ (.int .u32 (wd s2.e))).setCell ⟨p, 6, none⟩ (.int .u32 (wd s2.f))).heap[p]? = some (.cells #[.bool true, .int .u32 (wd s2.a), .int .u32 (wd s2.b), .int .u32 (wd s2.c), .int .u32 (wd s2.d), .int .u32 (wd s2.e), .int .u32 (wd s2.f), .int .u32 (wd s.g), .int .u32 (wd s.h), .string r, .int .u64 (n : Int)] 98 (0, 0)) := blk_put h5 6 _ rfl
  have h7 : (((((((w.setCell ⟨p, 1, none⟩ (.int .u32 (wd s2.a))).setCell ⟨p, 2, none⟩ (.int .u32 (wd s2.b))).setCell ⟨p, 3, none⟩ (.int .u32 (wd s2.c))).setCell ⟨p, 4, none⟩ (.int .u32 (wd s2.d))).setCell ⟨p, 5, none⟩ (.int .u32 (wd s2.e))).setCell ⟨p, 6, none⟩ (.int .u32 (wd s2.f))).setCell ⟨p, 7, none⟩ (.int .u32 (wd s2.g))).heap[p]? = some (.cells #[.bool true, .int .u32 (wd s2.a), .int .u32 (wd s2.b), .int .u32 (wd s2.c), .int .u32 (wd s2.d), .int .u32 (wd s2.e), .int .u32 (wd s2.f), .int .u32 (wd s2.g), .int .u32 (wd s.h), .string r, .int .u64 (n : Int)] 98 (0, 0)) := blk_put h6 7 _ rfl
  have h8 : ((((((((w.setCell ⟨p, 1, none⟩ (.int .u32 (wd s2.a))).setCell ⟨p, 2, none⟩ (.int .u32 (wd s2.b))).setCell ⟨p, 3, none⟩ (.int .u32 (wd s2.c))).setCell ⟨p, 4, none⟩ (.int .u32 (wd s2.d))).setCell ⟨p, 5, none⟩ (.int .u32 (wd s2.e))).setCell ⟨p, 6, none⟩ (.int .u32 (wd s2.f))).setCell ⟨p, 7, none⟩ (.int .u32 (wd s2.g))).setCell ⟨p, 8, none⟩ (.int .u32 (wd s2.h))).heap[p]? = some (.cells #[.bool true, .int .u32 (wd s2.a), .int .u32 (wd s2.b), .int .u32 (wd s2.c), .int .u32 (wd s2.d), .int .u32 (wd s2.e), .int .u32 (wd s2.f), .int .u32 (wd s2.g), .int .u32 (wd s2.h), .string r, .int .u64 (n : Int)] 98 (0, 0)) := blk_put h7 8 _ rfl
  exact h8
theorem put8S_touch {p : Nat} {v w : World} (s : St) (h : Touch p v w) : Touch p v (put8S w p s) :=
  (((((((h.set ⟨p, 1, none⟩ rfl _).set ⟨p, 2, none⟩ rfl _).set ⟨p, 3, none⟩ rfl _).set ⟨p, 4, none⟩ rfl _).set ⟨p, 5, none⟩ rfl _).set ⟨p, 6, none⟩ rfl _).set ⟨p, 7, none⟩ rfl _).set ⟨p, 8, none⟩ rfl _
theorem put8S_keeps (w : World) (p : Nat) (s : St) (B : Nat) : KeepsFrom B w (put8S w p s) :=
  ((((((((KeepsOthers.setCell w ⟨p, 1, none⟩ _).trans (KeepsOthers.setCell _ ⟨p, 2, none⟩ _)).trans (KeepsOthers.setCell _ ⟨p, 3, none⟩ _)).trans (KeepsOthers.setCell _ ⟨p, 4, none⟩ _)).trans (KeepsOthers.setCell _ ⟨p, 5, none⟩ _)).trans (KeepsOthers.setCell _ ⟨p, 6, none⟩ _)).trans (KeepsOthers.setCell _ ⟨p, 7, none⟩ _)).trans (KeepsOthers.setCell _ ⟨p, 8, none⟩ _)).from B
theorem put8S_other (w : World) (p : Nat) (s : St) {k : Nat} (h : k ≠ p) : (put8S w p s).heap[k]? = w.heap[k]? := by
  unfold put8S
  rw [Below.heap_setCell _ _ _ _ h, Below.heap_setCell _ _ _ _ h, Below.heap_setCell _ _ _ _ h, Below.heap_setCell _ _ _ _ h, Below.heap_setCell _ _ _ _ h, Below.heap_setCell _ _ _ _ h, Below.heap_setCell _ _ _ _ h, Below.heap_setCell _ _ _ _ h]
theorem keepsFrom_below {w w' : World} (B : Nat) (h : Below w.heap.size w w') : KeepsFrom B w w' := ⟨h.size, fun k o _ hk _ => (h.block k (Array.getElem?_eq_some_iff.1 hk).1).trans hk⟩
theorem postB_mk {B Bc i : Nat} {I : Nat → World → Prop} {W W' : World} {a : Act} (h1 : KeepsFrom B W W') (h2 : W'.heap[Bc]? = W.heap[Bc]?) (h3 : I i W') : postB B Bc I i W .normal a W' := ⟨h1, h2, h3⟩
def v7 (p : Nat) (s s2 : St) (xs : ByteArray) : Nat → Value
  | 0 => .pointer (some ⟨p, 0, none⟩)
  | 1 => .pointer (some ⟨p, 0, none⟩)
  | 2 => .pointer (some ⟨p, 0, none⟩)
  | 3 => .pointer (some ⟨p, 1, none⟩)
  | 4 => .agg #[.int .u32 (wd s.a), .int .u32 (wd s.b), .int .u32 (wd s.c), .int .u32 (wd s.d), .int .u32 (wd s.e), .int .u32 (wd s.f), .int .u32 (wd s.g), .int .u32 (wd s.h)]
  | 5 => .string xs
  | 6 => .tuple #[.agg #[.int .u32 (wd s2.a), .int .u32 (wd s2.b), .int .u32 (wd s2.c), .int .u32 (wd s2.d), .int .u32 (wd s2.e), .int .u32 (wd s2.f), .int .u32 (wd s2.g), .int .u32 (wd s2.h)], .int .i64 0]
  | 7 => .tuple #[.agg #[.int .u32 (wd s2.a), .int .u32 (wd s2.b), .int .u32 (wd s2.c), .int .u32 (wd s2.d), .int .u32 (wd s2.e), .int .u32 (wd s2.f), .int .u32 (wd s2.g), .int .u32 (wd s2.h)], .int .i64 0]
  | 8 => .agg #[.int .u32 (wd s2.a), .int .u32 (wd s2.b), .int .u32 (wd s2.c), .int .u32 (wd s2.d), .int .u32 (wd s2.e), .int .u32 (wd s2.f), .int .u32 (wd s2.g), .int .u32 (wd s2.h)]
  | 9 => .int .i64 0
  | 10 => .pointer (some ⟨p, 0, none⟩)
  | 11 => .pointer (some ⟨p, 1, none⟩)
  | _ => undef
/-- The state behind i rounds of the loop over the blocks, and the rest. -/
def stI (m b : ByteArray) (i : Nat) : St := eat (sT m) b.data.toList (min i (b.size / 64))
def rI (m b : ByteArray) (i : Nat) : ByteArray := if i = 0 then rT m else if i ≤ b.size / 64 then ByteArray.empty else b.extract (64 * (b.size / 64)) b.size
/-- Between two rounds. -/
def Mid (p bx : Nat) (m b : ByteArray) (n : Nat) (w : World) (i : Nat) (W : World) : Prop := ShaC p (stI m b i) (rI m b i) n W ∧ W.heap[bx]? = some (.cells #[.pointer (some ⟨p, 0, none⟩)] 23 (0, 0)) ∧ Touch p w W ∧ bx + 1 < W.heap.size
theorem Mid.bears {p bx Bc B n : Nat} {m b : ByteArray} {w : World} (hp : p < w.heap.size) (hx : w.heap.size ≤ bx) (hc : bx < Bc) (hB : Bc < B) : BearsFrom B Bc (Mid p bx m b n w) where
  set := fun i W v h => ⟨(Below.heap_setCell _ _ _ _ (by simp; omega)).trans h.1, (Below.heap_setCell _ _ _ _ (by simp; omega)).trans h.2.1, h.2.2.1.setNew _ (by simp; omega) _, by simpa [World.setCell] using h.2.2.2⟩
  drew := fun i W h => ⟨h.1, h.2.1, h.2.2.1.drew, h.2.2.2⟩
  put := fun i W r o o' h hr _ _ => ⟨(World.putObj_heap_other (by omega)).trans h.1, (World.putObj_heap_other (by omega)).trans h.2.1, h.2.2.1.put _ _ (by omega), by simpa using h.2.2.2⟩
  alloc := fun i W o h _ => ⟨blk_alloc h.1 _, blk_alloc h.2.1 _, h.2.2.1.alloc _, by have := h.2.2.2; simp; omega⟩
set_option maxHeartbeats 4000000 in
set_option maxRecDepth 100000 in
theorem takes_calls (p : Nat) (m t : ByteArray) (w : World) (hT : Tab w) (h : ShaAt p m w) (hs : m.size + t.size ≤ 1099511627776) :
    Calls Tryd.prog 81 #[.pointer (some ⟨p, 0, none⟩), .string t] w fun e w' => e = .returned (.tuple #[]) ∧ ShaAt p (m ++ t) w' ∧ Touch p w w' := by
  refine (callsIn_wide (n := 5)).1 ?_
  refine callsIn_of_wp_marks Tryd.func81 rfl trivial ?_ rfl
  simp only [Tryd.ntmps81, List.size_toArray, List.length_cons, List.length_nil, Nat.reduceAdd, Nat.reduceSub, Array.replicate_succ, Array.replicate_zero, List.push_toArray, List.append_toArray, List.nil_append, List.cons_append]
  have hlt : p < w.heap.size := (Array.getElem?_eq_some_iff.1 h).1
  have hr := rT_lt m
  have hw : ((m.size : Int) + (t.size : Int)) % 18446744073709551616 = ((m.size + t.size : Nat) : Int) := by omega
  have hbs : (rT m ++ t).size ≤ 9223372036854775807 := by rw [ByteArray.size_append]; omega
  have c9 : w.cell? ⟨p, 9, none⟩ = some (.string (rT m)) := blk_cell' h 9
  have c10 : w.cell? ⟨p, 10, none⟩ = some (.int .u64 (m.size : Int)) := blk_cell' h 10
  have f10 := blk_frozen h 10
  gi_wp2_with (refine ⟨trivial, ?_⟩; gi_at_call 102; refine (callsIn_wide.2 (blocks_calls _ _)).mono ?_; rintro e w' ⟨rfl, rfl⟩)
  have hsz : (((w.setCell ⟨p, 10, none⟩ (.int .u64 ((m.size : Int) + (t.size : Int)))).alloc (.cells #[.pointer (some ⟨p, 0, none⟩)] 23)).alloc (.cells #[.string (rT m ++ t)] 9)).heap.size = w.heap.size + 2 := by simp [World.setCell]
  have b0 : ShaC p (sT m) (rT m) (m.size + t.size) (w.setCell ⟨p, 10, none⟩ (.int .u64 ((m.size : Int) + (t.size : Int)))) := by
    have h1 : w.heap[p]? = some (.cells (shaC (sT m) (rT m) m.size) 98 (0, 0)) := h
    exact blk_put h1 10 _ rfl
  have hbc : (((w.setCell ⟨p, 10, none⟩ (.int .u64 ((m.size : Int) + (t.size : Int)))).alloc (.cells #[.pointer (some ⟨p, 0, none⟩)] 23)).alloc (.cells #[.string (rT m ++ t)] 9)).heap[w.heap.size + 1]? = some (.cells #[.string (rT m ++ t)] 9 (0, 0)) := by
    have := blk_new ((w.setCell ⟨p, 10, none⟩ (.int .u64 ((m.size : Int) + (t.size : Int)))).alloc (.cells #[.pointer (some ⟨p, 0, none⟩)] 23)) (.cells #[.string (rT m ++ t)] 9)
    rw [World.size_alloc] at this
    simpa [World.setCell] using this
  have hbx : (((w.setCell ⟨p, 10, none⟩ (.int .u64 ((m.size : Int) + (t.size : Int)))).alloc (.cells #[.pointer (some ⟨p, 0, none⟩)] 23)).alloc (.cells #[.string (rT m ++ t)] 9)).heap[w.heap.size]? = some (.cells #[.pointer (some ⟨p, 0, none⟩)] 23 (0, 0)) := by
    refine blk_alloc ?_ _
    have := blk_new (w.setCell ⟨p, 10, none⟩ (.int .u64 ((m.size : Int) + (t.size : Int)))) (.cells #[.pointer (some ⟨p, 0, none⟩)] 23)
    simpa [World.setCell] using this
  have h0 : Mid p w.heap.size m (rT m ++ t) (m.size + t.size) w 0 (((w.setCell ⟨p, 10, none⟩ (.int .u64 ((m.size : Int) + (t.size : Int)))).alloc (.cells #[.pointer (some ⟨p, 0, none⟩)] 23)).alloc (.cells #[.string (rT m ++ t)] 9)) :=
    ⟨blk_alloc (blk_alloc b0 _) _, hbx, (((Touch.refl p w).set _ rfl _).alloc _).alloc _, by rw [hsz]; omega⟩
  generalize ((w.setCell ⟨p, 10, none⟩ (.int .u64 ((m.size : Int) + (t.size : Int)))).alloc (.cells #[.pointer (some ⟨p, 0, none⟩)] 23)).alloc (.cells #[.string (rT m ++ t)] 9) = W0 at *
  refine wpIn_rangeFunc_B (gf := 113) (lb := #[.pointer (some ⟨w.heap.size + 1, 0, none⟩)]) rfl (by decide) rfl trivial (enters_of Tryd.func113 (by kernel_rfl) rfl)
    (blocks1_seq Fence.wide _ trivial rfl (by decide) (w.heap.size + 1) (rT m ++ t) hbs) hbc (fun _ => rfl)
    (Mid p w.heap.size m (rT m ++ t) (m.size + t.size) w) (Mid.bears hlt (Nat.le_refl _) (by omega) (by omega)) h0
    (fun i => { tmps := #[.pointer (some ⟨p, 0, none⟩), .string t, .pointer (some ⟨w.heap.size, 0, none⟩), undef, .string (strI (rT m ++ t) i), .bool (decide (i < (rT m ++ t).size / 64)),
      .pointer (some ⟨p, 0, none⟩), .pointer (some ⟨p, 0, none⟩), .pointer (some ⟨p, 10, none⟩), .int .u64 (m.size : Int), .string t, .int .i64 (t.size : Int), .int .u64 (t.size : Int), .int .u64 ((m.size : Int) + (t.size : Int)),
      .pointer (some ⟨p, 0, none⟩), .pointer (some ⟨p, 10, none⟩), .pointer (some ⟨p, 0, none⟩), .pointer (some ⟨p, 0, none⟩), .pointer (some ⟨p, 9, none⟩), .string (rT m), .string t, .string (rT m ++ t),
      .func (.func 113) #[] #[.pointer (some ⟨w.heap.size + 1, 0, none⟩)], .string (strI (rT m ++ t) i), .bool (decide (i < (rT m ++ t).size / 64)), undef, undef, undef, undef, undef, undef, undef, undef, undef, undef, undef, undef, undef, undef, undef, undef, undef, undef, undef, undef, undef], defers := [] }) ?assign ?body ?done
  case assign =>
    intro l i W K hK
    unfold item
    revert hK
    generalize strI (rT m ++ t) i = x1
    generalize decide (i < (rT m ++ t).size / 64) = x2
    intro hK
    gi_wp2
    exact hK
  case body =>
    rintro l i W ⟨hs1, hs2, hs3, hWs⟩ hi
    have hT' := tab_touch hT h hs3
    have ne1 : w.heap.size ≠ p := by omega
    have ne2 : w.heap.size + 1 ≠ p := by omega
    by_cases hlt2 : i < (rT m ++ t).size / 64
    · rw [decide_eq_true hlt2]
      have hx64 : (strI (rT m ++ t) i).size = 64 := by unfold strI; rw [if_pos hlt2, ByteArray.size_extract]; omega
      have hst : next (stI m (rT m ++ t) i) (strI (rT m ++ t) i).data.toList = stI m (rT m ++ t) (i + 1) := by
        unfold stI strI
        rw [Nat.min_eq_left (by omega), Nat.min_eq_left (by omega), if_pos hlt2, eat, extract_list]
        congr 2
        omega
      have hsr : rI m (rT m ++ t) (i + 1) = ByteArray.empty := by unfold rI; rw [if_neg (by omega), if_pos (by omega)]
      have HST := Aside0.mk hst
      have HSR := Aside0.mk hsr
      clear hst hsr
      generalize stI m (rT m ++ t) i = s at *
      generalize rI m (rT m ++ t) i = r at *
      generalize strI (rT m ++ t) i = xs at *
      have cb := box_cell hs2
      have f9 := blk_frozen hs1 9
      have c9 : W.cell? ⟨p, 9, none⟩ = some (.string r) := blk_cell' hs1 9
      have hm : Tryd.prog.follows .mixedOrders = true := by kernel_rfl
      gi_wp2_with fail
      have g1 : ShaC p s ByteArray.empty (m.size + t.size) (W.setCell ⟨p, 9, none⟩ (.string ⟨#[]⟩)) := blk_put hs1 9 _ rfl
      have g2 : (W.setCell ⟨p, 9, none⟩ (.string ⟨#[]⟩)).heap[w.heap.size]? = some (.cells #[.pointer (some ⟨p, 0, none⟩)] 23 (0, 0)) := (Below.heap_setCell _ _ _ _ ne1).trans hs2
      have g3 := hs3.set ⟨p, 9, none⟩ rfl (.string ⟨#[]⟩)
      have g4 := tab_touch hT h g3
      have g5 : KeepsFrom W0.heap.size W (W.setCell ⟨p, 9, none⟩ (.string ⟨#[]⟩)) := (KeepsOthers.setCell _ _ _).from _
      have g6 : (W.setCell ⟨p, 9, none⟩ (.string ⟨#[]⟩)).heap[w.heap.size + 1]? = W.heap[w.heap.size + 1]? := Below.heap_setCell _ _ _ _ (by simp; omega)
      have HN := Aside0.mk (fun W hT => next_ext s xs hx64 W hT)
      rw [HST.out] at HN
      generalize W.setCell ⟨p, 9, none⟩ (.string ⟨#[]⟩) = W5 at *
      have G1 := Aside0.mk g1
      have G2 := Aside0.mk g2
      have G4 := Aside0.mk g4
      have G3 := Aside0.mk (And.intro g3 (And.intro g5 g6))
      have H0 := Aside0.mk (And.intro hT h)
      generalize hs2e : stI m (rT m ++ t) (i + 1) = s2 at *
      have HS2 := Aside0.mk hs2e
      clear hs2e
      clear g1 g2 g3 g4 g5 g6 hs1 hs2 hs3 cb f9 c9 hT' c10 f10 b0 hbc hbx h0 hT h hw hbs hr hx64 HST
      refine region_rel_in [] (fun _ => .cells #[] 0 (0, 0)) (fun i v _ => v = v7 p s s2 xs i) 12 [9] hm (by kernel_rfl) (by rintro ⟨_, _, h⟩; exact h) (by kernel_rfl) (by decide) (fun _ _ _ _ _ _ h => h) (fun _ _ _ _ h _ => h) (fun i hi => by cases hi) ?_ ?_
      · simp only [List.take_succ_cons, List.take_zero]
        refine ⟨?_, ?_, ?_, ?_, ?_, ?_, ?_, ?_, ?_, ?_, ?_, ?_, trivial⟩
        · refine Rel.Upon.of [] (by kernel_rfl) ?_
          intro vals z hb hN hd
          have cz := box_cell (blk_below G2.out hb)
          simp only [Rel.rp]
          go_wp2_with fail
          exact ⟨Below.refl _ _, rfl⟩
        · refine Rel.Upon.of [] (by kernel_rfl) ?_
          intro vals z hb hN hd
          have cz := box_cell (blk_below G2.out hb)
          simp only [Rel.rp]
          go_wp2_with fail
          exact ⟨Below.refl _ _, rfl⟩
        · refine Rel.Upon.of [1] (by kernel_rfl) ?_
          intro vals z hb hN hd
          simp only [Rel.ra] at hd
          have d1 := hd
          replace d1 : vals 1 = .pointer (some ⟨p, 0, none⟩) := d1
          simp only [Rel.rp, d1]
          go_wp2_with fail
          exact ⟨Below.refl _ _, rfl⟩
        · refine Rel.Upon.of [2] (by kernel_rfl) ?_
          intro vals z hb hN hd
          simp only [Rel.ra] at hd
          have d2 := hd
          replace d2 : vals 2 = .pointer (some ⟨p, 0, none⟩) := d2
          simp only [Rel.rp, d2]
          go_wp2_with fail
          exact ⟨Below.refl _ _, rfl⟩
        · refine Rel.Upon.of [3] (by kernel_rfl) ?_
          intro vals z hb hN hd
          simp only [Rel.ra] at hd
          have d3 := hd
          replace d3 : vals 3 = .pointer (some ⟨p, 1, none⟩) := d3
          have hz := shaC_cells (show ShaC p s ByteArray.empty (m.size + t.size) z from blk_below G1.out hb)
          simp only [Rel.rp, d3]
          go_wp2_with fail
          exact ⟨Below.refl _ _, rfl⟩
        · refine Rel.Upon.of [] (by kernel_rfl) ?_
          intro vals z hb hN hd
          simp only [Rel.rp]
          go_wp2_with fail
          exact ⟨Below.refl _ _, rfl⟩
        · refine Rel.Upon.of [4, 5] (by kernel_rfl) ?_
          intro vals z hb hN hd
          simp only [Rel.ra] at hd
          obtain ⟨d4, d5⟩ := hd
          replace d4 : vals 4 = .agg #[.int .u32 (wd s.a), .int .u32 (wd s.b), .int .u32 (wd s.c), .int .u32 (wd s.d), .int .u32 (wd s.e), .int .u32 (wd s.f), .int .u32 (wd s.g), .int .u32 (wd s.h)] := d4
          replace d5 : vals 5 = .string xs := d5
          simp only [Rel.rp, d4, d5]
          go_wp2_with fail
          refine (HN.out z (G4.out.keep hb)).mono ?_
          rintro e z2 ⟨rfl, hb2⟩
          go_wp2_with fail
          first | exact ⟨hb2, rfl⟩ | rfl
        · refine Rel.Upon.of [6] (by kernel_rfl) ?_
          intro vals z hb hN hd
          simp only [Rel.ra] at hd
          have d6 := hd
          replace d6 : vals 6 = .tuple #[.agg #[.int .u32 (wd s2.a), .int .u32 (wd s2.b), .int .u32 (wd s2.c), .int .u32 (wd s2.d), .int .u32 (wd s2.e), .int .u32 (wd s2.f), .int .u32 (wd s2.g), .int .u32 (wd s2.h)], .int .i64 0] := d6
          simp only [Rel.rp, d6]
          go_wp2_with fail
          exact ⟨Below.refl _ _, rfl⟩
        · refine Rel.Upon.of [7] (by kernel_rfl) ?_
          intro vals z hb hN hd
          simp only [Rel.ra] at hd
          have d7 := hd
          replace d7 : vals 7 = .tuple #[.agg #[.int .u32 (wd s2.a), .int .u32 (wd s2.b), .int .u32 (wd s2.c), .int .u32 (wd s2.d), .int .u32 (wd s2.e), .int .u32 (wd s2.f), .int .u32 (wd s2.g), .int .u32 (wd s2.h)], .int .i64 0] := d7
          simp only [Rel.rp, d7]
          go_wp2_with fail
          exact ⟨Below.refl _ _, rfl⟩
        · refine Rel.UponF.of [7] (by kernel_rfl) ?_
          intro vals z hb hN hd
          simp only [Rel.ra] at hd
          have d7 := hd
          replace d7 : vals 7 = .tuple #[.agg #[.int .u32 (wd s2.a), .int .u32 (wd s2.b), .int .u32 (wd s2.c), .int .u32 (wd s2.d), .int .u32 (wd s2.e), .int .u32 (wd s2.f), .int .u32 (wd s2.g), .int .u32 (wd s2.h)], .int .i64 0] := d7
          simp only [Rel.rp, d7]
          refine ⟨.int .i64 0, .inl ⟨by rfl, fun w' => ?_⟩, rfl⟩
          go_simp
        · refine Rel.Upon.of [0] (by kernel_rfl) ?_
          intro vals z hb hN hd
          simp only [Rel.ra] at hd
          have d0 := hd
          replace d0 : vals 0 = .pointer (some ⟨p, 0, none⟩) := d0
          simp only [Rel.rp, d0]
          go_wp2_with fail
          exact ⟨Below.refl _ _, rfl⟩
        · refine Rel.Upon.of [10] (by kernel_rfl) ?_
          intro vals z hb hN hd
          simp only [Rel.ra] at hd
          have d10 := hd
          replace d10 : vals 10 = .pointer (some ⟨p, 0, none⟩) := d10
          simp only [Rel.rp, d10]
          go_wp2_with fail
          exact ⟨Below.refl _ _, rfl⟩
      · intro vals w6 hb6 hN hrel _
        have d0 : vals 0 = .pointer (some ⟨p, 0, none⟩) := hrel 0 (by decide)
        have d8 : vals 8 = .agg #[.int .u32 (wd s2.a), .int .u32 (wd s2.b), .int .u32 (wd s2.c), .int .u32 (wd s2.d), .int .u32 (wd s2.e), .int .u32 (wd s2.f), .int .u32 (wd s2.g), .int .u32 (wd s2.h)] := hrel 8 (by decide)
        have d11 : vals 11 = .pointer (some ⟨p, 1, none⟩) := hrel 11 (by decide)
        simp only [List.drop_succ_cons, List.drop_zero]
        rw [show List.range 12 = [0, 1, 2, 3, 4, 5, 6, 7, 8, 9, 10, 11] from rfl]
        generalize e1 : vals 1 = u1
        generalize e2 : vals 2 = u2
        generalize e3 : vals 3 = u3
        generalize e4 : vals 4 = u4
        generalize e5 : vals 5 = u5
        generalize e6 : vals 6 = u6
        generalize e7 : vals 7 = u7
        generalize e9 : vals 9 = u9
        generalize e10 : vals 10 = u10
        simp only [Rel.rp, d0, d8, d11, e1, e2, e3, e4, e5, e6, e7, e9, e10]
        have k1 := blk_below G1.out hb6
        have k2 := blk_below G2.out hb6
        have f6 := fun j => blk_frozen k1 j
        have hc6 := shaC_cells k1
        clear hrel
        go_wp2_with fail
        have q0 := keepsFrom_below W0.heap.size hb6
        have q1 : Touch p W5 w6 := Touch.of_below hb6 p
        refine postB_mk (a := _) (W' := put8S w6 p s2) ((G3.out.2.1.trans q0).trans (put8S_keeps w6 p s2 _)) ?_ ⟨?_, ?_, ?_⟩
        · exact (put8S_other w6 p s2 (k := w.heap.size + 1) ne2).trans ((hb6.block (w.heap.size + 1) (Nat.lt_of_lt_of_le hWs G3.out.2.1.size)).trans G3.out.2.2)
        · show ShaC p (stI m (rT m ++ t) (i + 1)) (rI m (rT m ++ t) (i + 1)) (m.size + t.size) _
          rw [HSR.out, HS2.out]
          exact put8S_sha k1
        · exact (put8S_other w6 p s2 (k := w.heap.size) ne1).trans k2
        · exact ⟨put8S_touch s2 (G3.out.1.trans q1), Nat.lt_of_lt_of_le hWs (Nat.le_trans G3.out.2.1.size (Nat.le_trans hb6.size (put8S_keeps w6 p s2 0).size))⟩
    · rw [decide_eq_false hlt2]
      have hxl : (strI (rT m ++ t) i).size < 64 := by unfold strI; rw [if_neg hlt2, ByteArray.size_extract]; omega
      have hst : stI m (rT m ++ t) (i + 1) = stI m (rT m ++ t) i := by
        unfold stI
        rw [Nat.min_eq_right (by omega), Nat.min_eq_right (by omega)]
      have hsr : rI m (rT m ++ t) (i + 1) = strI (rT m ++ t) i := by unfold rI strI; rw [if_neg (by omega), if_neg (by omega), if_neg hlt2]
      have HST := Aside0.mk hst
      have HSR := Aside0.mk hsr
      clear hst hsr
      generalize stI m (rT m ++ t) i = s at *
      generalize rI m (rT m ++ t) i = r at *
      generalize strI (rT m ++ t) i = xs at *
      have cb := box_cell hs2
      have f9 := blk_frozen hs1 9
      have c9 : W.cell? ⟨p, 9, none⟩ = some (.string r) := blk_cell' hs1 9
      have hm : Tryd.prog.follows .mixedOrders = true := by kernel_rfl
      gi_wp2_with fail
      have g1 : ShaC p s ByteArray.empty (m.size + t.size) (W.setCell ⟨p, 9, none⟩ (.string ⟨#[]⟩)) := blk_put hs1 9 _ rfl
      have g2 : (W.setCell ⟨p, 9, none⟩ (.string ⟨#[]⟩)).heap[w.heap.size]? = some (.cells #[.pointer (some ⟨p, 0, none⟩)] 23 (0, 0)) := (Below.heap_setCell _ _ _ _ ne1).trans hs2
      have g3 := hs3.set ⟨p, 9, none⟩ rfl (.string ⟨#[]⟩)
      have g5 : KeepsFrom W0.heap.size W (W.setCell ⟨p, 9, none⟩ (.string ⟨#[]⟩)) := (KeepsOthers.setCell _ _ _).from _
      have g6 : (W.setCell ⟨p, 9, none⟩ (.string ⟨#[]⟩)).heap[w.heap.size + 1]? = W.heap[w.heap.size + 1]? := Below.heap_setCell _ _ _ _ (by simp; omega)
      have HN := Aside0.mk (fun W => clone_calls xs (by omega) W)
      generalize W.setCell ⟨p, 9, none⟩ (.string ⟨#[]⟩) = W5 at *
      have G1 := Aside0.mk g1
      have G2 := Aside0.mk g2
      have G3 := Aside0.mk (And.intro g3 (And.intro g5 g6))
      have cb5 := box_cell g2
      clear g1 g2 g3 g5 g6 hs1 hs2 hs3 cb f9 c9 hT' c10 f10 b0 hbc hbx h0 hT h hw hbs hr
      have cb7 : W5.drew.cell? ⟨w.heap.size, 0, none⟩ = some (.pointer (some ⟨p, 0, none⟩)) := cb5
      have G1d := Aside0.mk (show W5.drew.heap[p]? = some (.cells (shaC s ByteArray.empty (m.size + t.size)) 98 (0, 0)) from G1.out)
      have G2d := Aside0.mk (show W5.drew.heap[w.heap.size]? = some (.cells #[.pointer (some ⟨p, 0, none⟩)] 23 (0, 0)) from G2.out)
      have HN5 := Aside0.mk (HN.out W5.drew)
      gi_region_with_o (refine ⟨trivial, ?_⟩; gi_at_call 104; refine (CallsIn.inRound l (callsIn_wide.2 HN5.out)).mono ?_; rintro e w6 ⟨rfl, hb6⟩; have k1 := blk_below G1d.out hb6; have k2 := blk_below G2d.out hb6; have cb6 := box_cell k2; have f6 := blk_frozen k1 9; have c6 : w6.cell? ⟨p, 9, none⟩ = some (.string ByteArray.empty) := blk_cell' k1 9)
      all_goals
        have q0 := keepsFrom_below W0.heap.size hb6
        have q1 : Touch p W5 w6 := ⟨hb6.os, hb6.tape, hb6.output, hb6.size, fun k hk _ => hb6.block k hk⟩
        dsimp only [Exit.inBlock]
        refine (show ∀ a, postB W0.heap.size (w.heap.size + 1) (Mid p w.heap.size m (rT m ++ t) (m.size + t.size) w) (i + 1) W .normal a (w6.setCell ⟨p, 9, none⟩ (.string xs)) from fun a => postB_mk ((G3.out.2.1.trans (⟨q0.size, fun k o h1 h2 h3 => q0.same k o h1 h2 h3⟩ : KeepsFrom W0.heap.size W5 w6)).trans ((KeepsOthers.setCell _ _ _).from _)) ?_ ⟨?_, ?_, ?_⟩) _
        · exact (Below.heap_setCell w6 ⟨p, 9, none⟩ (.string xs) (w.heap.size + 1) ne2).trans ((hb6.block (w.heap.size + 1) (Nat.lt_of_lt_of_le hWs G3.out.2.1.size)).trans G3.out.2.2)
        · show ShaC p (stI m (rT m ++ t) (i + 1)) (rI m (rT m ++ t) (i + 1)) (m.size + t.size) _
          rw [HSR.out, HST.out]
          exact blk_put k1 9 _ rfl
        · exact (Below.heap_setCell _ _ _ _ ne1).trans k2
        · exact ⟨(G3.out.1.trans q1).set _ rfl _, Nat.lt_of_lt_of_le hWs (Nat.le_trans G3.out.2.1.size (Nat.le_trans hb6.size ((KeepsOthers.setCell w6 ⟨p, 9, none⟩ (.string xs)).from 0).size))⟩
  case done =>
    rintro D W hD ⟨hs1, hs2, hs3, _⟩ hK
    gi_wp2
    refine ⟨by simp, .inl ⟨_, _, rfl, run_takeDeferred hK, ?_⟩⟩
    refine ⟨_, results_none rfl _ _ _, rfl, ?_, hs3.put _ _ (by omega)⟩
    have e1 : stI m (rT m ++ t) ((rT m ++ t).size / 64 + 1) = sT (m ++ t) := by
      rw [sT_append]; unfold stI; rw [Nat.min_eq_right (by omega)]
    have e2 : rI m (rT m ++ t) ((rT m ++ t).size / 64 + 1) = rT (m ++ t) := by
      rw [rT_append]; unfold rI; rw [if_neg (by omega), if_neg (by omega)]
    rw [e1, e2] at hs1
    unfold ShaAt
    rw [ByteArray.size_append]
    exact (World.putObj_heap_other (by omega)).trans hs1
end Go.Proofs.YtomninikmcmmcaaDoor.Sha
end
section
/- The running digest's methods, and the digest of a text: contracts. -/
namespace Go.Proofs.YtomninikmcmmcaaDoor.Sha
open Go Go.RowKit Go.Shelf Go.Proofs.YtomninikmcmmcaaDoor.Rng Go.Proofs.YtomninikmcmmcaaDoorW.PrintWords Go.Proofs.Sp Go.Proofs.YtomninikmcmmcaaDoor.Blk Go.Proofs.YtomninikmcmmcaaDoor.GivA Go.Proofs.YtomninikmcmmcaaDoor.PBw
set_option linter.unusedVariables false
set_option linter.unusedSimpArgs false
theorem first_calls (w : World) : Calls Tryd.prog 90 #[] w fun e w' => e = .returned (stv st0) ∧ Below w.heap.size w w' :=
  block_First.calls _ _ _ _ _ _ _ _ w rfl
set_option maxHeartbeats 2000000 in
set_option maxRecDepth 100000 in
theorem new_calls (w : World) : Calls Tryd.prog 75 #[] w fun e w' => ∃ p, e = .returned (.pointer (some ⟨p, 0, none⟩)) ∧ w.heap.size ≤ p ∧ ShaAt p ByteArray.empty w' ∧ Below w.heap.size w w' := by
  have HF := Aside0.mk (fun w => first_calls w)
  unfold stv at HF
  generalize hs : st0 = s0 at HF
  have HS := Aside0.mk hs
  clear hs
  go_enter Tryd.func75, Tryd.ntmps75
  go_wp2_with (go_at_call 90; refine (HF.out _).mono ?_; rintro e w1 ⟨rfl, hb1⟩)
  go_ret
  refine ⟨w1.heap.size, rfl, hb1.size, ?_, hb1.trans (((Below.refl _ _).alloc (Nat.le_refl _) _).mono hb1.size)⟩
  unfold ShaAt
  rw [sT_empty, HS.out]
  exact blk_new _ _
theorem none_calls (p : Nat) (m : ByteArray) (w : World) (h : ShaAt p m w) : Calls Tryd.prog 83 #[.pointer (some ⟨p, 0, none⟩)] w fun e w' => e = .returned (.bool false) ∧ w = w' := by
  have c0 : w.cell? ⟨p, 0, none⟩ = some (.bool true) := blk_cell' h 0
  clear h
  go_enter Tryd.func83, Tryd.ntmps83
  go_wp2
  go_ret
  exact ⟨rfl, rfl⟩
theorem len_calls (p : Nat) (m : ByteArray) (w : World) (h : ShaAt p m w) : Calls Tryd.prog 61 #[.pointer (some ⟨p, 0, none⟩)] w fun e w' => e = .returned (.int .u64 (m.size : Int)) ∧ w = w' := by
  have c10 : w.cell? ⟨p, 10, none⟩ = some (.int .u64 (m.size : Int)) := blk_cell' h 10
  have HN := Aside0.mk (none_calls p m w h)
  clear h
  go_enter Tryd.func61, Tryd.ntmps61
  go_wp2_with (go_at_call 83; refine HN.out.mono ?_; rintro e w1 ⟨rfl, rfl⟩)
  go_ret
  exact ⟨rfl, rfl⟩
set_option maxHeartbeats 2000000 in
theorem write_calls (p : Nat) (m t : ByteArray) (w : World) (hT : Tab w) (h : ShaAt p m w) (hs : m.size + t.size ≤ 4294967296) :
    Calls Tryd.prog 62 #[.pointer (some ⟨p, 0, none⟩), .string t] w fun e w' => e = .returned (.int .i64 0) ∧ ShaAt p (m ++ t) w' ∧ Touch p w w' := by
  have c10 : w.cell? ⟨p, 10, none⟩ = some (.int .u64 (m.size : Int)) := blk_cell' h 10
  have HN := Aside0.mk (none_calls p m w h)
  have HT := Aside0.mk (takes_calls p m t w hT h (by omega))
  clear h
  go_enter Tryd.func62, Tryd.ntmps62
  go_wp2_with (first | (go_at_call 83; refine HN.out.mono ?_; rintro e w1 ⟨rfl, rfl⟩) | (go_at_call 81; refine HT.out.mono ?_; rintro e w1 ⟨rfl, h1, h2⟩))
  go_ret
  exact ⟨rfl, h1, h2⟩
set_option maxHeartbeats 2000000 in
set_option maxRecDepth 100000 in
theorem copy_calls (p : Nat) (m : ByteArray) (w : World) (h : ShaAt p m w) : Calls Tryd.prog 63 #[.pointer (some ⟨p, 0, none⟩)] w fun e w' => e = .returned (.pointer (some ⟨w.heap.size, 0, none⟩)) ∧ ShaAt w.heap.size m w' ∧ Below w.heap.size w w' := by
  have hc := shaC_cells h
  clear h
  unfold ShaAt
  generalize sT m = s at *
  go_enter Tryd.func63, Tryd.ntmps63
  go_wp2
  go_ret
  exact ⟨rfl, blk_new _ _, (Below.refl _ _).alloc (Nat.le_refl _) _⟩
theorem byteCells_snoc (l : List UInt8) (c : UInt8) : Lib.byteCells l ++ [.int .u8 (c.toNat : Int)] = Lib.byteCells (l ++ [c]) := by simp [Lib.byteCells]
theorem byteCells_length (l : List UInt8) : (Lib.byteCells l).length = l.length := by simp [Lib.byteCells]
def padZ (n : Nat) : Nat := (119 - n % 64) % 64
def padA (j : Nat) : List UInt8 := 128 :: List.replicate j 0
theorem padA_succ (j : Nat) : padA j ++ [0] = padA (j + 1) := by
  unfold padA
  rw [List.cons_append, ← List.replicate_succ']
theorem padA_length (j : Nat) : (padA j).length = j + 1 := by simp [padA]
def padB (n i : Nat) : List UInt8 := padA (padZ n) ++ (be8L (n * 8)).take i
theorem be8L_length (n : Nat) : (be8L n).length = 8 := by simp [be8L]
theorem padB_succ (n i : Nat) (h : i < 8) : padB n i ++ [UInt8.ofNat (n * 8 / 2 ^ (56 - 8 * i) % 256)] = padB n (i + 1) := by
  unfold padB
  rw [List.append_assoc, List.take_succ_eq_append_getElem (by rw [be8L_length]; exact h)]
  simp [be8L]
theorem padB_length (n i : Nat) (h : i ≤ 8) : (padB n i).length = padZ n + 1 + i := by
  unfold padB
  rw [List.length_append, padA_length, List.length_take, be8L_length, Nat.min_eq_left h]
theorem padB_end (n : Nat) (h : n < 1152921504606846976) : padB n 8 = padL n := by
  unfold padB padL padA
  rw [List.take_of_length_le (by rw [be8L_length]; exact Nat.le_refl _), show n * 8 % 18446744073709551616 = n * 8 by omega]
  rfl
theorem byte_u8 (x : Nat) : ((UInt8.ofNat (x % 256)).toNat : Int) = ((x % 256 : Nat) : Int) := by rw [UInt8.toNat_ofNat']; omega
theorem pad_byte (n i : Nat) : ((UInt8.ofNat (n * 8 / 2 ^ (56 - 8 * i) % 256)).toNat : Int) = (n : Int) * 8 / 2 ^ (56 - 8 * i) % 256 := by
  rw [byte_u8]
  simp only [Int.natCast_emod, Int.natCast_ediv, Int.natCast_mul, Int.natCast_pow]
  rfl
set_option maxHeartbeats 2000000 in
set_option maxRecDepth 100000 in
theorem padding_calls (n : Nat) (hn : n < 1152921504606846976) (w : World) : Calls Tryd.prog 84 #[.int .u64 (n : Int)] w fun e w' => e = .returned (.string (pad n)) ∧ Below w.heap.size w w' := by
  have hz : (119 - (n : Int) % 64) % 64 = ((padZ n : Nat) : Int) := by unfold padZ; omega
  have hz2 : padZ n < 64 := by unfold padZ; omega
  have hf := Lib.IsBuilderF.of (Lib.fresh_isBuilder 121 5 w)
  have HE := Aside0.mk (padB_end n hn)
  have HP := Aside0.mk (show pad n = ⟨(padL n).toArray⟩ from rfl)
  have hb0 : Below w.heap.size w (w.alloc (.cells #[.pointer none, .slice none 0 0] 121)) := (Below.refl _ _).alloc (Nat.le_refl _) _
  have HB0 := Aside0.mk hb0
  have HF := Aside0.mk hf
  clear hb0 hf
  generalize pad n = res at *
  go_enter Tryd.func84, Tryd.ntmps84
  go_wp2_with fail
  refine (Tryd.Builder_WriteByte_b _ _ _ _ _ HF.out (by decide) (by simp)).mono ?_
  rintro e w1 ⟨rfl, h1, hb1, _⟩
  have G1 := Aside0.mk (show Lib.IsBuilderF 121 5 w.heap.size w.heap.size (Lib.byteCells (padA 0)) w1 from .inr h1)
  have B1 := Aside0.mk (HB0.out.trans hb1)
  clear h1 hb1
  go_wp2_with fail
  go_loopg [] (padZ n) (fun k wr => ∃ j : Nat, j + k = padZ n ∧ Lib.IsBuilderF 121 5 w.heap.size w.heap.size (Lib.byteCells (padA j)) wr ∧ Below w.heap.size w wr)
  case atStart => exact ⟨0, by omega, G1.out, B1.out⟩
  case round =>
    obtain ⟨j, hj, hI, hB⟩ := hrel
    have HI := Aside0.mk hI
    have HB := Aside0.mk hB
    have hlen := Aside0.mk (show (Lib.byteCells (padA j)).length = j + 1 by rw [byteCells_length, padA_length])
    clear hI hB
    by_cases hlt : j < padZ n
    · have HL := Aside0.mk (Tryd.Builder_Len_f _ _ _ _ HI.out)
      rw [hlen.out] at HL
      go_wp2_with (go_at_call 99; refine HL.out.mono ?_; rintro e w' ⟨rfl, rfl⟩)
      refine (Tryd.Builder_WriteByte_b _ _ _ _ _ HI.out (by rw [hlen.out]; omega) HB.out.size).mono ?_
      rintro e w2 ⟨rfl, h2, hb2, _⟩
      go_wp2_with fail
      go_roundg (gk - 1)
      case measure => omega
      case rel =>
        refine ⟨j + 1, by omega, .inr ?_, HB.out.trans hb2⟩
        rw [← padA_succ, ← byteCells_snoc]
        exact h2
    · obtain rfl : j = padZ n := by omega
      have HL := Aside0.mk (Tryd.Builder_Len_f _ _ _ _ HI.out)
      rw [hlen.out] at HL
      go_wp2_with (go_at_call 99; refine HL.out.mono ?_; rintro e w' ⟨rfl, rfl⟩)
      rw [hz]
      clear hz
      go_loopg [4] 8 (fun k v wr => ∃ i : Nat, i + k = 8 ∧ v = .int .i64 (56 - 8 * (i : Int)) ∧ Lib.IsBuilderF 121 5 w.heap.size w.heap.size (Lib.byteCells (padB n i)) wr ∧ Below w.heap.size w wr)
      case atStart => exact ⟨0, rfl, rfl, by rw [show padB n 0 = padA (padZ n) by simp [padB]]; exact HI.out, HB.out⟩
      case round =>
        clear HI HB hlen HL
        obtain ⟨i, hi, rfl, hI, hB⟩ := hrel
        have HI := Aside0.mk hI
        have HB := Aside0.mk hB
        have hlen := Aside0.mk (show i ≤ 8 → (Lib.byteCells (padB n i)).length = padZ n + 1 + i from fun h => by rw [byteCells_length, padB_length n i h])
        clear hI hB
        by_cases hlt2 : i < 8
        · go_wp2_with fail
          refine (Tryd.Builder_WriteByte_b _ _ _ _ _ HI.out (by rw [hlen.out (by omega)]; omega) HB.out.size).mono ?_
          rintro e w2 ⟨rfl, h2, hb2, _⟩
          go_wp2_with fail
          go_roundg (gk - 1)
          case measure => omega
          case rel =>
            refine ⟨i + 1, by omega, by go_num, .inr ?_, HB.out.trans hb2⟩
            rw [← padB_succ n i hlt2, ← byteCells_snoc, pad_byte]
            exact h2
        · obtain rfl : i = 8 := by omega
          have HS := Aside0.mk (Tryd.Builder_String_any_k _ _ _ _ HI.out HB.out.size)
          go_wp2_with fail
          refine HS.out.mono ?_
          rintro e w2 ⟨rfl, hb2, hb3, _⟩
          go_wp2_with fail
          go_ret
          refine ⟨?_, HB.out.trans hb3⟩
          rw [HP.out, HE.out]
          rfl
def dgT (s : St) : Nat → List UInt8
  | 0 => []
  | t + 1 => dgT s t ++ b4 (St.at s t)
theorem dgT_end (s : St) : dgT s 8 = dgL s := by simp [dgT, dgL, St.at]
theorem dgT_length (s : St) : ∀ t, (dgT s t).length = 4 * t
  | 0 => rfl
  | t + 1 => by
    have := dgT_length s t
    simp [dgT, b4, this]; omega
theorem index_st (s : St) (w : World) : ∀ (t : Nat) (ht : t < 8), (Instr.index 96 (.agg #[.int .u32 (wd s.a), .int .u32 (wd s.b), .int .u32 (wd s.c), .int .u32 (wd s.d), .int .u32 (wd s.e), .int .u32 (wd s.f), .int .u32 (wd s.g), .int .u32 (wd s.h)]) (.int .i64 (t : Int))).run Tryd.prog w = .ok (.int .u32 (wd (St.at s t))) w
  | 0, _ => by unfold Instr.index; go_simp; rfl
  | 1, _ => by unfold Instr.index; go_simp; rfl
  | 2, _ => by unfold Instr.index; go_simp; rfl
  | 3, _ => by unfold Instr.index; go_simp; rfl
  | 4, _ => by unfold Instr.index; go_simp; rfl
  | 5, _ => by unfold Instr.index; go_simp; rfl
  | 6, _ => by unfold Instr.index; go_simp; rfl
  | 7, _ => by unfold Instr.index; go_simp; rfl
theorem b4_cells (x : W32) : Lib.byteCells (b4 x) = [.int .u8 (wd x / 16777216), .int .u8 (wd x / 65536 % 256), .int .u8 (wd x / 256 % 256), .int .u8 (wd x % 256)] := by
  have hx := x.isLt
  unfold b4 Lib.byteCells wd
  simp only [List.map_cons, List.map_nil, UInt8.toNat_ofNat']
  have e1 : (((x.toNat / 16777216) % 2 ^ 8 : Nat) : Int) = (x.toNat : Int) / 16777216 := by omega
  have e2 : (((x.toNat / 65536 % 256) % 2 ^ 8 : Nat) : Int) = (x.toNat : Int) / 65536 % 256 := by omega
  have e3 : (((x.toNat / 256 % 256) % 2 ^ 8 : Nat) : Int) = (x.toNat : Int) / 256 % 256 := by omega
  have e4 : (((x.toNat % 256) % 2 ^ 8 : Nat) : Int) = (x.toNat : Int) % 256 := by omega
  rw [e1, e2, e3, e4]
/-- A row of bytes of one's own, as a text. -/
theorem own_conv {w : World} {B : Nat} {v : Value} {l : List UInt8} (hown : w.ownsRow B 5 1 v l.length (Lib.byteCells l)) : (convert 65 9 v).run Tryd.prog w = .ok (.string ⟨l.toArray⟩) w := by
  rcases hown.2 with ⟨rfl, h0⟩ | ⟨k, cap, cur, rfl, _⟩
  · have e : l = [] := by
      have : l.length = 0 := by simpa using h0
      exact List.length_eq_zero_iff.1 this
    subst e
    exact Lib.run_convert_nil_bytes w 65 9 5 0 Tryd.underlying65 Tryd.underlying5 Tryd.underlying9
  · have hsz : (⟨l.toArray⟩ : ByteArray).size = l.length := by show l.toArray.size = _; simp
    rw [← hsz]
    refine Lib.run_convert_whole w 65 5 9 Tryd.underlying65 Tryd.underlying5 Tryd.underlying9 k 0 ⟨l.toArray⟩ (fun j hj => ?_) cap
    have hj' : j < l.length := by rw [← hsz]; exact hj
    have hc := hown.cells (g := k) rfl j (.int .u8 ((l[j]'hj').toNat : Int)) (by simp [Lib.byteCells, hj'])
    rw [Nat.zero_add, show ((⟨l.toArray⟩ : ByteArray)[j]'hj) = l[j]'hj' from rfl]
    by_cases h0 : j = 0
    · subst h0; simpa [Addr.add] using hc
    · simpa [Addr.add, h0] using hc
set_option maxHeartbeats 2000000 in
set_option maxRecDepth 100000 in
theorem digest_calls (s : St) (w : World) : Calls Tryd.prog 85 #[stv s] w fun e w' => e = .returned (.string (dg s)) ∧ Below w.heap.size w w' := by
  obtain ⟨i0, hi, hz0, hz1, hz2⟩ := info_parts (P := Tryd.prog) (e := 5) (z := .int .u8 0) (size := 1) (bytes := 1) (by kernel_rfl)
  have HD := Aside0.mk (show dg s = ⟨(dgL s).toArray⟩ from rfl)
  generalize dg s = res at *
  have hb0 : Below w.heap.size w (w.alloc (.cells (stc s) 96)) := (Below.refl _ _).alloc (Nat.le_refl _) _
  have HB0 := Aside0.mk hb0
  clear hb0
  unfold stv
  go_enter Tryd.func85, Tryd.ntmps85
  go_wp2_with fail
  go_loopg [3, 7] 8 (fun k v i wr => ∃ t : Nat, t + k = 8 ∧ i = .int .i64 (t : Int) ∧ wr.ownsRow w.heap.size 5 1 v (dgT s t).length (Lib.byteCells (dgT s t)) ∧ Below w.heap.size w wr)
  case atStart => exact ⟨0, rfl, rfl, World.ownsRow_nil _ _ _ _, HB0.out⟩
  case round =>
    obtain ⟨t, ht, rfl, hown, hB⟩ := hrel
    have HB := Aside0.mk hB
    have hlen := Aside0.mk (dgT_length s t)
    have hsz := hB.size
    clear hB
    by_cases hlt : t < 8
    · have l1 : (t : Int) < 8 := by omega
      have hix := fun W => index_st s W t hlt
      have HX := Aside0.mk (show dgT s (t + 1) = dgT s t ++ b4 (St.at s t) from rfl)
      generalize St.at s t = x at *
      have HC := Aside0.mk (b4_cells x)
      have x0 := wd_nonneg x
      have x1 := wd_lt x
      go_wp2_with (at_builtin; refine wpList_append_own _ rfl _ _ 65 rfl w.heap.size 5 i0 (.int .u8 0) 1 1 Tryd.underlying65 hi hz0 hz1 hz2 rfl (by decide) _ _ _ rfl (hown.alloc _) ⟨wr.heap.size, 0, none⟩ 4 4 [.int .u8 (wd x / 16777216), .int .u8 (wd x / 65536 % 256), .int .u8 (wd x / 256 % 256), .int .u8 (wd x % 256)] rfl rfl ?c1 ?c2 ?c3 ?c4 ?c5 ?_)
      case c1 =>
        intro j u hj
        match j, hj with
        | 0, hj => simp at hj; subst hj; simp [Addr.add]
        | 1, hj => simp at hj; subst hj; simp [Addr.add]
        | 2, hj => simp at hj; subst hj; simp [Addr.add]
        | 3, hj => simp at hj; subst hj; simp [Addr.add]
      case c2 => intro u hu; simp at hu; rcases hu with rfl | rfl | rfl | rfl <;> rfl
      case c3 => unfold maxLen; rw [hlen.out]; omega
      case c4 => rw [hlen.out]; omega
      case c5 => simp; omega
      intro v' w1 hown' hgrow _
      obtain ⟨ao, n', cap', rfl⟩ : ∃ ao n' cap, v' = .slice ao n' cap := by
        rcases hown'.2 with ⟨hv, _⟩ | ⟨k, cap, cur, hv, _⟩
        · exact ⟨_, _, _, hv⟩
        · exact ⟨_, _, _, hv⟩
      have HO := Aside0.mk hown'
      have HG := Aside0.mk hgrow
      have HW := Aside0.mk hown
      clear hown' hgrow hown
      go_wp2_with fail
      go_roundg (gk - 1)
      case measure => omega
      case rel =>
        refine ⟨t + 1, by omega, by go_num, ?_, ?_⟩
        · have h1 := HO.out
          rw [← HC.out] at h1
          rw [HX.out, List.length_append, show (b4 x).length = 4 from rfl, show Lib.byteCells (dgT s t ++ b4 x) = Lib.byteCells (dgT s t) ++ Lib.byteCells (b4 x) by simp [Lib.byteCells]]
          exact h1
        · exact (HB.out.alloc hsz _).grown HG.out (by simp; omega) (fun k hk => (HW.out.lt k hk).1)
    · obtain rfl : t = 8 := by omega
      have hconv := own_conv (l := dgT s 8) hown
      rw [dgT_end, ← HD.out] at hconv
      go_wp2_with fail
      go_ret
      exact ⟨rfl, HB.out⟩
set_option maxHeartbeats 2000000 in
set_option maxRecDepth 100000 in
theorem sum_calls (p : Nat) (m : ByteArray) (w : World) (hT : Tab w) (h : ShaAt p m w) (hs : m.size ≤ 549755813888) :
    Calls Tryd.prog 60 #[.pointer (some ⟨p, 0, none⟩)] w fun e w' => e = .returned (.tuple #[.string (sha m), .int .i64 0]) ∧ Below w.heap.size w w' := by
  have HN := Aside0.mk (none_calls p m w h)
  have HC := Aside0.mk (copy_calls p m w h)
  have HS := Aside0.mk h
  have HT := Aside0.mk hT
  clear h hT
  go_enter Tryd.func60, Tryd.ntmps60
  go_wp2_with (go_at_call 83; refine HN.out.mono ?_; rintro e w1 ⟨rfl, rfl⟩)
  refine HC.out.mono ?_
  rintro e w1 ⟨rfl, h1, hb1⟩
  have c10 : w1.cell? ⟨p, 10, none⟩ = some (.int .u64 (m.size : Int)) := blk_cell' (blk_below HS.out hb1) 10
  have H1 := Aside0.mk h1
  have HB1 := Aside0.mk hb1
  clear h1 hb1
  go_wp2_with fail
  refine (padding_calls m.size (by omega) _).mono ?_
  rintro e w2 ⟨rfl, hb2⟩
  have H2 := Aside0.mk (show ShaAt w.heap.size m w2 from blk_below H1.out hb2)
  have HB2 := Aside0.mk (HB1.out.trans (hb2.mono HB1.out.size))
  have HTk := Aside0.mk (takes_calls w.heap.size m (pad m.size) w2 (HT.out.keep HB2.out) H2.out (by rw [pad_size]; omega))
  clear hb2
  go_wp2_with fail
  refine HTk.out.mono ?_
  rintro e w3 ⟨rfl, h3, t3⟩
  have HB3 := Aside0.mk (t3.below HB2.out (Nat.le_refl _) HB2.out.size)
  have hc := shaC_cells h3
  have HSH := Aside0.mk (show sha m = dg (sT (m ++ pad m.size)) from rfl)
  clear h3 t3
  generalize sT (m ++ pad m.size) = s at *
  have HD := Aside0.mk (show ∀ w, Calls Tryd.prog 85 #[.agg #[.int .u32 (wd s.a), .int .u32 (wd s.b), .int .u32 (wd s.c), .int .u32 (wd s.d), .int .u32 (wd s.e), .int .u32 (wd s.f), .int .u32 (wd s.g), .int .u32 (wd s.h)]] w fun e w' => e = .returned (.string (dg s)) ∧ Below w.heap.size w w' from fun w => digest_calls s w)
  go_wp2_with fail
  refine (HD.out _).mono ?_
  rintro e w4 ⟨rfl, hb4⟩
  go_wp2_with fail
  go_ret2
  exact ⟨by rw [HSH.out]; rfl, HB3.out.trans (hb4.mono HB3.out.size)⟩
set_option maxHeartbeats 2000000 in
set_option maxRecDepth 100000 in
theorem shasum_calls (m : ByteArray) (w : World) (hT : Tab w) (hs : m.size ≤ 549755813888) :
    Calls Tryd.prog 49 #[.string m] w fun e w' => e = .returned (.string (sha m)) ∧ Below w.heap.size w w' := by
  have HN := Aside0.mk (new_calls w)
  have HT := Aside0.mk hT
  clear hT
  go_enter Tryd.func49, Tryd.ntmps49
  go_wp2_with (go_at_call 75; refine HN.out.mono ?_; rintro e w1 ⟨p, rfl, hp, h1, hb1⟩)
  have HTk := Aside0.mk (takes_calls p ByteArray.empty m w1 (HT.out.keep hb1) h1 (by show 0 + m.size ≤ _; omega))
  have HP := Aside0.mk hp
  have HB1 := Aside0.mk hb1
  clear h1 hb1 hp
  refine HTk.out.mono ?_
  rintro e w2 ⟨rfl, h2, t2⟩
  rw [show ByteArray.empty ++ m = m by apply ext_list; rw [append_list]; rfl] at h2
  have HB2 := Aside0.mk (t2.below HB1.out HP.out HB1.out.size)
  have HS := Aside0.mk (sum_calls p m w2 (HT.out.keep HB2.out) h2 hs)
  clear h2 t2
  go_wp2_with fail
  refine HS.out.mono ?_
  rintro e w3 ⟨rfl, hb3⟩
  go_wp2_with fail
  go_ret
  exact ⟨rfl, HB2.out.trans (hb3.mono HB2.out.size)⟩
end Go.Proofs.YtomninikmcmmcaaDoor.Sha
end
