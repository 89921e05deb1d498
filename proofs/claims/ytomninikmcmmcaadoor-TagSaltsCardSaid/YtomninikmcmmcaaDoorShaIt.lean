/- The iterator over a text's blocks: its contract. -/
import Derived.Test.YtomninikmcmmcaaDoorShaP
import Derived.Test.YtomninikmcmmcaaDoorRg
import Derived.Shelf.Abstract
import Derived.Shelf.RegionOpen
import Derived.OwnWalkIn
import Derived.TacticsInMore
import Derived.LoopNIn
import Derived.LoopIn
import Derived.Lib.Builder
namespace Go.Proofs.YtomninikmcmmcaaDoor.Sha
open Go Go.RowKit Go.Shelf Go.Proofs.YtomninikmcmmcaaDoor.Rng Go.Proofs.YtomninikmcmmcaaDoorW.PrintWords
set_option linter.unusedVariables false
set_option linter.unusedSimpArgs false
attribute [local go_sem] Oper.semAt_some
def strI (b : ByteArray) (i : Nat) : ByteArray := if i < b.size / 64 then b.extract (64 * i) (64 * i + 64) else b.extract (64 * (b.size / 64)) b.size
def item (b : ByteArray) (i : Nat) : Array Value := #[.string (strI b i), .bool (decide (i < b.size / 64))]
def cellLen (Bc : Nat) (w : World) : Nat := match w.cell? ⟨Bc, 0, none⟩ with | some (.string s) => s.size | _ => 0
theorem cellLen_of {w : World} {B T : Nat} {s : ByteArray} (h : w.heap[B]? = some (.cells #[.string s] T (0, 0))) : cellLen B w = s.size := by
  unfold cellLen
  rw [Lib.cell_of_heap h]
  rfl
theorem cut_first (b : ByteArray) (i : Nat) (h : i < b.size / 64) : item b i = #[.string ((b.extract (64 * i) b.size).extract 0 64), .bool true] := by
  unfold item strI
  rw [if_pos h, decide_eq_true h]
  have e : b.extract (64 * i) (64 * i + 64) = (b.extract (64 * i) b.size).extract 0 64 := by
    apply ext_list
    rw [extract_list, extract_list, extract_list, List.drop_zero, Nat.sub_zero, List.take_take]
    congr 1
    omega
  rw [e]
theorem cut_rest (b : ByteArray) (i : Nat) (h : i < b.size / 64) : (b.extract (64 * i) b.size).extract 64 (b.extract (64 * i) b.size).size = b.extract (64 * (i + 1)) b.size := by
  apply ext_list
  rw [extract_list, extract_list, extract_list, ByteArray.size_extract, List.drop_take, List.drop_drop, List.take_take]
  congr 1
  · omega
theorem cut_last (b : ByteArray) : item b (b.size / 64) = #[.string (b.extract (64 * (b.size / 64)) b.size), .bool false] := by
  unfold item strI
  rw [if_neg (by omega), decide_eq_false (by omega)]
theorem cut_all (b : ByteArray) : b.extract (64 * 0) b.size = b := by
  apply ext_list
  rw [extract_list, Nat.mul_zero, List.drop_zero, Nat.sub_zero, List.take_of_length_le (by rw [data_size]; omega)]
theorem box_cell {w : World} {B : Nat} {v : Value} {T : Nat} (h : w.heap[B]? = some (.cells #[v] T (0, 0))) : w.cell? ⟨B, 0, none⟩ = some v := by rw [Lib.cell_of_heap h]; rfl
theorem box_free {w : World} {B : Nat} {v : Value} {T : Nat} (h : w.heap[B]? = some (.cells #[v] T (0, 0))) : w.frozen? ⟨B, 0, none⟩ = false := Lib.frozen_of_heap h 0
theorem box_set {w : World} {B : Nat} {v u : Value} {T : Nat} (h : w.heap[B]? = some (.cells #[v] T (0, 0))) : (w.setCell ⟨B, 0, none⟩ u).heap[B]? = some (.cells #[u] T (0, 0)) := by
  simp [World.setCell, Array.getElem?_modify, h]
set_option maxHeartbeats 2000000 in
set_option maxRecDepth 100000 in
theorem blocks1_seq (F : Fence) (n : Nat) (hF : F.fn 113) (hro : F.round = none) (hn : 1 ≤ n) (Bc : Nat) (b : ByteArray) (hb : b.size ≤ 9223372036854775807) :
    SeqB F n Tryd.prog 113 #[.pointer (some ⟨Bc, 0, none⟩)] Bc (.cells #[.string b] 9 (0, 0)) (item b) (b.size / 64 + 1) := by
  intro l J W hbc hB hY h0
  refine callsIn_of_wp Tryd.func113 rfl hF ?_ hro
  simp only [Tryd.ntmps113, List.size_toArray, List.length_cons, List.length_nil, Nat.reduceAdd, Nat.reduceSub, Array.replicate_succ, Array.replicate_zero, List.push_toArray, List.append_toArray, List.nil_append, List.cons_append]
  gi_wp2
  gi_loopw [] (fun wr => ∃ i : Nat, i ≤ b.size / 64 ∧ wr.heap[Bc]? = some (.cells #[.string (b.extract (64 * i) b.size)] 9 (0, 0)) ∧ J i wr) (fun wr => cellLen Bc wr)
  case atStart => exact ⟨0, Nat.zero_le _, by rw [cut_all]; exact hbc, h0⟩
  case round =>
    obtain ⟨i, hi, hc, hj⟩ := hrel
    have c0 := box_cell hc
    have f0 := box_free hc
    have hcl : (b.extract (64 * i) b.size).size = b.size - 64 * i := by rw [ByteArray.size_extract]; omega
    by_cases hlt : i < b.size / 64
    · obtain ⟨fn, tmps, assign, body, hy, hR⟩ := hY i wr hj (by omega)
      rw [cut_first b i hlt] at hy
      have hrest := cut_rest b i hlt
      generalize b.extract (64 * i) b.size = cur at *
      have hm1 : 64 ≤ cur.size := by omega
      have hm2 : cur.size ≤ 9223372036854775807 := by omega
      have Hcl := Aside0.mk hcl
      have Hr := Aside0.mk hrest
      clear hcl hrest
      gi_wp2
      refine hR.mono ?_
      rintro e W3 ⟨rfl, hJ3, hk3⟩
      have hc3 : W3.heap[Bc]? = some (.cells #[.string cur] 9 (0, 0)) := hk3.trans hc
      have c3 := box_cell hc3
      have f3 := box_free hc3
      gi_wp2
      go_roundw
      case rel => exact ⟨i + 1, by omega, by rw [← Hr.out]; exact box_set hc3, hB.set _ _ _ hJ3⟩
      case measure =>
        have e1 := cellLen_of (box_set (u := .string (cur.extract 64 cur.size)) hc3)
        have e2 := cellLen_of hc
        rw [e1, e2, ByteArray.size_extract]
        omega
    · obtain rfl : i = b.size / 64 := by omega
      obtain ⟨fn, tmps, assign, body, hy, hR⟩ := hY _ wr hj (by omega)
      rw [cut_last b] at hy
      generalize b.extract (64 * (b.size / 64)) b.size = cur at *
      have hm1 : cur.size < 64 := by omega
      clear hcl hlt
      gi_wp2
      refine hR.mono ?_
      rintro e W3 ⟨rfl, hJ3, hk3⟩
      gi_wp2
      go_end0
      exact ⟨⟨_, rfl⟩, hJ3⟩
end Go.Proofs.YtomninikmcmmcaaDoor.Sha
