/- 'b := make([]byte, 64); copy(b, text); string(b)': a text filled up with noughts. -/
import Derived.Test.YtobgcjfelegpkaaDoorProg
import Derived.Test.YtobgcjfelegpkaaDoorWMore
import Derived.Lib.BufferWrite
import Derived.Laws.CopyOwn
import Derived.WalkKit
import Derived.KernelRfl
namespace Go.Proofs.YtobgcjfelegpkaaDoor.Pad
open Go Go.RowKit Go.Lib Go.Proofs.YtobgcjfelegpkaaDoorW.PrintWords
set_option linter.unusedVariables false
def padL (l : List UInt8) : List UInt8 := l ++ List.replicate (64 - l.length) 0
def padB (s : ByteArray) : ByteArray := ⟨(padL s.data.toList).toArray⟩
theorem padB_size (s : ByteArray) (h : s.size ≤ 64) : (padB s).size = 64 := by
  have h' : s.data.toList.length ≤ 64 := by simpa using h
  show (padL s.data.toList).toArray.size = 64
  unfold padL
  simp
  have : s.data.size ≤ 64 := h
  omega
theorem padB_list (s : ByteArray) : (padB s).data.toList = padL s.data.toList := by simp [padB]
def zero64 : Array Value := (byteCells (List.replicate 64 0)).toArray
theorem make_run (W : World) : (Instr.makeSlice 44 (.int .i64 64) (.int .i64 64)).run Tryd.prog W = .ok (.slice (some ⟨W.heap.size, 0, none⟩) 64 64) (W.alloc (.cells zero64 5)) := by
  kernel_rfl
theorem info8 : (Tryd.prog.info? 5).map (·.size) = some 1 := by kernel_rfl
theorem strOf_bytes (l : List UInt8) : strOfNums (l.map fun b => (b.toNat : Int)) = ⟨l.toArray⟩ := by
  unfold strOfNums
  congr 1
  rw [List.map_map]
  congr 1
  conv => rhs; rw [← List.map_id l]
  apply List.map_congr_left
  intro b _
  simp
theorem pad_row (s : ByteArray) (h : s.size ≤ 64) : (zero64.toList.take 0 ++ byteCells s.data.toList ++ zero64.toList.drop (0 + s.size)).toArray = (byteCells (padL s.data.toList)).toArray := by
  have hl : s.size = s.data.toList.length := by simp
  unfold zero64 padL byteCells
  rw [List.toList_toArray, List.take_zero, List.nil_append, Nat.zero_add, List.map_append, List.map_replicate, List.map_replicate, List.drop_replicate, hl]
theorem conv_at (s : ByteArray) (h : s.size ≤ 64) (W : World) (g : Nat) (hk : W.heap[g]? = some (.cells (byteCells (padL s.data.toList)).toArray 5 (0, 0))) :
    (convert 44 9 (.slice (some ⟨g, 0, none⟩) 64 64)).run Tryd.prog W = .ok (.string (padB s)) W := by
  have hl : (padL s.data.toList).length = 64 := by have := padB_size s h; rw [← padB_list]; simpa using this
  have := run_convert_bytes_arg (P := Tryd.prog) W 44 5 Tryd.underlying44 Tryd.underlying5 g 0 64 64 ((padL s.data.toList).map fun b => (b.toNat : Int)) (by simpa using hl) (fun i hi => by
    rw [cell_of_row _ _ _ _ _ _ hk]
    have hil : i < (padL s.data.toList).length := by omega
    simp [byteCells, List.getD_eq_getElem?_getD, List.getElem?_eq_getElem hil]) 9 Tryd.underlying9
  rw [strOf_bytes] at this
  exact this
theorem pad_run (s : ByteArray) (h : s.size ≤ 64) (W : World) : ∃ W2, (Builtin.copy_ #[44, 9] 3 #[.slice (some ⟨W.heap.size, 0, none⟩) 64 64, .string s]).run Tryd.prog (W.alloc (.cells zero64 5)) = .ok (goInt s.size) W2 ∧
    (convert 44 9 (.slice (some ⟨W.heap.size, 0, none⟩) 64 64)).run Tryd.prog W2 = .ok (.string (padB s)) W2 ∧ W2.heap[W.heap.size]? = some (.cells (byteCells (padL s.data.toList)).toArray 5 (0, 0)) ∧ Below W.heap.size W W2 := by
  have h0 := heap_alloc_new W (.cells zero64 5)
  have hrun := run_copy_row_string (P := Tryd.prog) (W.alloc (.cells zero64 5)) 44 9 3 5 W.heap.size 0 64 64 s zero64 5 Tryd.underlying44 info8 h0 h (by show 0 + s.size ≤ 64; omega)
  rw [pad_row s h] at hrun
  have hk : ((W.alloc (.cells zero64 5)).setRow W.heap.size (byteCells (padL s.data.toList)).toArray).heap[W.heap.size]? = some (.cells (byteCells (padL s.data.toList)).toArray 5 (0, 0)) := setRow_heap _ _ _ _ _ _ h0
  exact ⟨_, hrun, conv_at s h _ _ hk, hk, below_setRow ((Below.refl _ _).alloc (Nat.le_refl _) _) (Nat.le_refl _) _⟩
end Go.Proofs.YtobgcjfelegpkaaDoor.Pad
