/- The law HmacNil: a nil running one, and one that nobody made. -/
import Derived.Test.YtomninikmcmmcaaDoorHm
namespace Go.Proofs.YtomninikmcmmcaaDoor.Sha
open Go Go.RowKit Go.Shelf Go.Proofs.YtomninikmcmmcaaDoor.Rng Go.Proofs.YtomninikmcmmcaaDoorW.PrintWords Go.Proofs.Sp Go.Proofs.YtomninikmcmmcaaDoor.Blk Go.Proofs.YtomninikmcmmcaaDoor.GivA
set_option linter.unusedVariables false
set_option linter.unusedSimpArgs false
theorem alloc_sz (w : World) (o : Obj) : (w.alloc o).heap.size = w.heap.size + 1 := Array.size_push _
/-- One that nobody made: nil, or a block whose first cell is nil. -/
def NilAt (v : Value) (w : World) : Prop := v = .pointer none ∨ ∃ q, v = .pointer (some ⟨q, 0, none⟩) ∧ w.cell? ⟨q, 0, none⟩ = some (.pointer none)
theorem nnone_calls (v : Value) (w : World) (h : NilAt v w) : Calls Tryd.prog 59 #[v] w fun e w' => e = .returned (.bool true) ∧ w = w' := by
  rcases h with rfl | ⟨q, rfl, c0⟩
  · go_enter Tryd.func59, Tryd.ntmps59
    go_wp2
    go_ret
    exact ⟨rfl, rfl⟩
  · go_enter Tryd.func59, Tryd.ntmps59
    go_wp2
    go_ret
    exact ⟨rfl, rfl⟩
theorem nwrite_calls (v : Value) (t : ByteArray) (w : World) (h : NilAt v w) : Calls Tryd.prog 18 #[v, .string t] w fun e w' => e = .returned (.int .i64 1) ∧ w = w' := by
  have HN := Aside0.mk (nnone_calls v w h)
  clear h
  go_enter Tryd.func18, Tryd.ntmps18
  go_wp2_with (go_at_call 59; refine HN.out.mono ?_; rintro e w1 ⟨rfl, rfl⟩)
  go_ret
  exact ⟨rfl, rfl⟩
theorem nsum_calls (v : Value) (w : World) (h : NilAt v w) : Calls Tryd.prog 17 #[v] w fun e w' => e = .returned (.tuple #[.string ByteArray.empty, .int .i64 1]) ∧ w = w' := by
  have HN := Aside0.mk (nnone_calls v w h)
  clear h
  go_enter Tryd.func17, Tryd.ntmps17
  go_wp2_with (go_at_call 59; refine HN.out.mono ?_; rintro e w1 ⟨rfl, rfl⟩)
  go_ret2
  exact ⟨rfl, rfl⟩
theorem ncopy_calls (w : World) : Calls Tryd.prog 19 #[.pointer none] w fun e w' => e = .returned (.pointer none) ∧ w = w' := by
  go_enter Tryd.func19, Tryd.ntmps19
  go_wp2
  go_ret
  exact ⟨rfl, rfl⟩
set_option maxHeartbeats 2000000 in
set_option maxRecDepth 100000 in
theorem hmacNil_row (m : ByteArray) (hm : m.size ≤ 140737488351232) (w : World) (hT : Tab w) :
    Calls Tryd.prog 3 #[.string m] w fun e w' => e = .returned (.bool true) ∧ Below w.heap.size w w' := by
  clear hT
  go_enter Tryd.func3, Tryd.ntmps3
  by_cases h1 : (m.size : Int) > 1000
  · go_wp2
    go_ret
    exact ⟨rfl, Below.refl _ _⟩
  have HB := Aside0.mk ((show Below w.heap.size w ((w.alloc (.cells #[.pointer none, .string ⟨#[]⟩] 27)).alloc (.cells #[.pointer none, .pointer (some ⟨w.heap.size, 0, none⟩)] 22)) from ((Below.refl _ _).alloc (Nat.le_refl _) _).alloc (by rw [alloc_sz]; omega) _))
  have k1 : ((w.alloc (.cells #[.pointer none, .string ⟨#[]⟩] 27)).alloc (.cells #[.pointer none, .pointer (some ⟨w.heap.size, 0, none⟩)] 22)).heap[w.heap.size + 1]? = some (.cells #[.pointer none, .pointer (some ⟨w.heap.size, 0, none⟩)] 22 (0, 0)) := by
    have := World.alloc_heap_new (w.alloc (.cells #[.pointer none, .string ⟨#[]⟩] 27)) (.cells #[.pointer none, .pointer (some ⟨w.heap.size, 0, none⟩)] 22)
    rw [alloc_sz] at this
    exact this
  have k0 : ((w.alloc (.cells #[.pointer none, .string ⟨#[]⟩] 27)).alloc (.cells #[.pointer none, .pointer (some ⟨w.heap.size, 0, none⟩)] 22)).heap[w.heap.size]? = some (.cells #[.pointer none, .string ⟨#[]⟩] 27 (0, 0)) := by
    rw [Below.heap_alloc _ _ _ (by rw [alloc_sz]; omega)]
    exact World.alloc_heap_new w _
  go_wp2_with fail
  generalize (w.alloc (.cells #[.pointer none, .string ⟨#[]⟩] 27)).alloc (.cells #[.pointer none, .pointer (some ⟨w.heap.size, 0, none⟩)] 22) = W at *
  have c0 : W.cell? ⟨w.heap.size + 1, 0, none⟩ = some (.pointer none) := blk_cell' k1 0
  have c1 : W.cell? ⟨w.heap.size + 1, 1, none⟩ = some (.pointer (some ⟨w.heap.size, 0, none⟩)) := blk_cell' k1 1
  have n0 : NilAt (.pointer none) W := Or.inl rfl
  have n1 : NilAt (.pointer (some ⟨w.heap.size, 0, none⟩)) W := Or.inr ⟨_, rfl, blk_cell' k0 0⟩
  have HV := Aside0.mk (show ∀ t : Nat, t < 2 → ∃ v, NilAt v W ∧ W.cell? ⟨w.heap.size + 1, t, none⟩ = some v from fun t ht => by
    rcases (show t = 0 ∨ t = 1 by omega) with rfl | rfl
    · exact ⟨_, n0, c0⟩
    · exact ⟨_, n1, c1⟩)
  clear c0 c1 n0 n1 k0 k1
  go_loopg [5] 2 (fun k v wr => ∃ t : Nat, t + k = 2 ∧ v = .int .i64 (t : Int) ∧ wr = W)
  case atStart => exact ⟨0, by omega, rfl, rfl⟩
  case round =>
    obtain ⟨t, ht, rfl, rfl⟩ := hrel
    by_cases hlt : t < 2
    · obtain ⟨v, hn, hc⟩ := HV.out t hlt
      have HS := Aside0.mk (nsum_calls v wr hn)
      have HW := Aside0.mk (nwrite_calls v m wr hn)
      have l1 : (t : Int) < 2 := by omega
      clear hn
      go_wp2_with (first | (go_at_call 17; refine HS.out.mono ?_; rintro e w1 ⟨rfl, rfl⟩) | (go_at_call 18; refine HW.out.mono ?_; rintro e w1 ⟨rfl, rfl⟩))
      go_roundg (gk - 1)
      case measure => omega
      case rel => exact ⟨t + 1, by omega, by go_num, rfl⟩
    · obtain rfl : t = 2 := by omega
      have HC := Aside0.mk (ncopy_calls wr)
      go_wp2_with (go_at_call 19; refine HC.out.mono ?_; rintro e w1 ⟨rfl, rfl⟩)
      go_ret
      exact ⟨rfl, HB.out⟩
end Go.Proofs.YtomninikmcmmcaaDoor.Sha
