/- Leaves and nodes as a row hands them in: their fields, their values, what is asked of each. -/
import Derived.Test.YtomninikmcmmcaaDoorWWords
import Derived.WalkKit
namespace Go.Proofs.YtomninikmcmmcaaDoor.Kds
open Go Go.RowKit Go.Proofs.YtomninikmcmmcaaDoorW.PrintWords
structure S37 where
  f0 : Int
  f1 : Int
def z37 : S37 := ⟨(0 : Int), (0 : Int)⟩
def k37 : Kd S37 := Kd.iso (Kd.pair (Kd.int .u64) (Kd.int .u64)) (fun x : S37 => (x.f0, x.f1))
theorem k37_open {w : World} {x : S37} {cs : List Value} (h : k37.K w x cs) : cs = [.int .u64 x.f0, .int .u64 x.f1] := by
  obtain ⟨_, _, rfl, rfl, rfl⟩ := h
  exact rfl
def Good37 (x : S37) : Prop := ((Lit.int .u64 x.f0).wf = true) ∧ ((Lit.int .u64 x.f1).wf = true)
structure S39 where
  f0 : Bool
  f1 : ByteArray
  f2 : ByteArray
  f3 : S37
def z39 : S39 := ⟨false, (⟨#[]⟩ : ByteArray), (⟨#[]⟩ : ByteArray), z37⟩
def k39 : Kd S39 := Kd.iso (Kd.pair Kd.bool (Kd.pair Kd.string (Kd.pair Kd.string k37))) (fun x : S39 => (x.f0, x.f1, x.f2, x.f3))
theorem k39_open {w : World} {x : S39} {cs : List Value} (h : k39.K w x cs) : cs = [.bool x.f0, .string x.f1, .string x.f2, .int .u64 x.f3.f0, .int .u64 x.f3.f1] := by
  obtain ⟨_, _, rfl, rfl, ⟨_, _, rfl, rfl, ⟨_, _, rfl, rfl, s1⟩⟩⟩ := h
  obtain rfl := k37_open s1
  exact rfl
def Good39 (x : S39) : Prop := (True) ∧ (x.f1.size ≤ 140737488351232) ∧ (x.f2.size ≤ 140737488351232) ∧ (Good37 x.f3)
structure S57 where
  f0 : ByteArray
  f1 : S37
def z57 : S57 := ⟨(⟨#[]⟩ : ByteArray), z37⟩
def k57 : Kd S57 := Kd.iso (Kd.pair Kd.string k37) (fun x : S57 => (x.f0, x.f1))
theorem k57_open {w : World} {x : S57} {cs : List Value} (h : k57.K w x cs) : cs = [.string x.f0, .int .u64 x.f1.f0, .int .u64 x.f1.f1] := by
  obtain ⟨_, _, rfl, rfl, s1⟩ := h
  obtain rfl := k37_open s1
  exact rfl
def Good57 (x : S57) : Prop := (x.f0.size ≤ 140737488351232) ∧ (Good37 x.f1)
end Go.Proofs.YtomninikmcmmcaaDoor.Kds
