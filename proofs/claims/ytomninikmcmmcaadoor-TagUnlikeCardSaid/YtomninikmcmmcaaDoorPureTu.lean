/- Plain law of chapter 07: unlike leaves, unlike nodes have unlike texts. -/
import Derived.Test.YtomninikmcmmcaaDoorDg
import Derived.Test.YtomninikmcmmcaaDoorMg
namespace Go.Proofs.YtomninikmcmmcaaDoor.Tag
open Go Go.RowKit Go.Proofs.YtomninikmcmmcaaDoorW.PrintWords Go.Proofs.YtomninikmcmmcaaDoor.GivL Go.Proofs.YtomninikmcmmcaaDoor.Ids Go.Proofs.YtomninikmcmmcaaDoor.Oct
set_option linter.unusedVariables false
theorem nodeT_inj (a b c d : ByteArray) (x y z w x' y' z' w' : Int) (hac : a.size = c.size) (hbd : b.size = d.size) (hx : In64 x) (hy : In64 y) (hz : In64 z) (hw : In64 w) (hx' : In64 x') (hy' : In64 y') (hz' : In64 z') (hw' : In64 w')
    (h : nodeT a x y b z w = nodeT c x' y' d z' w') : (a = c ∧ x = x' ∧ y = y') ∧ (b = d ∧ z = z' ∧ w = w') := by
  unfold nodeT at h
  obtain ⟨_, h⟩ := app_inj h rfl
  obtain ⟨e1, h⟩ := app_inj h hac
  obtain ⟨e2, h⟩ := app_inj h rfl
  obtain ⟨e3, e4⟩ := app_inj h hbd
  obtain ⟨f1, f2⟩ := be16_inj (by have := hx.1; have := hx.2; omega) (by have := hy.1; have := hy.2; omega) (by have := hx'.1; have := hx'.2; omega) (by have := hy'.1; have := hy'.2; omega) e2
  obtain ⟨f3, f4⟩ := be16_inj (by have := hz.1; have := hz.2; omega) (by have := hw.1; have := hw.2; omega) (by have := hz'.1; have := hz'.2; omega) (by have := hw'.1; have := hw'.2; omega) e4
  have := hx.1; have := hx'.1; have := hy.1; have := hy'.1; have := hz.1; have := hz'.1; have := hw.1; have := hw'.1
  exact ⟨⟨e1, by omega, by omega⟩, e3, by omega, by omega⟩
theorem leaf_node_ne (p : Bool) (i s : ByteArray) (h l : Int) (a b : ByteArray) (x y z w : Int) : leafT p i s h l ≠ nodeT a x y b z w := by
  intro e
  unfold leafT nodeT at e
  cases p
  · rw [if_neg (by decide)] at e
    obtain ⟨f, _⟩ := app_inj e rfl
    exact absurd (one_inj (by decide) (by decide) f) (by decide)
  · rw [if_pos rfl] at e
    obtain ⟨f, _⟩ := app_inj e rfl
    exact absurd (one_inj (by decide) (by decide) f) (by decide)
theorem nodeT_size (a b : ByteArray) (x y z w : Int) : (nodeT a x y b z w).size = 33 + a.size + b.size := by
  unfold nodeT
  simp only [ByteArray.size_append, one_size, be16_size]
  omega
end Go.Proofs.YtomninikmcmmcaaDoor.Tag
