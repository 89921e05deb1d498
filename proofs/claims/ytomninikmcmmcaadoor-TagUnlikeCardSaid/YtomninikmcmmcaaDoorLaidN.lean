/- Four nodes that a row hands in. -/
import Derived.Test.YtomninikmcmmcaaDoorRows
import Derived.Test.YtomninikmcmmcaaDoorMg
import Derived.OpenShut
import Derived.ChangeArms
import Derived.WalkKit
import Derived.ProofKit
namespace Go.Proofs.YtomninikmcmmcaaDoor.LaidN
open Go Go.RowKit Go.WideShapes Go.ChangeShapes Go.Proofs.YtomninikmcmmcaaDoor.Tag
set_option linter.unusedVariables false
set_option linter.unusedSimpArgs false
set_option maxRecDepth 100000
theorem c4 : Tryd.prog.cellsOf 74 = 12 := by kernel_rfl
theorem cN : Tryd.prog.cellsOf 57 = 3 := by kernel_rfl
theorem cU : Tryd.prog.cellsOf 37 = 2 := by kernel_rfl
theorem cS : Tryd.prog.cellsOf 9 = 1 := by kernel_rfl
theorem cI : Tryd.prog.cellsOf 35 = 1 := by kernel_rfl
/-- Four nodes of a row. -/
structure N4 where
  h : Nat → ByteArray
  x : Nat → Int
  y : Nat → Int
  gx : ∀ k, k < 4 → In64 (x k)
  gy : ∀ k, k < 4 → In64 (y k)
def N4.v (n : N4) : Value := .agg #[.string (n.h 0), .int .u64 (n.x 0), .int .u64 (n.y 0), .string (n.h 1), .int .u64 (n.x 1), .int .u64 (n.y 1), .string (n.h 2), .int .u64 (n.x 2), .int .u64 (n.y 2), .string (n.h 3), .int .u64 (n.x 3), .int .u64 (n.y 3)]
section
variable {H : Type} {enc : TypeId × Value → H} {W : World} {base : Nat} {sp : Nat → Bool} {held : Bool}
theorem list3 {α : Type} (l : List α) (hl : l.length = 3) : ∃ a b c, l = [a, b, c] := by
  match l, hl with
  | [a, b, c], _ => exact ⟨a, b, c, rfl⟩
theorem list2 {α : Type} (l : List α) (hl : l.length = 2) : ∃ a b, l = [a, b] := by
  match l, hl with
  | [a, b], _ => exact ⟨a, b, rfl⟩
theorem int_of {fu : Nat} {v : Value} {x : DataW H × List MemPlace} (h : DataW.trod enc Tryd.prog W base sp held fu 35 [v] = some x) : ∃ n : Int, v = .int .u64 n ∧ In64 n := by
  obtain ⟨n, hc, _, hw⟩ := DataW.trod_int Tryd.underlying35 h
  exact ⟨n, (List.cons.inj hc).1, wf64 hw⟩
theorem u128_of {fu : Nat} {cs : List Value} {x : DataW H × List MemPlace} (h : DataW.trod enc Tryd.prog W base sp held fu 37 cs = some x) : ∃ a b : Int, cs = [.int .u64 a, .int .u64 b] ∧ In64 a ∧ In64 b := by
  obtain ⟨xs, n, rfl, _, hcs, hxl, hf⟩ := DataW.trod_struct Tryd.underlying37 h
  rw [cU] at hcs
  obtain ⟨v0, v1, rfl⟩ := list2 cs hcs
  obtain ⟨y0, y1, rfl⟩ := list2 xs hxl
  have e0 := hf 0 _ rfl
  have e1 := hf 1 _ rfl
  simp only [cI, List.drop_zero, List.drop_succ_cons, List.take_succ_cons, List.take_zero, List.getElem?_cons_zero, List.getElem?_cons_succ] at e0 e1
  obtain ⟨a, rfl, ha⟩ := int_of e0
  obtain ⟨b, rfl, hb⟩ := int_of e1
  exact ⟨a, b, rfl, ha, hb⟩
theorem node_of {fu : Nat} {cs : List Value} {x : DataW H × List MemPlace} (h : DataW.trod enc Tryd.prog W base sp held fu 57 cs = some x) : ∃ (s : ByteArray) (a b : Int), cs = [.string s, .int .u64 a, .int .u64 b] ∧ In64 a ∧ In64 b := by
  obtain ⟨xs, n, rfl, _, hcs, hxl, hf⟩ := DataW.trod_struct Tryd.underlying57 h
  rw [cN] at hcs
  obtain ⟨v0, v1, v2, rfl⟩ := list3 cs hcs
  obtain ⟨y0, y1, rfl⟩ := list2 xs hxl
  have e0 := hf 0 _ rfl
  have e1 := hf 1 _ rfl
  simp only [cS, cU, List.drop_zero, List.drop_succ_cons, List.take_succ_cons, List.take_zero, List.getElem?_cons_zero, List.getElem?_cons_succ] at e0 e1
  obtain ⟨s, hs, _⟩ := DataW.trod_string Tryd.underlying9 e0
  obtain ⟨a, b, hab, ha, hb⟩ := u128_of e1
  obtain ⟨rfl, _⟩ := List.cons.inj hs
  obtain ⟨rfl, hab2⟩ := List.cons.inj hab
  obtain ⟨rfl, _⟩ := List.cons.inj hab2
  exact ⟨s, a, b, rfl, ha, hb⟩
theorem list12 (l : List Value) (H0 : Nat → ByteArray) (X Y : Nat → Int) (hl : l.length = 12) (h : ∀ i, i < 4 → (l.drop (i * 3)).take 3 = [.string (H0 i), .int .u64 (X i), .int .u64 (Y i)]) :
    l = [.string (H0 0), .int .u64 (X 0), .int .u64 (Y 0), .string (H0 1), .int .u64 (X 1), .int .u64 (Y 1), .string (H0 2), .int .u64 (X 2), .int .u64 (Y 2), .string (H0 3), .int .u64 (X 3), .int .u64 (Y 3)] := by
  have h0 := h 0 (by decide)
  have h1 := h 1 (by decide)
  have h2 := h 2 (by decide)
  have h3 := h 3 (by decide)
  match l, hl with
  | [b0, b1, b2, b3, b4, b5, b6, b7, b8, b9, b10, b11], _ =>
    simp only [Nat.zero_mul, Nat.one_mul, Nat.reduceMul, List.drop_zero, List.drop_succ_cons, List.take_succ_cons, List.take_zero, List.cons.injEq, and_true] at h0 h1 h2 h3
    obtain ⟨rfl, rfl, rfl⟩ := h0
    obtain ⟨rfl, rfl, rfl⟩ := h1
    obtain ⟨rfl, rfl, rfl⟩ := h2
    obtain ⟨rfl, rfl, rfl⟩ := h3
    rfl
theorem open_nodes {b0 : Nat} {v : Value} {d : DataW H} {p : List MemPlace} (hv : Value.okWide Tryd.prog W .any b0 74 v) (h : DataW.Trod enc Tryd.prog W base sp held 74 v d p) :
    ∃ (H0 : Nat → ByteArray) (X Y : Nat → Int), v = .agg #[.string (H0 0), .int .u64 (X 0), .int .u64 (Y 0), .string (H0 1), .int .u64 (X 1), .int .u64 (Y 1), .string (H0 2), .int .u64 (X 2), .int .u64 (Y 2), .string (H0 3), .int .u64 (X 3), .int .u64 (Y 3)] ∧ (∀ k, k < 4 → In64 (X k)) ∧ (∀ k, k < 4 → In64 (Y k)) := by
  simp only [Value.okWide, Tryd.underlying74] at hv
  obtain ⟨cs, rfl, hsz, _⟩ := hv
  rw [c4] at hsz
  obtain ⟨fu, hf⟩ := h
  obtain ⟨xs, m, rfl, _, _, hxl, hall⟩ := DataW.trod_array Tryd.underlying74 hf
  rw [cN] at hall
  have key : ∀ i, ∃ (s : ByteArray) (a b : Int), i < 4 → (cs.toList.drop (i * 3)).take 3 = [.string s, .int .u64 a, .int .u64 b] ∧ In64 a ∧ In64 b := by
    intro i
    by_cases hi : i < 4
    · have h1 := hall i hi
      rw [List.getElem?_eq_getElem (show i < xs.length by omega)] at h1
      obtain ⟨s, a, b, e, ha, hb⟩ := node_of h1
      exact ⟨s, a, b, fun _ => ⟨e, ha, hb⟩⟩
    · exact ⟨⟨#[]⟩, 0, 0, fun h => absurd h hi⟩
  refine ⟨fun i => (key i).choose, fun i => (key i).choose_spec.choose, fun i => (key i).choose_spec.choose_spec.choose, ?_, fun k hk => ((key k).choose_spec.choose_spec.choose_spec hk).2.1, fun k hk => ((key k).choose_spec.choose_spec.choose_spec hk).2.2⟩
  have hl := list12 cs.toList (fun i => (key i).choose) (fun i => (key i).choose_spec.choose) (fun i => (key i).choose_spec.choose_spec.choose) (by simpa using hsz) (fun i hi => ((key i).choose_spec.choose_spec.choose_spec hi).1)
  exact congrArg Value.agg (Array.toList_inj.1 hl)
theorem open_n4 {b0 : Nat} {v : Value} {d : DataW H} {p : List MemPlace} (hv : Value.okWide Tryd.prog W .any b0 74 v) (h : DataW.Trod enc Tryd.prog W base sp held 74 v d p) : ∃ n : N4, v = n.v := by
  obtain ⟨H0, X, Y, e, hX, hY⟩ := open_nodes hv h
  exact ⟨⟨H0, X, Y, hX, hY⟩, e⟩
end
end Go.Proofs.YtomninikmcmmcaaDoor.LaidN
