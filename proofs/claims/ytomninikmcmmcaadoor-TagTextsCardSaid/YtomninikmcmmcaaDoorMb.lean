/- Texts of this session, put together: PureTt, PureTd. -/
import Derived.Test.YtomninikmcmmcaaDoorMa
section
/- Plain law of chapter 07's texts: what an Id, a leaf, a leaf's text are, and the leaf that a text is. -/
namespace Go.Proofs.YtomninikmcmmcaaDoor.Tag
open Go Go.RowKit Go.Proofs.YtomninikmcmmcaaDoorW.PrintWords Go.Proofs.YtomninikmcmmcaaDoor.PTg Go.Proofs.YtomninikmcmmcaaDoor.GivU Go.Proofs.YtomninikmcmmcaaDoor.GivT Go.Proofs.YtomninikmcmmcaaDoor.Ids Go.Proofs.YtomninikmcmmcaaDoor.Oct
set_option linter.unusedVariables false
set_option linter.unusedSimpArgs false
theorem mayid_some (s : ByteArray) (hs : s.size < 4611686018427387904) : tag_MayId.f s = some (mayId s) := by
  unfold tag_MayId.f
  rw [if_pos hs]
/-- Whether a leaf may be. -/
def mayL (p : Bool) (i s : ByteArray) (h l : Int) : Bool := decide (s.size ≤ 32) && (if p = true then decide (i.size = 0) && (h == 0 && l == 0) else mayId i)
theorem empty_list (s : ByteArray) : (s.toList = ([] : List UInt8)) ↔ s.size = 0 := by
  constructor
  · intro h
    have := congrArg List.length h
    rw [ByteArray.toList_eq] at this
    rw [Array.length_toList, ByteArray.size_data] at this
    exact this
  · intro h
    rw [ByteArray.toList_eq]
    apply List.eq_nil_of_length_eq_zero
    rw [Array.length_toList, ByteArray.size_data]
    exact h
theorem mayleaf_some (p : Bool) (i s : ByteArray) (h l : Int) (hi : i.size < 4611686018427387904) : tag_MayLeaf.f p i s h l = some (mayL p i s h l) := by
  unfold tag_MayLeaf.f mayL
  by_cases hs : s.size ≤ 32
  · rw [if_neg (by omega), decide_eq_true hs, Bool.true_and]
    cases p
    · rw [if_neg (by decide), if_neg (by decide), mayid_some i hi]
      rfl
    · rw [if_pos rfl, if_pos rfl]
      by_cases hz : i.size = 0
      · rw [if_pos ((empty_list i).2 hz), decide_eq_true hz, Bool.true_and]
      · rw [if_neg (fun h => hz ((empty_list i).1 h)), decide_eq_false hz, Bool.false_and]
  · rw [if_pos (by omega), decide_eq_false hs, Bool.false_and]
end Go.Proofs.YtomninikmcmmcaaDoor.Tag
end
section
/- A leaf's text. -/
namespace Go.Proofs.YtomninikmcmmcaaDoor.Tag
open Go Go.RowKit Go.Proofs.YtomninikmcmmcaaDoorW.PrintWords Go.Proofs.YtomninikmcmmcaaDoor.PTg Go.Proofs.YtomninikmcmmcaaDoor.GivU Go.Proofs.YtomninikmcmmcaaDoor.GivT Go.Proofs.YtomninikmcmmcaaDoor.Ids Go.Proofs.YtomninikmcmmcaaDoor.Oct
set_option linter.unusedVariables false
set_option linter.unusedSimpArgs false
/-- A byte. -/
def one (n : Nat) : ByteArray := ⟨#[UInt8.ofNat n]⟩
theorem one_size (n : Nat) : (one n).size = 1 := rfl
/-- A leaf's text. -/
def leafT (p : Bool) (i s : ByteArray) (h l : Int) : ByteArray :=
  if p = true then one 2 ++ (one s.size ++ s) else one 0 ++ (one i.size ++ i ++ (one s.size ++ s ++ be16 h.toNat l.toNat))
theorem app_list (a b : ByteArray) : (a ++ b).data.toList = a.data.toList ++ b.data.toList := by
  rw [ByteArray.data_append, Array.toList_append]
theorem app_assoc (a b c : ByteArray) : a ++ b ++ c = a ++ (b ++ c) := by
  apply ba_ext
  simp only [app_list, List.append_assoc]
theorem bytes_some (h l : Int) (h0 : 0 ≤ h) (h1 : h < 18446744073709551616) (l0 : 0 ≤ l) (l1 : l < 18446744073709551616) : u128_Bytes.f h l = some (be16 h.toNat l.toNat) := by
  unfold u128_Bytes.f in64
  rw [decide_eq_true ⟨h0, h1⟩, decide_eq_true ⟨l0, l1⟩]
  rfl
/-- In a leaf that may be the texts are short. -/
theorem may_short (p : Bool) (i s : ByteArray) (h l : Int) (hm : mayL p i s h l = true) : s.size ≤ 32 ∧ (if p = true then i.size = 0 ∧ h = 0 ∧ l = 0 else i.size ≤ 96 ∧ mayId i = true) := by
  unfold mayL at hm
  rw [Bool.and_eq_true, decide_eq_true_eq] at hm
  refine ⟨hm.1, ?_⟩
  cases p
  · have h2 := hm.2
    rw [if_neg (by decide)] at h2
    rw [if_neg (by decide)]
    exact ⟨(mayId_size i h2).2, h2⟩
  · have h2 := hm.2
    rw [if_pos rfl, Bool.and_eq_true, Bool.and_eq_true, decide_eq_true_eq, beq_iff_eq, beq_iff_eq] at h2
    rw [if_pos rfl]
    exact h2
end Go.Proofs.YtomninikmcmmcaaDoor.Tag
end
