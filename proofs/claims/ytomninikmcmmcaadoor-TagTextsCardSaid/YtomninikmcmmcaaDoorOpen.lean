/- From data that can be read to the printed kinds: whole numbers, bools, strings, structs and slices of these; with each number in its kind's range and each string and slice within the row's bound of size. -/
import Derived.Test.YtomninikmcmmcaaDoorWMore
import Derived.Deep.Slices
import Derived.SizedLaws
import Derived.ShutString
import Derived.ChangeSlices
import Derived.ProofKit
namespace Go.Proofs.YtomninikmcmmcaaDoorW.Op
open Go.RowKit Go.Proofs.YtomninikmcmmcaaDoorW.PrintWords Go.ChangeShapes Go.WideShapes Go.Deep
set_option linter.unusedVariables false

/-- What reads as data of type t is of the kind d, and good. -/
def Opens {α : Type} (P : Program) (d : Kd α) (t : TypeId) (good : α → Prop) : Prop :=
  ∀ (H : Type) (enc : TypeId × Value → H) (w : World) (fuel : Nat) (cs : List Value) (x : DataW H × List MemPlace),
    DataW.trod enc P w 0 (fun _ => true) true fuel t cs = some x → (∀ n ∈ x.1.weights P t, n ≤ reachBytes) → ∃ a : α, d.K w a cs ∧ good a

theorem Opens.int {P : Program} {t : TypeId} {k : IntKind} (ht : P.underlying t = some (.int k)) : Opens P (Kd.int k) t (fun n => (Lit.int k n).wf = true) := by
  intro H enc w fuel cs x h hw
  obtain ⟨n, rfl, rfl, hwf⟩ := DataW.trod_int ht h
  exact ⟨n, rfl, hwf⟩
theorem Opens.bool {P : Program} {t : TypeId} (ht : P.underlying t = some .bool) : Opens P Kd.bool t (fun _ => True) := by
  intro H enc w fuel cs x h hw
  obtain ⟨n, rfl, rfl⟩ := DataW.trod_bool ht h
  exact ⟨n, rfl, trivial⟩
theorem Opens.string {P : Program} {t : TypeId} (ht : P.underlying t = some .string) : Opens P Kd.string t (fun s => s.size ≤ 140737488351232) := by
  intro H enc w fuel cs x h hw
  obtain ⟨s, rfl, rfl, hs⟩ := DataW.trod_string ht h
  have := hw s.data.toList.length (by simp [DataW.weights])
  exact ⟨s, rfl, by rw [Array.length_toList] at this; exact this⟩

/-- Fields from offset o on. -/
def OpensF {α : Type} (P : Program) (d : Kd α) (fs : List Field) (o : Nat) (good : α → Prop) : Prop :=
  ∀ (H : Type) (enc : TypeId × Value → H) (w : World) (fuel : Nat) (cs : List Value) (xs : List (DataW H × List MemPlace)),
    cs.length = o + d.sz → xs.length = fs.length →
    (∀ (i : Nat) (f : Field), fs[i]? = some f → DataW.trod enc P w 0 (fun _ => true) true fuel f.type ((cs.drop f.offset).take (P.cellsOf f.type)) = xs[i]?) →
    (∀ n ∈ DataW.weightsEach P (fs.map (·.type)) (xs.map (·.1)), n ≤ reachBytes) → ∃ a : α, d.K w a (cs.drop o) ∧ good a
theorem OpensF.one {α : Type} {P : Program} {d : Kd α} {f : Field} {o : Nat} {good : α → Prop} (h : Opens P d f.type good) (ho : f.offset = o) (hc : P.cellsOf f.type = d.sz) : OpensF P d [f] o good := by
  intro H enc w fuel cs xs hl hx ht hw
  have h0 := ht 0 f rfl
  match xs, hx with
  | [x], _ =>
    rw [ho, hc, List.take_of_length_le (by rw [List.length_drop]; omega)] at h0
    exact h H enc w fuel _ x h0 (fun n hn => hw n (by simp [DataW.weightsEach, hn]))
theorem OpensF.cons {α β : Type} {P : Program} {d : Kd α} {d2 : Kd β} {f : Field} {fs : List Field} {o : Nat} {good : α → Prop} {good2 : β → Prop} (h : Opens P d f.type good) (ho : f.offset = o) (hc : P.cellsOf f.type = d.sz)
    (h2 : OpensF P d2 fs (o + d.sz) good2) : OpensF P (Kd.pair d d2) (f :: fs) o (fun p => good p.1 ∧ good2 p.2) := by
  intro H enc w fuel cs xs hl hx ht hw
  have h0 := ht 0 f rfl
  match xs, hx with
  | x :: xs, hx =>
    rw [ho, hc] at h0
    have hl' : cs.length = o + (d.sz + d2.sz) := hl
    obtain ⟨a, ha, ga⟩ := h H enc w fuel _ x h0 (fun n hn => hw n (by simp [DataW.weightsEach, hn]))
    obtain ⟨b, hb, gb⟩ := h2 H enc w fuel cs xs (by omega) (by simpa using hx) (fun i f' hf => ht (i + 1) f' hf) (fun n hn => hw n (by simp [DataW.weightsEach, hn]))
    refine ⟨(a, b), ⟨(cs.drop o).take d.sz, cs.drop (o + d.sz), ?_, ha, hb⟩, ga, gb⟩
    rw [← List.drop_drop, List.take_append_drop]
theorem Opens.struct {α β : Type} {P : Program} {d : Kd α} {t : TypeId} {fs : Array Field} {good : α → Prop} {goodb : β → Prop} (f : β → α) (g : α → β) (hfg : ∀ a, f (g a) = a) (ht : P.underlying t = some (.struct fs)) (hc : P.cellsOf t = d.sz)
    (h : OpensF P d fs.toList 0 good) (hg : ∀ a, good a → goodb (g a)) : Opens P (Kd.iso d f) t goodb := by
  intro H enc w fuel cs x hx hw
  obtain ⟨xs, n, rfl, rfl, hl, hn, hr⟩ := DataW.trod_struct ht hx
  obtain ⟨a, ha, ga⟩ := h H enc w n cs xs (by omega) (by simpa using hn) (fun i f hf => hr i f (by simpa using hf)) (fun m hm => hw m (by simp only [DataW.weights, ht]; exact hm))
  refine ⟨g a, ?_, hg a ga⟩
  show d.K w (f (g a)) cs
  rw [hfg]
  simpa using ha

theorem weightsAll_mem {H : Type} {P : Program} {e : TypeId} {l : List (DataW H)} {d : DataW H} (hd : d ∈ l) {n : Nat} (hn : n ∈ d.weights P e) : n ∈ DataW.weightsAll P e l := by
  induction l with
  | nil => cases hd
  | cons a l ih =>
    simp only [DataW.weightsAll, List.mem_append]
    rcases List.mem_cons.1 hd with rfl | hd
    · exact .inl hn
    · exact .inr (ih hd)
/-- A slice: its elements' kind, and that each is good; its bytes within the bound. -/
theorem opens_slice {α : Type} {P : Program} {d : Kd α} {t e : TypeId} {good : α → Prop} (ht : P.underlying t = some (.slice e)) (hc : P.cellsOf e = d.sz) (h : Opens P d e good) [Inhabited α]
    {H : Type} {enc : TypeId × Value → H} {w : World} {fuel : Nat} {cs : List Value} {x : DataW H × List MemPlace} (hx : DataW.trod enc P w 0 (fun _ => true) true fuel t cs = some x) (hw : ∀ n ∈ x.1.weights P t, n ≤ reachBytes) :
    ∃ (A : Option Addr) (c : Nat) (l : List α), cs = [.slice A l.length c] ∧ l.length ≤ c ∧ d.C w A l.length l ∧ (∀ a ∈ l, good a) ∧ l.length * P.bytesOf e ≤ 140737488351232 := by
  rcases open_slice ht hx with ⟨rfl, rfl⟩ | ⟨a, len, cap, m, n, D, Pl, rfl, _, hl, hm, hmz, rfl, hel⟩
  · refine ⟨none, 0, [], rfl, Nat.le_refl _, ?_, ?_, ?_⟩
    · exact ⟨rfl, by simp, fun h => absurd h (by simp)⟩
    · intro a ha; cases ha
    · simp
  · simp only [if_true] at hmz
    subst hmz
    have hlen : (len + (m - len)) * P.bytesOf e ≤ 140737488351232 := by
      have := hw ((len + (m - len)) * P.bytesOf e) (by simp [DataW.weights, ht])
      exact this
    have each : ∀ i, i < len → ∃ y : α × List Value, w.cells? 0 (a.add (i * P.cellsOf e)) (P.cellsOf e) = some y.2 ∧ d.K w y.1 y.2 ∧ good y.1 := by
      intro i hi
      obtain ⟨cs', hc1, hc2⟩ := hel i (by omega)
      obtain ⟨b, hb, gb⟩ := h H enc w n cs' _ hc2 (fun q hq => hw q (by
        simp only [DataW.weights, ht, List.mem_cons, List.mem_append]
        exact .inr (.inl (weightsAll_mem (List.mem_map.2 ⟨i, by simpa using hi, rfl⟩) hq))))
      exact ⟨(b, cs'), hc1, hb, gb⟩
    obtain ⟨f, hf⟩ := choose_lt each
    refine ⟨some a, m, (List.range len).map fun i => (f i).1, ?_, by simpa using hl, ⟨by simp, by simp; have : maxLen = 9223372036854775807 := rfl; omega, fun _ => ⟨a, rfl, ?_⟩⟩, ?_, ?_⟩
    · simp
    · intro j p hj
      have hjl : j < len := by
        have := (List.getElem?_eq_some_iff.1 hj).1
        simpa using this
      obtain ⟨h1, h2, _⟩ := hf j hjl
      have hp : p = (f j).1 := by
        rw [List.getElem?_map, List.getElem?_range hjl] at hj
        simpa using hj.symm
      subst hp
      obtain ⟨_, hlc, hcell⟩ := World.cells?_some h1
      refine ⟨(f j).2, by omega, h2, fun i u hu => ?_⟩
      have hi : i < P.cellsOf e := by
        have := (List.getElem?_eq_some_iff.1 hu).1
        omega
      have := hcell i hi
      rw [hu] at this
      rw [← this, ← hc]
      congr 1
      unfold Addr.add
      by_cases z1 : j * P.cellsOf e = 0 <;> by_cases z2 : i = 0 <;> simp_all <;> omega
    · intro b hb
      obtain ⟨i, hi, rfl⟩ := List.mem_map.1 hb
      exact (hf i (by simpa using hi)).2.2
    · rw [List.length_map, List.length_range]
      exact Nat.le_trans (Nat.mul_le_mul_right _ (by omega)) hlen
theorem Opens.slice {α : Type} {P : Program} {d : Kd α} {t e : TypeId} {good : α → Prop} (ht : P.underlying t = some (.slice e)) (hc : P.cellsOf e = d.sz) (h : Opens P d e good) [Inhabited α] :
    Opens P (Kd.slice e d) t (fun l => (∀ a ∈ l, good a) ∧ l.length * P.bytesOf e ≤ 140737488351232) := by
  intro H enc w fuel cs x hx hw
  obtain ⟨A, c, l, rfl, hl, hC, hg, hb⟩ := opens_slice ht hc h hx hw
  exact ⟨l, ⟨A, c, rfl, hl, hC⟩, hg, hb⟩
theorem weights_each_le {H : Type} {P : Program} {ts : List TypeId} {ds : List (DataW H)} (h : (DataW.weightsEach P ts ds).all (· ≤ reachBytes) = true) {j : Nat} {t : TypeId} {d : DataW H} (ht : ts[j]? = some t) (hd : ds[j]? = some d) :
    ∀ n ∈ d.weights P t, n ≤ reachBytes := by
  intro n hn
  have := List.all_eq_true.1 h _ (DataW.weights_mem_each ht hd n hn)
  simpa using this
end Go.Proofs.YtomninikmcmmcaaDoorW.Op
