/- Texts of this session, put together: QTail, Made. -/
import Derived.StillTail
import Derived.Deep.Quiet
import Derived.Below
import Derived.Deep.QuietTactic
import Derived.BigQuiet
section
/- A drawn region whose head calls quietly (callees may draw) and whose forced tail writes: one walk of the lexical order serves every order. Own text, by the roads of Derived/StillTail.lean and Derived/Deep/Quiet.lean. -/
namespace Go.Proofs.YtomninikmcmmcaaDoor.QTail
open Go
section
variable {P : Program} {ops : Array Oper} {md : Region.Mode} {C : World → Prop}

/-- Whatever order is picked: only operations of the head (numbers below n) come up, each quiet in the class; at the end L. -/
def headQ (P : Program) (md : Region.Mode) (ops : Array Oper) (C : World → Prop) (n : Nat) (L : Array Bool → Act → Prop) : Nat → Array Bool → Act → Prop
  | 0, li, a => L li a
  | f + 1, li, a => Region.ready md ops li ≠ [] ∧ ∀ i ∈ Region.ready md ops li, i < n ∧ qOp P ops C i (headQ P md ops C n L f (li.setIfInBounds i true)) a

theorem any_of_headQ {n g : Nat} {L : Array Bool → Act → Prop} {Q : Exit → Act → World → Prop} (hL : ∀ li a w, C w → L li a → wpAny P md ops Q g li a w) :
    ∀ (f : Nat) (li : Array Bool) (a : Act) (w : World), C w → headQ P md ops C n L f li a → wpAny P md ops Q (f + g) li a w
  | 0, _, _, _, hw, h => by rw [Nat.zero_add]; exact hL _ _ _ hw h
  | f + 1, _, _, _, hw, h => by
    have e : f + 1 + g = (f + g) + 1 := by omega
    rw [e]
    exact ⟨fun h0 => absurd h0 h.1, fun i hi => wpOp_of_qOp hw (fun a' w' hw' h' => any_of_headQ hL f _ a' w' hw' h') (h.2 i hi).2⟩

theorem headQ_take {n i : Nat} {oi : Oper} {v : Value} {L : Array Bool → Act → Prop} (hi : ops[i]? = some oi) (hsel : ∀ (j : Nat) (o : Oper) cs b, ops[j]? = some o → o.op ≠ .select cs b)
    (hs : Region.sinkB md ops n = true) (hc : Region.chainB md ops n = true) (hn : n < ops.size) (hin : i < n)
    (hend : ∀ li a, L li a → ∀ j ∈ Region.ready md ops li, n ≤ j) (f : Nat) :
    ∀ (li : Array Bool) (a : Act), HeadInv md ops n li →
      (∀ j oj, ops[j]? = some oj → j ≠ i → li.getD j true = false → (∀ e ∈ oj.after, Region.binds md e = true → e.on ≠ i) → oi.apart ops oj = true) →
      i ∈ Region.ready md ops li → YieldsIn P ops C oi v a →
      headQ P md ops C n L f (li.setIfInBounds i true) (a.put oi.dst v) → headQ P md ops C n L (f + 1) li a := by
  induction f with
  | zero =>
    intro li a inv _ hr hy H
    refine ⟨fun h => (by rw [h] at hr; cases hr), fun j hj => ?_⟩
    have hjn : j < n := Nat.lt_of_not_le fun h => tail_waits hs hc hn inv _ i rfl hin (mem_ready.1 hr).1 j h hj
    by_cases hji : j = i
    · subst hji; exact ⟨hjn, hy.qOp hi H⟩
    · have := hend _ _ H j (ready_mono hj hji)
      omega
  | succ f ih =>
    intro li a inv hfree hr hy H
    refine ⟨fun h => (by rw [h] at hr; cases hr), fun j hj => ?_⟩
    have hun := (mem_ready.1 hr).1
    have hjn : j < n := Nat.lt_of_not_le fun h => tail_waits hs hc hn inv _ i rfl hin hun j h hj
    refine ⟨hjn, ?_⟩
    by_cases hji : j = i
    · subst hji; exact hy.qOp hi H
    · obtain ⟨hjun, oj, hoj, hall⟩ := mem_ready.1 hj
      have hnot : ∀ e ∈ oj.after, Region.binds md e = true → e.on ≠ i := fun e he hb heq => by
        have h1 := hall e he hb
        rw [heq, getD_both hun] at h1
        cases h1
      refine qOp_mono (fun a' h3 => ih (li.setIfInBounds j true) a' (inv.set hj hjn) (fun k ok hk hki hkun hno => hfree k ok hk hki ?_ hno) (ready_mono hr (Ne.symm hji)) h3.1 ?_)
        (qOp_put hoj (hfree j oj hoj hji hjun hnot) (fun cs b => hsel i oi cs b hi) (fun cs b => hsel j oj cs b hoj) hy (H.2 j (ready_mono hj hji)).2)
      · by_cases hjk : j = k
        · subst hjk; exact hjun
        · rw [getD_set_ne true hjk] at hkun; exact hkun
      · rw [Array.setIfInBounds_comm _ _ hji]
        exact h3.2

theorem headQ_lex {n g : Nat} {Lq : Act → Prop} (hsel : Region.noSelect ops = true) (hs : Region.sinkB md ops n = true) (hc : Region.chainB md ops n = true) (hn : n < ops.size) :
    ∀ (l : List Oper) (k : Nat) (li : Array Bool) (a : Act), (∀ j, j < l.length → l[j]? = ops[k + j]?) → k + l.length = n → HeadInv md ops n li →
    Region.lexHead md ops g l.length k li = true → wpQuiet P ops C Lq l a →
    headQ P md ops C n (fun li' a' => Region.seqB md ops g n li' = true ∧ Lq a') l.length li a
  | [], k, li, a, _, hk, _, hB, h => by
    obtain rfl : k = n := by simpa using hk
    exact ⟨by simpa [Region.lexHead] using hB, h⟩
  | o :: l, k, li, a, hl, hk, inv, hB, h => by
    have h0 : ops[k]? = some o := by simpa using (hl 0 (by simp)).symm
    have hk' : k + 1 + l.length = n := by simp only [List.length_cons] at hk; omega
    simp only [List.length_cons, Region.lexHead, Bool.and_eq_true] at hB
    have hr : k ∈ Region.ready md ops li := by simpa using hB.1.1
    have hq : qOp P ops C k (wpQuiet P ops C Lq l) a := by unfold qOp; simp only [h0]; exact h
    obtain ⟨v, hy, hK⟩ := yieldsIn_of_qOp h0 hq
    exact headQ_take h0 (Region.noSelect_spec hsel) hs hc hn (by omega) (fun li' a' hL => seqB_ready hL.1) l.length li a inv (Region.free_spec h0 hB.1.2) hr hy
      (headQ_lex hsel hs hc hn l (k + 1) _ _ (fun j hj => by
        have e := hl (j + 1) (by simp; omega)
        have e2 : k + (j + 1) = k + 1 + j := by omega
        rw [e2] at e
        simpa using e) hk' (inv.set hr (by omega)) hB.2 hK)

end
end Go.Proofs.YtomninikmcmmcaaDoor.QTail
end
section
/- A drawn region whose callees make memory, but nothing that existed changes: one walk of the lexical order serves every order. Own text, by the roads of Derived/Deep/Quiet.lean (its theorem, at the class of the worlds that are as the first one below a block). -/
namespace Go.Proofs.YtomninikmcmmcaaDoor.Made
open Go Go.RowKit
/-- A world that is as w was below block number N. -/
structure Later (N : Nat) (w : World) where
  world : World
  below : Below N w world
instance (N : Nat) (w : World) : Nonempty (Later N w) := ⟨⟨w, Below.refl _ _⟩⟩
section
variable {P : Program}
open QTail in
theorem region_made_tail {id : Nat} {Q : Exit → Act → World → Prop} {a : Act} {w : World} {l : List Oper} (N n : Nat) (hm : P.follows .mixedOrders = true) (hB : Region.lexTailB .any l.toArray n = true)
    (h : wpQuiet P l.toArray (fun w' => ∃ z : Later N w, w' = z.world) (fun a' => ∀ w', (∃ z : Later N w, w' = z.world) → wpList P l.toArray Q (l.drop n) a' w') (l.take n) a) : (Code.region id l.toArray true).wp P Q a w := by
  simp only [Region.lexTailB, Bool.and_eq_true, decide_eq_true_eq] at hB
  obtain ⟨⟨⟨⟨hsel, hn⟩, hs⟩, hc⟩, hlex⟩ := hB
  have hn' : n < l.length := by simpa using hn
  have htl : (l.take n).length = n := by simp; omega
  have hdl : (l.drop n).length = l.toArray.size - n := by simp
  have inv0 : HeadInv .any l.toArray n (Array.replicate l.toArray.size false) :=
    ⟨by simp, fun j oj _ hl => (by rw [getD_replicate_false] at hl; cases hl), fun t _ ht => getD_in (by simpa using ht) (getD_replicate_false _ _)⟩
  have H := headQ_lex (md := .any) (g := l.toArray.size - n) hsel hs hc hn (l.take n) 0 _ a (fun j hj => by
    have hj' : j < n := by rw [htl] at hj; exact hj
    simp [hj']) (by rw [htl]; omega) inv0 (by rw [htl]; exact hlex) h
  refine wp_region_any hm ?_
  have R := any_of_headQ (Q := Q) (g := l.toArray.size - n) (fun li a' w' hw' hL => by
    have t := wpAny_of_seq (md := .any) (Q' := Q) (l.drop n) n li a' w' (fun j => by simp [List.getElem?_drop]) (by rw [hdl]; exact hL.1) (hL.2 w' hw')
    rwa [hdl] at t) _ _ _ { w with drawn := w.drawn + 1 } ⟨⟨_, (Below.refl N _).drew⟩, rfl⟩ H
  have e : n + (l.toArray.size - n) = l.toArray.size := by omega
  rw [htl, e] at R
  exact R

/-- A callee that makes memory of its own, met in a later world. -/
theorem of_below {f : FuncId} {args : Array Value} {N : Nat} {w : World} {z : Later N w} {v : Value} (hN : N ≤ w.heap.size)
    (h : Calls P f args z.world fun e w' => e = .returned v ∧ Below z.world.heap.size z.world w') : Calls P f args z.world fun e w'' => e = .returned v ∧ ∃ z' : Later N w, w'' = z'.world :=
  h.mono fun _ w'' ⟨he, hb⟩ => ⟨he, ⟨w'', z.below.trans (hb.mono (Nat.le_trans hN z.below.size))⟩, rfl⟩
/-- A callee that only reads. -/
theorem of_drawn {f : FuncId} {args : Array Value} {N : Nat} {w : World} {z : Later N w} {v : Value}
    (h : Calls P f args z.world fun e w' => e = .returned v ∧ ∃ n, w' = z.world.drewN n) : Calls P f args z.world fun e w'' => e = .returned v ∧ ∃ z' : Later N w, w'' = z'.world :=
  h.mono fun _ w'' ⟨he, n, hw⟩ => ⟨he, ⟨w'', by rw [hw]; exact ⟨z.below.os, z.below.tape, z.below.output, z.below.size, z.below.block⟩⟩, rfl⟩
end
theorem Later.cell {N : Nat} {w : World} {p : Addr} {v : Value} (h : w.cell? p = some v) (hN : p.block < N) : ∀ z : Later N w, z.world.cell? p = some v := fun z => (z.below.cell hN).trans h
theorem Later.blk {N : Nat} {w : World} {B : Nat} {o : Obj} (h : w.heap[B]? = some o) (hN : B < N) : ∀ z : Later N w, z.world.heap[B]? = some o := fun z => (z.below.block B hN).trans h
end Go.Proofs.YtomninikmcmmcaaDoor.Made
end
