/- Texts of this session, put together: Range, Round. -/
import Derived.RangeFuncNested
import Derived.RangeFuncBound
import Derived.RangeFuncCalls
import Derived.RangeFuncLeaves
import Derived.RangeFuncWrites
import Derived.Test.YtomninikmcmmcaaDoorRel
import Derived.OrdersIn
section
/- A range over a function whose iterator keeps one variable of its own in a box: the statement's law, by the roads of Derived/RangeFuncWrites.lean (its book-keeping of the loop's record and of the rounds' deferred calls), for an iterator that writes its own box and for a body that always goes on. -/
namespace Go.Proofs.YtomninikmcmmcaaDoor.Rng
open Go Go.RowKit
set_option linter.unusedVariables false
variable {F : Fence} {n : Nat} {P : Program}
/-- What a predicate on worlds bears: a store into the box, a draw. -/
structure Bears (Bc : Nat) (J : Nat → World → Prop) : Prop where
  set : ∀ i W v, J i W → J i (W.setCell ⟨Bc, 0, none⟩ v)
  drew : ∀ i W, J i W → J i W.drew
/-- The iterator: hands on the items 0 .. N - 1 in their order, its variable in block Bc. -/
def SeqB (F : Fence) (n : Nat) (P : Program) (g : Nat) (lb : Array Value) (Bc : Nat) (o : Obj) (item : Nat → Array Value) (N : Nat) : Prop :=
  ∀ (l : Nat) (J : Nat → World → Prop) (W : World), W.heap[Bc]? = some o → Bears Bc J →
    (∀ i W1, J i W1 → i < N → YieldAt F (n - 1) P l (item i) W1 fun e W' => e = .returned (.bool true) ∧ J (i + 1) W' ∧ W'.heap[Bc]? = W1.heap[Bc]?) →
    J 0 W → CallsIn F n P g (#[.func (.yield l) #[] #[]] ++ lb) W fun e W' => (∃ v, e = .returned v) ∧ J N W'
/-- What the caller's invariant bears: the law's own blocks, from B on. -/
structure BearsFrom (B Bc : Nat) (I : Nat → World → Prop) : Prop extends Bears Bc I where
  put : ∀ i W r o o', I i W → B ≤ r → W.heap[r]? = some o → o.isCells = false → I i (W.putObj r o')
  alloc : ∀ i W o, I i W → B ≤ W.heap.size → I i (W.alloc o)
def postB (B Bc : Nat) (I : Nat → World → Prop) (i : Nat) (W : World) : Exit → Act → World → Prop
  | .normal, _, W' => KeepsFrom B W W' ∧ W'.heap[Bc]? = W.heap[Bc]? ∧ I i W'
  | _, _, _ => False
theorem wpIn_rangeFunc_B {g : Operand} {ps : Array Tmp} {assign body : Code} {Q : Exit → Act → World → Prop} {a : Act} {w : World}
    (hro : F.round = none) (h1 : 1 ≤ n) {gf : Nat} {lb : Array Value} (hg : a.eval g = .func (.func gf) #[] lb) (hFg : F.fn gf) (eg : ∀ args w, (callFunc gf args).run P w = .ok (.enter gf args) w)
    {Bc : Nat} {o : Obj} {item : Nat → Array Value} {N : Nat} (hseq : SeqB F (n - 1) P gf lb Bc o item N) (hbc : w.heap[Bc]? = some o) (hps : ∀ i, (item i).size = ps.size)
    (I : Nat → World → Prop) (hI : BearsFrom w.heap.size Bc I) (h0 : I 0 w) (a₁ : Nat → Act)
    (hassign : ∀ (l i : Nat) (W : World) (K : Act → World → Prop), K (a₁ i) W →
      assign.wpIn (F.inRound l) (n - 1 - 1) P (Exit.then K (fun _ _ _ => False)) { tmps := (ps.zip (item i)).foldl (fun t (p, v) => t.setIfInBounds p v) a.tmps, defers := [] } W)
    (hbody : ∀ (l i : Nat) (W : World), I i W → i < N → body.wpIn (F.inRound l) (n - 1 - 1) P (postB w.heap.size Bc I (i + 1) W) (a₁ i) W)
    (hdone : ∀ (D : Nat) (W : World), w.heap.size ≤ D → I N W → W.heap[D]? = some (.deferred (some [])) → Q .normal { a with defers := { target := .collected D, args := #[] } :: a.defers } W) :
    (Code.rangeFunc g ps assign body).wpIn F n P Q a w := by
  refine wpIn_rangeFunc ?_
  intro fn hfn
  rw [hro]
  have hBc : Bc < w.heap.size := (Array.getElem?_eq_some_iff.1 hbc).1
  obtain ⟨rec, hrec⟩ : ∃ rec : LoopState → Option Code → Loop, rec = fun st pe => { state := st, pending := pe, fn, tmps := a.tmps, params := ps, assign, body, defers := w.heap.size } := ⟨_, rfl⟩
  obtain ⟨W1, hW1⟩ : ∃ W1, (w.alloc (.deferred (some []))).alloc (.loop (rec .ready none)) = W1 := ⟨_, rfl⟩
  have hL1 : W1.heap[w.heap.size + 1]? = some (.loop (rec .ready none)) := by
    rw [← hW1]; have := World.alloc_heap_new (w.alloc (.deferred (some []))) (.loop (rec .ready none)); rwa [World.size_alloc] at this
  have hK1 : W1.heap[w.heap.size]? = some (.deferred (some [])) := by
    rw [← hW1]; exact (Below.heap_alloc _ _ _ (by simp)).trans (World.alloc_heap_new w _)
  have hI1 : I 0 W1 := by rw [← hW1]; exact hI.alloc _ _ _ (hI.alloc _ _ _ h0 (Nat.le_refl _)) (by simp)
  have hb1 : W1.heap[Bc]? = some o := by
    rw [← hW1, Below.heap_alloc _ _ _ (by simp; omega), Below.heap_alloc _ _ _ hBc]; exact hbc
  refine ⟨w.heap.size + 1, [{ target := .collected w.heap.size, args := #[] }], W1, { target := .fn (.func gf) lb, args := #[.func (.yield (w.heap.size + 1)) #[] #[]] }, W1, gf,
    #[.func (.yield (w.heap.size + 1)) #[] #[]] ++ lb, W1, ?_, ?_, ?_, ?_, fun _ => h1, ?_⟩
  · rw [← hW1, hrec]; exact run_enterLoop_outer _ _ _ _ _
  · simp only [resolve, hg]
    simp [go_sem]
  · intro f' hf'; simp [Target.leads] at hf'; subst hf'; exact hFg
  · simp [invoke, go_sem, eg]
  · refine (hseq (w.heap.size + 1)
      (fun i W => I i W ∧ W.heap[w.heap.size + 1]? = some (.loop (rec .ready none)) ∧ W.heap[w.heap.size]? = some (.deferred (some [])))
      W1 hb1
      ⟨fun i W v hs => ⟨hI.set i W v hs.1, (Below.heap_setCell _ _ _ _ (by simp; omega)).trans hs.2.1, (Below.heap_setCell _ _ _ _ (by simp; omega)).trans hs.2.2⟩,
        fun i W hs => ⟨hI.drew i W hs.1, hs.2.1, hs.2.2⟩⟩
      ?_ ⟨hI1, hL1, hK1⟩).mono ?_
    · rintro i W ⟨hi, hl, hk⟩ hlen
      have hlt : w.heap.size + 1 < W.heap.size := (Array.getElem?_eq_some_iff.1 hl).1
      have hy := run_yield (P := P) (args := item i) hl (by rw [hrec]; exact hps i)
      rw [hrec] at hy
      refine ⟨fn, _, assign, body, hy, roundIn_of_wpIn hfn (hassign _ i W _ ⟨_, run_beginRound hl (by rw [hrec]), ?_⟩)⟩
      have hl2 : (W.putObj (w.heap.size + 1) (.loop { rec .ready none with state := .busy })).heap[w.heap.size + 1]? = some (.loop { rec .ready none with state := .busy }) := World.putObj_heap_same hlt
      have hk2 : (W.putObj (w.heap.size + 1) (.loop { rec .ready none with state := .busy })).heap[w.heap.size]? = some (.deferred (some [])) := (World.putObj_heap_other (by omega)).trans hk
      have hc2 : (W.putObj (w.heap.size + 1) (.loop { rec .ready none with state := .busy })).heap[Bc]? = W.heap[Bc]? := World.putObj_heap_other (by omega)
      refine wpIn_mono (hbody _ i _ (hI.put _ _ _ _ _ hi (by omega) hl rfl) hlen) ?_
      rintro e a3 W3 hp
      cases e with
      | normal =>
        obtain ⟨hk3, hkp3, hi3⟩ := hp
        have hl3 := hk3.same _ _ (by omega) hl2 rfl
        have hr := run_endRound (P := P) none hl3
        rw [hrec] at hr
        refine ⟨_, _, hr, rfl, ⟨hI.put _ _ _ _ _ hi3 (by omega) hl3 rfl, ?_, ?_⟩, ?_⟩
        · rw [hrec]
          exact World.putObj_heap_same (Array.getElem?_eq_some_iff.1 hl3).1
        · exact (World.putObj_heap_other (by omega)).trans (hk3.same _ _ (Nat.le_refl _) hk2 rfl)
        · exact (World.putObj_heap_other (by omega)).trans (hkp3.trans hc2)
      | ret => exact hp.elim
      | exit id => exact hp.elim
      | goto t => exact hp.elim
      | panic ch => exact hp.elim
      | outgrown => exact hp.elim
    · rintro e W2 ⟨⟨v, rfl⟩, hi, hl, hk⟩
      exact ⟨none, _, by have := run_endLoop (P := P) hl (by rw [hrec]; simp); rw [hrec] at this; exact this, hdone _ _ (Nat.le_refl _) (hI.put _ _ _ _ _ hi (by omega) hl rfl) ((World.putObj_heap_other (by omega)).trans hk)⟩
end Go.Proofs.YtomninikmcmmcaaDoor.Rng
end
section
/- A region met in the round of a range over a function: what is shown of it by the plain calculus (no fence) serves there. -/
namespace Go.Proofs.YtomninikmcmmcaaDoor.Rng
open Go Go.RowKit
set_option linter.unusedVariables false
section
variable {n l : Nat} {P : Program} {ops : Array Oper} {Q : Exit → Act → World → Prop}
theorem noDepth : (Fence.wide.inRound l).depth.isSome = true → 1 ≤ n := fun hx => by simp [Fence.wide, Fence.inRound] at hx
theorem operIn {o : Oper} {a : Act} {w : World} {K : Act → World → Prop} (hd : ∀ c, o.op ≠ .defer c) (h : o.wp P a w K Q) : o.wpIn (Fence.wide.inRound l) n P a w K Q := by
  refine ⟨fun _ _ => trivial, ?_⟩
  have e : o.semAt (Fence.wide.inRound l).round a.eval = execOp a.eval o := Oper.semAt_some l _ _ hd
  rw [e]
  unfold Oper.wp at h
  generalize (execOp a.eval o).run P w = r at *
  cases r with
  | ok x w' =>
    cases x <;> simp only [Oper.upon, Oper.uponIn] at h ⊢ <;>
      first
        | exact h
        | exact absurd h id
        | exact ⟨noDepth, CallsIn.inRound l (callsIn_wide.2 h)⟩
        | exact ⟨noDepth, fun c cs _ => let ⟨v, w', r, s⟩ := h c cs; ⟨v, w', r, stepsIn_wide.2 s⟩⟩
  | halt x w' => cases x <;> simp only [Oper.upon, Oper.uponIn] at h ⊢ <;> exact h
theorem anyIn {md : Region.Mode} (hd : ∀ (j : Nat) (o : Oper), ops[j]? = some o → ∀ c, o.op ≠ .defer c) (hl : ¬ LetsOut Q) : ∀ (fuel : Nat) (listed : Array Bool) (a : Act) (w : World), wpAny P md ops Q fuel listed a w → wpAnyIn (Fence.wide.inRound l) n P md ops Q fuel listed a w
  | 0, _, _, _, h => h
  | fuel + 1, listed, a, w, h => by
    refine ⟨h.1, fun i hi => ?_⟩
    have h1 := h.2 i hi
    unfold wpOp at h1
    unfold wpOpIn
    split
    · rename_i ho
      rw [ho] at h1
      exact anyIn hd hl fuel _ _ _ h1
    · rename_i o ho
      rw [ho] at h1
      simp only at h1
      split
      · rename_i hw
        rw [if_pos hw] at h1
        rcases h1 with h1 | h1
        · exact Oper.wpIn_mono (fun a w => anyIn hd hl fuel _ a w) (operIn (hd i o ho) h1)
        · exact absurd h1.2 hl
      · rename_i hw
        rw [if_neg hw] at h1
        exact ⟨fun _ _ => trivial, anyIn hd hl fuel _ _ _ h1⟩
def noDefer (ops : Array Oper) : Bool := ops.all fun o => match o.op with | .defer _ => false | _ => true
theorem noDefer_spec (h : noDefer ops = true) : ∀ (j : Nat) (o : Oper), ops[j]? = some o → ∀ c, o.op ≠ .defer c := fun j o ho c hc => by
  have h1 := Array.all_eq_true'.1 h o (Array.mem_of_getElem? ho)
  rw [hc] at h1
  cases h1
open Rel in
/-- THE REGION TOLD BY RELATIONS, IN A ROUND. -/
theorem region_rel_in {id : Nat} {a : Act} {w : World} {l' : List Oper} (rl : List Nat) (obj : Nat → Obj) (R : Nat → Value → World → Prop) (m : Nat) (Fl : List Nat) (hm : P.follows .mixedOrders = true) (hnd : noDefer l'.toArray = true) (hlo : ¬ LetsOut Q) (hB : relB l'.toArray m a.tmps.size Fl = true) (hFr : Fl.all (fun i => !rl.contains i) = true)
    (hQ : ∀ i ∈ Fl, ∀ v c a w, Q (.panic c) (a.put (dst l'.toArray i) v) w → Q (.panic c) a w)
    (hR : ∀ i v w w', R i v w → Below w.heap.size w w' → R i v w')
    (hrl : ∀ i ∈ rl, ∀ (a : Act) (w : World) (K : Act → World → Prop), K (a.put ((l'[i]?).bind (·.dst)) (.pointer (some ⟨w.heap.size, 0, none⟩))) (w.alloc (obj i)) → wpOp P l'.toArray Q i K a w)
    (hO : Obl P l'.toArray w.heap.size w rl obj R m Fl a 0 (l'.take m))
    (hA : After P l'.toArray w.heap.size w rl obj R m Q a (l'.drop m)) : (Code.region id l'.toArray true).wpIn (Fence.wide.inRound l) n P Q a w := by
  refine wpIn_region_any hm (anyIn (noDefer_spec hnd) hlo _ _ _ _ ?_)
  have hB' := hB
  simp only [relB, Bool.and_eq_true, decide_eq_true_eq, Bool.or_eq_true] at hB'
  have hn : m ≤ l'.length := by simpa using hB'.1.1.1.1.1.2
  have inv0 : HeadInv .any l'.toArray m (Array.replicate l'.toArray.size false) :=
    ⟨by simp, fun j oj _ hl => (by rw [getD_replicate_false] at hl; cases hl), fun t _ ht => getD_in (by simpa using ht) (getD_replicate_false _ _)⟩
  have I : Inv l'.toArray w.heap.size w rl obj R m (Array.replicate l'.toArray.size false) (fun _ => undef) { w with drawn := w.drawn + 1 } :=
    ⟨inv0, (Below.refl _ _).drew, Nat.le_refl _, fun i _ hl => (by rw [getD_replicate_false] at hl; cases hl), fun i _ j _ _ _ _ hl => (by rw [getD_replicate_false] at hl; cases hl)⟩
  have hc : cnt (Array.replicate l'.toArray.size false) m = m := by
    unfold cnt
    rw [List.filter_eq_self.2 (fun j _ => by rw [getD_replicate_false]; rfl)]
    simp
  have H := any_of_rel (P := P) (Q := Q) (tail := l'.drop m) hB hQ hR (fun i hi a w K hK => hrl i hi a w K (by simpa [dst] using hK)) (fun i hi => by simpa using List.all_eq_true.1 hFr i hi) (fun j o hj ho hr => by
    have := hO.get j o (by simpa [hj] using ho) (by simpa using hr)
    simpa using this) (fun j => by simp [List.getElem?_drop]) (by simp) hA m _ _ _ I hc
  have hf : (List.range m).filter (fun j => (Array.replicate l'.toArray.size false).getD j false) = [] := List.filter_eq_nil_iff.2 fun j _ => by rw [getD_replicate_false]; simp
  rw [hf] at H
  have e : m + (l'.toArray.size - m) = l'.toArray.size := by
    have : l'.toArray.size = l'.length := by simp
    omega
  rw [e] at H
  exact H
end
end Go.Proofs.YtomninikmcmmcaaDoor.Rng
end
