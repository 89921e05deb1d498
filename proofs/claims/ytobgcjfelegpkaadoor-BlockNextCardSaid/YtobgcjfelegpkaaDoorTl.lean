/- Texts of this session, put together: QTail, Made, Fresh, EqA. -/
import Derived.StillTail
import Derived.Deep.Quiet
import Derived.Below
import Derived.Deep.QuietTactic
import Derived.BigQuiet
import Derived.WalkKit
import Derived.Test.YtobgcjfelegpkaaDoorWMore
import Derived.Test.YtobgcjfelegpkaaDoorWEqStruct
import Derived.Test.YtobgcjfelegpkaaDoorProg
import Derived.KernelRfl
section
/- A drawn region whose head calls quietly (callees may draw) and whose forced tail writes: one walk of the lexical order serves every order. Own text, by the roads of Derived/StillTail.lean and Derived/Deep/Quiet.lean. -/
namespace Go.Proofs.YtobgcjfelegpkaaDoor.QTail
open Go
section
variable {P : Program} {ops : Array Oper} {md : Region.Mode} {C : World → Prop}

/-- Whatever order is picked: only operations of the head (numbers below n) come up, each quiet in the class; at the end L. -/
def headQ (P : Program) (md : Region.Mode) (ops : Array Oper) (C : World → Prop) (n : Nat) (L : Array Bool → Act → Prop) : Nat → Array Bool → Act → Prop
  | 0, li, a => L li a
  | f + 1, li, a => Region.ready md ops li ≠ [] ∧ ∀ i ∈ Region.ready md ops li, i < n ∧ qOp P ops C i (headQ P md ops C n L f (li.setIfInBounds i true)) a

theorem any_of_headQ {n g : Nat} {L : Array Bool → Act → Prop} {Q : Exit → Act → World → Prop} (hL : ∀ li a w, C w → L li a → wpAny P md ops Q g li a w) :
    ∀ (f : Nat) (li : Array Bool) (a : Act) (w : World), C w → headQ P md ops C n L f li a → wpAny P md ops Q (f + g) li a w
  | 0, _, _, _, hw, h => by rw [Nat.zero_add]; exact hL _ _ _ hw h
  | f + 1, _, _, _, hw, h => by
    have e : f + 1 + g = (f + g) + 1 := by omega
    rw [e]
    exact ⟨fun h0 => absurd h0 h.1, fun i hi => wpOp_of_qOp hw (fun a' w' hw' h' => any_of_headQ hL f _ a' w' hw' h') (h.2 i hi).2⟩

theorem headQ_take {n i : Nat} {oi : Oper} {v : Value} {L : Array Bool → Act → Prop} (hi : ops[i]? = some oi) (hsel : ∀ (j : Nat) (o : Oper) cs b, ops[j]? = some o → o.op ≠ .select cs b)
    (hs : Region.sinkB md ops n = true) (hc : Region.chainB md ops n = true) (hn : n < ops.size) (hin : i < n)
    (hend : ∀ li a, L li a → ∀ j ∈ Region.ready md ops li, n ≤ j) (f : Nat) :
    ∀ (li : Array Bool) (a : Act), HeadInv md ops n li →
      (∀ j oj, ops[j]? = some oj → j ≠ i → li.getD j true = false → (∀ e ∈ oj.after, Region.binds md e = true → e.on ≠ i) → oi.apart ops oj = true) →
      i ∈ Region.ready md ops li → YieldsIn P ops C oi v a →
      headQ P md ops C n L f (li.setIfInBounds i true) (a.put oi.dst v) → headQ P md ops C n L (f + 1) li a := by
  induction f with
  | zero =>
    intro li a inv _ hr hy H
    refine ⟨fun h => (by rw [h] at hr; cases hr), fun j hj => ?_⟩
    have hjn : j < n := Nat.lt_of_not_le fun h => tail_waits hs hc hn inv _ i rfl hin (mem_ready.1 hr).1 j h hj
    by_cases hji : j = i
    · subst hji; exact ⟨hjn, hy.qOp hi H⟩
    · have := hend _ _ H j (ready_mono hj hji)
      omega
  | succ f ih =>
    intro li a inv hfree hr hy H
    refine ⟨fun h => (by rw [h] at hr; cases hr), fun j hj => ?_⟩
    have hun := (mem_ready.1 hr).1
    have hjn : j < n := Nat.lt_of_not_le fun h => tail_waits hs hc hn inv _ i rfl hin hun j h hj
    refine ⟨hjn, ?_⟩
    by_cases hji : j = i
    · subst hji; exact hy.qOp hi H
    · obtain ⟨hjun, oj, hoj, hall⟩ := mem_ready.1 hj
      have hnot : ∀ e ∈ oj.after, Region.binds md e = true → e.on ≠ i := fun e he hb heq => by
        have h1 := hall e he hb
        rw [heq, getD_both hun] at h1
        cases h1
      refine qOp_mono (fun a' h3 => ih (li.setIfInBounds j true) a' (inv.set hj hjn) (fun k ok hk hki hkun hno => hfree k ok hk hki ?_ hno) (ready_mono hr (Ne.symm hji)) h3.1 ?_)
        (qOp_put hoj (hfree j oj hoj hji hjun hnot) (fun cs b => hsel i oi cs b hi) (fun cs b => hsel j oj cs b hoj) hy (H.2 j (ready_mono hj hji)).2)
      · by_cases hjk : j = k
        · subst hjk; exact hjun
        · rw [getD_set_ne true hjk] at hkun; exact hkun
      · rw [Array.setIfInBounds_comm _ _ hji]
        exact h3.2

theorem headQ_lex {n g : Nat} {Lq : Act → Prop} (hsel : Region.noSelect ops = true) (hs : Region.sinkB md ops n = true) (hc : Region.chainB md ops n = true) (hn : n < ops.size) :
    ∀ (l : List Oper) (k : Nat) (li : Array Bool) (a : Act), (∀ j, j < l.length → l[j]? = ops[k + j]?) → k + l.length = n → HeadInv md ops n li →
    Region.lexHead md ops g l.length k li = true → wpQuiet P ops C Lq l a →
    headQ P md ops C n (fun li' a' => Region.seqB md ops g n li' = true ∧ Lq a') l.length li a
  | [], k, li, a, _, hk, _, hB, h => by
    obtain rfl : k = n := by simpa using hk
    exact ⟨by simpa [Region.lexHead] using hB, h⟩
  | o :: l, k, li, a, hl, hk, inv, hB, h => by
    have h0 : ops[k]? = some o := by simpa using (hl 0 (by simp)).symm
    have hk' : k + 1 + l.length = n := by simp only [List.length_cons] at hk; omega
    simp only [List.length_cons, Region.lexHead, Bool.and_eq_true] at hB
    have hr : k ∈ Region.ready md ops li := by simpa using hB.1.1
    have hq : qOp P ops C k (wpQuiet P ops C Lq l) a := by unfold qOp; simp only [h0]; exact h
    obtain ⟨v, hy, hK⟩ := yieldsIn_of_qOp h0 hq
    exact headQ_take h0 (Region.noSelect_spec hsel) hs hc hn (by omega) (fun li' a' hL => seqB_ready hL.1) l.length li a inv (Region.free_spec h0 hB.1.2) hr hy
      (headQ_lex hsel hs hc hn l (k + 1) _ _ (fun j hj => by
        have e := hl (j + 1) (by simp; omega)
        have e2 : k + (j + 1) = k + 1 + j := by omega
        rw [e2] at e
        simpa using e) hk' (inv.set hr (by omega)) hB.2 hK)

/-- The head quiet (callees may draw), the tail as it comes, in whatever world of the class. -/
theorem region_quiet_tail {id : Nat} {Q : Exit → Act → World → Prop} {a : Act} {w : World} {l : List Oper} (n : Nat) (hm : P.follows .mixedOrders = true) (hB : Region.lexTailB .any l.toArray n = true)
    (h : wpQuiet P l.toArray (fun w' => ∃ m, w' = w.drewN m) (fun a' => ∀ w', (∃ m, w' = w.drewN m) → wpList P l.toArray Q (l.drop n) a' w') (l.take n) a) : (Code.region id l.toArray true).wp P Q a w := by
  simp only [Region.lexTailB, Bool.and_eq_true, decide_eq_true_eq] at hB
  obtain ⟨⟨⟨⟨hsel, hn⟩, hs⟩, hc⟩, hlex⟩ := hB
  have hn' : n < l.length := by simpa using hn
  have htl : (l.take n).length = n := by simp; omega
  have hdl : (l.drop n).length = l.toArray.size - n := by simp
  have inv0 : HeadInv .any l.toArray n (Array.replicate l.toArray.size false) :=
    ⟨by simp, fun j oj _ hl => (by rw [getD_replicate_false] at hl; cases hl), fun t _ ht => getD_in (by simpa using ht) (getD_replicate_false _ _)⟩
  have H := headQ_lex (md := .any) (g := l.toArray.size - n) hsel hs hc hn (l.take n) 0 _ a (fun j hj => by
    have hj' : j < n := by rw [htl] at hj; exact hj
    simp [hj']) (by rw [htl]; omega) inv0 (by rw [htl]; exact hlex) h
  refine wp_region_any hm ?_
  have R := any_of_headQ (Q := Q) (g := l.toArray.size - n) (fun li a' w' hw' hL => by
    have t := wpAny_of_seq (md := .any) (Q' := Q) (l.drop n) n li a' w' (fun j => by simp [List.getElem?_drop]) (by rw [hdl]; exact hL.1) (hL.2 w' hw')
    rwa [hdl] at t) _ _ _ { w with drawn := w.drawn + 1 } ⟨1, rfl⟩ H
  have e : n + (l.toArray.size - n) = l.toArray.size := by omega
  rw [htl, e] at R
  exact R
end
end Go.Proofs.YtobgcjfelegpkaaDoor.QTail
end
section
/- A drawn region whose callees make memory, but nothing that existed changes: one walk of the lexical order serves every order. Own text, by the roads of Derived/Deep/Quiet.lean (its theorem, at the class of the worlds that are as the first one below a block). -/
namespace Go.Proofs.YtobgcjfelegpkaaDoor.Made
open Go Go.RowKit
/-- A world that is as w was below block number N. -/
structure Later (N : Nat) (w : World) where
  world : World
  below : Below N w world
instance (N : Nat) (w : World) : Nonempty (Later N w) := ⟨⟨w, Below.refl _ _⟩⟩
section
variable {P : Program}
theorem region_made {id : Nat} {Q : Exit → Act → World → Prop} {a : Act} {w : World} {l : List Oper} (N : Nat) (hm : P.follows .mixedOrders = true) (hB : Region.lexB .any l.toArray = true)
    (h : wpQuiet P l.toArray (fun w' => ∃ z : Later N w, w' = z.world) (fun a' => ∀ w', (∃ z : Later N w, w' = z.world) → Q .normal a' w') l a) : (Code.region id l.toArray true).wp P Q a w :=
  wp_region_quiet (C := fun w' => ∃ z : Later N w, w' = z.world) hm hB ⟨⟨_, (Below.refl _ _).drew⟩, rfl⟩ (by simpa using h)

open QTail in
theorem region_made_tail {id : Nat} {Q : Exit → Act → World → Prop} {a : Act} {w : World} {l : List Oper} (N n : Nat) (hm : P.follows .mixedOrders = true) (hB : Region.lexTailB .any l.toArray n = true)
    (h : wpQuiet P l.toArray (fun w' => ∃ z : Later N w, w' = z.world) (fun a' => ∀ w', (∃ z : Later N w, w' = z.world) → wpList P l.toArray Q (l.drop n) a' w') (l.take n) a) : (Code.region id l.toArray true).wp P Q a w := by
  simp only [Region.lexTailB, Bool.and_eq_true, decide_eq_true_eq] at hB
  obtain ⟨⟨⟨⟨hsel, hn⟩, hs⟩, hc⟩, hlex⟩ := hB
  have hn' : n < l.length := by simpa using hn
  have htl : (l.take n).length = n := by simp; omega
  have hdl : (l.drop n).length = l.toArray.size - n := by simp
  have inv0 : HeadInv .any l.toArray n (Array.replicate l.toArray.size false) :=
    ⟨by simp, fun j oj _ hl => (by rw [getD_replicate_false] at hl; cases hl), fun t _ ht => getD_in (by simpa using ht) (getD_replicate_false _ _)⟩
  have H := headQ_lex (md := .any) (g := l.toArray.size - n) hsel hs hc hn (l.take n) 0 _ a (fun j hj => by
    have hj' : j < n := by rw [htl] at hj; exact hj
    simp [hj']) (by rw [htl]; omega) inv0 (by rw [htl]; exact hlex) h
  refine wp_region_any hm ?_
  have R := any_of_headQ (Q := Q) (g := l.toArray.size - n) (fun li a' w' hw' hL => by
    have t := wpAny_of_seq (md := .any) (Q' := Q) (l.drop n) n li a' w' (fun j => by simp [List.getElem?_drop]) (by rw [hdl]; exact hL.1) (hL.2 w' hw')
    rwa [hdl] at t) _ _ _ { w with drawn := w.drawn + 1 } ⟨⟨_, (Below.refl N _).drew⟩, rfl⟩ H
  have e : n + (l.toArray.size - n) = l.toArray.size := by omega
  rw [htl, e] at R
  exact R

/-- A callee that makes memory of its own, met in a later world. -/
theorem of_below {f : FuncId} {args : Array Value} {N : Nat} {w : World} {z : Later N w} {v : Value} (hN : N ≤ w.heap.size)
    (h : Calls P f args z.world fun e w' => e = .returned v ∧ Below z.world.heap.size z.world w') : Calls P f args z.world fun e w'' => e = .returned v ∧ ∃ z' : Later N w, w'' = z'.world :=
  h.mono fun _ w'' ⟨he, hb⟩ => ⟨he, ⟨w'', z.below.trans (hb.mono (Nat.le_trans hN z.below.size))⟩, rfl⟩
/-- A callee that only reads. -/
theorem of_drawn {f : FuncId} {args : Array Value} {N : Nat} {w : World} {z : Later N w} {v : Value}
    (h : Calls P f args z.world fun e w' => e = .returned v ∧ ∃ n, w' = z.world.drewN n) : Calls P f args z.world fun e w'' => e = .returned v ∧ ∃ z' : Later N w, w'' = z'.world :=
  h.mono fun _ w'' ⟨he, n, hw⟩ => ⟨he, ⟨w'', by rw [hw]; exact ⟨z.below.os, z.below.tape, z.below.output, z.below.size, z.below.block⟩⟩, rfl⟩
theorem of_same {f : FuncId} {args : Array Value} {N : Nat} {w : World} {z : Later N w} {v : Value}
    (h : Calls P f args z.world fun e w' => e = .returned v ∧ z.world = w') : Calls P f args z.world fun e w'' => e = .returned v ∧ ∃ z' : Later N w, w'' = z'.world :=
  h.mono fun _ w'' ⟨he, hw⟩ => ⟨he, ⟨w'', by rw [← hw]; exact z.below⟩, rfl⟩
end
theorem Later.cell {N : Nat} {w : World} {p : Addr} {v : Value} (h : w.cell? p = some v) (hN : p.block < N) : ∀ z : Later N w, z.world.cell? p = some v := fun z => (z.below.cell hN).trans h
theorem Later.blk {N : Nat} {w : World} {B : Nat} {o : Obj} (h : w.heap[B]? = some o) (hN : B < N) : ∀ z : Later N w, z.world.heap[B]? = some o := fun z => (z.below.block B hN).trans h
end Go.Proofs.YtobgcjfelegpkaaDoor.Made
end
section
/- A drawn region whose callees make memory and among whose operations there are variables that are made (allocs), in whatever order; its writes stand at its end: one walk of the lexical order serves every order, whatever blocks the variables get. Own text, by the roads of Derived/StillTail.lean and Derived/Deep/Quiet.lean. -/
namespace Go.Proofs.YtobgcjfelegpkaaDoor.Fresh
set_option linter.unusedVariables false
set_option linter.unusedSimpArgs false
open Go Go.RowKit Go.Proofs.YtobgcjfelegpkaaDoor.Made
section
variable {P : Program} {ops : Array Oper} {md : Region.Mode} {N : Nat} {w0 : World} {rl : List Nat} {obj : Nat → Obj}

/-- ONE VALUE, in every later world; a callee changes nothing of what stood when it was called. -/
def made (P : Program) (N : Nat) (w0 : World) (o : Oper) (a : Act) (K : Act → Prop) : Prop :=
  ∃ v, (∀ z : Later N w0, o.quietAt P a (fun w'' => Below z.world.heap.size z.world w'') z.world v) ∧ K (a.put o.dst v)
def mOp (P : Program) (ops : Array Oper) (N : Nat) (w0 : World) (rl : List Nat) (i : Nat) (K : Act → Prop) (a : Act) : Prop :=
  match ops[i]? with
  | none => K a
  | some o => if rl.contains i = true then K a else if Region.wanted o (yielded ops a.tmps) then made P N w0 o a K else K (a.put o.dst undef)
/-- The lexical walk of the head; the variables that are made are passed over. -/
def wpMade (P : Program) (ops : Array Oper) (N : Nat) (w0 : World) (rl : List Nat) (Q : Act → Prop) : Nat → List Oper → Act → Prop
  | _, [], a => Q a
  | k, o :: r, a => if rl.contains k = true then wpMade P ops N w0 rl Q (k + 1) r a else if Region.wanted o (yielded ops a.tmps) then made P N w0 o a (wpMade P ops N w0 rl Q (k + 1) r) else wpMade P ops N w0 rl Q (k + 1) r (a.put o.dst undef)
theorem wpMade_nil {Q : Act → Prop} {k : Nat} {a : Act} (h : Q a) : wpMade P ops N w0 rl Q k [] a := h
theorem wpMade_skip {Q : Act → Prop} {k : Nat} {a : Act} {o : Oper} {r : List Oper} (hk : rl.contains k = true) (h : wpMade P ops N w0 rl Q (k + 1) r a) : wpMade P ops N w0 rl Q k (o :: r) a := by
  unfold wpMade; rw [if_pos hk]; exact h
theorem wpMade_step {Q : Act → Prop} {k : Nat} {a : Act} {o : Oper} {r : List Oper} (hk : rl.contains k = false)
    (h : ∀ K : Act → Prop, (∀ a, wpMade P ops N w0 rl Q (k + 1) r a → K a) → if Region.wanted o (yielded ops a.tmps) then made P N w0 o a K else K (a.put o.dst undef)) : wpMade P ops N w0 rl Q k (o :: r) a := by
  unfold wpMade; rw [if_neg (by rw [hk]; decide)]; exact h _ (fun _ h => h)

theorem made_mono {o : Oper} {a : Act} {K K' : Act → Prop} (h : ∀ a, K a → K' a) (hh : made P N w0 o a K) : made P N w0 o a K' :=
  let ⟨v, h1, h2⟩ := hh
  ⟨v, h1, h _ h2⟩
theorem mOp_mono {i : Nat} {a : Act} {K K' : Act → Prop} (h : ∀ a, K a → K' a) (hh : mOp P ops N w0 rl i K a) : mOp P ops N w0 rl i K' a := by
  unfold mOp at *
  split
  · exact h _ (by simpa [*] using hh)
  · rename_i o ho
    simp only [ho] at hh
    split
    · rename_i hr; rw [if_pos hr] at hh; exact h _ hh
    · rename_i hr
      rw [if_neg hr] at hh
      split
      · rename_i hw; simp only [hw, if_true] at hh; exact made_mono h hh
      · rename_i hw; simp only [hw] at hh; exact h _ hh

/-- What operation number i leaves in the abstract frame. -/
def dstM (rl : List Nat) (i : Nat) (o : Oper) : Option Tmp := if rl.contains i = true then none else o.dst
def YieldsM (P : Program) (ops : Array Oper) (N : Nat) (w0 : World) (rl : List Nat) (i : Nat) (o : Oper) (v : Value) (a : Act) : Prop :=
  rl.contains i = true ∨
  (Region.wanted o (yielded ops a.tmps) = true ∧ ∀ z : Later N w0, o.quietAt P a (fun w'' => Below z.world.heap.size z.world w'') z.world v) ∨
  (Region.wanted o (yielded ops a.tmps) = false ∧ v = undef)
theorem put_none (a : Act) (v : Value) : a.put none v = a := rfl
theorem YieldsM.mOp {i : Nat} {o : Oper} {v : Value} {a : Act} (hi : ops[i]? = some o) (hy : YieldsM P ops N w0 rl i o v a) {K : Act → Prop} (h : K (a.put (dstM rl i o) v)) : mOp P ops N w0 rl i K a := by
  unfold Fresh.mOp
  simp only [hi]
  unfold dstM at h
  by_cases hr : rl.contains i = true
  · rw [if_pos hr] at h ⊢; exact h
  · rw [if_neg hr] at h ⊢
    rcases hy with hy | ⟨hw, hv⟩ | ⟨hw, rfl⟩
    · exact absurd hy hr
    · simp only [hw, if_true]; exact ⟨v, hv, h⟩
    · simp only [hw, Bool.false_eq_true, if_false]; exact h
theorem yieldsM_of_mOp {i : Nat} {o : Oper} {a : Act} {K : Act → Prop} (hi : ops[i]? = some o) (h : mOp P ops N w0 rl i K a) : ∃ v, YieldsM P ops N w0 rl i o v a ∧ K (a.put (dstM rl i o) v) := by
  unfold mOp at h
  simp only [hi] at h
  unfold dstM
  by_cases hr : rl.contains i = true
  · rw [if_pos hr] at h ⊢; exact ⟨undef, .inl hr, h⟩
  · rw [if_neg hr] at h ⊢
    by_cases hw : Region.wanted o (yielded ops a.tmps) = true
    · simp only [hw, if_true] at h
      obtain ⟨v, h1, h2⟩ := h
      exact ⟨v, .inr (.inl ⟨hw, h1⟩), h2⟩
    · simp only [hw] at h
      exact ⟨undef, .inr (.inr ⟨by simpa using hw, rfl⟩), h⟩
theorem dstM_cases (rl : List Nat) (i : Nat) (o : Oper) {d : Tmp} (h : dstM rl i o = some d) : o.dst = some d := by
  unfold dstM at h; split at h; · cases h
  · exact h
theorem mOp_put {i j : Nat} {oi oj : Oper} {v : Value} (hj : ops[j]? = some oj) (hap : oi.apart ops oj = true)
    (hsi : ∀ cs b, oi.op ≠ .select cs b) (hsj : ∀ cs b, oj.op ≠ .select cs b) {K : Act → Prop} {a : Act}
    (hy : YieldsM P ops N w0 rl i oi v a) (h : mOp P ops N w0 rl j K (a.put (dstM rl i oi) v)) :
    mOp P ops N w0 rl j (fun a' => YieldsM P ops N w0 rl i oi v a' ∧ K (a'.put (dstM rl i oi) v)) a := by
  obtain ⟨h1, h2, h3⟩ := Oper.apart_spec hap
  have keep : ∀ (a : Act), YieldsM P ops N w0 rl i oi v a → ∀ u, YieldsM P ops N w0 rl i oi v (a.put oj.dst u) := fun a hy u => by
    unfold YieldsM Oper.quietAt at *
    rw [execOp_put oi hsi a oj.dst u h3, wanted_put oi a oj.dst u h3]
    exact hy
  have e1 : ∀ d, dstM rl i oi = some d → d ∉ oj.looksAt ops := fun d hd => h1 d (dstM_cases rl i oi hd)
  have e2 : ∀ d, dstM rl i oi = some d → oj.dst ≠ some d := fun d hd => h2 d (dstM_cases rl i oi hd)
  unfold mOp at *
  simp only [hj] at *
  rw [wanted_put oj a _ v e1] at h
  split
  · rename_i hr; rw [if_pos hr] at h; exact ⟨hy, h⟩
  · rename_i hr
    rw [if_neg hr] at h
    split
    · rename_i hw
      simp only [hw, if_true] at h
      obtain ⟨u, hu, hn⟩ := h
      refine ⟨u, fun z => ?_, keep a hy u, by rw [← Act.put_comm a v u e2]; exact hn⟩
      have := hu z
      unfold Oper.quietAt at *
      rwa [execOp_put oj hsj a _ v e1] at this
    · rename_i hw
      simp only [hw] at h
      exact ⟨keep a hy _, by rw [← Act.put_comm a v undef e2]; exact h⟩

/-- Whatever order is picked: only operations of the head come up; at the end L. -/
def headM (P : Program) (md : Region.Mode) (ops : Array Oper) (N : Nat) (w0 : World) (rl : List Nat) (n : Nat) (L : Array Bool → Act → Prop) : Nat → Array Bool → Act → Prop
  | 0, li, a => L li a
  | f + 1, li, a => Region.ready md ops li ≠ [] ∧ ∀ i ∈ Region.ready md ops li, i < n ∧ mOp P ops N w0 rl i (headM P md ops N w0 rl n L f (li.setIfInBounds i true)) a

theorem headM_take {n i : Nat} {oi : Oper} {v : Value} {L : Array Bool → Act → Prop} (hi : ops[i]? = some oi) (hsel : ∀ (j : Nat) (o : Oper) cs b, ops[j]? = some o → o.op ≠ .select cs b)
    (hs : Region.sinkB md ops n = true) (hc : Region.chainB md ops n = true) (hn : n < ops.size) (hin : i < n)
    (hend : ∀ li a, L li a → ∀ j ∈ Region.ready md ops li, n ≤ j) (f : Nat) :
    ∀ (li : Array Bool) (a : Act), HeadInv md ops n li →
      (∀ j oj, ops[j]? = some oj → j ≠ i → li.getD j true = false → (∀ e ∈ oj.after, Region.binds md e = true → e.on ≠ i) → oi.apart ops oj = true) →
      i ∈ Region.ready md ops li → YieldsM P ops N w0 rl i oi v a →
      headM P md ops N w0 rl n L f (li.setIfInBounds i true) (a.put (dstM rl i oi) v) → headM P md ops N w0 rl n L (f + 1) li a := by
  induction f with
  | zero =>
    intro li a inv _ hr hy H
    refine ⟨fun h => (by rw [h] at hr; cases hr), fun j hj => ?_⟩
    have hjn : j < n := Nat.lt_of_not_le fun h => tail_waits hs hc hn inv _ i rfl hin (mem_ready.1 hr).1 j h hj
    by_cases hji : j = i
    · subst hji; exact ⟨hjn, hy.mOp hi H⟩
    · have := hend _ _ H j (ready_mono hj hji)
      omega
  | succ f ih =>
    intro li a inv hfree hr hy H
    refine ⟨fun h => (by rw [h] at hr; cases hr), fun j hj => ?_⟩
    have hun := (mem_ready.1 hr).1
    have hjn : j < n := Nat.lt_of_not_le fun h => tail_waits hs hc hn inv _ i rfl hin hun j h hj
    refine ⟨hjn, ?_⟩
    by_cases hji : j = i
    · subst hji; exact hy.mOp hi H
    · obtain ⟨hjun, oj, hoj, hall⟩ := mem_ready.1 hj
      have hnot : ∀ e ∈ oj.after, Region.binds md e = true → e.on ≠ i := fun e he hb heq => by
        have h1 := hall e he hb
        rw [heq, getD_both hun] at h1
        cases h1
      refine mOp_mono (fun a' h3 => ih (li.setIfInBounds j true) a' (inv.set hj hjn) (fun k ok hk hki hkun hno => hfree k ok hk hki ?_ hno) (ready_mono hr (Ne.symm hji)) h3.1 ?_)
        (mOp_put hoj (hfree j oj hoj hji hjun hnot) (fun cs b => hsel i oi cs b hi) (fun cs b => hsel j oj cs b hoj) hy (H.2 j (ready_mono hj hji)).2)
      · by_cases hjk : j = k
        · subst hjk; exact hjun
        · rw [getD_set_ne true hjk] at hkun; exact hkun
      · rw [Array.setIfInBounds_comm _ _ hji]
        exact h3.2

theorem headM_lex {n g : Nat} {Lq : Act → Prop} (hsel : Region.noSelect ops = true) (hs : Region.sinkB md ops n = true) (hc : Region.chainB md ops n = true) (hn : n < ops.size) :
    ∀ (l : List Oper) (k : Nat) (li : Array Bool) (a : Act), (∀ j, j < l.length → l[j]? = ops[k + j]?) → k + l.length = n → HeadInv md ops n li → (∀ j, j < k → li.getD j false = true) →
    Region.lexHead md ops g l.length k li = true → wpMade P ops N w0 rl Lq k l a →
    headM P md ops N w0 rl n (fun li' a' => Region.seqB md ops g n li' = true ∧ (∀ j, j < n → li'.getD j false = true) ∧ Lq a') l.length li a
  | [], k, li, a, _, hk, _, hl, hB, h => by
    obtain rfl : k = n := by simpa using hk
    exact ⟨by simpa [Region.lexHead] using hB, hl, h⟩
  | o :: l, k, li, a, hl, hk, inv, hset, hB, h => by
    have h0 : ops[k]? = some o := by simpa using (hl 0 (by simp)).symm
    have hk' : k + 1 + l.length = n := by simp only [List.length_cons] at hk; omega
    simp only [List.length_cons, Region.lexHead, Bool.and_eq_true] at hB
    have hr : k ∈ Region.ready md ops li := by simpa using hB.1.1
    have hq : mOp P ops N w0 rl k (wpMade P ops N w0 rl Lq (k + 1) l) a := by
      unfold mOp; simp only [h0]; unfold wpMade at h; exact h
    obtain ⟨v, hy, hK⟩ := yieldsM_of_mOp h0 hq
    have hks : k < li.size := by rw [inv.size]; omega
    exact headM_take h0 (Region.noSelect_spec hsel) hs hc hn (by omega) (fun li' a' hL => seqB_ready hL.1) l.length li a inv (Region.free_spec h0 hB.1.2) hr hy
      (headM_lex hsel hs hc hn l (k + 1) _ _ (fun j hj => by
        have e := hl (j + 1) (by simp; omega)
        have e2 : k + (j + 1) = k + 1 + j := by omega
        rw [e2] at e
        simpa using e) hk' (inv.set hr (by omega)) (fun j hj => by
        by_cases hjk : k = j
        · subst hjk
          simp [Array.getD_eq_getD_getElem?, hks]
        · exact getD_set_true (hset j (by omega))) hB.2 hK)

/-! ### What the variables get -/
/-- The frame with the variables that are made so far put in. -/
def putF (ops : Array Oper) (f : Nat → Option Nat) : List Nat → Act → Act
  | [], a => a
  | i :: r, a => putF ops f r (match f i, ops[i]? with | some A, some o => a.put o.dst (.pointer (some ⟨A, 0, none⟩)) | _, _ => a)
/-- Each has a block of its own, new, that holds what was made. -/
structure Got (N : Nat) (w0 : World) (rl : List Nat) (obj : Nat → Obj) (f : Nat → Option Nat) (w : World) : Prop where
  below : Below N w0 w
  big : N ≤ w.heap.size
  new : ∀ i ∈ rl, ∀ A, f i = some A → N ≤ A ∧ w.heap[A]? = some (obj i)
  ne : ∀ i ∈ rl, ∀ j ∈ rl, i ≠ j → ∀ A B, f i = some A → f j = some B → A ≠ B
theorem lt_of_heap {w : World} {A : Nat} {o : Obj} (h : w.heap[A]? = some o) : A < w.heap.size := (Array.getElem?_eq_some_iff.1 h).1
theorem Got.later {f : Nat → Option Nat} {w w' : World} (h : Got N w0 rl obj f w) (hb : Below w.heap.size w w') : Got N w0 rl obj f w' :=
  ⟨h.below.trans (hb.mono h.big), Nat.le_trans h.big hb.size, fun i hi A hA => ⟨(h.new i hi A hA).1, (hb.block A (lt_of_heap (h.new i hi A hA).2)).trans (h.new i hi A hA).2⟩, h.ne⟩
theorem Got.alloc {f : Nat → Option Nat} {w : World} (h : Got N w0 rl obj f w) {i : Nat} (hf : f i = none) : Got N w0 rl obj (fun j => if j = i then some w.heap.size else f j) (w.alloc (obj i)) := by
  have hb : Below w.heap.size w (w.alloc (obj i)) := (Below.refl _ _).alloc (Nat.le_refl _) _
  have h2 := h.later hb
  refine ⟨h2.below, h2.big, fun j hj A hA => ?_, fun j hj k hk hjk A B hA hB => ?_⟩
  · by_cases hji : j = i
    · subst hji
      rw [if_pos rfl] at hA
      obtain rfl := Option.some.inj hA
      exact ⟨h.big, heap_alloc_new w _⟩
    · rw [if_neg hji] at hA; exact h2.new j hj A hA
  · by_cases hji : j = i
    · subst hji
      rw [if_pos rfl] at hA
      rw [if_neg (Ne.symm hjk)] at hB
      obtain rfl := Option.some.inj hA
      have := lt_of_heap (h.new k hk B hB).2
      omega
    · rw [if_neg hji] at hA
      by_cases hki : k = i
      · subst hki
        rw [if_pos rfl] at hB
        obtain rfl := Option.some.inj hB
        have := lt_of_heap (h.new j hj A hA).2
        omega
      · rw [if_neg hki] at hB; exact h.ne j hj k hk hjk A B hA hB

/-- An operation apart from all variables that are made. -/
def apartAll (ops : Array Oper) (rl : List Nat) (j : Nat) : Bool := rl.all fun i => i == j || (match ops[i]?, ops[j]? with | some oi, some oj => oi.apart ops oj | _, _ => false)
theorem apartAll_spec {j : Nat} {oj : Oper} (h : apartAll ops rl j = true) (hj : ops[j]? = some oj) : ∀ i ∈ rl, i ≠ j → ∃ oi, ops[i]? = some oi ∧ oi.apart ops oj = true := by
  intro i hi hij
  have := List.all_eq_true.1 h i hi
  have hb : (i == j) = false := by simpa using hij
  rw [hb, hj] at this
  cases hoi : ops[i]? with
  | none => rw [hoi] at this; cases this
  | some oi => rw [hoi] at this; exact ⟨oi, rfl, by simpa using this⟩
theorem exec_putF {oj : Oper} (hs : ∀ cs b, oj.op ≠ .select cs b) (f : Nat → Option Nat) : ∀ (l : List Nat), (∀ i ∈ l, ∃ oi, ops[i]? = some oi ∧ oi.apart ops oj = true) → ∀ a : Act,
    execOp (putF ops f l a).eval oj = execOp a.eval oj ∧ Region.wanted oj (yielded ops (putF ops f l a).tmps) = Region.wanted oj (yielded ops a.tmps)
  | [], _, a => ⟨rfl, rfl⟩
  | i :: r, h, a => by
    obtain ⟨oi, hoi, hap⟩ := h i (by simp)
    obtain ⟨h1, _, _⟩ := Oper.apart_spec hap
    have ih := exec_putF hs f r (fun k hk => h k (by simp [hk]))
    unfold putF
    cases hf : f i with
    | none => exact ih _
    | some A =>
      simp only [hoi]
      rw [(ih _).1, (ih _).2, execOp_put oj hs a oi.dst _ h1, wanted_put oj a oi.dst _ h1]
      exact ⟨rfl, rfl⟩
theorem put_putF {d : Option Tmp} {v : Value} (f : Nat → Option Nat) : ∀ (l : List Nat), (∀ i ∈ l, ∃ oi, ops[i]? = some oi ∧ ∀ t, oi.dst = some t → d ≠ some t) → ∀ a : Act, (putF ops f l a).put d v = putF ops f l (a.put d v)
  | [], _, a => rfl
  | i :: r, h, a => by
    obtain ⟨oi, hoi, hd⟩ := h i (by simp)
    have ih := put_putF (d := d) (v := v) f r (fun k hk => h k (by simp [hk]))
    unfold putF
    cases hf : f i with
    | none => exact ih _
    | some A =>
      simp only [hoi]
      rw [ih, Act.put_comm a _ v hd]
theorem putF_set {i : Nat} {o : Oper} {A : Nat} (f : Nat → Option Nat) (hf : f i = none) (hi : ops[i]? = some o) : ∀ (l : List Nat), l.Nodup → (∀ k ∈ l, k ≠ i → ∃ ok, ops[k]? = some ok ∧ ∀ t, ok.dst = some t → o.dst ≠ some t) → ∀ a : Act,
    putF ops (fun j => if j = i then some A else f j) l a = if i ∈ l then (putF ops f l a).put o.dst (.pointer (some ⟨A, 0, none⟩)) else putF ops f l a
  | [], _, _, a => by simp [putF]
  | k :: r, hnd, h, a => by
    have hnd' := List.nodup_cons.1 hnd
    have ih := putF_set (A := A) f hf hi r hnd'.2 (fun q hq => h q (by simp [hq]))
    unfold putF
    by_cases hki : k = i
    · subst hki
      simp only [if_true, hi, hf, List.mem_cons, true_or]
      rw [ih, if_neg hnd'.1, put_putF f r]
      intro q hq
      exact h q (by simp [hq]) (fun e => hnd'.1 (e ▸ hq))
    · simp only [if_neg hki]
      rw [ih]
      by_cases hir : i ∈ r
      · rw [if_pos hir, if_pos (by simp [hir])]
      · rw [if_neg hir, if_neg (by simp [hir]; exact fun e => hki e.symm)]

theorem any_of_headM {n g : Nat} {L : Array Bool → Act → Prop} {Q : Exit → Act → World → Prop} (hnd : rl.Nodup) (hsel : ∀ (j : Nat) (o : Oper) cs b, ops[j]? = some o → o.op ≠ .select cs b)
    (hrl : ∀ i ∈ rl, ∀ (a : Act) (w : World) (K : Act → World → Prop), K (a.put ((ops[i]?).bind (·.dst)) (.pointer (some ⟨w.heap.size, 0, none⟩))) (w.alloc (obj i)) → wpOp P ops Q i K a w)
    (hap : ∀ j, j < n → apartAll ops rl j = true)
    (hL : ∀ li a f w, Got N w0 rl obj f w → (∀ i ∈ rl, li.getD i false = true → ∃ A, f i = some A) → L li a → wpAny P md ops Q g li (putF ops f rl a) w) :
    ∀ (fu : Nat) (li : Array Bool) (a : Act) (f : Nat → Option Nat) (w : World), li.size = ops.size → Got N w0 rl obj f w → (∀ i ∈ rl, li.getD i false = true → ∃ A, f i = some A) → (∀ i ∈ rl, li.getD i false = false → f i = none) →
      headM P md ops N w0 rl n L fu li a → wpAny P md ops Q (fu + g) li (putF ops f rl a) w
  | 0, li, a, f, w, _, hG, h1, _, h => by rw [Nat.zero_add]; exact hL _ _ _ _ hG h1 h
  | fu + 1, li, a, f, w, hsz, hG, h1, h2, h => by
    have e : fu + 1 + g = (fu + g) + 1 := by omega
    rw [e]
    refine ⟨fun h0 => absurd h0 h.1, fun i hi => ?_⟩
    obtain ⟨hin, hop⟩ := h.2 i hi
    obtain ⟨hun, oi, hoi, _⟩ := mem_ready.1 hi
    have hilt : i < li.size := by rw [hsz]; exact (Array.getElem?_eq_some_iff.1 hoi).1
    have hself : (li.setIfInBounds i true).getD i false = true := by simp [Array.getD_eq_getD_getElem?, hilt]
    have rc := any_of_headM hnd hsel hrl hap hL fu (li.setIfInBounds i true)
    have hapi := apartAll_spec (hap i hin) hoi
    by_cases hir : rl.contains i = true
    · have him : i ∈ rl := by simpa using hir
      have hfi : f i = none := h2 i him (getD_both hun)
      refine hrl i him _ _ _ ?_
      rw [hoi]
      unfold mOp at hop
      simp only [hoi, hir, if_true] at hop
      have hs := putF_set (A := w.heap.size) f hfi hoi rl hnd (fun k hk hki => by
        obtain ⟨ok, hok, hx⟩ := hapi k hk hki
        exact ⟨ok, hok, (Oper.apart_spec hx).2.1⟩) a
      rw [if_pos him] at hs
      show wpAny P md ops Q (fu + g) _ ((putF ops f rl a).put oi.dst _) _
      rw [← hs]
      refine rc a _ _ (by simpa using hsz) (hG.alloc hfi) (fun j hj hset => ?_) (fun j hj hset => ?_) hop
      · by_cases hji : j = i
        · exact ⟨_, if_pos hji⟩
        · rw [getD_set_ne false (Ne.symm hji)] at hset
          obtain ⟨A, hA⟩ := h1 j hj hset
          exact ⟨A, by show (if j = i then _ else f j) = _; rw [if_neg hji]; exact hA⟩
      · by_cases hji : j = i
        · subst hji; rw [hself] at hset; cases hset
        · rw [getD_set_ne false (Ne.symm hji)] at hset
          show (if j = i then _ else f j) = _
          rw [if_neg hji]; exact h2 j hj hset
    · have hnr : ∀ k ∈ rl, k ≠ i := fun k hk e => hir (by simpa [← e] using hk)
      have hx : ∀ k ∈ rl, ∃ ok, ops[k]? = some ok ∧ ok.apart ops oi = true := fun k hk => hapi k hk (hnr k hk)
      obtain ⟨ex, ew⟩ := exec_putF (hsel i oi · · hoi) f rl hx a
      have hp : ∀ v, (putF ops f rl a).put oi.dst v = putF ops f rl (a.put oi.dst v) := fun v => put_putF f rl (fun k hk => by
        obtain ⟨ok, hok, hy⟩ := hx k hk
        exact ⟨ok, hok, (Oper.apart_spec hy).2.1⟩) a
      have f1 : ∀ j ∈ rl, (li.setIfInBounds i true).getD j false = true → ∃ A, f j = some A := fun j hj hset => by
        rw [getD_set_ne false (Ne.symm (hnr j hj))] at hset; exact h1 j hj hset
      have f2 : ∀ j ∈ rl, (li.setIfInBounds i true).getD j false = false → f j = none := fun j hj hset => by
        rw [getD_set_ne false (Ne.symm (hnr j hj))] at hset; exact h2 j hj hset
      unfold mOp at hop
      simp only [hoi] at hop
      rw [if_neg hir] at hop
      unfold wpOp
      simp only [hoi]
      rw [ew]
      split
      · rename_i hw
        simp only [hw, if_true] at hop
        obtain ⟨v, hv, hK⟩ := hop
        refine .inl ?_
        have h3 := hv ⟨w, hG.below⟩
        unfold Oper.quietAt at h3
        unfold Oper.wp
        rw [ex]
        generalize (execOp a.eval oi).run P w = r at *
        cases r with
        | ok nx w' =>
          cases nx <;> simp only [Oper.quietUpon] at h3 <;> simp only [Oper.upon]
          case value u =>
            obtain ⟨e1, e2⟩ := h3
            rw [e1, e2, hp]
            exact rc _ _ _ (by simpa using hsz) hG f1 f2 hK
          case skip =>
            obtain ⟨e1, e2⟩ := h3
            rw [e1, ← e2, hp]
            exact rc _ _ _ (by simpa using hsz) hG f1 f2 hK
          case enter fn args =>
            obtain ⟨e1, hc⟩ := h3
            rw [e1]
            refine hc.mono fun e w'' ⟨he, hw''⟩ => ?_
            subst he
            show wpAny P md ops Q (fu + g) _ ((putF ops f rl a).put oi.dst _) _
            rw [hp]
            exact rc _ _ _ (by simpa using hsz) (hG.later hw'') f1 f2 hK
        | halt x w' => simp only [Oper.quietUpon] at h3
      · rename_i hw
        simp only [hw] at hop
        rw [hp]
        exact rc _ _ _ (by simpa using hsz) hG f1 f2 hop

/-- THE REGION: the head in whatever order, the variables rl among it; behind it the writes, with whatever blocks the variables got. -/
theorem region_fresh {id : Nat} {Q : Exit → Act → World → Prop} {a : Act} {w : World} {l : List Oper} (rl : List Nat) (obj : Nat → Obj) (n : Nat) (hm : P.follows .mixedOrders = true) (hB : Region.lexTailB .any l.toArray n = true)
    (hnd : rl.Nodup) (hap : (List.range n).all (apartAll l.toArray rl) = true) (hin : rl.all (decide <| · < n) = true)
    (hrl : ∀ i ∈ rl, ∀ (a : Act) (w : World) (K : Act → World → Prop), K (a.put ((l[i]?).bind (·.dst)) (.pointer (some ⟨w.heap.size, 0, none⟩))) (w.alloc (obj i)) → wpOp P l.toArray Q i K a w)
    (h : wpMade P l.toArray w.heap.size w rl (fun a' => ∀ f w', Got w.heap.size w rl obj f w' → (∀ i ∈ rl, ∃ A, f i = some A) → wpList P l.toArray Q (l.drop n) (putF l.toArray f rl a') w') 0 (l.take n) a) : (Code.region id l.toArray true).wp P Q a w := by
  simp only [Region.lexTailB, Bool.and_eq_true, decide_eq_true_eq] at hB
  obtain ⟨⟨⟨⟨hsel, hn⟩, hs⟩, hc⟩, hlex⟩ := hB
  have hn' : n < l.length := by simpa using hn
  have htl : (l.take n).length = n := by simp; omega
  have hdl : (l.drop n).length = l.toArray.size - n := by simp
  have inv0 : HeadInv .any l.toArray n (Array.replicate l.toArray.size false) :=
    ⟨by simp, fun j oj _ hl => (by rw [getD_replicate_false] at hl; cases hl), fun t _ ht => getD_in (by simpa using ht) (getD_replicate_false _ _)⟩
  have H := headM_lex (md := .any) (g := l.toArray.size - n) hsel hs hc hn (l.take n) 0 _ a (fun j hj => by
    have hj' : j < n := by rw [htl] at hj; exact hj
    simp [hj']) (by rw [htl]; omega) inv0 (fun j hj => absurd hj (Nat.not_lt_zero _)) (by rw [htl]; exact hlex) h
  refine wp_region_any hm ?_
  have hin' : ∀ i ∈ rl, i < n := fun i hi => by simpa using List.all_eq_true.1 hin i hi
  have R := any_of_headM (Q := Q) (g := l.toArray.size - n) (obj := obj) hnd (Region.noSelect_spec hsel) (fun i hi a w K hK => hrl i hi a w K (by simpa using hK)) (fun j hj => List.all_eq_true.1 hap j (by simpa using hj))
    (fun li a' f w' hG hset hL => by
      have t := wpAny_of_seq (md := .any) (Q' := Q) (l.drop n) n li (putF l.toArray f rl a') w' (fun j => by simp [List.getElem?_drop]) (by rw [hdl]; exact hL.1) (hL.2.2 f w' hG (fun i hi => hset i hi (hL.2.1 i (hin' i hi))))
      rwa [hdl] at t) _ _ _ (fun _ => none) { w with drawn := w.drawn + 1 } (by simp) ⟨(Below.refl _ _).drew, Nat.le_refl _, fun i _ A hA => (by cases hA), fun i _ j _ _ A B hA => (by cases hA)⟩ (fun i _ hl => by rw [getD_replicate_false] at hl; cases hl) (fun _ _ _ => rfl) H
  have e : n + (l.toArray.size - n) = l.toArray.size := by omega
  rw [htl, e] at R
  have e3 : ∀ (q : List Nat) (b : Act), putF l.toArray (fun _ => none) q b = b := by
    intro q
    induction q with
    | nil => intro b; rfl
    | cons i r ih => intro b; unfold putF; exact ih b
  rw [e3] at R
  exact R
end
end Go.Proofs.YtobgcjfelegpkaaDoor.Fresh
end
section
/- '==' between two arrays of eight 32-bit words. -/
namespace Go.Proofs.YtobgcjfelegpkaaDoor.EqA
open Go.RowKit Go.Proofs.YtobgcjfelegpkaaDoorW.PrintWords Go.Proofs.YtobgcjfelegpkaaDoorW.PrintLast Go.Proofs.YtobgcjfelegpkaaDoorW.PrintMore
set_option linter.unusedVariables false
set_option linter.unusedSimpArgs false
theorem eqSt (d : Nat) (w : World) (x0 y0 x1 y1 x2 y2 x3 y3 x4 y4 x5 y5 x6 y6 x7 y7 : Int) :
    (Op.equalIn (d + 2) 24 (.agg #[.int .u32 x0, .int .u32 x1, .int .u32 x2, .int .u32 x3, .int .u32 x4, .int .u32 x5, .int .u32 x6, .int .u32 x7]) (.agg #[.int .u32 y0, .int .u32 y1, .int .u32 y2, .int .u32 y3, .int .u32 y4, .int .u32 y5, .int .u32 y6, .int .u32 y7])).run Tryd.prog w = .ok (x0 == y0 && (x1 == y1 && (x2 == y2 && (x3 == y3 && (x4 == y4 && (x5 == y5 && (x6 == y6 && (x7 == y7)))))))) w := by
  rw [Op.equalIn]; go_simp; (simp only [show List.range' 0 8 = [0, 1, 2, 3, 4, 5, 6, 7] from rfl, List.forIn_cons, List.forIn_nil]); cases h0 : (x0 == y0); go_simp; go_simp; ((repeat' split) <;> simp [*])
theorem eqAr (d : Nat) (w : World) (x0 y0 x1 y1 x2 y2 x3 y3 x4 y4 x5 y5 x6 y6 x7 y7 : Int) :
    (Op.equalIn (d + 2) 23 (.agg #[.int .u32 x0, .int .u32 x1, .int .u32 x2, .int .u32 x3, .int .u32 x4, .int .u32 x5, .int .u32 x6, .int .u32 x7]) (.agg #[.int .u32 y0, .int .u32 y1, .int .u32 y2, .int .u32 y3, .int .u32 y4, .int .u32 y5, .int .u32 y6, .int .u32 y7])).run Tryd.prog w = .ok (x0 == y0 && (x1 == y1 && (x2 == y2 && (x3 == y3 && (x4 == y4 && (x5 == y5 && (x6 == y6 && (x7 == y7)))))))) w := by
  rw [Op.equalIn]; go_simp; (simp only [show List.range' 0 8 = [0, 1, 2, 3, 4, 5, 6, 7] from rfl, List.forIn_cons, List.forIn_nil]); cases h0 : (x0 == y0); go_simp; go_simp; ((repeat' split) <;> simp [*])
end Go.Proofs.YtobgcjfelegpkaaDoor.EqA
end
