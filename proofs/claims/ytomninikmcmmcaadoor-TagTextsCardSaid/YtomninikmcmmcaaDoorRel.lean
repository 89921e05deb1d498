/- A drawn region told by relations: each operation of its head gives a value of which something is known that lasts (a new block, a table's slice, a callee's answer); the writes stand at its end. Each operation is shown once, with what it looks at alone; every order follows. Own text, by the roads of Derived/StillTail.lean. -/
import Derived.StillTail
import Derived.Deep.Quiet
import Derived.WalkKit
namespace Go.Proofs.YtomninikmcmmcaaDoor.Rel
set_option linter.unusedVariables false
set_option linter.unusedSimpArgs false
open Go Go.RowKit
section
variable {P : Program} {ops : Array Oper} {N : Nat} {w0 : World}

def dst (ops : Array Oper) (i : Nat) : Option Tmp := (ops[i]?).bind (·.dst)
/-- The frame with values put at the destinations of some operations. -/
def putL (ops : Array Oper) (vals : Nat → Value) : List Nat → Act → Act
  | [], a => a
  | i :: r, a => putL ops vals r (a.put (dst ops i) (vals i))
theorem putL_defers (vals : Nat → Value) : ∀ (l : List Nat) (a : Act), (putL ops vals l a).defers = a.defers
  | [], _ => rfl
  | i :: r, a => by
    unfold putL
    rw [putL_defers vals r]
    cases dst ops i <;> rfl
theorem putL_size (vals : Nat → Value) : ∀ (l : List Nat) (a : Act), (putL ops vals l a).tmps.size = a.tmps.size
  | [], _ => rfl
  | i :: r, a => by
    unfold putL
    rw [putL_size vals r]
    cases dst ops i <;> simp [Act.put]
theorem put_putL {d : Option Tmp} {v : Value} (vals : Nat → Value) : ∀ (l : List Nat), (∀ i ∈ l, ∀ t, dst ops i = some t → d ≠ some t) → ∀ a : Act, (putL ops vals l a).put d v = putL ops vals l (a.put d v)
  | [], _, a => rfl
  | i :: r, h, a => by
    unfold putL
    rw [put_putL vals r (fun k hk => h k (by simp [hk])), Act.put_comm a _ v (h i (by simp))]
def Apart (ops : Array Oper) (l : List Nat) : Prop := l.Pairwise fun i j => ∀ t, dst ops i = some t → dst ops j ≠ some t
theorem Apart.sym {l : List Nat} {i : Nat} (h : Apart ops (i :: l)) : ∀ j ∈ l, ∀ t, dst ops j = some t → dst ops i ≠ some t := fun j hj t h1 h2 => (List.pairwise_cons.1 h).1 j hj t h2 h1
theorem exec_putL {oj : Oper} (hs : ∀ cs b, oj.op ≠ .select cs b) (vals : Nat → Value) (p : Nat → Bool) : ∀ (l : List Nat), Apart ops l → (∀ i ∈ l, p i = false → ∀ d, dst ops i = some d → d ∉ oj.looksAt ops) → ∀ a : Act,
    execOp (putL ops vals l a).eval oj = execOp (putL ops vals (l.filter p) a).eval oj ∧ Region.wanted oj (yielded ops (putL ops vals l a).tmps) = Region.wanted oj (yielded ops (putL ops vals (l.filter p) a).tmps)
  | [], _, _, a => ⟨rfl, rfl⟩
  | i :: r, hA, h, a => by
    have ih := exec_putL hs vals p r (List.pairwise_cons.1 hA).2 (fun k hk => h k (by simp [hk])) (a.put (dst ops i) (vals i))
    unfold putL
    cases hp : p i with
    | true => rw [List.filter_cons_of_pos hp]; exact ih
    | false =>
      have hx := h i (by simp) hp
      rw [List.filter_cons_of_neg (by simp [hp])]
      have e := put_putL (v := vals i) vals (r.filter p) (fun k hk => hA.sym k (List.mem_filter.1 hk).1) a
      rw [ih.1, ih.2, ← e]
      refine ⟨?_, ?_⟩
      · rw [execOp_put oj hs _ _ _ hx]; cases r.filter p <;> rfl
      · rw [wanted_put oj _ _ _ hx]; cases r.filter p <;> rfl
def upd (vals : Nat → Value) (i : Nat) (v : Value) : Nat → Value := fun j => if j = i then v else vals j
theorem putL_set {i : Nat} {v : Value} (vals : Nat → Value) (p p' : Nat → Bool) (hp : ∀ j, j ≠ i → p' j = p j) (hi : p i = false) (hi' : p' i = true) : ∀ (l : List Nat), l.Nodup → Apart ops l → ∀ a : Act,
    putL ops (upd vals i v) (l.filter p') a = if i ∈ l then (putL ops vals (l.filter p) a).put (dst ops i) v else putL ops vals (l.filter p) a
  | [], _, _, a => by simp [putL]
  | k :: r, hnd, hA, a => by
    have hnd' := List.nodup_cons.1 hnd
    have hA' := (List.pairwise_cons.1 hA).2
    by_cases hki : k = i
    · subst hki
      rw [List.filter_cons_of_pos hi', List.filter_cons_of_neg (by simp [hi]), if_pos (by simp)]
      show putL ops (upd vals k v) _ (a.put (dst ops k) (upd vals k v k)) = _
      rw [putL_set vals p p' hp hi hi' r hnd'.2 hA', if_neg hnd'.1, put_putL vals _ (fun q hq => hA.sym q (List.mem_filter.1 hq).1)]
      simp [upd]
    · have hm : (i ∈ k :: r) ↔ i ∈ r := by simp [Ne.symm hki]
      cases hpk : p k with
      | true =>
        rw [List.filter_cons_of_pos (by rw [hp k hki]; exact hpk), List.filter_cons_of_pos hpk]
        show putL ops (upd vals i v) _ (a.put (dst ops k) (upd vals i v k)) = if i ∈ k :: r then (putL ops vals _ (a.put (dst ops k) (vals k))).put (dst ops i) v else putL ops vals _ (a.put (dst ops k) (vals k))
        rw [putL_set vals p p' hp hi hi' r hnd'.2 hA']
        have e : upd vals i v k = vals k := by simp [upd, hki]
        rw [e]
        by_cases hir : i ∈ r
        · rw [if_pos hir, if_pos (hm.2 hir)]
        · rw [if_neg hir, if_neg (fun h => hir (hm.1 h))]
      | false =>
        rw [List.filter_cons_of_neg (by rw [hp k hki, hpk]; simp), List.filter_cons_of_neg (by simp [hpk]), putL_set vals p p' hp hi hi' r hnd'.2 hA']
        by_cases hir : i ∈ r
        · rw [if_pos hir, if_pos (hm.2 hir)]
        · rw [if_neg hir, if_neg (fun h => hir (hm.1 h))]
/-! ### What is checked of the region's shape -/
def depB (ops : Array Oper) (oj : Oper) (i : Nat) : Bool := match dst ops i with | some d => (oj.looksAt ops).contains d | none => false
def deps (ops : Array Oper) (n j : Nat) : List Nat := match ops[j]? with | some oj => (List.range n).filter (depB ops oj) | none => []
def apartB (ops : Array Oper) : List Nat → Bool
  | [] => true
  | i :: r => (match dst ops i with | some d => r.all (fun j => dst ops j != some d) | none => true) && apartB ops r
theorem apartB_spec : ∀ {l : List Nat}, apartB ops l = true → Apart ops l
  | [], _ => List.Pairwise.nil
  | i :: r, h => by
    unfold apartB at h
    simp only [Bool.and_eq_true] at h
    refine List.pairwise_cons.2 ⟨fun j hj t ht => ?_, apartB_spec h.2⟩
    have h1 := h.1
    rw [ht] at h1
    simpa using List.all_eq_true.1 h1 j hj
/-- Operations of F (each gives its value in every world) may come up late, among the writes. -/
def sinkF (ops : Array Oper) (n : Nat) (F : List Nat) : Bool :=
  (List.range n).all fun i => F.contains i || (List.range (n + 1)).any fun j => decide (i < j) && !F.contains j && Region.waitsFor .any ops j i
def freeF (ops : Array Oper) (i : Nat) : Bool := match ops[i]? with
  | some oi => (List.range ops.size).all fun j => match ops[j]? with
    | some oj => (j == i) || oj.after.any (fun e => Region.binds .any e && e.on == i) || oi.apart ops oj || oi.after.any (fun e => Region.binds .any e && e.on == j)
    | none => true
  | none => false
theorem waits_tail {n : Nat} {F : List Nat} {listed : Array Bool} (hF : ∀ i ∈ F, i < n) (hs : sinkF ops n F = true) (hc : Region.chainB .any ops n = true) (hn : n < ops.size) (inv : HeadInv .any ops n listed) :
    ∀ (d i : Nat), n - i = d → i < n → F.contains i = false → listed.getD i true = false → ∀ t, n ≤ t → t ∉ Region.ready .any ops listed := by
  intro d
  induction d using Nat.strongRecOn with
  | _ d ih =>
    intro i hd hi hiF hun t ht hr
    obtain ⟨_, ot, hot, hall⟩ := mem_ready.1 hr
    have htlt : t < ops.size := (Array.getElem?_eq_some_iff.1 hot).1
    by_cases htn : t = n
    · subst htn
      have h1 := List.all_eq_true.1 hs i (List.mem_range.2 hi)
      rw [hiF, Bool.false_or] at h1
      obtain ⟨j, hj, hj2⟩ := List.any_eq_true.1 h1
      simp only [Bool.and_eq_true, decide_eq_true_eq, Bool.not_eq_true'] at hj2
      obtain ⟨oj, hoj, e, he, hb, hon⟩ := Region.waitsFor_spec hj2.2
      have hjle : j ≤ t := by have := List.mem_range.1 hj; omega
      by_cases hjt : j = t
      · subst hjt
        have : oj = ot := Option.some.inj (hoj.symm.trans hot)
        subst this
        have h2 := hall e he hb
        rw [hon, getD_both hun] at h2
        cases h2
      · cases hl : listed.getD j false with
        | true =>
          have h2 := inv.closed j oj hoj hl e he hb
          rw [hon, getD_both hun] at h2
          cases h2
        | false =>
          have hjs : j < listed.size := by rw [inv.size]; omega
          exact ih (t - j) (by omega) j rfl (by omega) hj2.1.2 (getD_in hjs hl) t (Nat.le_refl _) hr
    · have h1 := List.all_eq_true.1 hc t (List.mem_range.2 htlt)
      simp only [Bool.or_eq_true, decide_eq_true_eq] at h1
      rcases h1 with h1 | h1
      · omega
      · obtain ⟨o', ho', e, he, hb, hon⟩ := Region.waitsFor_spec h1
        have : o' = ot := Option.some.inj (ho'.symm.trans hot)
        subst this
        have h2 := hall e he hb
        have h3 := getD_both (inv.tail (t - 1) (by omega) (by omega))
        rw [hon, h3] at h2
        cases h2
def relB (ops : Array Oper) (n m : Nat) (F : List Nat) : Bool :=
  Region.noSelect ops && decide (n ≤ ops.size) && (decide (n = ops.size) || sinkF ops n F && Region.chainB .any ops n) && F.all (fun i => decide (i < n) && freeF ops i) &&
  apartB ops (List.range n) &&
  (List.range n).all (fun j => match ops[j]? with
    | some oj => (List.range n).all (fun i => !depB ops oj i || oj.after.any (fun e => Region.binds .any e && e.on == i)) && oj.after.all (fun e => !Region.binds .any e || decide (e.on < j)) && (match oj.dst with | some d => decide (d < m) | none => true)
    | none => false) &&
  Region.seqB .any ops (ops.size - n) n ((List.range ops.size).map fun j => decide (j < n)).toArray
def cnt (li : Array Bool) (n : Nat) : Nat := ((List.range n).filter fun j => !li.getD j false).length
theorem cnt_succ (li : Array Bool) (n : Nat) : cnt li (n + 1) = cnt li n + if li.getD n false = true then 0 else 1 := by
  unfold cnt
  rw [List.range_succ, List.filter_append, List.length_append]
  cases h : li.getD n false
  · rw [List.filter_cons_of_pos (by rw [h]; rfl)]; simp
  · rw [List.filter_cons_of_neg (by rw [h]; simp)]; simp
theorem cnt_set {li : Array Bool} {i : Nat} (hi : i < li.size) (hu : li.getD i false = false) : ∀ n, cnt li n = cnt (li.setIfInBounds i true) n + if i < n then 1 else 0
  | 0 => by simp [cnt]
  | n + 1 => by
    rw [cnt_succ, cnt_succ, cnt_set hi hu n]
    by_cases hin : i = n
    · subst hin
      have h1 : (li.setIfInBounds i true).getD i false = true := by simp [Array.getD_eq_getD_getElem?, hi]
      rw [h1, hu]; simp
    · rw [getD_set_ne false hin]
      by_cases h2 : i < n
      · have h3 : i < n + 1 := by omega
        rw [if_pos h2, if_pos h3]; omega
      · have h3 : ¬ i < n + 1 := by omega
        rw [if_neg h2, if_neg h3]; omega
theorem cnt_zero {li : Array Bool} {n : Nat} (h : cnt li n = 0) : ∀ j, j < n → li.getD j false = true := by
  intro j hj
  unfold cnt at h
  have h1 := List.length_eq_zero_iff.1 h
  have h2 := List.filter_eq_nil_iff.1 h1 j (by simpa using hj)
  simpa using h2
theorem cnt_pos {li : Array Bool} : ∀ {n : Nat}, 0 < cnt li n → ∃ j, j < n ∧ li.getD j false = false ∧ ∀ i, i < j → li.getD i false = true
  | 0, h => by simp [cnt] at h
  | n + 1, h => by
    by_cases h0 : 0 < cnt li n
    · obtain ⟨j, hj, h1, h2⟩ := cnt_pos h0
      exact ⟨j, by omega, h1, h2⟩
    · have h1 : cnt li n = 0 := by omega
      rw [cnt_succ, h1] at h
      refine ⟨n, by omega, ?_, cnt_zero h1⟩
      cases hx : li.getD n false with
      | false => rfl
      | true => rw [hx] at h; simp at h
/-! ### The relations -/
/-- What is known of an operation's value. -/
def RR (rl : List Nat) (obj : Nat → Obj) (N : Nat) (R : Nat → Value → World → Prop) (i : Nat) (v : Value) (w : World) : Prop :=
  if rl.contains i = true then ∃ A, v = .pointer (some ⟨A, 0, none⟩) ∧ N ≤ A ∧ w.heap[A]? = some (obj i) else R i v w
/-- What is shown of one operation: run in a frame that holds what it looks at. -/
def Upon (P : Program) (ops : Array Oper) (N : Nat) (w0 : World) (rl : List Nat) (obj : Nat → Obj) (R : Nat → Value → World → Prop) (n : Nat) (a0 : Act) (j : Nat) (o : Oper) : Prop :=
  ∀ (vals : Nat → Value) (w : World), Below N w0 w → N ≤ w.heap.size → (∀ i ∈ deps ops n j, RR rl obj N R i (vals i) w) →
    wpList P ops (fun ex a' w' => match ex with | .normal => a'.defers = a0.defers ∧ Below w.heap.size w w' ∧ R j (match o.dst with | some d => a'.tmps.getD d undef | none => undef) w' | _ => False) [o] (putL ops vals (deps ops n j) a0) w
/-- What is shown of an operation of F. -/
def UponF (P : Program) (ops : Array Oper) (N : Nat) (w0 : World) (rl : List Nat) (obj : Nat → Obj) (R : Nat → Value → World → Prop) (n : Nat) (a0 : Act) (j : Nat) (o : Oper) : Prop :=
  ∀ (vals : Nat → Value) (w : World), Below N w0 w → N ≤ w.heap.size → (∀ i ∈ deps ops n j, RR rl obj N R i (vals i) w) →
    ∃ v, Yields P ops o v (putL ops vals (deps ops n j) a0) ∧ R j v w
theorem UponF.of {rl : List Nat} {obj : Nat → Obj} {R : Nat → Value → World → Prop} {n : Nat} {a0 : Act} {j : Nat} {o : Oper} (D : List Nat) (hD : deps ops n j = D)
    (h : ∀ (vals : Nat → Value) (w : World), Below N w0 w → N ≤ w.heap.size → (∀ i ∈ D, RR rl obj N R i (vals i) w) → ∃ v, Yields P ops o v (putL ops vals D a0) ∧ R j v w) : UponF P ops N w0 rl obj R n a0 j o := by
  subst hD
  exact h
theorem Upon.of {rl : List Nat} {obj : Nat → Obj} {R : Nat → Value → World → Prop} {n : Nat} {a0 : Act} {j : Nat} {o : Oper} (D : List Nat) (hD : deps ops n j = D)
    (h : ∀ (vals : Nat → Value) (w : World), Below N w0 w → N ≤ w.heap.size → (∀ i ∈ D, RR rl obj N R i (vals i) w) →
      wpList P ops (fun ex a' w' => match ex with | .normal => a'.defers = a0.defers ∧ Below w.heap.size w w' ∧ R j (match o.dst with | some d => a'.tmps.getD d undef | none => undef) w' | _ => False) [o] (putL ops vals D a0) w) : Upon P ops N w0 rl obj R n a0 j o := by
  subst hD
  exact h
def Obl (P : Program) (ops : Array Oper) (N : Nat) (w0 : World) (rl : List Nat) (obj : Nat → Obj) (R : Nat → Value → World → Prop) (n : Nat) (F : List Nat) (a0 : Act) : Nat → List Oper → Prop
  | _, [] => True
  | k, o :: r => (if rl.contains k = true then True else if F.contains k = true then UponF P ops N w0 rl obj R n a0 k o else Upon P ops N w0 rl obj R n a0 k o) ∧ Obl P ops N w0 rl obj R n F a0 (k + 1) r
theorem Obl.get {rl : List Nat} {obj : Nat → Obj} {R : Nat → Value → World → Prop} {n : Nat} {F : List Nat} {a0 : Act} : ∀ {l : List Oper} {k : Nat}, Obl P ops N w0 rl obj R n F a0 k l → ∀ (j : Nat) (o : Oper), l[j]? = some o → rl.contains (k + j) = false →
    if F.contains (k + j) = true then UponF P ops N w0 rl obj R n a0 (k + j) o else Upon P ops N w0 rl obj R n a0 (k + j) o
  | [], _, _, _, _, h, _ => by simp at h
  | o :: r, k, h, 0, o', h1, h2 => by
    have h3 := h.1
    rw [if_neg (by rw [Nat.add_zero] at h2; rw [h2]; decide)] at h3
    obtain rfl : o = o' := by simpa using h1
    exact h3
  | o :: r, k, h, j + 1, o', h1, h2 => by
    have e : k + (j + 1) = k + 1 + j := by omega
    rw [e] at h2 ⊢
    exact Obl.get h.2 j o' (by simpa using h1) h2
/-- Of all that has come up so far. -/
structure Inv (ops : Array Oper) (N : Nat) (w0 : World) (rl : List Nat) (obj : Nat → Obj) (R : Nat → Value → World → Prop) (n : Nat) (li : Array Bool) (vals : Nat → Value) (w : World) : Prop where
  head : HeadInv .any ops n li
  below : Below N w0 w
  big : N ≤ w.heap.size
  rel : ∀ i, i < n → li.getD i false = true → RR rl obj N R i (vals i) w
  ne : ∀ i ∈ rl, ∀ j ∈ rl, i < n → j < n → i ≠ j → li.getD i false = true → li.getD j false = true → ∀ A B, vals i = .pointer (some ⟨A, 0, none⟩) → vals j = .pointer (some ⟨B, 0, none⟩) → A ≠ B
theorem lt_of_heap {w : World} {A : Nat} {o : Obj} (h : w.heap[A]? = some o) : A < w.heap.size := (Array.getElem?_eq_some_iff.1 h).1
theorem RR.later {rl : List Nat} {obj : Nat → Obj} {R : Nat → Value → World → Prop} (hR : ∀ i v w w', R i v w → Below w.heap.size w w' → R i v w') {i : Nat} {v : Value} {w w' : World} (h : RR rl obj N R i v w) (hb : Below w.heap.size w w') : RR rl obj N R i v w' := by
  unfold RR at *
  split
  · rename_i hc
    rw [if_pos hc] at h
    obtain ⟨A, h1, h2, h3⟩ := h
    exact ⟨A, h1, h2, (hb.block A (lt_of_heap h3)).trans h3⟩
  · rename_i hc
    rw [if_neg hc] at h
    exact hR _ _ _ _ h hb
section
variable {rl : List Nat} {obj : Nat → Obj} {R : Nat → Value → World → Prop} {n : Nat} {li : Array Bool} {vals : Nat → Value} {w : World}
theorem set_self {i : Nat} (hi : i < li.size) : (li.setIfInBounds i true).getD i false = true := by simp [Array.getD_eq_getD_getElem?, hi]
theorem Inv.step (hR : ∀ i v w w', R i v w → Below w.heap.size w w' → R i v w') (I : Inv ops N w0 rl obj R n li vals w) {i : Nat} {v : Value} {w' : World} (hi : i ∈ Region.ready .any ops li) (hin : i < n) (hr : rl.contains i = false)
    (hb : Below w.heap.size w w') (hv : R i v w') : Inv ops N w0 rl obj R n (li.setIfInBounds i true) (upd vals i v) w' := by
  refine ⟨I.head.set hi hin, I.below.trans (hb.mono I.big), Nat.le_trans I.big hb.size, fun j hj hl => ?_, fun j hj k hk hjn hkn hjk hl1 hl2 A B hA hB => ?_⟩
  · by_cases hji : j = i
    · subst hji
      unfold RR; rw [if_neg (by rw [hr]; decide)]
      simpa [upd] using hv
    · rw [getD_set_ne false (Ne.symm hji)] at hl
      simp only [upd, if_neg hji]
      exact (I.rel j hj hl).later hR hb
  · have e : ∀ q ∈ rl, q ≠ i := fun q hq h => by subst h; simp [hq] at hr
    rw [getD_set_ne false (Ne.symm (e j hj))] at hl1
    rw [getD_set_ne false (Ne.symm (e k hk))] at hl2
    simp only [upd, if_neg (e j hj)] at hA
    simp only [upd, if_neg (e k hk)] at hB
    exact I.ne j hj k hk hjn hkn hjk hl1 hl2 A B hA hB
theorem Inv.alloc (hR : ∀ i v w w', R i v w → Below w.heap.size w w' → R i v w') (I : Inv ops N w0 rl obj R n li vals w) {i : Nat} (hi : i ∈ Region.ready .any ops li) (hin : i < n) (hr : rl.contains i = true) :
    Inv ops N w0 rl obj R n (li.setIfInBounds i true) (upd vals i (.pointer (some ⟨w.heap.size, 0, none⟩))) (w.alloc (obj i)) := by
  have hb : Below w.heap.size w (w.alloc (obj i)) := (Below.refl _ _).alloc (Nat.le_refl _) _
  have hold : ∀ q, q ∈ rl → q < n → li.getD q false = true → ∀ A, vals q = .pointer (some ⟨A, 0, none⟩) → A < w.heap.size := fun q hq hqn hl A hA => by
    have h := I.rel q hqn hl
    unfold RR at h
    rw [if_pos (by simpa using hq)] at h
    obtain ⟨B, h1, _, h3⟩ := h
    rw [hA] at h1
    injection h1 with h1; injection h1 with h1; injection h1 with h1
    subst h1
    exact lt_of_heap h3
  refine ⟨I.head.set hi hin, I.below.trans (hb.mono I.big), Nat.le_trans I.big hb.size, fun j hj hl => ?_, fun j hj k hk hjn hkn hjk hl1 hl2 A B hA hB => ?_⟩
  · by_cases hji : j = i
    · subst hji
      unfold RR; rw [if_pos hr]
      exact ⟨w.heap.size, by simp [upd], I.big, heap_alloc_new w _⟩
    · rw [getD_set_ne false (Ne.symm hji)] at hl
      simp only [upd, if_neg hji]
      exact (I.rel j hj hl).later hR hb
  · by_cases hji : j = i
    · subst hji
      have hkj : k ≠ j := Ne.symm hjk
      rw [getD_set_ne false hjk] at hl2
      simp only [upd, if_pos rfl] at hA
      simp only [upd, if_neg hkj] at hB
      have := hold k hk hkn hl2 B hB
      injection hA with hA; injection hA with hA; injection hA with hA
      omega
    · rw [getD_set_ne false (Ne.symm hji)] at hl1
      simp only [upd, if_neg hji] at hA
      have h1 := hold j hj hjn hl1 A hA
      by_cases hki : k = i
      · subst hki
        simp only [upd, if_pos rfl] at hB
        injection hB with hB; injection hB with hB; injection hB with hB
        omega
      · rw [getD_set_ne false (Ne.symm hki)] at hl2
        simp only [upd, if_neg hki] at hB
        exact I.ne j hj k hk hjn hkn hjk hl1 hl2 A B hA hB
end
/-- The behind of the head: whatever was got. -/
def After (P : Program) (ops : Array Oper) (N : Nat) (w0 : World) (rl : List Nat) (obj : Nat → Obj) (R : Nat → Value → World → Prop) (n : Nat) (Q : Exit → Act → World → Prop) (a0 : Act) (tail : List Oper) : Prop :=
  ∀ (vals : Nat → Value) (w : World), Below N w0 w → N ≤ w.heap.size → (∀ i, i < n → RR rl obj N R i (vals i) w) →
    (∀ i ∈ rl, ∀ j ∈ rl, i < n → j < n → i ≠ j → ∀ A B, vals i = .pointer (some ⟨A, 0, none⟩) → vals j = .pointer (some ⟨B, 0, none⟩) → A ≠ B) →
    wpList P ops Q tail (putL ops vals (List.range n) a0) w
theorem any_of_rel {rl : List Nat} {obj : Nat → Obj} {R : Nat → Value → World → Prop} {n : Nat} {Q : Exit → Act → World → Prop} {a0 : Act} {tail : List Oper} {F : List Nat}
    (hB : relB ops n a0.tmps.size F = true) (hQ : ∀ i ∈ F, ∀ v c a w, Q (.panic c) (a.put (dst ops i) v) w → Q (.panic c) a w) (hR : ∀ i v w w', R i v w → Below w.heap.size w w' → R i v w')
    (hrl : ∀ i ∈ rl, ∀ (a : Act) (w : World) (K : Act → World → Prop), K (a.put (dst ops i) (.pointer (some ⟨w.heap.size, 0, none⟩))) (w.alloc (obj i)) → wpOp P ops Q i K a w)
    (hFr : ∀ i ∈ F, rl.contains i = false)
    (hO : ∀ j o, j < n → ops[j]? = some o → rl.contains j = false → if F.contains j = true then UponF P ops N w0 rl obj R n a0 j o else Upon P ops N w0 rl obj R n a0 j o)
    (htl : ∀ j, tail[j]? = ops[n + j]?) (htn : tail.length = ops.size - n) (hA : After P ops N w0 rl obj R n Q a0 tail) :
    ∀ (u : Nat) (li : Array Bool) (vals : Nat → Value) (w : World), Inv ops N w0 rl obj R n li vals w → cnt li n = u → wpAny P .any ops Q (u + (ops.size - n)) li (putL ops vals ((List.range n).filter (fun j => li.getD j false)) a0) w := by
  simp only [relB, Bool.and_eq_true, decide_eq_true_eq, Bool.or_eq_true] at hB
  obtain ⟨⟨⟨⟨⟨⟨hsel, hn⟩, hshape⟩, hFall⟩, hap⟩, hall⟩, hseq⟩ := hB
  have hFn : ∀ i ∈ F, i < n ∧ freeF ops i = true := fun i hi => by have h := List.all_eq_true.1 hFall i hi; simpa using h
  have hAp := apartB_spec hap
  have hallj : ∀ j, j < n → ∃ oj, ops[j]? = some oj ∧ (∀ i, i < n → depB ops oj i = true → ∃ e ∈ oj.after, Region.binds .any e = true ∧ e.on = i) ∧ (∀ e ∈ oj.after, Region.binds .any e = true → e.on < j) ∧ (∀ d, oj.dst = some d → d < a0.tmps.size) := fun j hj => by
    have h := List.all_eq_true.1 hall j (by simpa using hj)
    cases hoj : ops[j]? with
    | none => rw [hoj] at h; cases h
    | some oj =>
      rw [hoj] at h
      simp only [Bool.and_eq_true] at h
      refine ⟨oj, rfl, fun i hi hd => ?_, fun e he hb => ?_, fun d hd => ?_⟩
      · have h1 := List.all_eq_true.1 h.1.1 i (by simpa using hi)
        rw [hd] at h1
        simp only [Bool.not_true, Bool.false_or] at h1
        obtain ⟨e, he, h2⟩ := Array.any_eq_true'.1 h1
        simp only [Bool.and_eq_true, beq_iff_eq] at h2
        exact ⟨e, he, h2⟩
      · have h1 := Array.all_eq_true'.1 h.1.2 e he
        rw [hb] at h1
        simpa using h1
      · have h1 := h.2
        rw [hd] at h1
        simpa using h1
  have hready : ∀ li vals w, Inv ops N w0 rl obj R n li vals w → 0 < cnt li n → Region.ready .any ops li ≠ [] ∧ ((∃ i ∈ F, i ∈ Region.ready .any ops li) ∨ ∀ i ∈ Region.ready .any ops li, i < n ∧ F.contains i = false) := by
    intro li vals w I hc
    obtain ⟨j, hj, hun, hmin⟩ := cnt_pos hc
    obtain ⟨oj, hoj, _, hback, _⟩ := hallj j hj
    have hjs : j < li.size := by rw [I.head.size]; omega
    have hun' : li.getD j true = false := by
      simp [Array.getD_eq_getD_getElem?, hjs] at hun ⊢; exact hun
    have hmem : j ∈ Region.ready .any ops li := mem_ready.2 ⟨hun', oj, hoj, fun e he hb => hmin _ (hback e he hb)⟩
    refine ⟨fun h => (by rw [h] at hmem; cases hmem), ?_⟩
    by_cases hFx : ∃ i ∈ F, i ∈ Region.ready .any ops li
    · exact .inl hFx
    · refine .inr fun i hi => ?_
      have hiF : F.contains i = false := by
        cases h : F.contains i with
        | false => rfl
        | true => exact absurd ⟨i, by simpa using h, hi⟩ hFx
      have hjF : F.contains j = false := by
        cases h : F.contains j with
        | false => rfl
        | true => exact absurd ⟨j, by simpa using h, hmem⟩ hFx
      refine ⟨?_, hiF⟩
      rcases hshape with h | ⟨hs, hc2⟩
      · obtain ⟨_, oi, hoi, _⟩ := mem_ready.1 hi
        rw [h]; exact (Array.getElem?_eq_some_iff.1 hoi).1
      · by_cases hns : n < ops.size
        · exact Nat.lt_of_not_le fun h => waits_tail (fun i hi => (hFn i hi).1) hs hc2 hns I.head _ j rfl hj hjF hun' i h hi
        · obtain ⟨_, oi, hoi, _⟩ := mem_ready.1 hi
          have := (Array.getElem?_eq_some_iff.1 hoi).1
          omega
  intro u
  induction u with
  | zero =>
    intro li vals w I hc
    have hdone := cnt_zero hc
    have hli : li = ((List.range ops.size).map fun j => decide (j < n)).toArray := by
      apply Array.ext
      · simp [I.head.size]
      · intro j h1 h2
        have hjs : j < ops.size := by rw [← I.head.size]; exact h1
        simp only [List.getElem_toArray, List.getElem_map, List.getElem_range]
        by_cases hjn : j < n
        · have := hdone j hjn
          simp [Array.getD_eq_getD_getElem?, h1] at this
          simp [this, hjn]
        · have := I.head.tail j (by omega) hjs
          simp [Array.getD_eq_getD_getElem?, h1] at this
          simp [this, hjn]
    have hfil : (List.range n).filter (fun j => li.getD j false) = List.range n := List.filter_eq_self.2 fun j hj => hdone j (by simpa using hj)
    rw [hfil, Nat.zero_add, ← htn]
    refine wpAny_of_seq tail n li _ w htl ?_ (hA vals w I.below I.big (fun i hi => I.rel i hi (hdone i hi)) (fun i hi j hj hin hjn hij A B => I.ne i hi j hj hin hjn hij (hdone i hin) (hdone j hjn) A B))
    rw [htn, hli]
    exact hseq
  | succ u ih =>
    intro li vals w I hc
    have e : u + 1 + (ops.size - n) = (u + (ops.size - n)) + 1 := by omega
    rw [e]
    obtain ⟨hne, hcase⟩ := hready li vals w I (by omega)
    have hput : ∀ i, i < n → li.getD i false = false → i < li.size → ∀ v, (putL ops vals ((List.range n).filter (fun j => li.getD j false)) a0).put (dst ops i) v = putL ops (upd vals i v) ((List.range n).filter (fun j => (li.setIfInBounds i true).getD j false)) a0 := fun i hin hun his v => by
      have h := putL_set (ops := ops) (i := i) (v := v) vals (fun j => li.getD j false) (fun j => (li.setIfInBounds i true).getD j false) (fun j hj => getD_set_ne false (Ne.symm hj)) hun (set_self his) (List.range n) List.nodup_range hAp a0
      rw [if_pos (by simpa using hin)] at h
      exact h.symm
    have hcnt : ∀ i, i < n → li.getD i false = false → i < li.size → cnt (li.setIfInBounds i true) n = u := fun i hin hun his => by
      have := cnt_set his hun n
      rw [if_pos hin] at this
      omega
    have hdeps : ∀ i oi, ops[i]? = some oi → deps ops n i = (List.range n).filter (depB ops oi) := fun i oi hoi => by unfold deps; rw [hoi]
    have hdone : ∀ i oi, i < n → ops[i]? = some oi → (∀ e ∈ oi.after, Region.binds .any e = true → li.getD e.on false = true) → ∀ k ∈ deps ops n i, k < n ∧ li.getD k false = true := fun i oi hin hoi hafter k hk => by
      rw [hdeps i oi hoi] at hk
      obtain ⟨hk1, hk2⟩ := List.mem_filter.1 hk
      obtain ⟨oi', hoi', hdep, _, _⟩ := hallj i hin
      obtain rfl : oi = oi' := Option.some.inj (hoi.symm.trans hoi')
      obtain ⟨e, he, hb, rfl⟩ := hdep k (by simpa using hk1) hk2
      exact ⟨by simpa using hk1, hafter e he hb⟩
    have hexec : ∀ i oi, i < n → ops[i]? = some oi → (∀ e ∈ oi.after, Region.binds .any e = true → li.getD e.on false = true) →
        execOp (putL ops vals ((List.range n).filter (fun j => li.getD j false)) a0).eval oi = execOp (putL ops vals (deps ops n i) a0).eval oi ∧ Region.wanted oi (yielded ops (putL ops vals ((List.range n).filter (fun j => li.getD j false)) a0).tmps) = Region.wanted oi (yielded ops (putL ops vals (deps ops n i) a0).tmps) := fun i oi hin hoi hafter => by
      have hex := exec_putL (ops := ops) (oj := oi) (fun cs b => Region.noSelect_spec hsel i oi cs b hoi) vals (depB ops oi) ((List.range n).filter (fun j => li.getD j false)) (hAp.sublist List.filter_sublist) (fun k hk hk2 d hdk => by
        unfold depB at hk2
        rw [hdk] at hk2
        simpa using hk2) a0
      have hfil : ((List.range n).filter (fun j => li.getD j false)).filter (depB ops oi) = deps ops n i := by
        rw [List.filter_filter, hdeps i oi hoi]
        refine List.filter_congr fun k hk => ?_
        cases hdk : depB ops oi k with
        | false => simp
        | true =>
          have := (hdone i oi hin hoi hafter k (by rw [hdeps i oi hoi]; exact List.mem_filter.2 ⟨hk, hdk⟩)).2
          simp [this]
      rw [hfil] at hex
      exact hex
    rcases hcase with ⟨i, hiF, hi⟩ | hlt
    · obtain ⟨hin, hfree⟩ := hFn i hiF
      obtain ⟨hun', oi, hoi, hafter⟩ := mem_ready.1 hi
      have hun := getD_both hun'
      have his : i < li.size := by rw [I.head.size]; exact (Array.getElem?_eq_some_iff.1 hoi).1
      have hr' := hFr i hiF
      have hO' := hO i oi hin hoi hr'
      rw [if_pos (by simpa using hiF)] at hO'
      obtain ⟨v, hy, hv⟩ := hO' vals w I.below I.big (fun k hk => I.rel k (hdone i oi hin hoi hafter k hk).1 (hdone i oi hin hoi hafter k hk).2)
      have hex := hexec i oi hin hoi hafter
      have hdst : dst ops i = oi.dst := by unfold dst; rw [hoi]; rfl
      refine wpAny_first hoi (Region.noSelect_spec hsel) (fun c a w h => hQ i hiF v c a w (by rw [hdst]; exact h)) _ li _ w (fun j oj hj hji hjun hno => ?_) hi (by
        unfold Yields at hy ⊢
        rw [hex.1, hex.2]
        exact hy) ?_
      · unfold freeF at hfree
        rw [hoi] at hfree
        have h1 := List.all_eq_true.1 hfree j (by simpa using (Array.getElem?_eq_some_iff.1 hj).1)
        rw [hj] at h1
        simp only [Bool.or_eq_true, beq_iff_eq, hji, false_or] at h1
        rcases h1 with (h1 | h1) | h1
        · obtain ⟨e, he, h2⟩ := Array.any_eq_true'.1 h1
          simp only [Bool.and_eq_true, beq_iff_eq] at h2
          exact absurd h2.2 (hno e he h2.1)
        · exact h1
        · obtain ⟨e, he, h2⟩ := Array.any_eq_true'.1 h1
          simp only [Bool.and_eq_true, beq_iff_eq] at h2
          have h3 := hafter e he h2.1
          rw [h2.2, getD_both hjun] at h3
          cases h3
      · rw [← hdst, hput i hin hun his]
        exact ih _ _ _ (I.step hR hi hin hr' (Below.refl _ _) hv) (hcnt i hin hun his)
    refine ⟨fun h => absurd h hne, fun i hi => ?_⟩
    obtain ⟨hin, hiF⟩ := hlt i hi
    obtain ⟨hun', oi, hoi, hafter⟩ := mem_ready.1 hi
    have hun := getD_both hun'
    have his : i < li.size := by rw [I.head.size]; exact (Array.getElem?_eq_some_iff.1 hoi).1
    obtain ⟨oi', hoi', hdep, _, hd⟩ := hallj i hin
    obtain rfl : oi = oi' := Option.some.inj (hoi.symm.trans hoi')
    have hcs := hcnt i hin hun his
    replace hput := hput i hin hun his
    by_cases hr : rl.contains i = true
    · refine hrl i (by simpa using hr) _ _ _ ?_
      rw [hput]
      exact ih _ _ _ (I.alloc hR hi hin hr) hcs
    · have hr' : rl.contains i = false := by simpa using hr
      have hex := hexec i oi hin hoi hafter
      have hO' := hO i oi hin hoi hr'
      rw [if_neg (by rw [hiF]; decide)] at hO'
      have U := hO' vals w I.below I.big (fun k hk => I.rel k (hdone i oi hin hoi hafter k hk).1 (hdone i oi hin hoi hafter k hk).2)
      have hdst : dst ops i = oi.dst := by unfold dst; rw [hoi]; rfl
      have hget : ∀ v, (match oi.dst with | some d => ((putL ops vals (deps ops n i) a0).put oi.dst v).tmps.getD d undef | none => undef) = (match oi.dst with | some d => v | none => undef) := fun v => by
        cases hdd : oi.dst with
        | none => rfl
        | some d =>
          have h1 : d < (putL ops vals (deps ops n i) a0).tmps.size := by rw [putL_size]; exact hd d hdd
          simp [Act.put, Array.getD_eq_getD_getElem?, h1]
      have fin : ∀ v w', Below w.heap.size w w' → R i (match oi.dst with | some d => v | none => undef) w' →
          wpAny P .any ops Q (u + (ops.size - n)) (li.setIfInBounds i true) ((putL ops vals ((List.range n).filter (fun j => li.getD j false)) a0).put oi.dst v) w' := fun v w' hb hv => by
        rw [← hdst, hput]
        cases hdd : oi.dst with
        | some d => rw [hdd] at hv; exact ih _ _ _ (I.step hR hi hin hr' hb hv) hcs
        | none =>
          rw [hdd] at hv
          have h2 : ∀ l a, putL ops (upd vals i v) l a = putL ops (upd vals i undef) l a := by
            intro l
            induction l with
            | nil => intro a; rfl
            | cons k r ihr =>
              intro a
              unfold putL
              by_cases hki : k = i
              · subst hki; rw [hdst, hdd]; exact ihr _
              · have e1 : upd vals i v k = upd vals i undef k := by simp [upd, hki]
                rw [e1]; exact ihr _
          rw [h2]
          exact ih _ _ _ (I.step hR hi hin hr' hb hv) hcs
      unfold wpOp
      simp only [hoi]
      rw [hex.2]
      unfold wpList at U
      split
      · rename_i hw
        rw [if_pos hw] at U
        refine .inl ?_
        rcases U with U | ⟨_, _, _, U⟩
        · unfold Oper.wp at U ⊢
          rw [hex.1]
          generalize (execOp (putL ops vals (deps ops n i) a0).eval oi).run P w = r at *
          cases r with
          | ok nx w' =>
            cases nx <;> simp only [Oper.upon] at U ⊢
            case value v =>
              obtain ⟨_, h2, h3⟩ := U
              rw [hget] at h3
              exact fin _ _ h2 h3
            case skip =>
              obtain ⟨_, h2, h3⟩ := U
              rw [hget] at h3
              exact fin _ _ h2 h3
            case defer d =>
              exfalso
              have h1 := U.1
              have h2 : ({ putL ops vals (deps ops n i) a0 with defers := d :: (putL ops vals (deps ops n i) a0).defers }.put oi.dst undef : Act).defers = d :: (putL ops vals (deps ops n i) a0).defers := by cases oi.dst <;> rfl
              rw [h2, putL_defers] at h1
              simpa using congrArg List.length h1
            case enter f args =>
              refine Calls.mono U fun ex w'' he => ?_
              cases ex with
              | returned v =>
                obtain ⟨_, h2, h3⟩ := he
                rw [hget] at h3
                exact fin _ _ h2 h3
              | panicked c => exact absurd he id
              | outgrown => obtain ⟨_, _, h⟩ := he; exact absurd h id
            case row r args =>
              refine Rows.mono U fun v w'' he => ?_
              obtain ⟨_, h2, h3⟩ := he
              rw [hget] at h3
              exact fin _ _ h2 h3
            all_goals exact U
          | halt x w' =>
            cases x <;> simp only [Oper.upon] at U ⊢ <;> exact absurd U id
        · exact absurd U id
      · rename_i hw
        rw [if_neg hw] at U
        obtain ⟨_, h2, h3⟩ := U
        rw [hget] at h3
        exact fin _ _ h2 h3
/-- THE REGION. -/
theorem region_rel {id : Nat} {Q : Exit → Act → World → Prop} {a : Act} {w : World} {l : List Oper} (rl : List Nat) (obj : Nat → Obj) (R : Nat → Value → World → Prop) (n : Nat) (F : List Nat) (hm : P.follows .mixedOrders = true) (hB : relB l.toArray n a.tmps.size F = true) (hFr : F.all (fun i => !rl.contains i) = true)
    (hQ : ∀ i ∈ F, ∀ v c a w, Q (.panic c) (a.put (dst l.toArray i) v) w → Q (.panic c) a w)
    (hR : ∀ i v w w', R i v w → Below w.heap.size w w' → R i v w')
    (hrl : ∀ i ∈ rl, ∀ (a : Act) (w : World) (K : Act → World → Prop), K (a.put ((l[i]?).bind (·.dst)) (.pointer (some ⟨w.heap.size, 0, none⟩))) (w.alloc (obj i)) → wpOp P l.toArray Q i K a w)
    (hO : Obl P l.toArray w.heap.size w rl obj R n F a 0 (l.take n))
    (hA : After P l.toArray w.heap.size w rl obj R n Q a (l.drop n)) : (Code.region id l.toArray true).wp P Q a w := by
  refine wp_region_any hm ?_
  have hB' := hB
  simp only [relB, Bool.and_eq_true, decide_eq_true_eq, Bool.or_eq_true] at hB'
  have hn : n ≤ l.length := by simpa using hB'.1.1.1.1.1.2
  have inv0 : HeadInv .any l.toArray n (Array.replicate l.toArray.size false) :=
    ⟨by simp, fun j oj _ hl => (by rw [getD_replicate_false] at hl; cases hl), fun t _ ht => getD_in (by simpa using ht) (getD_replicate_false _ _)⟩
  have I : Inv l.toArray w.heap.size w rl obj R n (Array.replicate l.toArray.size false) (fun _ => undef) { w with drawn := w.drawn + 1 } :=
    ⟨inv0, (Below.refl _ _).drew, Nat.le_refl _, fun i _ hl => (by rw [getD_replicate_false] at hl; cases hl), fun i _ j _ _ _ _ hl => (by rw [getD_replicate_false] at hl; cases hl)⟩
  have hc : cnt (Array.replicate l.toArray.size false) n = n := by
    unfold cnt
    rw [List.filter_eq_self.2 (fun j _ => by rw [getD_replicate_false]; rfl)]
    simp
  have H := any_of_rel (P := P) (Q := Q) (tail := l.drop n) hB hQ hR (fun i hi a w K hK => hrl i hi a w K (by simpa [dst] using hK)) (fun i hi => by simpa using List.all_eq_true.1 hFr i hi) (fun j o hj ho hr => by
    have := hO.get j o (by simpa [hj] using ho) (by simpa using hr)
    simpa using this) (fun j => by simp [List.getElem?_drop]) (by simp) hA n _ _ _ I hc
  have hf : (List.range n).filter (fun j => (Array.replicate l.toArray.size false).getD j false) = [] := List.filter_eq_nil_iff.2 fun j _ => by rw [getD_replicate_false]; simp
  rw [hf] at H
  have e : n + (l.toArray.size - n) = l.toArray.size := by
    have : l.toArray.size = l.length := by simp
    omega
  rw [e] at H
  exact H
end
/-- The rules that turn what is known of an operation's forerunners into a row of facts (for simp). -/
theorem ra : (∀ {α : Type} {a b : α} {l : List α}, a ∈ b :: l ↔ a = b ∨ a ∈ l) ∧ (∀ {α : Type} {a : α}, ¬ a ∈ ([] : List α)) ∧ (∀ (p : Prop), (p ∨ False) = p) ∧ (∀ {α : Type} {p q : α → Prop} {a' : α}, (∀ a, a = a' ∨ q a → p a) ↔ p a' ∧ ∀ a, q a → p a) ∧ (∀ {α : Type} {p : α → Prop} {a' : α}, (∀ a, a = a' → p a) ↔ p a') ∧ (∀ {α : Type} (p : α → Prop), (∀ x, x ∈ ([] : List α) → p x) ↔ True) :=
  ⟨List.mem_cons, List.not_mem_nil, or_false, forall_eq_or_imp, forall_eq, fun p => iff_true_intro (List.forall_mem_nil p)⟩
/-- The rules that put values into a frame (for simp). -/
theorem rp : (∀ (ops : Array Oper) (vals : Nat → Value) (a : Act), putL ops vals [] a = a) ∧ (∀ (ops : Array Oper) (vals : Nat → Value) (i : Nat) (r : List Nat) (a : Act), putL ops vals (i :: r) a = putL ops vals r (a.put (dst ops i) (vals i))) ∧
    (∀ (ops : Array Oper) (i : Nat), dst ops i = (ops[i]?).bind (·.dst)) ∧ (∀ {α : Type} {l : List α} {i : Nat}, l.toArray[i]? = l[i]?) ∧ (∀ {α : Type} {a : α} {l : List α}, (a :: l)[0]? = some a) ∧ (∀ {α : Type} {a : α} {l : List α} {i : Nat}, (a :: l)[i + 1]? = l[i]?) ∧
    (∀ {α β : Type} (a : α) (f : α → Option β), (some a).bind f = f a) ∧ (∀ (a : Act) (v : Value), a.put none v = a) ∧ (∀ (a : Act) (d : Tmp) (v : Value), a.put (some d) v = { a with tmps := a.tmps.setIfInBounds d v }) ∧
    (∀ {α : Type} (l : List α) (i : Nat) (a : α), l.toArray.setIfInBounds i a = (l.set i a).toArray) ∧ (∀ {α : Type} {a b : α} {l : List α}, (a :: l).set 0 b = b :: l) ∧ (∀ {α : Type} {a b : α} {l : List α} {n : Nat}, (a :: l).set (n + 1) b = a :: l.set n b) :=
  ⟨fun _ _ _ => rfl, fun _ _ _ _ _ => rfl, fun _ _ => rfl, List.getElem?_toArray, List.getElem?_cons_zero, List.getElem?_cons_succ, Option.bind_some, fun _ _ => rfl, fun _ _ _ => rfl, List.setIfInBounds_toArray, List.set_cons_zero, List.set_cons_succ⟩
end Go.Proofs.YtomninikmcmmcaaDoor.Rel
