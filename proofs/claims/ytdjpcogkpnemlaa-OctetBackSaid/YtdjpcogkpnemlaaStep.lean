/- A drawn region each of whose operations may write what is its own: told step by step. Each operation j has what it asks (Pr j), what it does to the world (St j), and what is known of its value from then on (R j), until an operation of kl j comes. -/
import Derived.Test.YtdjpcogkpnemlaaRel
namespace Go.Proofs.Ytdjpcogkpnemlaa.Rel
set_option linter.unusedVariables false
set_option linter.unusedSimpArgs false
open Go Go.RowKit
section
variable {P : Program} {ops : Array Oper}
/-- What a told region is told by. -/
structure Told where
  Z : World → Prop
  Pr : Nat → World → Prop
  St : Nat → World → World → Prop
  R : Nat → Value → World → Prop
  need : Nat → List Nat
  kl : Nat → List Nat
  cl : Nat → List Nat
structure Told.Ok (D : Told) (ops : Array Oper) (n : Nat) : Prop where
  z : ∀ j w w', j < n → D.Z w → D.St j w w' → D.Z w'
  pr : ∀ i j w w', i < n → j < n → i ≠ j → (D.cl j).contains i = false → D.Z w → D.Pr i w → D.St j w w' → D.Pr i w'
  r : ∀ i j v w w', i < n → j < n → i ≠ j → (D.cl i).contains j = false → (D.kl i).contains j = false → D.Z w → D.R i v w → D.St j w w' → D.R i v w'
def toldB (D : Told) (ops : Array Oper) (n : Nat) : Bool :=
  ((List.range n).all fun j => (D.need j).all fun k => decide (k < n) && (D.cl j).contains k && (D.kl k).all fun m => (m == j) || (D.cl m).contains j) &&
  (List.range n).all fun j => (D.cl j).all fun p => match ops[j]? with
    | some oj => oj.after.any fun e => Region.binds .any e && decide (e.on < j) && ((e.on == p) || (D.cl e.on).contains p)
    | none => false
def UponS (P : Program) (ops : Array Oper) (D : Told) (n : Nat) (a0 : Act) (j : Nat) (o : Oper) : Prop :=
  ∀ (vals : Nat → Value) (w : World), D.Z w → D.Pr j w → (∀ k ∈ D.need j, D.R k (vals k) w) →
    wpList P ops (fun ex a' w' => match ex with | .normal => a'.defers = a0.defers ∧ D.St j w w' ∧ D.R j (match o.dst with | some d => a'.tmps.getD d undef | none => undef) w' | _ => False) [o] (putL ops vals (deps ops n j) a0) w
theorem UponS.of {D : Told} {n : Nat} {a0 : Act} {j : Nat} {o : Oper} (ds : List Nat) (hD : deps ops n j = ds)
    (h : ∀ (vals : Nat → Value) (w : World), D.Z w → D.Pr j w → (∀ k ∈ D.need j, D.R k (vals k) w) →
      wpList P ops (fun ex a' w' => match ex with | .normal => a'.defers = a0.defers ∧ D.St j w w' ∧ D.R j (match o.dst with | some d => a'.tmps.getD d undef | none => undef) w' | _ => False) [o] (putL ops vals ds a0) w) : UponS P ops D n a0 j o := by
  subst hD
  exact h
def OblS (P : Program) (ops : Array Oper) (D : Told) (n : Nat) (a0 : Act) : Nat → List Oper → Prop
  | _, [] => True
  | k, o :: r => UponS P ops D n a0 k o ∧ OblS P ops D n a0 (k + 1) r
theorem OblS.get {D : Told} {n : Nat} {a0 : Act} : ∀ {l : List Oper} {k : Nat}, OblS P ops D n a0 k l → ∀ (j : Nat) (o : Oper), l[j]? = some o → UponS P ops D n a0 (k + j) o
  | [], _, _, _, _, h => by simp at h
  | o :: r, k, h, 0, o', h1 => by
    obtain rfl : o = o' := by simpa using h1
    exact h.1
  | o :: r, k, h, j + 1, o', h1 => by
    have e : k + (j + 1) = k + 1 + j := by omega
    rw [e]
    exact OblS.get h.2 j o' (by simpa using h1)
structure InvS (ops : Array Oper) (D : Told) (n : Nat) (li : Array Bool) (vals : Nat → Value) (w : World) : Prop where
  head : HeadInv .any ops n li
  z : D.Z w
  pre : ∀ i, i < n → li.getD i false = false → D.Pr i w
  rel : ∀ i, i < n → li.getD i false = true → (∀ m ∈ D.kl i, li.getD m false = false) → D.R i (vals i) w
theorem cl_spec {D : Told} {n : Nat} (hT : toldB D ops n = true) {j p : Nat} (hj : j < n) (hp : p ∈ D.cl j) : ∃ oj, ops[j]? = some oj ∧ ∃ e ∈ oj.after, Region.binds .any e = true ∧ e.on < j ∧ (e.on = p ∨ p ∈ D.cl e.on) := by
  unfold toldB at hT
  simp only [Bool.and_eq_true] at hT
  have h1 := List.all_eq_true.1 hT.2 j (by simpa using hj)
  have h2 := List.all_eq_true.1 h1 p hp
  cases ho : ops[j]? with
  | none => rw [ho] at h2; cases h2
  | some oj =>
    rw [ho] at h2
    obtain ⟨e, he, h3⟩ := Array.any_eq_true'.1 h2
    simp only [Bool.and_eq_true, Bool.or_eq_true, beq_iff_eq, decide_eq_true_eq] at h3
    refine ⟨oj, rfl, e, he, h3.1.1, h3.1.2, ?_⟩
    rcases h3.2 with h | h
    · exact .inl h
    · exact .inr (by simpa using h)
theorem listed_cl {D : Told} {n : Nat} {li : Array Bool} (hT : toldB D ops n = true) (hd : HeadInv .any ops n li) : ∀ (d j : Nat), j ≤ d → j < n → li.getD j false = true → ∀ p ∈ D.cl j, li.getD p false = true := by
  intro d
  induction d with
  | zero =>
    intro j hj hjn hl p hp
    obtain ⟨oj, ho, e, he, hb, hlt, h⟩ := cl_spec hT hjn hp
    omega
  | succ d ih =>
    intro j hj hjn hl p hp
    obtain ⟨oj, ho, e, he, hb, hlt, h⟩ := cl_spec hT hjn hp
    have h2 := hd.closed j oj ho hl e he hb
    rcases h with h | h
    · rw [← h]; exact h2
    · exact ih e.on (by omega) (by omega) h2 p h
theorem waits_listed {D : Told} {n : Nat} {li : Array Bool} {i k : Nat} (hT : toldB D ops n = true) (hd : HeadInv .any ops n li) (hin : i < n) (hi : i ∈ Region.ready .any ops li) (h : (D.cl i).contains k = true) : li.getD k false = true := by
  obtain ⟨_, oi, hoi, hall⟩ := mem_ready.1 hi
  obtain ⟨o', ho', e, he, hb, hlt, h2⟩ := cl_spec hT hin (by simpa using h)
  obtain rfl : o' = oi := Option.some.inj (ho'.symm.trans hoi)
  have h3 := hall e he hb
  rcases h2 with h2 | h2
  · rw [← h2]; exact h3
  · exact listed_cl hT hd e.on e.on (Nat.le_refl _) (by omega) h3 k h2
theorem InvS.step {D : Told} {n : Nat} {li : Array Bool} {vals : Nat → Value} {w : World} (hT : toldB D ops n = true) (hok : D.Ok ops n) (hkn : ∀ i, i < n → ∀ m ∈ D.kl i, m < n) (I : InvS ops D n li vals w) {i : Nat} {v : Value} {w' : World} (hi : i ∈ Region.ready .any ops li) (hin : i < n)
    (hs : D.St i w w') (hv : D.R i v w') : InvS ops D n (li.setIfInBounds i true) (upd vals i v) w' := by
  obtain ⟨hun', oi, hoi, _⟩ := mem_ready.1 hi
  have his : i < li.size := by rw [I.head.size]; exact (Array.getElem?_eq_some_iff.1 hoi).1
  refine ⟨I.head.set hi hin, hok.z i w w' hin I.z hs, fun j hj hl => ?_, fun j hj hl hk => ?_⟩
  · by_cases hji : j = i
    · subst hji; rw [set_self his] at hl; cases hl
    · rw [getD_set_ne false (Ne.symm hji)] at hl
      refine hok.pr j i w w' hj hin hji ?_ I.z (I.pre j hj hl) hs
      cases hw : (D.cl i).contains j with
      | false => rfl
      | true => rw [waits_listed hT I.head hin hi hw] at hl; cases hl
  · by_cases hji : j = i
    · subst hji
      simpa [upd] using hv
    · rw [getD_set_ne false (Ne.symm hji)] at hl
      simp only [upd, if_neg hji]
      have hni : (D.kl j).contains i = false := by
        cases hc : (D.kl j).contains i with
        | false => rfl
        | true =>
          have := hk i (by simpa using hc)
          rw [set_self his] at this; cases this
      have hnc : (D.cl j).contains i = false := by
        cases hc : (D.cl j).contains i with
        | false => rfl
        | true =>
          have := listed_cl hT I.head j j (Nat.le_refl _) hj hl i (by simpa using hc)
          rw [getD_both hun'] at this; cases this
      refine hok.r j i _ w w' hj hin hji hnc hni I.z (I.rel j hj hl fun m hm => ?_) hs
      have hmi : m ≠ i := by
        rintro rfl
        rw [List.contains_iff_mem.2 hm] at hni; cases hni
      have := hk m hm
      rwa [getD_set_ne false (Ne.symm hmi)] at this
def AfterS (P : Program) (ops : Array Oper) (D : Told) (n : Nat) (Q : Exit → Act → World → Prop) (a0 : Act) (tail : List Oper) : Prop :=
  ∀ (vals : Nat → Value) (w : World), D.Z w → (∀ i, i < n → D.kl i = [] → D.R i (vals i) w) → wpList P ops Q tail (putL ops vals (List.range n) a0) w
theorem any_of_told {D : Told} {n : Nat} {Q : Exit → Act → World → Prop} {a0 : Act} {tail : List Oper}
    (hB : relB ops n a0.tmps.size [] = true) (hT : toldB D ops n = true) (hok : D.Ok ops n) (hkn : ∀ i, i < n → ∀ m ∈ D.kl i, m < n)
    (hO : ∀ j o, j < n → ops[j]? = some o → UponS P ops D n a0 j o)
    (htl : ∀ j, tail[j]? = ops[n + j]?) (htn : tail.length = ops.size - n) (hA : AfterS P ops D n Q a0 tail) :
    ∀ (u : Nat) (li : Array Bool) (vals : Nat → Value) (w : World), InvS ops D n li vals w → cnt li n = u → wpAny P .any ops Q (u + (ops.size - n)) li (putL ops vals ((List.range n).filter (fun j => li.getD j false)) a0) w := by
  simp only [relB, Bool.and_eq_true, decide_eq_true_eq, Bool.or_eq_true] at hB
  obtain ⟨⟨⟨⟨⟨⟨hsel, hn⟩, hshape⟩, hFall⟩, hap⟩, hall⟩, hseq⟩ := hB
  have hAp := apartB_spec hap
  have hallj : ∀ j, j < n → ∃ oj, ops[j]? = some oj ∧ (∀ i, i < n → depB ops oj i = true → ∃ e ∈ oj.after, Region.binds .any e = true ∧ e.on = i) ∧ (∀ e ∈ oj.after, Region.binds .any e = true → e.on < j) ∧ (∀ d, oj.dst = some d → d < a0.tmps.size) := fun j hj => by
    have h := List.all_eq_true.1 hall j (by simpa using hj)
    cases hoj : ops[j]? with
    | none => rw [hoj] at h; cases h
    | some oj =>
      rw [hoj] at h
      simp only [Bool.and_eq_true] at h
      refine ⟨oj, rfl, fun i hi hd => ?_, fun e he hb => ?_, fun d hd => ?_⟩
      · have h1 := List.all_eq_true.1 h.1.1 i (by simpa using hi)
        rw [hd] at h1
        simp only [Bool.not_true, Bool.false_or] at h1
        obtain ⟨e, he, h2⟩ := Array.any_eq_true'.1 h1
        simp only [Bool.and_eq_true, beq_iff_eq] at h2
        exact ⟨e, he, h2⟩
      · have h1 := Array.all_eq_true'.1 h.1.2 e he
        rw [hb] at h1
        simpa using h1
      · have h1 := h.2
        rw [hd] at h1
        simpa using h1
  have hready : ∀ li vals w, InvS ops D n li vals w → 0 < cnt li n → Region.ready .any ops li ≠ [] ∧ ∀ i ∈ Region.ready .any ops li, i < n := by
    intro li vals w I hc
    obtain ⟨j, hj, hun, hmin⟩ := cnt_pos hc
    obtain ⟨oj, hoj, _, hback, _⟩ := hallj j hj
    have hjs : j < li.size := by rw [I.head.size]; omega
    have hun' : li.getD j true = false := by
      simp [Array.getD_eq_getD_getElem?, hjs] at hun ⊢; exact hun
    have hmem : j ∈ Region.ready .any ops li := mem_ready.2 ⟨hun', oj, hoj, fun e he hb => hmin _ (hback e he hb)⟩
    refine ⟨fun h => (by rw [h] at hmem; cases hmem), fun i hi => ?_⟩
    rcases hshape with h | ⟨hs, hc2⟩
    · obtain ⟨_, oi, hoi, _⟩ := mem_ready.1 hi
      rw [h]; exact (Array.getElem?_eq_some_iff.1 hoi).1
    · by_cases hns : n < ops.size
      · exact Nat.lt_of_not_le fun h => waits_tail (F := []) (fun i hi => by cases hi) hs hc2 hns I.head _ j rfl hj rfl hun' i h hi
      · obtain ⟨_, oi, hoi, _⟩ := mem_ready.1 hi
        have := (Array.getElem?_eq_some_iff.1 hoi).1
        omega
  intro u
  induction u with
  | zero =>
    intro li vals w I hc
    have hdone := cnt_zero hc
    have hli : li = ((List.range ops.size).map fun j => decide (j < n)).toArray := by
      apply Array.ext
      · simp [I.head.size]
      · intro j h1 h2
        have hjs : j < ops.size := by rw [← I.head.size]; exact h1
        simp only [List.getElem_toArray, List.getElem_map, List.getElem_range]
        by_cases hjn : j < n
        · have := hdone j hjn
          simp [Array.getD_eq_getD_getElem?, h1] at this
          simp [this, hjn]
        · have := I.head.tail j (by omega) hjs
          simp [Array.getD_eq_getD_getElem?, h1] at this
          simp [this, hjn]
    have hfil : (List.range n).filter (fun j => li.getD j false) = List.range n := List.filter_eq_self.2 fun j hj => hdone j (by simpa using hj)
    rw [hfil, Nat.zero_add, ← htn]
    refine wpAny_of_seq tail n li _ w htl ?_ (hA vals w I.z (fun i hi hk => I.rel i hi (hdone i hi) (fun m hm => by rw [hk] at hm; cases hm)))
    rw [htn, hli]
    exact hseq
  | succ u ih =>
    intro li vals w I hc
    have e : u + 1 + (ops.size - n) = (u + (ops.size - n)) + 1 := by omega
    rw [e]
    obtain ⟨hne, hcase⟩ := hready li vals w I (by omega)
    have hput : ∀ i, i < n → li.getD i false = false → i < li.size → ∀ v, (putL ops vals ((List.range n).filter (fun j => li.getD j false)) a0).put (dst ops i) v = putL ops (upd vals i v) ((List.range n).filter (fun j => (li.setIfInBounds i true).getD j false)) a0 := fun i hin hun his v => by
      have h := putL_set (ops := ops) (i := i) (v := v) vals (fun j => li.getD j false) (fun j => (li.setIfInBounds i true).getD j false) (fun j hj => getD_set_ne false (Ne.symm hj)) hun (set_self his) (List.range n) List.nodup_range hAp a0
      rw [if_pos (by simpa using hin)] at h
      exact h.symm
    have hcnt : ∀ i, i < n → li.getD i false = false → i < li.size → cnt (li.setIfInBounds i true) n = u := fun i hin hun his => by
      have := cnt_set his hun n
      rw [if_pos hin] at this
      omega
    have hdeps : ∀ i oi, ops[i]? = some oi → deps ops n i = (List.range n).filter (depB ops oi) := fun i oi hoi => by unfold deps; rw [hoi]
    have hdone : ∀ i oi, i < n → ops[i]? = some oi → (∀ e ∈ oi.after, Region.binds .any e = true → li.getD e.on false = true) → ∀ k ∈ deps ops n i, k < n ∧ li.getD k false = true := fun i oi hin hoi hafter k hk => by
      rw [hdeps i oi hoi] at hk
      obtain ⟨hk1, hk2⟩ := List.mem_filter.1 hk
      obtain ⟨oi', hoi', hdep, _, _⟩ := hallj i hin
      obtain rfl : oi = oi' := Option.some.inj (hoi.symm.trans hoi')
      obtain ⟨e, he, hb, rfl⟩ := hdep k (by simpa using hk1) hk2
      exact ⟨by simpa using hk1, hafter e he hb⟩
    have hexec : ∀ i oi, i < n → ops[i]? = some oi → (∀ e ∈ oi.after, Region.binds .any e = true → li.getD e.on false = true) →
        execOp (putL ops vals ((List.range n).filter (fun j => li.getD j false)) a0).eval oi = execOp (putL ops vals (deps ops n i) a0).eval oi ∧ Region.wanted oi (yielded ops (putL ops vals ((List.range n).filter (fun j => li.getD j false)) a0).tmps) = Region.wanted oi (yielded ops (putL ops vals (deps ops n i) a0).tmps) := fun i oi hin hoi hafter => by
      have hex := exec_putL (ops := ops) (oj := oi) (fun cs b => Region.noSelect_spec hsel i oi cs b hoi) vals (depB ops oi) ((List.range n).filter (fun j => li.getD j false)) (hAp.sublist List.filter_sublist) (fun k hk hk2 d hdk => by
        unfold depB at hk2
        rw [hdk] at hk2
        simpa using hk2) a0
      have hfil : ((List.range n).filter (fun j => li.getD j false)).filter (depB ops oi) = deps ops n i := by
        rw [List.filter_filter, hdeps i oi hoi]
        refine List.filter_congr fun k hk => ?_
        cases hdk : depB ops oi k with
        | false => simp
        | true =>
          have := (hdone i oi hin hoi hafter k (by rw [hdeps i oi hoi]; exact List.mem_filter.2 ⟨hk, hdk⟩)).2
          simp [this]
      rw [hfil] at hex
      exact hex
    refine ⟨fun h => absurd h hne, fun i hi => ?_⟩
    have hin := hcase i hi
    obtain ⟨hun', oi, hoi, hafter⟩ := mem_ready.1 hi
    have hun := getD_both hun'
    have his : i < li.size := by rw [I.head.size]; exact (Array.getElem?_eq_some_iff.1 hoi).1
    obtain ⟨oi', hoi', hdep, _, hd⟩ := hallj i hin
    obtain rfl : oi = oi' := Option.some.inj (hoi.symm.trans hoi')
    have hcs := hcnt i hin hun his
    replace hput := hput i hin hun his
    · have hneed : ∀ k ∈ D.need i, D.R k (vals k) w := fun k hk => by
        have hT2 := hT
        unfold toldB at hT2
        simp only [Bool.and_eq_true] at hT2
        have h1 := List.all_eq_true.1 hT2.1 i (by simpa using hin)
        have h2 := List.all_eq_true.1 h1 k hk
        simp only [Bool.and_eq_true, decide_eq_true_eq] at h2
        refine I.rel k h2.1.1 (waits_listed hT I.head hin hi h2.1.2) fun m hm => ?_
        have h3 := List.all_eq_true.1 h2.2 m hm
        cases hl : li.getD m false with
        | false => rfl
        | true =>
          exfalso
          simp only [Bool.or_eq_true, beq_iff_eq] at h3
          rcases h3 with rfl | h3
          · rw [hun] at hl; cases hl
          · have h4 := listed_cl hT I.head m m (Nat.le_refl _) (hkn k h2.1.1 m hm) hl i (by simpa using h3)
            rw [hun] at h4; cases h4
      have hex := hexec i oi hin hoi hafter
      have U := hO i oi hin hoi vals w I.z (I.pre i hin hun) hneed
      have hdst : dst ops i = oi.dst := by unfold dst; rw [hoi]; rfl
      have hget : ∀ v, (match oi.dst with | some d => ((putL ops vals (deps ops n i) a0).put oi.dst v).tmps.getD d undef | none => undef) = (match oi.dst with | some d => v | none => undef) := fun v => by
        cases hdd : oi.dst with
        | none => rfl
        | some d =>
          have h1 : d < (putL ops vals (deps ops n i) a0).tmps.size := by rw [putL_size]; exact hd d hdd
          simp [Act.put, Array.getD_eq_getD_getElem?, h1]
      have fin : ∀ v w', D.St i w w' → D.R i (match oi.dst with | some d => v | none => undef) w' →
          wpAny P .any ops Q (u + (ops.size - n)) (li.setIfInBounds i true) ((putL ops vals ((List.range n).filter (fun j => li.getD j false)) a0).put oi.dst v) w' := fun v w' hb hv => by
        rw [← hdst, hput]
        cases hdd : oi.dst with
        | some d => rw [hdd] at hv; exact ih _ _ _ (I.step hT hok hkn hi hin hb hv) hcs
        | none =>
          rw [hdd] at hv
          have h2 : ∀ l a, putL ops (upd vals i v) l a = putL ops (upd vals i undef) l a := by
            intro l
            induction l with
            | nil => intro a; rfl
            | cons k r ihr =>
              intro a
              unfold putL
              by_cases hki : k = i
              · subst hki; rw [hdst, hdd]; exact ihr _
              · have e1 : upd vals i v k = upd vals i undef k := by simp [upd, hki]
                rw [e1]; exact ihr _
          rw [h2]
          exact ih _ _ _ (I.step hT hok hkn hi hin hb hv) hcs
      unfold wpOp
      simp only [hoi]
      rw [hex.2]
      unfold wpList at U
      split
      · rename_i hw
        rw [if_pos hw] at U
        refine .inl ?_
        rcases U with U | ⟨_, _, _, U⟩
        · unfold Oper.wp at U ⊢
          rw [hex.1]
          generalize (execOp (putL ops vals (deps ops n i) a0).eval oi).run P w = r at *
          cases r with
          | ok nx w' =>
            cases nx <;> simp only [Oper.upon] at U ⊢
            case value v =>
              obtain ⟨_, h2, h3⟩ := U
              rw [hget] at h3
              exact fin _ _ h2 h3
            case skip =>
              obtain ⟨_, h2, h3⟩ := U
              rw [hget] at h3
              exact fin _ _ h2 h3
            case defer d =>
              exfalso
              have h1 := U.1
              have h2 : ({ putL ops vals (deps ops n i) a0 with defers := d :: (putL ops vals (deps ops n i) a0).defers }.put oi.dst undef : Act).defers = d :: (putL ops vals (deps ops n i) a0).defers := by cases oi.dst <;> rfl
              rw [h2, putL_defers] at h1
              simpa using congrArg List.length h1
            case enter f args =>
              refine Calls.mono U fun ex w'' he => ?_
              cases ex with
              | returned v =>
                obtain ⟨_, h2, h3⟩ := he
                rw [hget] at h3
                exact fin _ _ h2 h3
              | panicked c => exact absurd he id
              | outgrown => obtain ⟨_, _, h⟩ := he; exact absurd h id
            case row r args =>
              refine Rows.mono U fun v w'' he => ?_
              obtain ⟨_, h2, h3⟩ := he
              rw [hget] at h3
              exact fin _ _ h2 h3
            all_goals exact U
          | halt x w' =>
            cases x <;> simp only [Oper.upon] at U ⊢ <;> exact absurd U id
        · exact absurd U id
      · rename_i hw
        rw [if_neg hw] at U
        obtain ⟨_, h2, h3⟩ := U
        rw [hget] at h3
        exact fin _ _ h2 h3
/-- THE REGION. -/
theorem region_told {id : Nat} {Q : Exit → Act → World → Prop} {a : Act} {w : World} {l : List Oper} (D : Told) (n : Nat) (hm : P.follows .mixedOrders = true) (hB : relB l.toArray n a.tmps.size [] = true) (hT : toldB D l.toArray n = true)
    (hkn : (List.range n).all (fun i => (D.kl i).all (fun m => decide (m < n))) = true) (hok : D.Ok l.toArray n) (hz : D.Z w.drew) (hp : ∀ i, i < n → D.Pr i w.drew)
    (hO : OblS P l.toArray D n a 0 (l.take n)) (hA : AfterS P l.toArray D n Q a (l.drop n)) : (Code.region id l.toArray true).wp P Q a w := by
  refine wp_region_any hm ?_
  have hB' := hB
  simp only [relB, Bool.and_eq_true, decide_eq_true_eq, Bool.or_eq_true] at hB'
  have hn : n ≤ l.length := by simpa using hB'.1.1.1.1.1.2
  have inv0 : HeadInv .any l.toArray n (Array.replicate l.toArray.size false) :=
    ⟨by simp, fun j oj _ hl => (by rw [getD_replicate_false] at hl; cases hl), fun t _ ht => getD_in (by simpa using ht) (getD_replicate_false _ _)⟩
  have I : InvS l.toArray D n (Array.replicate l.toArray.size false) (fun _ => undef) w.drew :=
    ⟨inv0, hz, fun i hi _ => hp i hi, fun i _ hl => (by rw [getD_replicate_false] at hl; cases hl)⟩
  have hc : cnt (Array.replicate l.toArray.size false) n = n := by
    unfold cnt
    rw [List.filter_eq_self.2 (fun j _ => by rw [getD_replicate_false]; rfl)]
    simp
  have hkn' : ∀ i, i < n → ∀ m ∈ D.kl i, m < n := fun i hi m hm => by
    have h1 := List.all_eq_true.1 hkn i (by simpa using hi)
    simpa using List.all_eq_true.1 h1 m hm
  have H := any_of_told (P := P) (Q := Q) (tail := l.drop n) hB hT hok hkn' (fun j o hj ho => by
    have := hO.get j o (by simpa [hj] using ho)
    simpa using this) (fun j => by simp [List.getElem?_drop]) (by simp) hA n _ _ _ I hc
  have hf : (List.range n).filter (fun j => (Array.replicate l.toArray.size false).getD j false) = [] := List.filter_eq_nil_iff.2 fun j _ => by rw [getD_replicate_false]; simp
  rw [hf] at H
  have e : n + (l.toArray.size - n) = l.toArray.size := by
    have : l.toArray.size = l.length := by simp
    omega
  rw [e] at H
  exact H
end
end Go.Proofs.Ytdjpcogkpnemlaa.Rel
