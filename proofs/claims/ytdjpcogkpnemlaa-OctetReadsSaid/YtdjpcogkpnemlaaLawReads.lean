/- OctetReads: whatever is asked of any bytes, both readers answer alike. -/
import Derived.Test.YtdjpcogkpnemlaaRefAt
import Derived.Test.YtdjpcogkpnemlaaStep
import Derived.Test.YtdjpcogkpnemlaaLawWrites
namespace Go.Proofs.Ytdjpcogkpnemlaa.Oct
open Go Go.RowKit Go.Proofs.YtdjpcogkpnemlaaW.PrintWords Go.Proofs.Ytdjpcogkpnemlaa.POr
set_option linter.unusedVariables false
set_option linter.unusedSimpArgs false
set_option maxRecDepth 100000
set_option maxHeartbeats 4000000
attribute [local go_sem high] eqA29
/-- Both readers, and what was there ahead of them. -/
def Both (g g2 : Nat) (b : ByteArray) (sp : Bool) (w w' : World) : Prop := InAt g b sp w' ∧ RefAt g2 b sp w' ∧ ∀ N, N ≤ g → N ≤ g2 → Below N w w'
/-- What is known within the last region. -/
def toldT (g g2 A : Nat) (cs : Array Value) (most : Int) (b : ByteArray) (sp : Bool) (w : World) : Rel.Told where
  Z := fun z => z.heap[A]? = some (.cells cs 48 (0, 0)) ∧ (∃ b' sp', RefAt g2 b' sp' z) ∧ g2 < z.heap.size ∧ ∀ N, N ≤ g → N ≤ g2 → Below N w z
  Pr := fun j z => match j with | 3 => InAt g b sp z | 7 => RefAt g2 b sp z | _ => True
  St := fun j z z' => match j with | 3 => Touch g z z' | 7 => Touch g2 z z' ∧ ∃ b' sp', RefAt g2 b' sp' z' | _ => z' = z
  R := fun j v z => match j with
    | 0 => v = .pointer (some ⟨g, 0, none⟩)
    | 1 => v = .pointer (some ⟨A, 4, none⟩)
    | 2 => v = .int .i64 most
    | 3 => v = .string (textS most b sp).1 ∧ InAt g (textS most b sp).2.1 (textS most b sp).2.2 z
    | 4 => v = .pointer (some ⟨g2, 0, none⟩)
    | 5 => v = .pointer (some ⟨A, 4, none⟩)
    | 6 => v = .int .i64 most
    | 7 => v = .string (textS most b sp).1 ∧ RefAt g2 (textS most b sp).2.1 (textS most b sp).2.2 z
    | 8 => v = .bool true
    | 9 => v = .bool true
    | _ => True
  need := fun j => match j with | 2 => [1] | 3 => [0, 2] | 6 => [5] | 7 => [4, 6] | 8 => [3, 7] | 9 => [8] | _ => []
  kl := fun _ => []
  cl := fun j => match j with | 2 => [1] | 3 => [0, 1, 2] | 6 => [5] | 7 => [0, 1, 2, 3, 4, 5, 6] | 8 => [3, 7] | 9 => [8] | _ => []
theorem toldT_ok (g g2 A : Nat) (hne : g ≠ g2) (hA : A ≠ g) (hA2 : A ≠ g2) (cs : Array Value) (most : Int) (b : ByteArray) (sp : Bool) (w : World) (ops : Array Oper) (hgw : g < w.heap.size) : (toldT g g2 A cs most b sp w).Ok ops 10 := by
  have key : ∀ j, j < 10 → j = 3 ∨ j = 7 ∨ ∀ z z', (toldT g g2 A cs most b sp w).St j z z' → z' = z := by
    intro j hj
    match j, hj with
    | 3, _ => exact .inl rfl
    | 7, _ => exact .inr (.inl rfl)
    | 0, _ | 1, _ | 2, _ | 4, _ | 5, _ | 6, _ | 8, _ | 9, _ => exact .inr (.inr fun _ _ h => h)
  have kin : ∀ {b' : ByteArray} {sp' : Bool} {z z' : World}, InAt g b' sp' z → (∃ b2 sp2, RefAt g2 b2 sp2 z) → Touch g2 z z' → InAt g b' sp' z' := by
    rintro b' sp' z z' h ⟨b2, sp2, h2⟩ ht
    exact h.keepBy h2 RefAt.noB ht hne
  refine ⟨fun j z z' hj hz hs => ?_, fun i j z z' hi hj hij hw hz hp hs => ?_, fun i j v z z' hi hj hij hw hk hz hr hs => ?_⟩
  · obtain ⟨h1, h2, h4, h3⟩ := hz
    rcases key j hj with rfl | rfl | h
    · have hs' : Touch g z z' := hs
      obtain ⟨b', sp', h2⟩ := h2
      refine ⟨(hs'.keep.2 A (blk_lt h1) hA (by simp)).trans h1, ⟨b', sp', h2.keep hs' (Ne.symm hne)⟩, by have := hs'.size; omega, fun N hN hN2 => hs'.below (h3 N hN hN2) hN (by omega)⟩
    · obtain ⟨hs', h5⟩ : Touch g2 z z' ∧ _ := hs
      exact ⟨(hs'.keep.2 A (blk_lt h1) hA2 (by simp)).trans h1, h5, by have := hs'.size; omega, fun N hN hN2 => hs'.below (h3 N hN hN2) hN2 (by omega)⟩
    · rw [h _ _ hs]; exact ⟨h1, h2, h4, h3⟩
  · rcases key j hj with rfl | rfl | h
    · have hs' : Touch g z z' := hs
      match i, hi with
      | 7, _ => exact RefAt.keep hp hs' (Ne.symm hne)
      | 3, _ => exact absurd rfl hij
      | 0, _ | 1, _ | 2, _ | 4, _ | 5, _ | 6, _ | 8, _ | 9, _ => trivial
    · obtain ⟨hs', _⟩ : Touch g2 z z' ∧ _ := hs
      match i, hi with
      | 3, _ => exact kin hp hz.2.1 hs'
      | 7, _ => exact absurd rfl hij
      | 0, _ | 1, _ | 2, _ | 4, _ | 5, _ | 6, _ | 8, _ | 9, _ => trivial
    · rw [h _ _ hs]; exact hp
  · rcases key j hj with rfl | rfl | h
    · have hs' : Touch g z z' := hs
      match i, hi with
      | 7, _ => exact ⟨hr.1, RefAt.keep hr.2 hs' (Ne.symm hne)⟩
      | 3, _ => exact absurd rfl hij
      | 0, _ | 1, _ | 2, _ | 4, _ | 5, _ | 6, _ | 8, _ | 9, _ => exact hr
    · obtain ⟨hs', _⟩ : Touch g2 z z' ∧ _ := hs
      match i, hi with
      | 3, _ => exact ⟨hr.1, kin hr.2 hz.2.1 hs'⟩
      | 7, _ => exact absurd rfl hij
      | 0, _ | 1, _ | 2, _ | 4, _ | 5, _ | 6, _ | 8, _ | 9, _ => exact hr
    · rw [h _ _ hs]; exact hr
theorem same_calls (g g2 : Nat) (hne : g ≠ g2) (x : S48) (gx : Good48 x) (b : ByteArray) (sp : Bool) (w : World) (hi : InAt g b sp w) (hr : RefAt g2 b sp w) :
    Calls Try.prog 22 #[.pointer (some ⟨g, 0, none⟩), .pointer (some ⟨g2, 0, none⟩), thA x] w fun e w' => e = .returned (.bool true) ∧ Both g g2 (moveS x.f0.toNat x.f3 b sp).1 (moveS x.f0.toNat x.f3 b sp).2 w w' := by
  obtain ⟨h0, h0', h1, h1', h2, h2', h3, h3'⟩ := good_nat gx
  have ok := hi.ok
  rw [th_nat gx]
  unfold thV moveS
  have b0 : x.f0.toNat < 256 := by omega
  have hm : -9223372036854775808 ≤ x.f3 ∧ x.f3 ≤ 9223372036854775807 := ⟨h3, h3'⟩
  generalize x.f0.toNat = kind at *
  generalize x.f1.f0.toNat = hi' at *
  generalize x.f1.f1.toNat = lo at *
  generalize x.f2 = s at *
  generalize x.f3 = most at *
  clear h0 h0' h1 h1' h2 h2' h3 h3' gx
  have gA := blk_new w (.cells #[.int .u8 kind, .int .u64 hi', .int .u64 lo, .string s, .int .i64 most] 48)
  have hb0 : Below w.heap.size w (w.alloc (.cells #[.int .u8 kind, .int .u64 hi', .int .u64 lo, .string s, .int .i64 most] 48)) := (Below.refl _ _).alloc (Nat.le_refl _) _
  have HI := Aside0.mk (hi.below hb0)
  have HR := Aside0.mk (hr.below hb0)
  have HG := Aside0.mk hi.lt
  have HG2 := Aside0.mk (blk_lt hr)
  have HB := Aside0.mk hb0
  have HA := Aside0.mk gA
  have hgi := hi.lt
  have hgr := blk_lt hr
  clear hb0 hi hr gA hgi hgr
  have fin : ∀ {T : ByteArray × Bool} {w1 w2 : World}, InAt g T.1 T.2 w1 → Touch g (w.alloc (.cells #[.int .u8 kind, .int .u64 hi', .int .u64 lo, .string s, .int .i64 most] 48)) w1 → RefAt g2 T.1 T.2 w2 → Touch g2 w1 w2 → RefAt g2 b sp w1 → Both g g2 T.1 T.2 w w2 := by
    intro T w1 w2 k1 k2 k3 k4 k5
    refine ⟨k1.keepBy k5 RefAt.noB k4 hne, k3, fun N hN hN2 => ?_⟩
    have e1 := HG.out
    have e2 := HG2.out
    have e3 := k2.size
    have e4 := HB.out.size
    exact k4.below (k2.below (HB.out.mono (by omega)) hN (by omega)) hN2 (by omega)
  have FIN := Aside0.mk @fin
  clear fin
  have hcase : (kind : Int) % 5 = 0 ∨ (kind : Int) % 5 = 1 ∨ (kind : Int) % 5 = 2 ∨ (kind : Int) % 5 = 3 ∨ (kind : Int) % 5 = 4 := by omega
  rcases hcase with hc | hc | hc | hc | hc
  · rw [if_pos (by omega)]
    have H1 := Aside0.mk (at_byte HI.out)
    have H2 := Aside0.mk (fun w' (k : RefAt g2 b sp w') => ref_byte k ok)
    clear ok
    generalize byteS b sp = T at *
    go_enter Try.func22, Try.ntmps22
    go_wp2_with fail
    refine H1.out.mono ?_
    rintro e w1 ⟨rfl, k1, k2⟩
    have k5 := HR.out.keep k2 (Ne.symm hne)
    have K := Aside0.mk (⟨k1, k2, k5⟩ : _ ∧ _ ∧ _)
    clear k1 k2 k5
    go_wp2_with fail
    refine (H2.out w1 K.out.2.2).mono ?_
    rintro e w2 ⟨rfl, k3, k4⟩
    have K2 := Aside0.mk (FIN.out K.out.1 K.out.2.1 k3 k4 K.out.2.2)
    clear k3 k4
    go_wp2_with fail
    go_ret
    exact ⟨rfl, K2.out⟩
  · rw [if_neg (by omega), if_pos (by omega)]
    have H1 := Aside0.mk (at_num HI.out)
    have H2 := Aside0.mk (fun w' (k : RefAt g2 b sp w') => ref_num k ok)
    clear ok
    generalize numS 8 b sp = T at *
    go_enter Try.func22, Try.ntmps22
    go_wp2_with fail
    refine H1.out.mono ?_
    rintro e w1 ⟨rfl, k1, k2⟩
    have k5 := HR.out.keep k2 (Ne.symm hne)
    have K := Aside0.mk (⟨k1, k2, k5⟩ : _ ∧ _ ∧ _)
    clear k1 k2 k5
    go_wp2_with fail
    refine (H2.out w1 K.out.2.2).mono ?_
    rintro e w2 ⟨rfl, k3, k4⟩
    have K2 := Aside0.mk (FIN.out K.out.1 K.out.2.1 k3 k4 K.out.2.2)
    clear k3 k4
    go_wp2_with fail
    go_ret
    exact ⟨rfl, K2.out⟩
  · rw [if_neg (by omega), if_neg (by omega), if_pos (by omega)]
    have H1 := Aside0.mk (at_wide HI.out)
    have H2 := Aside0.mk (fun w' (k : RefAt g2 b sp w') => ref_wide k ok)
    clear ok
    generalize numS 16 b sp = T at *
    go_enter Try.func22, Try.ntmps22
    go_wp2_with fail
    refine H1.out.mono ?_
    rintro e w1 ⟨rfl, k1, k2⟩
    have k5 := HR.out.keep k2 (Ne.symm hne)
    have K := Aside0.mk (⟨k1, k2, k5⟩ : _ ∧ _ ∧ _)
    clear k1 k2 k5
    go_wp2_with fail
    refine (H2.out w1 K.out.2.2).mono ?_
    rintro e w2 ⟨rfl, k3, k4⟩
    have K2 := Aside0.mk (FIN.out K.out.1 K.out.2.1 k3 k4 K.out.2.2)
    clear k3 k4
    go_wp2_with fail
    go_ret
    exact ⟨rfl, K2.out⟩
  · rw [if_neg (by omega), if_neg (by omega), if_neg (by omega), if_pos (by omega)]
    have H1 := Aside0.mk (at_flag HI.out)
    have H2 := Aside0.mk (fun w' (k : RefAt g2 b sp w') => ref_flag k ok)
    clear ok
    generalize flagS b sp = T at *
    go_enter Try.func22, Try.ntmps22
    go_wp2_with fail
    refine H1.out.mono ?_
    rintro e w1 ⟨rfl, k1, k2⟩
    have k5 := HR.out.keep k2 (Ne.symm hne)
    have K := Aside0.mk (⟨k1, k2, k5⟩ : _ ∧ _ ∧ _)
    clear k1 k2 k5
    go_wp2_with fail
    refine (H2.out w1 K.out.2.2).mono ?_
    rintro e w2 ⟨rfl, k3, k4⟩
    have K2 := Aside0.mk (FIN.out K.out.1 K.out.2.1 k3 k4 K.out.2.2)
    clear k3 k4
    go_wp2_with fail
    go_ret
    exact ⟨rfl, K2.out⟩
  · rw [if_neg (by omega), if_neg (by omega), if_neg (by omega), if_neg (by omega)]
    go_enter Try.func22, Try.ntmps22
    go_wp2_with fail
    refine Rel.region_told (toldT g g2 w.heap.size #[.int .u8 kind, .int .u64 hi', .int .u64 lo, .string s, .int .i64 most] most b sp w) 10 (by kernel_rfl) (by kernel_rfl) (by kernel_rfl) (by kernel_rfl) (toldT_ok g g2 w.heap.size hne (by have := HG.out; omega) (by have := HG2.out; omega) _ most b sp w _ HG.out) ?_ ?_ ?_ ?_
    · exact ⟨HA.out, ⟨b, sp, HR.out⟩, Nat.lt_of_lt_of_le HG2.out HB.out.size, fun N hN hN2 => (HB.out.mono (by have := HG.out; omega)).drew⟩
    · intro i hi
      match i, hi with
      | 3, _ => exact HI.out.below ((Below.refl _ _).drew)
      | 7, _ => exact HR.out
      | 0, _ | 1, _ | 2, _ | 4, _ | 5, _ | 6, _ | 8, _ | 9, _ => trivial
    · simp only [List.take_succ_cons, List.take_zero]
      refine ⟨?_, ?_, ?_, ?_, ?_, ?_, ?_, ?_, ?_, ?_, trivial⟩
      · refine Rel.UponS.of [] (by kernel_rfl) ?_
        intro vals z hz hp hn
        simp only [Rel.rp]
        go_wp2_with fail
        exact ⟨rfl, rfl⟩
      · refine Rel.UponS.of [] (by kernel_rfl) ?_
        intro vals z hz hp hn
        simp only [Rel.rp]
        go_wp2_with fail
        exact ⟨rfl, rfl⟩
      · refine Rel.UponS.of [1] (by kernel_rfl) ?_
        intro vals z hz hp hn
        have d1 : vals 1 = .pointer (some ⟨w.heap.size, 4, none⟩) := hn 1 (show 1 ∈ ([1] : List Nat) by decide)
        have c4 := blk_cell hz.1 4
        simp only [Rel.rp, d1]
        clear hn hz hp
        go_wp2_with fail
        exact ⟨rfl, rfl⟩
      · refine Rel.UponS.of [0, 2] (by kernel_rfl) ?_
        intro vals z hz hp hn
        have d0 : vals 0 = .pointer (some ⟨g, 0, none⟩) := hn 0 (show 0 ∈ ([0, 2] : List Nat) by decide)
        have d2 : vals 2 = .int .i64 most := hn 2 (show 2 ∈ ([0, 2] : List Nat) by decide)
        have H := Aside0.mk (at_text most hm (w := z) hp)
        simp only [Rel.rp, d0, d2]
        clear hn hz hp
        go_wp2_with fail
        refine H.out.mono ?_
        rintro e z1 ⟨rfl, k1, k2⟩
        have K := Aside0.mk (⟨k2, k1⟩ : Touch g z z1 ∧ InAt g (textS most b sp).2.1 (textS most b sp).2.2 z1)
        clear k1 k2
        go_wp2_with fail
        exact ⟨K.out.1, rfl, K.out.2⟩
      · refine Rel.UponS.of [] (by kernel_rfl) ?_
        intro vals z hz hp hn
        simp only [Rel.rp]
        go_wp2_with fail
        exact ⟨rfl, rfl⟩
      · refine Rel.UponS.of [] (by kernel_rfl) ?_
        intro vals z hz hp hn
        simp only [Rel.rp]
        go_wp2_with fail
        exact ⟨rfl, rfl⟩
      · refine Rel.UponS.of [5] (by kernel_rfl) ?_
        intro vals z hz hp hn
        have d1 : vals 5 = .pointer (some ⟨w.heap.size, 4, none⟩) := hn 5 (show 5 ∈ ([5] : List Nat) by decide)
        have c4 := blk_cell hz.1 4
        simp only [Rel.rp, d1]
        clear hn hz hp
        go_wp2_with fail
        exact ⟨rfl, rfl⟩
      · refine Rel.UponS.of [4, 6] (by kernel_rfl) ?_
        intro vals z hz hp hn
        have d0 : vals 4 = .pointer (some ⟨g2, 0, none⟩) := hn 4 (show 4 ∈ ([4, 6] : List Nat) by decide)
        have d2 : vals 6 = .int .i64 most := hn 6 (show 6 ∈ ([4, 6] : List Nat) by decide)
        have H := Aside0.mk (ref_text most hm (w := z) hp ok)
        simp only [Rel.rp, d0, d2]
        clear hn hz hp
        go_wp2_with fail
        refine H.out.mono ?_
        rintro e z1 ⟨rfl, k1, k2⟩
        have K := Aside0.mk (⟨⟨k2, _, _, k1⟩, k1⟩ : (Touch g2 z z1 ∧ ∃ b' sp', RefAt g2 b' sp' z1) ∧ RefAt g2 (textS most b sp).2.1 (textS most b sp).2.2 z1)
        clear k1 k2
        go_wp2_with fail
        exact ⟨K.out.1, rfl, K.out.2⟩
      · refine Rel.UponS.of [3, 7] (by kernel_rfl) ?_
        intro vals z hz hp hn
        have d3 : vals 3 = .string (textS most b sp).1 := (hn 3 (show 3 ∈ ([3, 7] : List Nat) by decide)).1
        have d7 : vals 7 = .string (textS most b sp).1 := (hn 7 (show 7 ∈ ([3, 7] : List Nat) by decide)).1
        simp only [Rel.rp, d3, d7]
        clear hn hz hp
        go_wp2_with fail
        exact ⟨rfl, rfl⟩
      · refine Rel.UponS.of [8] (by kernel_rfl) ?_
        intro vals z hz hp hn
        have d8 : vals 8 = .bool true := hn 8 (show 8 ∈ ([8] : List Nat) by decide)
        simp only [Rel.rp, d8]
        clear hn hz hp
        go_wp2_with fail
        exact ⟨rfl, rfl⟩
    · intro vals z hz hrel
      have d9 : vals 9 = .bool true := hrel 9 (by decide) rfl
      have i3 := (hrel 3 (by decide) rfl).2
      have r7 := (hrel 7 (by decide) rfl).2
      have K := Aside0.mk (⟨i3, r7, hz.2.2.2⟩ : Both g g2 (textS most b sp).2.1 (textS most b sp).2.2 w z)
      clear i3 r7 hz
      simp only [List.drop_succ_cons, List.drop_zero]
      rw [show List.range 10 = [0, 1, 2, 3, 4, 5, 6, 7, 8, 9] from rfl]
      generalize e0 : vals 0 = v0
      generalize e1 : vals 1 = v1
      generalize e2 : vals 2 = v2
      generalize e3 : vals 3 = v3
      generalize e4 : vals 4 = v4
      generalize e5 : vals 5 = v5
      generalize e6 : vals 6 = v6
      generalize e7 : vals 7 = v7
      generalize e8 : vals 8 = v8
      simp only [Rel.rp, d9, e0, e1, e2, e3, e4, e5, e6, e7, e8]
      clear hrel
      go_wp2_with fail
      go_ret
      exact ⟨rfl, K.out⟩
-- @@READS
theorem close_done (b : ByteArray) (sp : Bool) : (closeS b sp == 0) = refDone b sp := by
  unfold closeS refDone
  cases sp with
  | true => rfl
  | false =>
    by_cases h : 0 < b.size
    · rw [if_pos (.inr h)]
      have h2 : ((b.size : Int) == 0) = false := by
        rw [beq_eq_false_iff_ne]; omega
      rw [h2]; rfl
    · have e : b.size = 0 := by omega
      rw [if_neg (by rw [e]; simp), e]; rfl
theorem close_not (b : ByteArray) (sp : Bool) : ((closeS b sp == 80) == refDone b sp) = false := by
  have h := close_done b sp
  rw [← h]
  unfold closeS
  split <;> rfl
theorem keep_same {g2 : Nat} {b b0 : ByteArray} {sp sp0 : Bool} {w w' : World} (h : RefAt g2 b0 sp0 w) (h1 : RefAt g2 b sp w) (h2 : RefAt g2 b sp w') : RefAt g2 b0 sp0 w' := by
  have e : some (Obj.cells #[Value.string b, Value.bool sp] 58 (0, 0)) = some (Obj.cells #[Value.string b0, Value.bool sp0] 58 (0, 0)) := h1.symm.trans h
  exact Eq.trans h2 e
def toldR (g g2 : Nat) (b b1 : ByteArray) (sp sp1 : Bool) (w : World) (ad : Addr) (xs : List S48) (c : Nat) (t : Int) : Rel.Told where
  Z := fun z => Below w.heap.size w z
  Pr := fun j z => match j with
    | 6 => InAt g b sp z ∧ RefAt g2 b sp z
    | _ => True
  St := fun j z z' => match j with
    | 6 => Both g g2 b1 sp1 z z'
    | 32 => Touch g2 z z' ∧ ∀ b0 sp0, RefAt g2 b0 sp0 z → RefAt g2 b0 sp0 z'
    | _ => z' = z
  R := fun j v z => match j with
    | 0 => v = .pointer (some ⟨g, 0, none⟩)
    | 1 => v = .pointer (some ⟨g2, 0, none⟩)
    | 2 => v = .slice (some ad) xs.length c
    | 3 => v = .int .i64 t
    | 4 => v = .pointer (some (ad.add (t.toNat * 5)))
    | 5 => v = thA (rd_T48 xs t)
    | 6 => v = .bool true ∧ InAt g b1 sp1 z ∧ RefAt g2 b1 sp1 z
    | 7 => v = .bool false ∧ InAt g b1 sp1 z ∧ RefAt g2 b1 sp1 z
    | 8 => v = .bool false ∧ InAt g b1 sp1 z ∧ RefAt g2 b1 sp1 z
    | 9 => v = .pointer (some ⟨g, 0, none⟩) ∧ InAt g b1 sp1 z ∧ RefAt g2 b1 sp1 z
    | 10 => v = .bool sp1 ∧ InAt g b1 sp1 z ∧ RefAt g2 b1 sp1 z
    | 11 => v = .pointer (some ⟨g2, 0, none⟩) ∧ InAt g b1 sp1 z ∧ RefAt g2 b1 sp1 z
    | 12 => v = .pointer (some ⟨g2, 0, none⟩) ∧ InAt g b1 sp1 z ∧ RefAt g2 b1 sp1 z
    | 13 => v = .pointer (some ⟨g2, 1, none⟩) ∧ InAt g b1 sp1 z ∧ RefAt g2 b1 sp1 z
    | 14 => v = .bool sp1 ∧ InAt g b1 sp1 z ∧ RefAt g2 b1 sp1 z
    | 15 => v = .bool false ∧ InAt g b1 sp1 z ∧ RefAt g2 b1 sp1 z
    | 16 => v = .bool false ∧ InAt g b1 sp1 z ∧ RefAt g2 b1 sp1 z
    | 17 => v = .bool false ∧ InAt g b1 sp1 z ∧ RefAt g2 b1 sp1 z
    | 18 => v = .pointer (some ⟨g, 0, none⟩) ∧ InAt g b1 sp1 z ∧ RefAt g2 b1 sp1 z
    | 19 => v = .int .i64 b1.size ∧ InAt g b1 sp1 z ∧ RefAt g2 b1 sp1 z
    | 20 => v = .pointer (some ⟨g2, 0, none⟩) ∧ InAt g b1 sp1 z ∧ RefAt g2 b1 sp1 z
    | 21 => v = .pointer (some ⟨g2, 0, none⟩) ∧ InAt g b1 sp1 z ∧ RefAt g2 b1 sp1 z
    | 22 => v = .pointer (some ⟨g2, 0, none⟩) ∧ InAt g b1 sp1 z ∧ RefAt g2 b1 sp1 z
    | 23 => v = .string b1 ∧ InAt g b1 sp1 z ∧ RefAt g2 b1 sp1 z
    | 24 => v = .int .i64 b1.size ∧ InAt g b1 sp1 z ∧ RefAt g2 b1 sp1 z
    | 25 => v = .bool false ∧ InAt g b1 sp1 z ∧ RefAt g2 b1 sp1 z
    | 26 => v = .bool false ∧ InAt g b1 sp1 z ∧ RefAt g2 b1 sp1 z
    | 27 => v = .bool false ∧ InAt g b1 sp1 z ∧ RefAt g2 b1 sp1 z
    | 28 => v = .pointer (some ⟨g, 0, none⟩) ∧ InAt g b1 sp1 z ∧ RefAt g2 b1 sp1 z
    | 29 => v = .int .i64 (closeS b1 sp1) ∧ InAt g b1 sp1 z ∧ RefAt g2 b1 sp1 z
    | 30 => v = .bool (refDone b1 sp1) ∧ InAt g b1 sp1 z ∧ RefAt g2 b1 sp1 z
    | 31 => v = .pointer (some ⟨g2, 0, none⟩) ∧ InAt g b1 sp1 z ∧ RefAt g2 b1 sp1 z
    | 32 => v = .bool (refDone b1 sp1) ∧ InAt g b1 sp1 z ∧ RefAt g2 b1 sp1 z
    | 33 => v = .bool false ∧ InAt g b1 sp1 z ∧ RefAt g2 b1 sp1 z
    | 34 => v = .bool false ∧ InAt g b1 sp1 z ∧ RefAt g2 b1 sp1 z
    | _ => True
  need := fun j => match j with
    | 4 => [2, 3]
    | 5 => [4]
    | 6 => [0, 1, 5]
    | 7 => [6]
    | 8 => [7]
    | 9 => [8]
    | 10 => [8, 9]
    | 11 => [8]
    | 12 => [8, 11]
    | 13 => [8, 12]
    | 14 => [8, 13]
    | 15 => [8, 10, 14]
    | 16 => [8, 15]
    | 17 => [16]
    | 18 => [17]
    | 19 => [17, 18]
    | 20 => [17]
    | 21 => [17, 20]
    | 22 => [17, 21]
    | 23 => [17, 22]
    | 24 => [17, 23]
    | 25 => [17, 19, 24]
    | 26 => [17, 25]
    | 27 => [26]
    | 28 => [27]
    | 29 => [27, 28]
    | 30 => [27, 29]
    | 31 => [27]
    | 32 => [27, 31]
    | 33 => [27, 30, 32]
    | 34 => [27, 33]
    | _ => []
  kl := fun _ => []
  cl := fun j => match j with
    | 4 => [2, 3]
    | 5 => [2, 3, 4]
    | 6 => [0, 1, 2, 3, 4, 5]
    | 7 => [0, 1, 2, 3, 4, 5, 6]
    | 8 => [0, 1, 2, 3, 4, 5, 6, 7]
    | 9 => [0, 1, 2, 3, 4, 5, 6, 7, 8]
    | 10 => [0, 1, 2, 3, 4, 5, 6, 7, 8, 9]
    | 11 => [0, 1, 2, 3, 4, 5, 6, 7, 8]
    | 12 => [0, 1, 2, 3, 4, 5, 6, 7, 8, 11]
    | 13 => [0, 1, 2, 3, 4, 5, 6, 7, 8, 11, 12]
    | 14 => [0, 1, 2, 3, 4, 5, 6, 7, 8, 11, 12, 13]
    | 15 => [0, 1, 2, 3, 4, 5, 6, 7, 8, 9, 10, 11, 12, 13, 14]
    | 16 => [0, 1, 2, 3, 4, 5, 6, 7, 8, 9, 10, 11, 12, 13, 14, 15]
    | 17 => [0, 1, 2, 3, 4, 5, 6, 7, 8, 9, 10, 11, 12, 13, 14, 15, 16]
    | 18 => [0, 1, 2, 3, 4, 5, 6, 7, 8, 9, 10, 11, 12, 13, 14, 15, 16, 17]
    | 19 => [0, 1, 2, 3, 4, 5, 6, 7, 8, 9, 10, 11, 12, 13, 14, 15, 16, 17, 18]
    | 20 => [0, 1, 2, 3, 4, 5, 6, 7, 8, 9, 10, 11, 12, 13, 14, 15, 16, 17]
    | 21 => [0, 1, 2, 3, 4, 5, 6, 7, 8, 9, 10, 11, 12, 13, 14, 15, 16, 17, 20]
    | 22 => [0, 1, 2, 3, 4, 5, 6, 7, 8, 9, 10, 11, 12, 13, 14, 15, 16, 17, 20, 21]
    | 23 => [0, 1, 2, 3, 4, 5, 6, 7, 8, 9, 10, 11, 12, 13, 14, 15, 16, 17, 20, 21, 22]
    | 24 => [0, 1, 2, 3, 4, 5, 6, 7, 8, 9, 10, 11, 12, 13, 14, 15, 16, 17, 20, 21, 22, 23]
    | 25 => [0, 1, 2, 3, 4, 5, 6, 7, 8, 9, 10, 11, 12, 13, 14, 15, 16, 17, 18, 19, 20, 21, 22, 23, 24]
    | 26 => [0, 1, 2, 3, 4, 5, 6, 7, 8, 9, 10, 11, 12, 13, 14, 15, 16, 17, 18, 19, 20, 21, 22, 23, 24, 25]
    | 27 => [0, 1, 2, 3, 4, 5, 6, 7, 8, 9, 10, 11, 12, 13, 14, 15, 16, 17, 18, 19, 20, 21, 22, 23, 24, 25, 26]
    | 28 => [0, 1, 2, 3, 4, 5, 6, 7, 8, 9, 10, 11, 12, 13, 14, 15, 16, 17, 18, 19, 20, 21, 22, 23, 24, 25, 26, 27]
    | 29 => [0, 1, 2, 3, 4, 5, 6, 7, 8, 9, 10, 11, 12, 13, 14, 15, 16, 17, 18, 19, 20, 21, 22, 23, 24, 25, 26, 27, 28]
    | 30 => [0, 1, 2, 3, 4, 5, 6, 7, 8, 9, 10, 11, 12, 13, 14, 15, 16, 17, 18, 19, 20, 21, 22, 23, 24, 25, 26, 27, 28, 29]
    | 31 => [0, 1, 2, 3, 4, 5, 6, 7, 8, 9, 10, 11, 12, 13, 14, 15, 16, 17, 18, 19, 20, 21, 22, 23, 24, 25, 26, 27]
    | 32 => [0, 1, 2, 3, 4, 5, 6, 7, 8, 9, 10, 11, 12, 13, 14, 15, 16, 17, 18, 19, 20, 21, 22, 23, 24, 25, 26, 27, 28, 29, 31]
    | 33 => [0, 1, 2, 3, 4, 5, 6, 7, 8, 9, 10, 11, 12, 13, 14, 15, 16, 17, 18, 19, 20, 21, 22, 23, 24, 25, 26, 27, 28, 29, 30, 31, 32]
    | 34 => [0, 1, 2, 3, 4, 5, 6, 7, 8, 9, 10, 11, 12, 13, 14, 15, 16, 17, 18, 19, 20, 21, 22, 23, 24, 25, 26, 27, 28, 29, 30, 31, 32, 33]
    | _ => []
theorem toldR_key (g g2 : Nat) (b b1 : ByteArray) (sp sp1 : Bool) (w : World) (ad : Addr) (xs : List S48) (c : Nat) (t : Int) : ∀ j, j < 35 → j = 6 ∨ j = 32 ∨ ∀ z z', (toldR g g2 b b1 sp sp1 w ad xs c t).St j z z' → z' = z := by
  intro j hj
  match j, hj with
  | 6, _ => exact (.inl rfl)
  | 32, _ => exact (.inr (.inl rfl))
  | 0, _ | 1, _ | 2, _ | 3, _ | 4, _ | 5, _ | 7, _ | 8, _ | 9, _ | 10, _ | 11, _ | 12, _ | 13, _ | 14, _ | 15, _ | 16, _ | 17, _ | 18, _ | 19, _ | 20, _ | 21, _ | 22, _ | 23, _ | 24, _ | 25, _ | 26, _ | 27, _ | 28, _ | 29, _ | 30, _ | 31, _ | 33, _ | 34, _ => exact (.inr (.inr (fun _ _ h => h)))
  | _ + 35, h => exact absurd h (by omega)
theorem toldR_ok (g g2 : Nat) (b b1 : ByteArray) (sp sp1 : Bool) (w : World) (ad : Addr) (xs : List S48) (c : Nat) (t : Int) (hne : g ≠ g2) (hg : w.heap.size ≤ g) (hg2 : w.heap.size ≤ g2) (ops : Array Oper) : (toldR g g2 b b1 sp sp1 w ad xs c t).Ok ops 35 := by
  refine ⟨fun j z z' hj hz hs => ?_, fun i j z z' hi hj hij hw hz hp hs => ?_, fun i j v z z' hi hj hij hw hk hz hr hs => ?_⟩
  · rcases toldR_key g g2 b b1 sp sp1 w ad xs c t j hj with rfl | rfl | h
    · exact Below.trans hz ((show Both g g2 b1 sp1 z z' from hs).2.2 _ hg hg2)
    · exact (show Touch g2 z z' ∧ _ from hs).1.below hz hg2 (Below.size hz)
    · rw [h _ _ hs]; exact hz
  · rcases toldR_key g g2 b b1 sp sp1 w ad xs c t j hj with rfl | rfl | h
    · match i, hi with
      | 6, _ => exact absurd rfl hij
      | 0, _ | 1, _ | 2, _ | 3, _ | 4, _ | 5, _ | 7, _ | 8, _ | 9, _ | 10, _ | 11, _ | 12, _ | 13, _ | 14, _ | 15, _ | 16, _ | 17, _ | 18, _ | 19, _ | 20, _ | 21, _ | 22, _ | 23, _ | 24, _ | 25, _ | 26, _ | 27, _ | 28, _ | 29, _ | 30, _ | 31, _ | 32, _ | 33, _ | 34, _ => trivial
      | _ + 35, h => exact absurd h (by omega)
    · match i, hi with
      | 6, _ => exact ⟨(show InAt g b sp z ∧ RefAt g2 b sp z from hp).1.keepBy (show InAt g b sp z ∧ RefAt g2 b sp z from hp).2 RefAt.noB (show Touch g2 z z' ∧ _ from hs).1 hne, (show Touch g2 z z' ∧ _ from hs).2 _ _ (show InAt g b sp z ∧ RefAt g2 b sp z from hp).2⟩
      | 0, _ | 1, _ | 2, _ | 3, _ | 4, _ | 5, _ | 7, _ | 8, _ | 9, _ | 10, _ | 11, _ | 12, _ | 13, _ | 14, _ | 15, _ | 16, _ | 17, _ | 18, _ | 19, _ | 20, _ | 21, _ | 22, _ | 23, _ | 24, _ | 25, _ | 26, _ | 27, _ | 28, _ | 29, _ | 30, _ | 31, _ | 32, _ | 33, _ | 34, _ => trivial
      | _ + 35, h => exact absurd h (by omega)
    · rw [h _ _ hs]; exact hp
  · rcases toldR_key g g2 b b1 sp sp1 w ad xs c t j hj with rfl | rfl | h
    · match i, hi with
      | 0, _ | 1, _ | 2, _ | 3, _ | 4, _ | 5, _ => exact hr
      | 6, _ => exact absurd rfl hij
      | 7, _ | 8, _ | 9, _ | 10, _ | 11, _ | 12, _ | 13, _ | 14, _ | 15, _ | 16, _ | 17, _ | 18, _ | 19, _ | 20, _ | 21, _ | 22, _ | 23, _ | 24, _ | 25, _ | 26, _ | 27, _ | 28, _ | 29, _ | 30, _ | 31, _ | 32, _ | 33, _ | 34, _ => exact Bool.noConfusion (show true = false from hw)
      | _ + 35, h => exact absurd h (by omega)
    · match i, hi with
      | 0, _ | 1, _ | 2, _ | 3, _ | 4, _ | 5, _ => exact hr
      | 6, _ | 7, _ | 8, _ | 9, _ | 10, _ | 11, _ | 12, _ | 13, _ | 14, _ | 15, _ | 16, _ | 17, _ | 18, _ | 19, _ | 20, _ | 21, _ | 22, _ | 23, _ | 24, _ | 25, _ | 26, _ | 27, _ | 28, _ | 29, _ | 30, _ | 31, _ | 32, _ | 33, _ | 34, _ => exact ⟨hr.1, hr.2.1.keepBy hr.2.2 RefAt.noB (show Touch g2 z z' ∧ _ from hs).1 hne, (show Touch g2 z z' ∧ _ from hs).2 _ _ hr.2.2⟩
      | _ + 35, h => exact absurd h (by omega)
    · rw [h _ _ hs]; exact hr
theorem reads_walk (s : ByteArray) (hs : s.size ≤ 140737488351232) (xs : List S48) (A : Option Addr) (c : Nat) (w : World) (hC : Kd.C k48 w A xs.length xs) (hc : xs.length ≤ c) (hx : ∀ x ∈ xs, Good48 x) :
    Calls Try.prog 5 #[.string s, .slice A xs.length c] w fun e w' => e = .returned (.bool true) ∧ Below w.heap.size w w' := by
  obtain ⟨lb, hlb, hlc⟩ := long_calls A c xs w hC hc
  have HLC := Aside0.mk hlc
  clear hlc
  by_cases hl : 3000 < s.size
  · have h1 : (3000 : Int) < (s.size : Int) := by omega
    go_enter Try.func5, Try.ntmps5
    go_wp2_with fail
    go_ret
    exact ⟨rfl, Below.refl _ _⟩
  have h1 : ¬ (3000 : Int) < (s.size : Int) := by omega
  cases lb with
  | true =>
    go_enter Try.func5, Try.ntmps5
    go_wp2_with fail
    refine HLC.out.mono ?_
    rintro e w1 ⟨rfl, b1⟩
    have HB := Aside0.mk b1
    clear b1
    go_wp2_with fail
    go_ret
    exact ⟨rfl, HB.out⟩
  | false =>
    obtain ⟨hl200, hx2000⟩ := hlb rfl
    have HX := Aside0.mk hx
    have HC := Aside0.mk hC
    clear hC hx hx2000 hlb
    go_enter Try.func5, Try.ntmps5
    go_wp2_with fail
    refine HLC.out.mono ?_
    rintro e w1 ⟨rfl, b1⟩
    have HB1 := Aside0.mk b1
    clear b1
    go_wp2_with fail
    refine (at_open s hs w1).mono ?_
    rintro e w2 ⟨g, hg, rfl, i2, b2⟩
    have HB2 := Aside0.mk (HB1.out.trans (b2.mono HB1.out.size))
    have HG := Aside0.mk (Nat.le_trans HB1.out.size hg)
    have hb0 : Below w2.heap.size w2 (w2.alloc (.cells #[.string s, .bool false] 58)) := (Below.refl _ _).alloc (Nat.le_refl _) _
    have HI := Aside0.mk (i2.below hb0)
    have HR : Aside0 (RefAt w2.heap.size s false (w2.alloc (.cells #[.string s, .bool false] 58))) := Aside0.mk (blk_new _ _)
    have HNE := Aside0.mk (show g ≠ w2.heap.size by have := i2.lt; omega)
    have HB3 := Aside0.mk (HB2.out.trans (hb0.mono HB2.out.size))
    have HG2 := Aside0.mk HB2.out.size
    clear hb0 i2 b2 hg
    go_wp2_with fail
    obtain ⟨g2, hg2⟩ : ∃ g2, g2 = w2.heap.size := ⟨_, rfl⟩
    rw [← hg2] at HR HNE HG2
    simp only [← hg2]
    clear hg2
    go_loopg [7] (xs.length + 1) (fun k iv wr => ∃ (t : Int) (b : ByteArray) (sp : Bool), 0 ≤ t ∧ t + k = xs.length + 1 ∧ t ≤ xs.length ∧ iv = .int .i64 t ∧ InAt g b sp wr ∧ RefAt g2 b sp wr ∧ Below w.heap.size w wr)
    case atStart => exact ⟨0, s, false, by omega, by omega, by omega, rfl, HI.out, HR.out, HB3.out⟩
    case round =>
      obtain ⟨t, b, sp, h0, hk, ht, rfl, hi, hr, hb⟩ := hrel
      by_cases hlt : t < xs.length
      · obtain ⟨ad, e, x0, x1, x2, x3, x4⟩ := at_T48 (Kd.C_below HC.out hb) t h0 hlt
        cases e
        clear x0 x1 x2 x3 x4
        have hm : rd_T48 xs t ∈ xs := by
          unfold rd_T48
          rw [List.getD_eq_getElem?_getD, List.getElem?_eq_getElem (by omega)]
          exact List.getElem_mem _
        have HS := Aside0.mk (fun z (h1 : InAt g b sp z) (h2 : RefAt g2 b sp z) => same_calls g g2 HNE.out (rd_T48 xs t) (HX.out _ hm) b sp z h1 h2)
        generalize (moveS (rd_T48 xs t).f0.toNat (rd_T48 xs t).f3 b sp).1 = b1 at HS
        generalize (moveS (rd_T48 xs t).f0.toNat (rd_T48 xs t).f3 b sp).2 = sp1 at HS
        have HCD := Aside0.mk (close_done b1 sp1)
        have HLT := Aside0.mk hlt
        have HT0 := Aside0.mk h0
        have HK := Aside0.mk hk
        have HI2 := Aside0.mk hi
        have HR2 := Aside0.mk hr
        have HBB := Aside0.mk hb
        clear hm hi hr hb
        go_wp2_with fail
        refine Rel.region_told (toldR g g2 b b1 sp sp1 w ad xs c t) 35 (by kernel_rfl) (by kernel_rfl) (by kernel_rfl) (by kernel_rfl) (toldR_ok g g2 b b1 sp sp1 w ad xs c t HNE.out HG.out HG2.out _) HBB.out.drew ?_ ?_ ?_
        · intro i hi
          match i, hi with
          | 6, _ => exact ⟨HI2.out.below (Below.refl _ _).drew, HR2.out⟩
          | 0, _ | 1, _ | 2, _ | 3, _ | 4, _ | 5, _ | 7, _ | 8, _ | 9, _ | 10, _ | 11, _ | 12, _ | 13, _ | 14, _ | 15, _ | 16, _ | 17, _ | 18, _ | 19, _ | 20, _ | 21, _ | 22, _ | 23, _ | 24, _ | 25, _ | 26, _ | 27, _ | 28, _ | 29, _ | 30, _ | 31, _ | 32, _ | 33, _ | 34, _ => trivial
          | _ + 35, h => exact absurd h (by omega)
        · simp only [List.take_succ_cons, List.take_zero]
          refine ⟨?_, ?_, ?_, ?_, ?_, ?_, ?_, ?_, ?_, ?_, ?_, ?_, ?_, ?_, ?_, ?_, ?_, ?_, ?_, ?_, ?_, ?_, ?_, ?_, ?_, ?_, ?_, ?_, ?_, ?_, ?_, ?_, ?_, ?_, ?_, trivial⟩
          · refine Rel.UponS.of [] (by kernel_rfl) ?_
            intro vals z hz hp hn
            simp only [Rel.rp]
            clear hn hz hp
            go_wp2_with fail
            exact ⟨rfl, rfl⟩
          · refine Rel.UponS.of [] (by kernel_rfl) ?_
            intro vals z hz hp hn
            simp only [Rel.rp]
            clear hn hz hp
            go_wp2_with fail
            exact ⟨rfl, rfl⟩
          · refine Rel.UponS.of [] (by kernel_rfl) ?_
            intro vals z hz hp hn
            simp only [Rel.rp]
            clear hn hz hp
            go_wp2_with fail
            exact ⟨rfl, rfl⟩
          · refine Rel.UponS.of [] (by kernel_rfl) ?_
            intro vals z hz hp hn
            simp only [Rel.rp]
            clear hn hz hp
            go_wp2_with fail
            exact ⟨rfl, rfl⟩
          · refine Rel.UponS.of [2, 3] (by kernel_rfl) ?_
            intro vals z hz hp hn
            have d2 : vals 2 = .slice (some ad) xs.length c := hn 2 (show 2 ∈ ([2, 3] : List Nat) by decide)
            have d3 : vals 3 = .int .i64 t := hn 3 (show 3 ∈ ([2, 3] : List Nat) by decide)
            have hlen := HLT.out
            simp only [Rel.rp, d2, d3]
            clear hn hz hp
            go_wp2_with fail
            exact ⟨rfl, rfl⟩
          · refine Rel.UponS.of [4] (by kernel_rfl) ?_
            intro vals z hz hp hn
            have d4 : vals 4 = .pointer (some (ad.add (t.toNat * 5))) := hn 4 (show 4 ∈ ([4] : List Nat) by decide)
            obtain ⟨ad', e', x0, x1, x2, x3, x4⟩ := at_T48 (Kd.C_below HC.out hz) t HT0.out HLT.out
            cases e'
            simp only [Rel.rp, d4]
            clear hn hz hp
            go_wp2_with fail
            exact ⟨rfl, rfl⟩
          · refine Rel.UponS.of [0, 1, 5] (by kernel_rfl) ?_
            intro vals z hz hp hn
            have d0 : vals 0 = .pointer (some ⟨g, 0, none⟩) := hn 0 (show 0 ∈ ([0, 1, 5] : List Nat) by decide)
            have d1 : vals 1 = .pointer (some ⟨g2, 0, none⟩) := hn 1 (show 1 ∈ ([0, 1, 5] : List Nat) by decide)
            have d5 : vals 5 = thA (rd_T48 xs t) := hn 5 (show 5 ∈ ([0, 1, 5] : List Nat) by decide)
            have H := Aside0.mk (HS.out z hp.1 hp.2)
            simp only [Rel.rp, d0, d1, d5]
            clear hn hz hp
            go_wp2_with fail
            refine H.out.mono ?_
            rintro e z1 ⟨rfl, k1⟩
            have K := Aside0.mk k1
            clear k1
            go_wp2_with fail
            exact ⟨K.out, rfl, K.out.1, K.out.2.1⟩
          · refine Rel.UponS.of [6] (by kernel_rfl) ?_
            intro vals z hz hp hn
            have d6 : vals 6 = .bool true := (hn 6 (show 6 ∈ ([6] : List Nat) by decide)).1
            have hst := Aside0.mk (hn 6 (show 6 ∈ ([6] : List Nat) by decide))
            simp only [Rel.rp, d6]
            clear hn hz hp
            go_wp2_with fail
            exact ⟨rfl, rfl, hst.out.2⟩
          · refine Rel.UponS.of [7] (by kernel_rfl) ?_
            intro vals z hz hp hn
            have d7 : vals 7 = .bool false := (hn 7 (show 7 ∈ ([7] : List Nat) by decide)).1
            have hst := Aside0.mk (hn 7 (show 7 ∈ ([7] : List Nat) by decide))
            simp only [Rel.rp, d7]
            clear hn hz hp
            go_wp2_with fail
            exact ⟨rfl, rfl, hst.out.2⟩
          · refine Rel.UponS.of [8] (by kernel_rfl) ?_
            intro vals z hz hp hn
            have d8 : vals 8 = .bool false := (hn 8 (show 8 ∈ ([8] : List Nat) by decide)).1
            have hst := Aside0.mk (hn 8 (show 8 ∈ ([8] : List Nat) by decide))
            simp only [Rel.rp, d8]
            clear hn hz hp
            go_wp2_with fail
            exact ⟨rfl, rfl, hst.out.2⟩
          · refine Rel.UponS.of [8, 9] (by kernel_rfl) ?_
            intro vals z hz hp hn
            have d8 : vals 8 = .bool false := (hn 8 (show 8 ∈ ([8, 9] : List Nat) by decide)).1
            have d9 : vals 9 = .pointer (some ⟨g, 0, none⟩) := (hn 9 (show 9 ∈ ([8, 9] : List Nat) by decide)).1
            have hst := Aside0.mk (hn 8 (show 8 ∈ ([8, 9] : List Nat) by decide))
            have H := Aside0.mk (at_spoilt hst.out.2.1)
            simp only [Rel.rp, d8, d9]
            clear hn hz hp
            go_wp2_with fail
            refine H.out.mono ?_
            rintro e z1 ⟨rfl, rfl⟩
            go_wp2_with fail
            exact ⟨rfl, rfl, hst.out.2⟩
          · refine Rel.UponS.of [8] (by kernel_rfl) ?_
            intro vals z hz hp hn
            have d8 : vals 8 = .bool false := (hn 8 (show 8 ∈ ([8] : List Nat) by decide)).1
            have hst := Aside0.mk (hn 8 (show 8 ∈ ([8] : List Nat) by decide))
            simp only [Rel.rp, d8]
            clear hn hz hp
            go_wp2_with fail
            exact ⟨rfl, rfl, hst.out.2⟩
          · refine Rel.UponS.of [8, 11] (by kernel_rfl) ?_
            intro vals z hz hp hn
            have d8 : vals 8 = .bool false := (hn 8 (show 8 ∈ ([8, 11] : List Nat) by decide)).1
            have d11 : vals 11 = .pointer (some ⟨g2, 0, none⟩) := (hn 11 (show 11 ∈ ([8, 11] : List Nat) by decide)).1
            have hst := Aside0.mk (hn 8 (show 8 ∈ ([8, 11] : List Nat) by decide))
            simp only [Rel.rp, d8, d11]
            clear hn hz hp
            go_wp2_with fail
            exact ⟨rfl, rfl, hst.out.2⟩
          · refine Rel.UponS.of [8, 12] (by kernel_rfl) ?_
            intro vals z hz hp hn
            have d8 : vals 8 = .bool false := (hn 8 (show 8 ∈ ([8, 12] : List Nat) by decide)).1
            have d12 : vals 12 = .pointer (some ⟨g2, 0, none⟩) := (hn 12 (show 12 ∈ ([8, 12] : List Nat) by decide)).1
            have hst := Aside0.mk (hn 8 (show 8 ∈ ([8, 12] : List Nat) by decide))
            simp only [Rel.rp, d8, d12]
            clear hn hz hp
            go_wp2_with fail
            exact ⟨rfl, rfl, hst.out.2⟩
          · refine Rel.UponS.of [8, 13] (by kernel_rfl) ?_
            intro vals z hz hp hn
            have d8 : vals 8 = .bool false := (hn 8 (show 8 ∈ ([8, 13] : List Nat) by decide)).1
            have d13 : vals 13 = .pointer (some ⟨g2, 1, none⟩) := (hn 13 (show 13 ∈ ([8, 13] : List Nat) by decide)).1
            have hst := Aside0.mk (hn 8 (show 8 ∈ ([8, 13] : List Nat) by decide))
            have c1 := blk_cell hst.out.2.2 1
            simp only [Rel.rp, d8, d13]
            clear hn hz hp
            go_wp2_with fail
            exact ⟨rfl, rfl, hst.out.2⟩
          · refine Rel.UponS.of [8, 10, 14] (by kernel_rfl) ?_
            intro vals z hz hp hn
            have d8 : vals 8 = .bool false := (hn 8 (show 8 ∈ ([8, 10, 14] : List Nat) by decide)).1
            have d10 : vals 10 = .bool sp1 := (hn 10 (show 10 ∈ ([8, 10, 14] : List Nat) by decide)).1
            have d14 : vals 14 = .bool sp1 := (hn 14 (show 14 ∈ ([8, 10, 14] : List Nat) by decide)).1
            have hst := Aside0.mk (hn 8 (show 8 ∈ ([8, 10, 14] : List Nat) by decide))
            simp only [Rel.rp, d8, d10, d14]
            clear hn hz hp
            go_wp2_with fail
            exact ⟨rfl, rfl, hst.out.2⟩
          · refine Rel.UponS.of [8, 15] (by kernel_rfl) ?_
            intro vals z hz hp hn
            have d8 : vals 8 = .bool false := (hn 8 (show 8 ∈ ([8, 15] : List Nat) by decide)).1
            have d15 : vals 15 = .bool false := (hn 15 (show 15 ∈ ([8, 15] : List Nat) by decide)).1
            have hst := Aside0.mk (hn 8 (show 8 ∈ ([8, 15] : List Nat) by decide))
            simp only [Rel.rp, d8, d15]
            clear hn hz hp
            go_wp2_with fail
            exact ⟨rfl, rfl, hst.out.2⟩
          · refine Rel.UponS.of [16] (by kernel_rfl) ?_
            intro vals z hz hp hn
            have d16 : vals 16 = .bool false := (hn 16 (show 16 ∈ ([16] : List Nat) by decide)).1
            have hst := Aside0.mk (hn 16 (show 16 ∈ ([16] : List Nat) by decide))
            simp only [Rel.rp, d16]
            clear hn hz hp
            go_wp2_with fail
            exact ⟨rfl, rfl, hst.out.2⟩
          · refine Rel.UponS.of [17] (by kernel_rfl) ?_
            intro vals z hz hp hn
            have d17 : vals 17 = .bool false := (hn 17 (show 17 ∈ ([17] : List Nat) by decide)).1
            have hst := Aside0.mk (hn 17 (show 17 ∈ ([17] : List Nat) by decide))
            simp only [Rel.rp, d17]
            clear hn hz hp
            go_wp2_with fail
            exact ⟨rfl, rfl, hst.out.2⟩
          · refine Rel.UponS.of [17, 18] (by kernel_rfl) ?_
            intro vals z hz hp hn
            have d17 : vals 17 = .bool false := (hn 17 (show 17 ∈ ([17, 18] : List Nat) by decide)).1
            have d18 : vals 18 = .pointer (some ⟨g, 0, none⟩) := (hn 18 (show 18 ∈ ([17, 18] : List Nat) by decide)).1
            have hst := Aside0.mk (hn 17 (show 17 ∈ ([17, 18] : List Nat) by decide))
            have H := Aside0.mk (at_rest hst.out.2.1)
            simp only [Rel.rp, d17, d18]
            clear hn hz hp
            go_wp2_with fail
            refine H.out.mono ?_
            rintro e z1 ⟨rfl, rfl⟩
            go_wp2_with fail
            exact ⟨rfl, rfl, hst.out.2⟩
          · refine Rel.UponS.of [17] (by kernel_rfl) ?_
            intro vals z hz hp hn
            have d17 : vals 17 = .bool false := (hn 17 (show 17 ∈ ([17] : List Nat) by decide)).1
            have hst := Aside0.mk (hn 17 (show 17 ∈ ([17] : List Nat) by decide))
            simp only [Rel.rp, d17]
            clear hn hz hp
            go_wp2_with fail
            exact ⟨rfl, rfl, hst.out.2⟩
          · refine Rel.UponS.of [17, 20] (by kernel_rfl) ?_
            intro vals z hz hp hn
            have d17 : vals 17 = .bool false := (hn 17 (show 17 ∈ ([17, 20] : List Nat) by decide)).1
            have d20 : vals 20 = .pointer (some ⟨g2, 0, none⟩) := (hn 20 (show 20 ∈ ([17, 20] : List Nat) by decide)).1
            have hst := Aside0.mk (hn 17 (show 17 ∈ ([17, 20] : List Nat) by decide))
            simp only [Rel.rp, d17, d20]
            clear hn hz hp
            go_wp2_with fail
            exact ⟨rfl, rfl, hst.out.2⟩
          · refine Rel.UponS.of [17, 21] (by kernel_rfl) ?_
            intro vals z hz hp hn
            have d17 : vals 17 = .bool false := (hn 17 (show 17 ∈ ([17, 21] : List Nat) by decide)).1
            have d21 : vals 21 = .pointer (some ⟨g2, 0, none⟩) := (hn 21 (show 21 ∈ ([17, 21] : List Nat) by decide)).1
            have hst := Aside0.mk (hn 17 (show 17 ∈ ([17, 21] : List Nat) by decide))
            simp only [Rel.rp, d17, d21]
            clear hn hz hp
            go_wp2_with fail
            exact ⟨rfl, rfl, hst.out.2⟩
          · refine Rel.UponS.of [17, 22] (by kernel_rfl) ?_
            intro vals z hz hp hn
            have d17 : vals 17 = .bool false := (hn 17 (show 17 ∈ ([17, 22] : List Nat) by decide)).1
            have d22 : vals 22 = .pointer (some ⟨g2, 0, none⟩) := (hn 22 (show 22 ∈ ([17, 22] : List Nat) by decide)).1
            have hst := Aside0.mk (hn 17 (show 17 ∈ ([17, 22] : List Nat) by decide))
            have c0 := blk_cell hst.out.2.2 0
            simp only [Rel.rp, d17, d22]
            clear hn hz hp
            go_wp2_with fail
            exact ⟨rfl, rfl, hst.out.2⟩
          · refine Rel.UponS.of [17, 23] (by kernel_rfl) ?_
            intro vals z hz hp hn
            have d17 : vals 17 = .bool false := (hn 17 (show 17 ∈ ([17, 23] : List Nat) by decide)).1
            have d23 : vals 23 = .string b1 := (hn 23 (show 23 ∈ ([17, 23] : List Nat) by decide)).1
            have hst := Aside0.mk (hn 17 (show 17 ∈ ([17, 23] : List Nat) by decide))
            simp only [Rel.rp, d17, d23]
            clear hn hz hp
            go_wp2_with fail
            exact ⟨rfl, rfl, hst.out.2⟩
          · refine Rel.UponS.of [17, 19, 24] (by kernel_rfl) ?_
            intro vals z hz hp hn
            have d17 : vals 17 = .bool false := (hn 17 (show 17 ∈ ([17, 19, 24] : List Nat) by decide)).1
            have d19 : vals 19 = .int .i64 b1.size := (hn 19 (show 19 ∈ ([17, 19, 24] : List Nat) by decide)).1
            have d24 : vals 24 = .int .i64 b1.size := (hn 24 (show 24 ∈ ([17, 19, 24] : List Nat) by decide)).1
            have hst := Aside0.mk (hn 17 (show 17 ∈ ([17, 19, 24] : List Nat) by decide))
            simp only [Rel.rp, d17, d19, d24]
            clear hn hz hp
            go_wp2_with fail
            exact ⟨rfl, rfl, hst.out.2⟩
          · refine Rel.UponS.of [17, 25] (by kernel_rfl) ?_
            intro vals z hz hp hn
            have d17 : vals 17 = .bool false := (hn 17 (show 17 ∈ ([17, 25] : List Nat) by decide)).1
            have d25 : vals 25 = .bool false := (hn 25 (show 25 ∈ ([17, 25] : List Nat) by decide)).1
            have hst := Aside0.mk (hn 17 (show 17 ∈ ([17, 25] : List Nat) by decide))
            simp only [Rel.rp, d17, d25]
            clear hn hz hp
            go_wp2_with fail
            exact ⟨rfl, rfl, hst.out.2⟩
          · refine Rel.UponS.of [26] (by kernel_rfl) ?_
            intro vals z hz hp hn
            have d26 : vals 26 = .bool false := (hn 26 (show 26 ∈ ([26] : List Nat) by decide)).1
            have hst := Aside0.mk (hn 26 (show 26 ∈ ([26] : List Nat) by decide))
            simp only [Rel.rp, d26]
            clear hn hz hp
            go_wp2_with fail
            exact ⟨rfl, rfl, hst.out.2⟩
          · refine Rel.UponS.of [27] (by kernel_rfl) ?_
            intro vals z hz hp hn
            have d27 : vals 27 = .bool false := (hn 27 (show 27 ∈ ([27] : List Nat) by decide)).1
            have hst := Aside0.mk (hn 27 (show 27 ∈ ([27] : List Nat) by decide))
            simp only [Rel.rp, d27]
            clear hn hz hp
            go_wp2_with fail
            exact ⟨rfl, rfl, hst.out.2⟩
          · refine Rel.UponS.of [27, 28] (by kernel_rfl) ?_
            intro vals z hz hp hn
            have d27 : vals 27 = .bool false := (hn 27 (show 27 ∈ ([27, 28] : List Nat) by decide)).1
            have d28 : vals 28 = .pointer (some ⟨g, 0, none⟩) := (hn 28 (show 28 ∈ ([27, 28] : List Nat) by decide)).1
            have hst := Aside0.mk (hn 27 (show 27 ∈ ([27, 28] : List Nat) by decide))
            have H := Aside0.mk (at_close hst.out.2.1)
            simp only [Rel.rp, d27, d28]
            clear hn hz hp
            go_wp2_with fail
            refine H.out.mono ?_
            rintro e z1 ⟨rfl, rfl⟩
            go_wp2_with fail
            exact ⟨rfl, rfl, hst.out.2⟩
          · refine Rel.UponS.of [27, 29] (by kernel_rfl) ?_
            intro vals z hz hp hn
            have d27 : vals 27 = .bool false := (hn 27 (show 27 ∈ ([27, 29] : List Nat) by decide)).1
            have d29 : vals 29 = .int .i64 (closeS b1 sp1) := (hn 29 (show 29 ∈ ([27, 29] : List Nat) by decide)).1
            have hst := Aside0.mk (hn 27 (show 27 ∈ ([27, 29] : List Nat) by decide))
            have hcd := HCD.out
            simp only [Rel.rp, d27, d29]
            clear hn hz hp
            go_wp2_with fail
            exact ⟨rfl, rfl, hst.out.2⟩
          · refine Rel.UponS.of [27] (by kernel_rfl) ?_
            intro vals z hz hp hn
            have d27 : vals 27 = .bool false := (hn 27 (show 27 ∈ ([27] : List Nat) by decide)).1
            have hst := Aside0.mk (hn 27 (show 27 ∈ ([27] : List Nat) by decide))
            simp only [Rel.rp, d27]
            clear hn hz hp
            go_wp2_with fail
            exact ⟨rfl, rfl, hst.out.2⟩
          · refine Rel.UponS.of [27, 31] (by kernel_rfl) ?_
            intro vals z hz hp hn
            have d27 : vals 27 = .bool false := (hn 27 (show 27 ∈ ([27, 31] : List Nat) by decide)).1
            have d31 : vals 31 = .pointer (some ⟨g2, 0, none⟩) := (hn 31 (show 31 ∈ ([27, 31] : List Nat) by decide)).1
            have hst := Aside0.mk (hn 27 (show 27 ∈ ([27, 31] : List Nat) by decide))
            have H := Aside0.mk (ref_done hst.out.2.2)
            have hst3 := Aside0.mk hst.out.2.1
            simp only [Rel.rp, d27, d31]
            clear hn hz hp
            go_wp2_with fail
            refine H.out.mono ?_
            rintro e z1 ⟨rfl, k1, k2⟩
            have K := Aside0.mk (⟨k1, k2⟩ : _ ∧ _)
            clear k1 k2
            go_wp2_with fail
            exact ⟨⟨K.out.2, fun b0 sp0 h => (keep_same h hst.out.2.2 K.out.1)⟩, rfl, hst3.out.keepBy hst.out.2.2 RefAt.noB K.out.2 HNE.out, K.out.1⟩
          · refine Rel.UponS.of [27, 30, 32] (by kernel_rfl) ?_
            intro vals z hz hp hn
            have d27 : vals 27 = .bool false := (hn 27 (show 27 ∈ ([27, 30, 32] : List Nat) by decide)).1
            have d30 : vals 30 = .bool (refDone b1 sp1) := (hn 30 (show 30 ∈ ([27, 30, 32] : List Nat) by decide)).1
            have d32 : vals 32 = .bool (refDone b1 sp1) := (hn 32 (show 32 ∈ ([27, 30, 32] : List Nat) by decide)).1
            have hst := Aside0.mk (hn 27 (show 27 ∈ ([27, 30, 32] : List Nat) by decide))
            simp only [Rel.rp, d27, d30, d32]
            clear hn hz hp
            go_wp2_with fail
            exact ⟨rfl, rfl, hst.out.2⟩
          · refine Rel.UponS.of [27, 33] (by kernel_rfl) ?_
            intro vals z hz hp hn
            have d27 : vals 27 = .bool false := (hn 27 (show 27 ∈ ([27, 33] : List Nat) by decide)).1
            have d33 : vals 33 = .bool false := (hn 33 (show 33 ∈ ([27, 33] : List Nat) by decide)).1
            have hst := Aside0.mk (hn 27 (show 27 ∈ ([27, 33] : List Nat) by decide))
            simp only [Rel.rp, d27, d33]
            clear hn hz hp
            go_wp2_with fail
            exact ⟨rfl, rfl, hst.out.2⟩
        · intro vals z hz hrel
          have d34 : vals 34 = .bool false := (hrel 34 (by decide) rfl).1
          have K := Aside0.mk (⟨(hrel 34 (by decide) rfl).2, hz⟩ : (InAt g b1 sp1 z ∧ RefAt g2 b1 sp1 z) ∧ Below w.heap.size w z)
          clear hz
          simp only [List.drop_succ_cons, List.drop_zero]
          rw [show List.range 35 = [0, 1, 2, 3, 4, 5, 6, 7, 8, 9, 10, 11, 12, 13, 14, 15, 16, 17, 18, 19, 20, 21, 22, 23, 24, 25, 26, 27, 28, 29, 30, 31, 32, 33, 34] from rfl]
          generalize e0 : vals 0 = v0
          generalize e1 : vals 1 = v1
          generalize e2 : vals 2 = v2
          generalize e3 : vals 3 = v3
          generalize e4 : vals 4 = v4
          generalize e5 : vals 5 = v5
          generalize e6 : vals 6 = v6
          generalize e7 : vals 7 = v7
          generalize e8 : vals 8 = v8
          generalize e9 : vals 9 = v9
          generalize e10 : vals 10 = v10
          generalize e11 : vals 11 = v11
          generalize e12 : vals 12 = v12
          generalize e13 : vals 13 = v13
          generalize e14 : vals 14 = v14
          generalize e15 : vals 15 = v15
          generalize e16 : vals 16 = v16
          generalize e17 : vals 17 = v17
          generalize e18 : vals 18 = v18
          generalize e19 : vals 19 = v19
          generalize e20 : vals 20 = v20
          generalize e21 : vals 21 = v21
          generalize e22 : vals 22 = v22
          generalize e23 : vals 23 = v23
          generalize e24 : vals 24 = v24
          generalize e25 : vals 25 = v25
          generalize e26 : vals 26 = v26
          generalize e27 : vals 27 = v27
          generalize e28 : vals 28 = v28
          generalize e29 : vals 29 = v29
          generalize e30 : vals 30 = v30
          generalize e31 : vals 31 = v31
          generalize e32 : vals 32 = v32
          generalize e33 : vals 33 = v33
          simp only [Rel.rp, e0, e1, e2, e3, e4, e5, e6, e7, e8, e9, e10, e11, e12, e13, e14, e15, e16, e17, e18, e19, e20, e21, e22, e23, e24, e25, e26, e27, e28, e29, e30, e31, e32, e33, d34]
          clear hrel
          go_wp2_with fail
          go_roundg (gk - 1)
          case measure => have := HK.out; have := HLT.out; omega
          case rel => exact ⟨t + 1, b1, sp1, by have := HT0.out; omega, by have := HK.out; omega, by have := HLT.out; omega, by go_num, K.out.1.1, K.out.1.2, K.out.2⟩
      · have HI2 := Aside0.mk hi
        have HR2 := Aside0.mk hr
        have HBB := Aside0.mk hb
        have HCN := Aside0.mk (close_not b sp)
        clear hi hr hb
        go_wp2_with fail
        refine (at_close HI2.out).mono ?_
        rintro e z1 ⟨rfl, rfl⟩
        go_wp2_with fail
        refine (ref_done HR2.out).mono ?_
        rintro e z1 ⟨rfl, r1, t1⟩
        have HI3 := Aside0.mk (HI2.out.keepBy HR2.out RefAt.noB t1 HNE.out)
        have HB4 := Aside0.mk (t1.below HBB.out HG2.out HBB.out.size)
        have hcn := HCN.out
        clear r1 t1
        go_wp2_with fail
        refine (at_spoil HI3.out).mono ?_
        rintro e z2 ⟨rfl, i4, t2⟩
        have HI4 := Aside0.mk i4
        have HB5 := Aside0.mk (t2.below HB4.out HG.out HB4.out.size)
        clear i4 t2 hcn
        go_wp2_with fail
        refine (at_spoilt HI4.out).mono ?_
        rintro e z1 ⟨rfl, rfl⟩
        go_wp2_with fail
        refine (at_rest HI4.out).mono ?_
        rintro e z1 ⟨rfl, rfl⟩
        rw [show ((noB.size : Nat) : Int) = 0 from rfl]
        go_wp2_with fail
        refine (at_byte HI4.out).mono ?_
        rintro e z3 ⟨rfl, i5, t3⟩
        rw [show (((byteS noB true).1 : Nat) : Int) = 0 from rfl]
        have HI5 := Aside0.mk i5
        have HB6 := Aside0.mk (t3.below HB5.out HG.out HB5.out.size)
        clear i5 t3
        go_wp2_with fail
        refine (at_close HI5.out).mono ?_
        rintro e z1 ⟨rfl, rfl⟩
        rw [show closeS (byteS noB true).2.1 (byteS noB true).2.2 = 80 from rfl]
        go_wp2_with fail
        go_ret
        exact ⟨rfl, HB6.out⟩
theorem octreads_row (w : World) (s : ByteArray) (hs : s.size ≤ 140737488351232) (A : Option Addr) (c : Nat) (xs : List S48) (hC : Kd.C k48 w A xs.length xs) (hc : xs.length ≤ c) (hx : ∀ x ∈ xs, Good48 x) (hb : xs.length * Try.prog.bytesOf 48 ≤ 140737488351232) :
    Calls Try.prog 5 #[.string s, .slice A xs.length c] w fun e w' => e = .returned (.bool true) ∧ Below w.heap.size w w' :=
  reads_walk s hs xs A c w hC hc hx
end Go.Proofs.Ytdjpcogkpnemlaa.Oct
