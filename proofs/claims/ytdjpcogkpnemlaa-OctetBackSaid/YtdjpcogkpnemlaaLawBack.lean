/- OctetBack: what was written is read, thing by thing, and then it is closed; of a beginning, and with a byte more, it is not. -/
import Derived.Test.YtdjpcogkpnemlaaBackP
namespace Go.Proofs.Ytdjpcogkpnemlaa.Oct
open Go Go.RowKit Go.Proofs.YtdjpcogkpnemlaaW.PrintWords Go.Proofs.Ytdjpcogkpnemlaa.POr Go.Proofs.Ytdjpcogkpnemlaa.PIn
set_option linter.unusedVariables false
set_option linter.unusedSimpArgs false
set_option maxRecDepth 100000
set_option maxHeartbeats 4000000
attribute [local go_sem high] eqA29
abbrev zeroT : Obj := .cells #[.int .u8 0, .int .u64 0, .int .u64 0, .string ⟨#[]⟩, .int .i64 0] 48 (0, 0)
/-- A reader of which all lies below H. -/
def InH (H g : Nat) (b : ByteArray) (sp : Bool) (w : World) : Prop := ∃ w0, IsS84 w0 w g b sp ∧ Below w0.heap.size w0 w ∧ w0.heap.size ≤ H ∧ g < H
theorem InH.of {g : Nat} {b : ByteArray} {sp : Bool} {w : World} (h : InAt g b sp w) : InH w.heap.size g b sp w := by
  have hl := h.lt
  obtain ⟨w0, hI, hB⟩ := h
  exact ⟨w0, hI, hB, hB.size, hl⟩
theorem InH.at {H g : Nat} {b : ByteArray} {sp : Bool} {w : World} (h : InH H g b sp w) : InAt g b sp w := by
  obtain ⟨w0, hI, hB, _⟩ := h
  exact ⟨w0, hI, hB⟩
theorem InH.below {H g : Nat} {b : ByteArray} {sp : Bool} {w w' : World} (h : InH H g b sp w) (hb : Below w.heap.size w w') : InH H g b sp w' := by
  obtain ⟨w0, hI, hB, h1, h2⟩ := h
  exact ⟨w0, hI.below hb, hB.trans (hb.mono hB.size), h1, h2⟩
theorem InH.store {H g A : Nat} {b : ByteArray} {sp : Bool} {w w' : World} (h : InH H g b sp w) (ht : Touch A w w') (hA : H ≤ A) : InH H g b sp w' := by
  have hl := h.at.lt
  obtain ⟨w0, hI, hB, h1, h2⟩ := h
  exact ⟨w0, hI.same (ht.keep.2 g hl (by omega) (by simp)), ht.below hB (by omega) hB.size, h1, h2⟩
theorem InH.other {H g g2 : Nat} {b b2 : ByteArray} {sp sp2 : Bool} {w w' : World} (h : InH H g b sp w) (h2 : InAt g2 b2 sp2 w) (ht : Touch g2 w w') (hne : g ≠ g2) : InH H g b sp w' := by
  have hg : g < H := by obtain ⟨_, _, _, _, h⟩ := h; exact h
  have hl := h.at.lt
  have := h.at.other h2 ht hne
  obtain ⟨w0, hI, hB⟩ := this
  have hgk : w0.heap.size ≤ g := hI.2.1
  exact ⟨w0, hI, hB, by omega, hg⟩
theorem InH.read {H g : Nat} {b : ByteArray} {sp : Bool} {w : World} (kind : Nat) (most : Int) (hm : -9223372036854775808 ≤ most ∧ most ≤ 9223372036854775807) (h : InH H g b sp w) :
    Calls Try.prog 35 #[.pointer (some ⟨g, 0, none⟩), .int .u8 kind, .int .i64 most] w fun e w' => e = .returned (readV kind most b sp) ∧ InH H g (moveS kind most b sp).1 (moveS kind most b sp).2 w' ∧ Touch g w w' := by
  obtain ⟨w0, hI, hB, k1, k2⟩ := h
  exact (paymasterlaw08_read.calls g b sp kind most _ _ _ _ _ _ _ w0 w hI hB (read_eq kind most b sp hm)).mono fun e w' ⟨h1, h2, h3, h4⟩ => ⟨h1, ⟨w0, h2, h3, k1, k2⟩, Touch.of hB h3 h4⟩
def toldB (g H n c : Nat) (kn : Int) (b b1 s : ByteArray) (sp sp1 : Bool) (ad : Addr) (t : Int) (rv : Value) (X : World → Prop) : Rel.Told where
  Z := fun z => X z ∧ (∃ b' sp', InH H g b' sp' z) ∧ H ≤ z.heap.size
  Pr := fun j z => match j with
    | 12 => InH H g b sp z
    | _ => True
  St := fun j z z' => match j with
    | 12 => Touch g z z' ∧ InH H g b1 sp1 z'
    | 13 => Below z.heap.size z z'
    | _ => z' = z
  R := fun j v z => match j with
    | 0 => v = .pointer (some ⟨g, 0, none⟩)
    | 1 => v = .slice (some ad) n c
    | 2 => v = .int .i64 t
    | 3 => v = .pointer (some (ad.add (t.toNat * 5)))
    | 4 => v = .pointer (some (ad.add (t.toNat * 5)))
    | 5 => v = .int .u8 kn
    | 6 => v = .slice (some ad) n c
    | 7 => v = .int .i64 t
    | 8 => v = .pointer (some (ad.add (t.toNat * 5)))
    | 9 => v = .pointer (some ⟨(ad.add (t.toNat * 5)).block, (ad.add (t.toNat * 5)).off + 3, none⟩)
    | 10 => v = .string s
    | 11 => v = .int .i64 s.size
    | 12 => v = rv ∧ InH H g b1 sp1 z
    | 13 => ∃ A, H ≤ A ∧ v = .pointer (some ⟨A, 0, none⟩) ∧ z.heap[A]? = some zeroT
    | _ => True
  need := fun j => match j with
    | 3 => [1, 2]
    | 4 => [3]
    | 5 => [4]
    | 8 => [6, 7]
    | 9 => [8]
    | 10 => [9]
    | 11 => [10]
    | 12 => [0, 5, 11]
    | _ => []
  kl := fun _ => []
  cl := fun j => match j with
    | 3 => [1, 2]
    | 4 => [1, 2, 3]
    | 5 => [1, 2, 3, 4]
    | 8 => [6, 7]
    | 9 => [6, 7, 8]
    | 10 => [6, 7, 8, 9]
    | 11 => [6, 7, 8, 9, 10]
    | 12 => [0, 1, 2, 3, 4, 5, 6, 7, 8, 9, 10, 11]
    | _ => []
theorem toldB_key (g H n c : Nat) (kn : Int) (b b1 s : ByteArray) (sp sp1 : Bool) (ad : Addr) (t : Int) (rv : Value) (X : World → Prop) : ∀ j, j < 14 → j = 12 ∨ j = 13 ∨ ∀ z z', (toldB g H n c kn b b1 s sp sp1 ad t rv X).St j z z' → z' = z := by
  intro j hj
  match j, hj with
  | 12, _ => exact (.inl rfl)
  | 13, _ => exact (.inr (.inl rfl))
  | 0, _ | 1, _ | 2, _ | 3, _ | 4, _ | 5, _ | 6, _ | 7, _ | 8, _ | 9, _ | 10, _ | 11, _ => exact (.inr (.inr (fun _ _ h => h)))
  | _ + 14, h => exact absurd h (by omega)
structure KeepX (g : Nat) (X : World → Prop) : Prop where
  touch : ∀ z z' b' sp', X z → InAt g b' sp' z → Touch g z z' → X z'
  below : ∀ z z', X z → Below z.heap.size z z' → X z'
theorem toldB_ok (g H n c : Nat) (kn : Int) (b b1 s : ByteArray) (sp sp1 : Bool) (ad : Addr) (t : Int) (rv : Value) (X : World → Prop) (hX : KeepX g X) (hg : g < H) (ops : Array Oper) (N : Nat) (hN : N ≤ 14) : (toldB g H n c kn b b1 s sp sp1 ad t rv X).Ok ops N := by
  refine ⟨fun j z z' hj hz hs => ?_, fun i j z z' hi hj hij hw hz hp hs => ?_, fun i j v z z' hi hj hij hw hk hz hr hs => ?_⟩
  · obtain ⟨h1, ⟨b', sp', h2⟩, h3⟩ := hz
    rcases toldB_key g H n c kn b b1 s sp sp1 ad t rv X j (by omega) with rfl | rfl | h
    · obtain ⟨k1, k2⟩ : Touch g z z' ∧ InH H g b1 sp1 z' := hs
      exact ⟨hX.touch z z' b' sp' h1 h2.at k1, ⟨b1, sp1, k2⟩, by have := k1.size; omega⟩
    · have k : Below z.heap.size z z' := hs
      exact ⟨hX.below z z' h1 k, ⟨b', sp', h2.below k⟩, by have := k.size; omega⟩
    · rw [h _ _ hs]; exact ⟨h1, ⟨b', sp', h2⟩, h3⟩
  · have hi14 : i < 14 := by omega
    rcases toldB_key g H n c kn b b1 s sp sp1 ad t rv X j (by omega) with rfl | rfl | h
    · match i, hi14 with
      | 12, _ => exact absurd rfl hij
      | 0, _ | 1, _ | 2, _ | 3, _ | 4, _ | 5, _ | 6, _ | 7, _ | 8, _ | 9, _ | 10, _ | 11, _ | 13, _ => trivial
      | _ + 14, h => exact absurd h (by omega)
    · have k : Below z.heap.size z z' := hs
      match i, hi14 with
      | 12, _ => exact InH.below hp k
      | 0, _ | 1, _ | 2, _ | 3, _ | 4, _ | 5, _ | 6, _ | 7, _ | 8, _ | 9, _ | 10, _ | 11, _ | 13, _ => trivial
      | _ + 14, h => exact absurd h (by omega)
    · rw [h _ _ hs]; exact hp
  · have hi14 : i < 14 := by omega
    rcases toldB_key g H n c kn b b1 s sp sp1 ad t rv X j (by omega) with rfl | rfl | h
    · obtain ⟨k1, k2⟩ : Touch g z z' ∧ InH H g b1 sp1 z' := hs
      match i, hi14 with
      | 12, _ => exact absurd rfl hij
      | 13, _ =>
        obtain ⟨A, h1, h2, h3⟩ := hr
        exact ⟨A, h1, h2, (k1.keep.2 A (blk_lt h3) (by omega) (by simp)).trans h3⟩
      | 0, _ | 1, _ | 2, _ | 3, _ | 4, _ | 5, _ | 6, _ | 7, _ | 8, _ | 9, _ | 10, _ | 11, _ => exact hr
      | _ + 14, h => exact absurd h (by omega)
    · have k : Below z.heap.size z z' := hs
      match i, hi14 with
      | 12, _ => exact ⟨hr.1, InH.below hr.2 k⟩
      | 13, _ => exact absurd rfl hij
      | 0, _ | 1, _ | 2, _ | 3, _ | 4, _ | 5, _ | 6, _ | 7, _ | 8, _ | 9, _ | 10, _ | 11, _ => exact hr
      | _ + 14, h => exact absurd h (by omega)
    · rw [h _ _ hs]; exact hr
def toldC (gi gj n c : Nat) (ad : Addr) (t m m1 : Int) (x : S48) (rx ry : Value) (X : World → Prop) : Rel.Told where
  Z := fun z => X z
  Pr := fun _ _ => True
  St := fun j z z' => match j with
    | 5 => Below z.heap.size z z'
    | 13 => Below z.heap.size z z'
    | _ => z' = z
  R := fun j v z => match j with
    | 0 => v = rx
    | 1 => v = .slice (some ad) n c
    | 2 => v = .int .i64 t
    | 3 => v = .pointer (some (ad.add (t.toNat * 5)))
    | 4 => v = thA x
    | 5 => v = .bool true
    | 6 => v = .bool false
    | 7 => v = .bool false
    | 8 => v = ry
    | 9 => v = .slice (some ad) n c
    | 10 => v = .int .i64 t
    | 11 => v = .pointer (some (ad.add (t.toNat * 5)))
    | 12 => v = thA x
    | 13 => v = .bool true
    | 14 => v = .bool false
    | 15 => v = .bool false
    | 16 => v = .bool false
    | 17 => v = .pointer (some ⟨gi, 0, none⟩)
    | 18 => v = .bool false
    | 19 => v = .bool false
    | 20 => v = .bool false
    | 21 => v = .pointer (some ⟨gj, 0, none⟩)
    | 22 => v = .int .i64 m1
    | 23 => v = .pointer (some ⟨gi, 0, none⟩)
    | 24 => v = .int .i64 m
    | 25 => v = .int .i64 m1
    | 26 => v = .bool false
    | 27 => v = .bool false
    | _ => True
  need := fun j => match j with
    | 3 => [1, 2]
    | 4 => [3]
    | 5 => [0, 4]
    | 6 => [5]
    | 7 => [6]
    | 8 => [7]
    | 9 => [7]
    | 10 => [7]
    | 11 => [7, 9, 10]
    | 12 => [7, 11]
    | 13 => [7, 8, 12]
    | 14 => [7, 13]
    | 15 => [7, 14]
    | 16 => [15]
    | 17 => [16]
    | 18 => [16, 17]
    | 19 => [16, 18]
    | 20 => [19]
    | 21 => [20]
    | 22 => [20, 21]
    | 23 => [20]
    | 24 => [20, 23]
    | 25 => [20, 24]
    | 26 => [20, 22, 25]
    | 27 => [20, 26]
    | _ => []
  kl := fun _ => []
  cl := fun j => match j with
    | 3 => [1, 2]
    | 4 => [1, 2, 3]
    | 5 => [0, 1, 2, 3, 4]
    | 6 => [0, 1, 2, 3, 4, 5]
    | 7 => [0, 1, 2, 3, 4, 5, 6]
    | 8 => [0, 1, 2, 3, 4, 5, 6, 7]
    | 9 => [0, 1, 2, 3, 4, 5, 6, 7]
    | 10 => [0, 1, 2, 3, 4, 5, 6, 7]
    | 11 => [0, 1, 2, 3, 4, 5, 6, 7, 9, 10]
    | 12 => [0, 1, 2, 3, 4, 5, 6, 7, 9, 10, 11]
    | 13 => [0, 1, 2, 3, 4, 5, 6, 7, 8, 9, 10, 11, 12]
    | 14 => [0, 1, 2, 3, 4, 5, 6, 7, 8, 9, 10, 11, 12, 13]
    | 15 => [0, 1, 2, 3, 4, 5, 6, 7, 8, 9, 10, 11, 12, 13, 14]
    | 16 => [0, 1, 2, 3, 4, 5, 6, 7, 8, 9, 10, 11, 12, 13, 14, 15]
    | 17 => [0, 1, 2, 3, 4, 5, 6, 7, 8, 9, 10, 11, 12, 13, 14, 15, 16]
    | 18 => [0, 1, 2, 3, 4, 5, 6, 7, 8, 9, 10, 11, 12, 13, 14, 15, 16, 17]
    | 19 => [0, 1, 2, 3, 4, 5, 6, 7, 8, 9, 10, 11, 12, 13, 14, 15, 16, 17, 18]
    | 20 => [0, 1, 2, 3, 4, 5, 6, 7, 8, 9, 10, 11, 12, 13, 14, 15, 16, 17, 18, 19]
    | 21 => [0, 1, 2, 3, 4, 5, 6, 7, 8, 9, 10, 11, 12, 13, 14, 15, 16, 17, 18, 19, 20]
    | 22 => [0, 1, 2, 3, 4, 5, 6, 7, 8, 9, 10, 11, 12, 13, 14, 15, 16, 17, 18, 19, 20, 21]
    | 23 => [0, 1, 2, 3, 4, 5, 6, 7, 8, 9, 10, 11, 12, 13, 14, 15, 16, 17, 18, 19, 20]
    | 24 => [0, 1, 2, 3, 4, 5, 6, 7, 8, 9, 10, 11, 12, 13, 14, 15, 16, 17, 18, 19, 20, 21, 22, 23]
    | 25 => [0, 1, 2, 3, 4, 5, 6, 7, 8, 9, 10, 11, 12, 13, 14, 15, 16, 17, 18, 19, 20, 21, 22, 23, 24]
    | 26 => [0, 1, 2, 3, 4, 5, 6, 7, 8, 9, 10, 11, 12, 13, 14, 15, 16, 17, 18, 19, 20, 21, 22, 23, 24, 25]
    | 27 => [0, 1, 2, 3, 4, 5, 6, 7, 8, 9, 10, 11, 12, 13, 14, 15, 16, 17, 18, 19, 20, 21, 22, 23, 24, 25, 26]
    | _ => []
theorem toldC_key (gi gj n c : Nat) (ad : Addr) (t m m1 : Int) (x : S48) (rx ry : Value) (X : World → Prop) : ∀ j, j < 28 → j = 5 ∨ j = 13 ∨ ∀ z z', (toldC gi gj n c ad t m m1 x rx ry X).St j z z' → z' = z := by
  intro j hj
  match j, hj with
  | 5, _ => exact (.inl rfl)
  | 13, _ => exact (.inr (.inl rfl))
  | 0, _ | 1, _ | 2, _ | 3, _ | 4, _ | 6, _ | 7, _ | 8, _ | 9, _ | 10, _ | 11, _ | 12, _ | 14, _ | 15, _ | 16, _ | 17, _ | 18, _ | 19, _ | 20, _ | 21, _ | 22, _ | 23, _ | 24, _ | 25, _ | 26, _ | 27, _ => exact (.inr (.inr (fun _ _ h => h)))
  | _ + 28, h => exact absurd h (by omega)
theorem toldC_ok (gi gj n c : Nat) (ad : Addr) (t m m1 : Int) (x : S48) (rx ry : Value) (X : World → Prop) (hX : ∀ z z', X z → Below z.heap.size z z' → X z') (ops : Array Oper) : (toldC gi gj n c ad t m m1 x rx ry X).Ok ops 28 := by
  refine ⟨fun j z z' hj hz hs => ?_, fun i j z z' hi hj hij hw hz hp hs => trivial, fun i j v z z' hi hj hij hw hk hz hr hs => ?_⟩
  · rcases toldC_key gi gj n c ad t m m1 x rx ry X j hj with rfl | rfl | h
    · exact hX z z' hz hs
    · exact hX z z' hz hs
    · rw [h _ _ hs]; exact hz
  · match i, hi with
    | 0, _ | 1, _ | 2, _ | 3, _ | 4, _ | 5, _ | 6, _ | 7, _ | 8, _ | 9, _ | 10, _ | 11, _ | 12, _ | 13, _ | 14, _ | 15, _ | 16, _ | 17, _ | 18, _ | 19, _ | 20, _ | 21, _ | 22, _ | 23, _ | 24, _ | 25, _ | 26, _ | 27, _ => exact hr
    | _ + 28, h => exact absurd h (by omega)
theorem keep_two (w : World) (H g g1 g2 : Nat) (b1 b2 : ByteArray) (s1 s2 : Bool) (hg : w.heap.size ≤ g) (h1 : g1 ≠ g) (h2 : g2 ≠ g) : KeepX g (fun z => Below w.heap.size w z ∧ InH H g1 b1 s1 z ∧ InH H g2 b2 s2 z) :=
  ⟨fun z z' b' sp' ⟨k1, k2, k3⟩ hi ht => ⟨ht.below k1 hg k1.size, k2.other hi ht h1, k3.other hi ht h2⟩, fun z z' ⟨k1, k2, k3⟩ hb => ⟨k1.trans (hb.mono k1.size), k2.below hb, k3.below hb⟩⟩
theorem KeepX.blk {g : Nat} {X : World → Prop} (h : KeepX g X) (A : Nat) (o : Obj) (hA : A ≠ g) : KeepX g (fun z => X z ∧ z.heap[A]? = some o) :=
  ⟨fun z z' b' sp' ⟨k1, k2⟩ hi ht => ⟨h.touch z z' b' sp' k1 hi ht, (ht.keep.2 A (blk_lt k2) hA (by simp)).trans k2⟩, fun z z' ⟨k1, k2⟩ hb => ⟨h.below z z' k1 hb, (hb.block A (blk_lt k2)).trans k2⟩⟩
def zB : ByteArray := ⟨#[0]⟩
def backV (x : S48) (most : Int) : Value := .agg #[.int .u8 x.f0, .int .u64 ((backN x).1 : Nat), .int .u64 ((backN x).2.1 : Nat), .string (backN x).2.2, .int .i64 most]
theorem any_read (x : S48) (gx : Good48 x) (most : Int) (hm : -9223372036854775808 ≤ most ∧ most ≤ 9223372036854775807) (b : ByteArray) (sp : Bool) (H g : Nat) (z : World) (h : InH H g b sp z) :
    Calls Try.prog 35 #[.pointer (some ⟨g, 0, none⟩), .int .u8 x.f0, .int .i64 most] z fun e w' => e = .returned (readV x.f0.toNat most b sp) ∧ InH H g (moveS x.f0.toNat most b sp).1 (moveS x.f0.toNat most b sp).2 w' ∧ Touch g z w' := by
  have := h.read x.f0.toNat most hm
  rw [show ((x.f0.toNat : Nat) : Int) = x.f0 by have := (good_nat gx).1; omega] at this
  exact this
theorem thing_read (x : S48) (gx : Good48 x) (hs : x.f2.size ≤ 2000) (most : Int) (hm : (x.f2.size : Int) ≤ most) (hm2 : most ≤ 9223372036854775807) (r : ByteArray) (H g : Nat) (z : World) (h : InH H g (encT x ++ r) false z) :
    Calls Try.prog 35 #[.pointer (some ⟨g, 0, none⟩), .int .u8 x.f0, .int .i64 most] z fun e w' => e = .returned (backV x most) ∧ InH H g r false w' ∧ Touch g z w' := by
  have h1 := any_read x gx most (by omega) _ _ H g z h
  obtain ⟨e1, e2⟩ := back_read x gx hs most (by omega) r
  unfold readV at h1
  rw [e1, e2, show ((x.f0.toNat : Nat) : Int) = x.f0 by have := (good_nat gx).1; omega] at h1
  exact h1
theorem thing_alike (x : S48) (gx : Good48 x) (most : Int) (z : World) :
    Calls Try.prog 36 #[backV x most, thA x] z fun e w' => e = .returned (.bool true) ∧ Below z.heap.size z w' :=
  paymasterlaw08_alike.calls _ _ _ _ _ _ _ _ _ _ true z (back_alike x gx most)
/-- A thing, stored into a block of its own. -/
theorem store5 {ops : Array Oper} {rest : List Oper} {o : Oper} {a : Act} {Q : Exit → Act → World → Prop} {W : World} (hN : o.dst = none) (hgd : o.guard = none) (p x : Operand) (ho : o.op = .store 48 p x) {g : Nat} {e : TypeId} {y0 y1 y2 y3 y4 : Value} {a0 a1 a2 a4 : Int} {a3 : ByteArray}
    (haddr : a.eval p = .pointer (some ⟨g, 0, none⟩)) (hx : a.eval x = .agg #[.int .u8 a0, .int .u64 a1, .int .u64 a2, .string a3, .int .i64 a4]) (hh : W.heap[g]? = some (.cells #[y0, y1, y2, y3, y4] e (0, 0)))
    (h : ∀ w1, w1.heap[g]? = some (.cells #[.int .u8 a0, .int .u64 a1, .int .u64 a2, .string a3, .int .i64 a4] e (0, 0)) → Touch g W w1 → wpList Try.prog ops Q rest a w1) : wpList Try.prog ops Q (o :: rest) a W := by
  refine wpList_plain hgd fun K hK => ?_
  have hrun : (Instr.storeAt 48 (.pointer (some ⟨g, 0, none⟩)) (.agg #[.int .u8 a0, .int .u64 a1, .int .u64 a2, .string a3, .int .i64 a4])).run Try.prog W = .ok () (W.setCells g 0 [.int .u8 a0, .int .u64 a1, .int .u64 a2, .string a3, .int .i64 a4]) :=
    run_store_run _ _ _ hh rfl rfl (by show 0 + 5 ≤ 5; omega) (by intro q hq; simp at hq; rcases hq with rfl | rfl | rfl | rfl | rfl <;> rfl)
  unfold Oper.wp execOp
  simp only [ho, haddr, hx, Sem.run_bind, Sem.run_pure, Result.andThen_ok, hrun]
  show K (a.put o.dst undef) _
  rw [hN]
  refine hK a _ (h _ ?_ ⟨rfl, rfl, rfl, ?_, fun k _ hk _ => setCells_far _ _ k hk⟩)
  · exact blk_put (blk_put (blk_put (blk_put (blk_put hh 0 _ rfl) 1 _ rfl) 2 _ rfl) 3 _ rfl) 4 _ rfl
  · simp [World.setCells, World.setCell]
theorem x_wrote (x : S48) (gx : Good48 x) (hs : x.f2.size ≤ 2000) (W : World) (g : Nat) (h : W.heap[g]? = some (.cells #[.int .u8 x.f0, .int .u64 x.f1.f0, .int .u64 x.f1.f1, .string x.f2, .int .i64 x.f3] 48 (0, 0))) :
    Calls Try.prog 34 #[.slice (some ⟨g, 0, none⟩) 1 1] W fun e w' => e = .returned (.tuple #[.string (encT x), .int .i64 0]) ∧ Below W.heap.size W w' := by
  have he := enc_small1 x gx hs
  obtain ⟨r1, r2⟩ := one_wrote x (by omega)
  have := wrote_calls [x] (some ⟨g, 0, none⟩) 1 W (one_thing' W g x h) (Nat.le_refl _) (by intro y hy; rw [List.mem_singleton.1 hy]; exact ⟨gx, by omega⟩) (by show 1 ≤ _; omega)
  rw [r1, r2] at this
  exact this
theorem back_walk (sm : Int) (xs : List S48) (A : Option Addr) (c : Nat) (w : World) (hC : Kd.C k48 w A xs.length xs) (hc : xs.length ≤ c) (hx : ∀ x ∈ xs, Good48 x) :
    Calls Try.prog 7 #[.slice A xs.length c, .int .i64 sm] w fun e w' => e = .returned (.bool true) ∧ Below w.heap.size w w' := by
  have HLC := Aside0.mk (fun w hC => long_calls A c xs w hC hc)
  have HC := Aside0.mk hC
  have HX := Aside0.mk hx
  clear hC hx
  go_enter Try.func7, Try.ntmps7
  go_wp2_with fail
  refine (awake_calls _).mono ?_
  rintro e w1 ⟨rfl, b1⟩
  have HB := Aside0.mk b1
  have hC1 := Kd.C_below HC.out b1
  clear b1
  obtain ⟨lb, hlb, hlc⟩ := HLC.out w1 hC1
  have HLB := Aside0.mk hlb
  have HLC2 := Aside0.mk hlc
  clear hlb hlc hC1
  go_wp2_with fail
  refine HLC2.out.mono ?_
  rintro e w2 ⟨rfl, b2⟩
  have HB2 := Aside0.mk (HB.out.trans (b2.mono HB.out.size))
  clear b2
  cases lb with
  | true =>
    go_wp2_with fail
    go_ret
    exact ⟨rfl, HB2.out⟩
  | false =>
    obtain ⟨hl200, hx2000⟩ := HLB.out rfl
    have HXX : Aside0 (∀ x ∈ xs, Good48 x ∧ x.f2.size ≤ 2000) := Aside0.mk (fun x h => ⟨HX.out x h, hx2000 x h⟩)
    clear hx2000
    obtain ⟨q1, q2, q3⟩ := wrote_all xs HXX.out hl200
    have HWC := Aside0.mk (wrote_calls xs A c w2 (Kd.C_below HC.out HB2.out) hc (fun x h => ⟨HX.out x h, by have := (HXX.out x h).2; omega⟩) (by omega))
    rw [q1, q2] at HWC
    obtain ⟨s, hs⟩ : ∃ s, s = encs xs := ⟨_, rfl⟩
    rw [← hs] at HWC q3
    have HS := Aside0.mk hs
    clear q1 q2 hs
    have HQ3 := Aside0.mk q3
    go_wp2_with fail
    refine HWC.out.mono ?_
    rintro e w3 ⟨rfl, b3⟩
    have HB3 := Aside0.mk (HB2.out.trans (b3.mono HB2.out.size))
    clear b3
    go_wp2_with fail
    refine (at_open s (by omega) w3).mono ?_
    rintro e w4 ⟨gi, hgi, rfl, i4, b4⟩
    have HB4 := Aside0.mk (HB3.out.trans (b4.mono HB3.out.size))
    have HGI := Aside0.mk (Nat.le_trans HB3.out.size hgi)
    have HI4 := Aside0.mk i4
    clear i4 b4 hgi
    have hsz2 : s.size + 1 ≤ 9223372036854775807 := by omega
    go_wp2_with fail
    rw [show s ++ (⟨#[0]⟩ : ByteArray) = s ++ zB from rfl]
    have hz2 : (s ++ zB).size = s.size + 1 := by rw [ByteArray.size_append]; rfl
    generalize hzz : s ++ zB = s2 at *
    have HZZ := Aside0.mk hzz
    clear hzz
    refine (at_open s2 (by omega) w4).mono ?_
    rintro e w5 ⟨gj, hgj, rfl, i5, b5⟩
    have HB5 := Aside0.mk (HB4.out.trans (b5.mono HB4.out.size))
    have HGJ := Aside0.mk (⟨Nat.le_trans HB4.out.size hgj, Nat.lt_of_lt_of_le HI4.out.lt hgj⟩ : w.heap.size ≤ gj ∧ gi < gj)
    have HI5 := Aside0.mk (⟨HI4.out.below b5, i5⟩ : InAt gi s false w5 ∧ InAt gj s2 false w5)
    clear i5 b5 hgj HI4
    obtain ⟨m, hm, hms⟩ : ∃ m : Nat, (IntKind.u64.wrap sm).tmod ((s.size : Int) + 1) = m ∧ m ≤ s.size := by
      have h1 : 0 ≤ IntKind.u64.wrap sm := by simp [IntKind.wrap, IntKind.signed]; omega
      refine ⟨((IntKind.u64.wrap sm).tmod ((s.size : Int) + 1)).toNat, ?_, ?_⟩
      · rw [Int.tmod_eq_emod_of_nonneg h1]
        have := Int.emod_nonneg (IntKind.u64.wrap sm) (show ((s.size : Int) + 1) ≠ 0 by omega)
        omega
      · rw [Int.tmod_eq_emod_of_nonneg h1]
        have := Int.emod_lt_of_pos (IntKind.u64.wrap sm) (show 0 < ((s.size : Int) + 1) by omega)
        omega
    go_wp2_with fail
    have hsplit : s = s.extract 0 m ++ s.extract m s.size := by
      apply ByteArray.ext
      simp
    have hk0 : (s.extract 0 m).size = m := by rw [ByteArray.size_extract]; omega
    have htl : (s.extract m s.size).size = s.size - m := by rw [ByteArray.size_extract]; omega
    generalize s.extract 0 m = kb0 at *
    generalize s.extract m s.size = tl at *
    refine (at_open kb0 (by omega) w5).mono ?_
    rintro e w6 ⟨gz, hgk, rfl, i6, b6⟩
    have HB6 := Aside0.mk (HB5.out.trans (b6.mono HB5.out.size))
    have HGK := Aside0.mk (⟨HGI.out, HGJ.out.1, HGJ.out.2, Nat.lt_of_lt_of_le HI5.out.1.lt hgk, Nat.lt_of_lt_of_le HI5.out.2.lt hgk⟩ : w.heap.size ≤ gi ∧ w.heap.size ≤ gj ∧ gi < gj ∧ gi < gz ∧ gj < gz)
    have HI6 := Aside0.mk (⟨HI5.out.1.below b6, HI5.out.2.below b6, i6⟩ : InAt gi s false w6 ∧ InAt gj s2 false w6 ∧ InAt gz kb0 false w6)
    have HKI : Aside0 (KI tl s kb0 false) := Aside0.mk (.inl ⟨rfl, hsplit⟩)
    have HTL : Aside0 (((kb0.size : Int) == (s.size : Int)) = ((tl.size : Int) == 0)) := Aside0.mk (by
      by_cases h : m = s.size
      · rw [hk0, htl, h]; simp
      · have e1 : ((kb0.size : Int) == (s.size : Int)) = false := by rw [beq_eq_false_iff_ne]; omega
        have e2 : ((tl.size : Int) == 0) = false := by rw [beq_eq_false_iff_ne]; omega
        rw [e1, e2])
    clear i6 b6 hgk HI5 hsplit hk0 htl hm hms hsz2 hz2
    go_wp2_with fail
    refine (at_rest HI6.out.2.2).mono ?_
    rintro e z1 ⟨rfl, rfl⟩
    go_wp2_with fail
    have HTL2 := HTL.out
    rw [HTL2]
    clear HTL2
    rw [HS.out] at HI6 HKI HZZ
    have HI7 : Aside0 (InAt gi (encs xs) false w6 ∧ InAt gj (encs xs ++ zB) false w6 ∧ InAt gz kb0 false w6) := Aside0.mk (by rw [← HZZ.out] at HI6; exact HI6.out)
    have HSZ : Aside0 ((encs xs).size ≤ 420000) := Aside0.mk (by rw [← HS.out]; exact HQ3.out)
    clear HI6 HZZ HTL
    go_wp2_with fail
    go_loopg [11] (xs.length + 1) (fun k iv wr => ∃ (t : Int) (b kb : ByteArray) (spk : Bool), 0 ≤ t ∧ t + k = xs.length + 1 ∧ t ≤ xs.length ∧ iv = .int .i64 t ∧ b = encs (xs.drop t.toNat) ∧ InAt gi b false wr ∧ InAt gj (b ++ zB) false wr ∧ InAt gz kb spk wr ∧ KI tl b kb spk ∧ b.size ≤ 420000 ∧ Below w.heap.size w wr)
    case atStart => exact ⟨0, encs xs, kb0, false, by omega, by omega, by omega, rfl, rfl, HI7.out.1, HI7.out.2.1, HI7.out.2.2, HKI.out, HSZ.out, HB6.out⟩
    case round =>
      obtain ⟨t, b, kb, spk, h0, hk, ht, rfl, hbe, hi, hj, hkk, hki, hbs, hb⟩ := hrel
      by_cases hlt : t < xs.length
      · obtain ⟨ad, e, x0, x1, x2, x3, x4⟩ := at_T48 (Kd.C_below HC.out hb) t h0 hlt
        cases e
        clear x0 x1 x2 x3 x4
        have hm : rd_T48 xs t ∈ xs := by
          unfold rd_T48
          rw [List.getD_eq_getElem?_getD, List.getElem?_eq_getElem (by omega)]
          exact List.getElem_mem _
        have hxe : rd_T48 xs t = xs[t.toNat]'(by omega) := by
          unfold rd_T48
          rw [List.getD_eq_getElem?_getD, List.getElem?_eq_getElem (by omega)]
          rfl
        have hgx := HXX.out _ hm
        have hdr := encs_drop xs t.toNat (by omega)
        rw [← hxe, ← hbe] at hdr
        have HAT5 := Aside0.mk (fun z (hb : Below w.heap.size w z) => at_T48 (Kd.C_below HC.out hb) t h0 hlt)
        generalize rd_T48 xs t = x at *
        clear hm hxe
        generalize hre : encs (xs.drop (t.toNat + 1)) = r at *
        have HRE := Aside0.mk hre
        have hrs : r.size ≤ 420000 := by have := congrArg ByteArray.size hdr; rw [ByteArray.size_append] at this; omega
        subst hdr
        rw [ba_assoc] at hj
        have HRDI := Aside0.mk (fun H z (h : InH H gi (encT x ++ r) false z) => thing_read x hgx.1 hgx.2 (x.f2.size : Int) (by omega) (by have := hgx.2; omega) r H gi z h)
        have HRDJ := Aside0.mk (fun H z (h : InH H gj (encT x ++ (r ++ zB)) false z) => thing_read x hgx.1 hgx.2 1099511627776 (by have := hgx.2; omega) (by omega) (r ++ zB) H gj z h)
        have HRDK := Aside0.mk (fun H z (h : InH H gz kb spk z) => any_read x hgx.1 (x.f2.size : Int) (by have := hgx.2; omega) kb spk H gz z h)
        have hki2 := KI.step (kind := x.f0.toNat) (most := (x.f2.size : Int)) hki (back_read x hgx.1 hgx.2 (x.f2.size : Int) (by omega) r).1 (by omega)
        generalize (moveS x.f0.toNat (x.f2.size : Int) kb spk).1 = kb1 at *
        generalize (moveS x.f0.toNat (x.f2.size : Int) kb spk).2 = spk1 at *
        generalize readV x.f0.toNat (x.f2.size : Int) kb spk = rvk at *
        have HALX := Aside0.mk (fun z => thing_alike x hgx.1 (x.f2.size : Int) z)
        have HALY := Aside0.mk (fun z => thing_alike x hgx.1 1099511627776 z)
        unfold backV at HRDI HRDJ HALX HALY
        generalize backN x = N at *
        obtain ⟨n1, n2, n3⟩ := N
        simp only at HRDI HRDJ HALX HALY
        have HGX := Aside0.mk hgx
        have HLT := Aside0.mk hlt
        have HT0 := Aside0.mk h0
        have HK := Aside0.mk hk
        have HKI2 := Aside0.mk hki2
        have HIN := Aside0.mk (⟨hi, hj, hkk⟩ : InAt gi (encT x ++ r) false wr ∧ InAt gj (encT x ++ (r ++ zB)) false wr ∧ InAt gz kb spk wr)
        have HRS := Aside0.mk hrs
        have HBB := Aside0.mk hb
        clear hi hj hkk hki hki2 hrs hb hgx hbs hbe hre
        go_wp2_with fail
        refine Rel.region_told (toldB gi wr.heap.size xs.length c x.f0 (encT x ++ r) r x.f2 false false ad t (.agg #[.int .u8 x.f0, .int .u64 (n1 : Nat), .int .u64 (n2 : Nat), .string n3, .int .i64 x.f2.size]) (fun z => Below w.heap.size w z ∧ InH wr.heap.size gj (encT x ++ (r ++ zB)) false z ∧ InH wr.heap.size gz kb spk z)) 14 (by kernel_rfl) (by kernel_rfl) (by kernel_rfl) (by kernel_rfl) (toldB_ok gi wr.heap.size xs.length c x.f0 _ _ _ _ _ ad t _ _ (keep_two w wr.heap.size gi gj gz _ _ _ _ HGK.out.1 (by have := HGK.out; omega) (by have := HGK.out; omega)) HIN.out.1.lt _ 14 (by omega)) ?_ ?_ ?_ ?_
        · exact ⟨⟨HBB.out.drew, (InH.of HIN.out.2.1).below (Below.refl _ _).drew, (InH.of HIN.out.2.2).below (Below.refl _ _).drew⟩, ⟨_, _, (InH.of HIN.out.1).below (Below.refl _ _).drew⟩, Nat.le_refl _⟩
        · intro i hi
          match i, hi with
          | 12, _ => exact (InH.of HIN.out.1).below (Below.refl _ _).drew
          | 0, _ | 1, _ | 2, _ | 3, _ | 4, _ | 5, _ | 6, _ | 7, _ | 8, _ | 9, _ | 10, _ | 11, _ | 13, _ => trivial
          | _ + 14, h => exact absurd h (by omega)
        · have HRD := Aside0.mk (HRDI.out wr.heap.size)
          simp only [List.take_succ_cons, List.take_zero]
          refine ⟨?_, ?_, ?_, ?_, ?_, ?_, ?_, ?_, ?_, ?_, ?_, ?_, ?_, ?_, trivial⟩
          · refine Rel.UponS.of [] (by kernel_rfl) ?_
            intro vals z hz hp hn
            simp only [Rel.rp]
            clear hn hz hp
            go_wp2_with fail
            exact ⟨rfl, rfl⟩
          · refine Rel.UponS.of [] (by kernel_rfl) ?_
            intro vals z hz hp hn
            simp only [Rel.rp]
            clear hn hz hp
            go_wp2_with fail
            exact ⟨rfl, rfl⟩
          · refine Rel.UponS.of [] (by kernel_rfl) ?_
            intro vals z hz hp hn
            simp only [Rel.rp]
            clear hn hz hp
            go_wp2_with fail
            exact ⟨rfl, rfl⟩
          · refine Rel.UponS.of [1, 2] (by kernel_rfl) ?_
            intro vals z hz hp hn
            have d1 : vals 1 = .slice (some ad) xs.length c := hn 1 (show 1 ∈ ([1, 2] : List Nat) by decide)
            have d2 : vals 2 = .int .i64 t := hn 2 (show 2 ∈ ([1, 2] : List Nat) by decide)
            have hlen := HLT.out
            have ht0 := HT0.out
            simp only [Rel.rp, d1, d2]
            clear hn hz hp
            go_wp2_with fail
            exact ⟨rfl, rfl⟩
          · refine Rel.UponS.of [3] (by kernel_rfl) ?_
            intro vals z hz hp hn
            have d3 : vals 3 = .pointer (some (ad.add (t.toNat * 5))) := hn 3 (show 3 ∈ ([3] : List Nat) by decide)
            simp only [Rel.rp, d3]
            clear hn hz hp
            go_wp2_with fail
            exact ⟨rfl, rfl⟩
          · refine Rel.UponS.of [4] (by kernel_rfl) ?_
            intro vals z hz hp hn
            have d4 : vals 4 = .pointer (some (ad.add (t.toNat * 5))) := hn 4 (show 4 ∈ ([4] : List Nat) by decide)
            obtain ⟨ad', e', x0, x1, x2, x3, x4⟩ := HAT5.out z hz.1.1
            cases e'
            simp only [Rel.rp, d4]
            clear hn hz hp
            go_wp2_with fail
            exact ⟨rfl, rfl⟩
          · refine Rel.UponS.of [] (by kernel_rfl) ?_
            intro vals z hz hp hn
            simp only [Rel.rp]
            clear hn hz hp
            go_wp2_with fail
            exact ⟨rfl, rfl⟩
          · refine Rel.UponS.of [] (by kernel_rfl) ?_
            intro vals z hz hp hn
            simp only [Rel.rp]
            clear hn hz hp
            go_wp2_with fail
            exact ⟨rfl, rfl⟩
          · refine Rel.UponS.of [6, 7] (by kernel_rfl) ?_
            intro vals z hz hp hn
            have d6 : vals 6 = .slice (some ad) xs.length c := hn 6 (show 6 ∈ ([6, 7] : List Nat) by decide)
            have d7 : vals 7 = .int .i64 t := hn 7 (show 7 ∈ ([6, 7] : List Nat) by decide)
            have hlen := HLT.out
            have ht0 := HT0.out
            simp only [Rel.rp, d6, d7]
            clear hn hz hp
            go_wp2_with fail
            exact ⟨rfl, rfl⟩
          · refine Rel.UponS.of [8] (by kernel_rfl) ?_
            intro vals z hz hp hn
            have d8 : vals 8 = .pointer (some (ad.add (t.toNat * 5))) := hn 8 (show 8 ∈ ([8] : List Nat) by decide)
            simp only [Rel.rp, d8]
            clear hn hz hp
            go_wp2_with fail
            exact ⟨rfl, rfl⟩
          · refine Rel.UponS.of [9] (by kernel_rfl) ?_
            intro vals z hz hp hn
            have d9 : vals 9 = .pointer (some ⟨(ad.add (t.toNat * 5)).block, (ad.add (t.toNat * 5)).off + 3, none⟩) := hn 9 (show 9 ∈ ([9] : List Nat) by decide)
            obtain ⟨ad', e', x0, x1, x2, x3, x4⟩ := HAT5.out z hz.1.1
            cases e'
            simp only [Rel.rp, d9]
            clear hn hz hp
            go_wp2_with fail
            exact ⟨rfl, rfl⟩
          · refine Rel.UponS.of [10] (by kernel_rfl) ?_
            intro vals z hz hp hn
            have d10 : vals 10 = .string x.f2 := hn 10 (show 10 ∈ ([10] : List Nat) by decide)
            simp only [Rel.rp, d10]
            clear hn hz hp
            go_wp2_with fail
            exact ⟨rfl, rfl⟩
          · refine Rel.UponS.of [0, 5, 11] (by kernel_rfl) ?_
            intro vals z hz hp hn
            have d0 : vals 0 = .pointer (some ⟨gi, 0, none⟩) := hn 0 (show 0 ∈ ([0, 5, 11] : List Nat) by decide)
            have d5 : vals 5 = .int .u8 x.f0 := hn 5 (show 5 ∈ ([0, 5, 11] : List Nat) by decide)
            have d11 : vals 11 = .int .i64 x.f2.size := hn 11 (show 11 ∈ ([0, 5, 11] : List Nat) by decide)
            have H := Aside0.mk (HRD.out z hp)
            simp only [Rel.rp, d0, d5, d11]
            clear hn hz hp
            go_wp2_with fail
            refine H.out.mono ?_
            rintro e z1 ⟨rfl, k1, k2⟩
            have K := Aside0.mk (⟨k1, k2⟩ : _ ∧ _)
            clear k1 k2
            go_wp2_with fail
            exact ⟨⟨K.out.2, K.out.1⟩, rfl, K.out.1⟩
          · refine Rel.UponS.of [] (by kernel_rfl) ?_
            intro vals z hz hp hn
            have hzs := Aside0.mk hz.2.2
            simp only [Rel.rp]
            clear hn hz hp
            go_wp2_with fail
            exact ⟨(Below.refl _ _).alloc (Nat.le_refl _) _, _, hzs.out, rfl, blk_new _ _⟩
        intro vals z hz hrel
        have d12 : vals 12 = .agg #[.int .u8 x.f0, .int .u64 (n1 : Nat), .int .u64 (n2 : Nat), .string n3, .int .i64 x.f2.size] := (hrel 12 (by decide) rfl).1
        obtain ⟨BX, hBX, d13, hbx⟩ := hrel 13 (by decide) rfl
        have K := Aside0.mk (⟨hz.1, (hrel 12 (by decide) rfl).2⟩ : (Below w.heap.size w z ∧ InH wr.heap.size gj (encT x ++ (r ++ zB)) false z ∧ InH wr.heap.size gz kb spk z) ∧ InH wr.heap.size gi r false z)
        have HBX := Aside0.mk hBX
        have HBXB := Aside0.mk hbx
        clear hz hrel hBX hbx
        simp only [List.drop_succ_cons, List.drop_zero]
        rw [show List.range 14 = [0, 1, 2, 3, 4, 5, 6, 7, 8, 9, 10, 11, 12, 13] from rfl]
        generalize e0 : vals 0 = v0
        generalize e1 : vals 1 = v1
        generalize e2 : vals 2 = v2
        generalize e3 : vals 3 = v3
        generalize e4 : vals 4 = v4
        generalize e5 : vals 5 = v5
        generalize e6 : vals 6 = v6
        generalize e7 : vals 7 = v7
        generalize e8 : vals 8 = v8
        generalize e9 : vals 9 = v9
        generalize e10 : vals 10 = v10
        generalize e11 : vals 11 = v11
        simp only [Rel.rp, e0, e1, e2, e3, e4, e5, e6, e7, e8, e9, e10, e11, d12, d13]
        refine store5 rfl rfl (.tmp 12) (.tmp 77) rfl rfl rfl HBXB.out ?_
        intro w7 h7 t7
        have K7 := Aside0.mk (⟨t7.below K.out.1.1 (Nat.le_trans HBB.out.size HBX.out) K.out.1.1.size, (K.out.2.store t7 HBX.out).at, (K.out.1.2.1.store t7 HBX.out).at, (K.out.1.2.2.store t7 HBX.out).at⟩ : Below w.heap.size w w7 ∧ InAt gi r false w7 ∧ InAt gj (encT x ++ (r ++ zB)) false w7 ∧ InAt gz kb spk w7)
        have HX7 := Aside0.mk h7
        have HGX7 := Aside0.mk (Nat.le_trans HBB.out.size HBX.out)
        have HNX := Aside0.mk (⟨Nat.lt_of_lt_of_le HIN.out.1.lt HBX.out, Nat.lt_of_lt_of_le HIN.out.2.1.lt HBX.out, Nat.lt_of_lt_of_le HIN.out.2.2.lt HBX.out⟩ : gi < BX ∧ gj < BX ∧ gz < BX)
        clear h7 t7 HBXB K HBX
        obtain ⟨ad', e', x0, x1, x2, x3, x4⟩ := HAT5.out w7 K7.out.1
        cases e'
        have hlen := HLT.out
        have ht0 := HT0.out
        go_wp2_with fail
        refine (HRDJ.out w7.heap.size w7 (InH.of K7.out.2.2.1)).mono ?_
        rintro e w8 ⟨rfl, j8, t8⟩
        have hbn : Below w8.heap.size w8 (w8.alloc (.cells #[.int .u8 x.f0, .int .u64 (n1 : Nat), .int .u64 (n2 : Nat), .string n3, .int .i64 1099511627776] 48)) := (Below.refl _ _).alloc (Nat.le_refl _) _
        have q1 := t8.below K7.out.1 HGK.out.2.1 K7.out.1.size
        have q2 := (K7.out.2.1.other K7.out.2.2.1 t8 (by have := HGK.out; omega)).below hbn
        have q3 := j8.at.below hbn
        have q4 := (K7.out.2.2.2.other K7.out.2.2.1 t8 (by have := HGK.out; omega)).below hbn
        have q5 := blk_alloc ((t8.keep.2 BX (blk_lt HX7.out) (by have := HNX.out; omega) (by simp)).trans HX7.out) (.cells #[.int .u8 x.f0, .int .u64 (n1 : Nat), .int .u64 (n2 : Nat), .string n3, .int .i64 1099511627776] 48)
        have q6 := blk_new w8 (.cells #[.int .u8 x.f0, .int .u64 (n1 : Nat), .int .u64 (n2 : Nat), .string n3, .int .i64 1099511627776] 48)
        have q7 := q1.trans (hbn.mono q1.size)
        have q8 : gi < w8.heap.size ∧ gj < w8.heap.size ∧ gz < w8.heap.size := by
          have h1 := HNX.out
          have h2 := blk_lt HX7.out
          have h3 := t8.size
          omega
        have K9 := Aside0.mk (⟨q7, q2, q3, q4, q5, q6, q8⟩ : _ ∧ _ ∧ _ ∧ _ ∧ _ ∧ _ ∧ _)
        clear hbn q1 q2 q3 q4 q5 q6 q7 q8 j8 t8 x0 x1 x2 x3 x4
        go_wp2_with fail
        obtain ⟨w9, hw9⟩ : ∃ w9, w9 = w8.alloc (.cells #[.int .u8 x.f0, .int .u64 (n1 : Nat), .int .u64 (n2 : Nat), .string n3, .int .i64 1099511627776] 48) := ⟨_, rfl⟩
        simp only [← hw9] at K9 ⊢
        obtain ⟨BY, hBY⟩ : ∃ BY, BY = w8.heap.size := ⟨_, rfl⟩
        simp only [← hBY] at K9 ⊢
        clear hw9 hBY
        refine Rel.region_told (toldB gz w9.heap.size xs.length c x.f0 kb kb1 x.f2 spk spk1 ad t rvk (fun z => ((Below w.heap.size w z ∧ InH w9.heap.size gi r false z ∧ InH w9.heap.size gj (r ++ zB) false z) ∧ z.heap[BX]? = some (.cells #[.int .u8 x.f0, .int .u64 (n1 : Nat), .int .u64 (n2 : Nat), .string n3, .int .i64 x.f2.size] 48 (0, 0))) ∧ z.heap[BY]? = some (.cells #[.int .u8 x.f0, .int .u64 (n1 : Nat), .int .u64 (n2 : Nat), .string n3, .int .i64 1099511627776] 48 (0, 0)))) 13 (by kernel_rfl) (by kernel_rfl) (by kernel_rfl) (by kernel_rfl) (toldB_ok gz w9.heap.size xs.length c x.f0 _ _ _ _ _ ad t _ _ (((keep_two w w9.heap.size gz gi gj _ _ _ _ (by have := HGK.out; omega) (by have := HGK.out; omega) (by have := HGK.out; omega)).blk BX _ (by have := HNX.out; omega)).blk BY _ (by have := K9.out.2.2.2.2.2.2; omega)) K9.out.2.2.2.1.lt _ 13 (by omega)) ?_ ?_ ?_ ?_
        · exact ⟨⟨⟨⟨K9.out.1.drew, (InH.of K9.out.2.1).below (Below.refl _ _).drew, (InH.of K9.out.2.2.1).below (Below.refl _ _).drew⟩, K9.out.2.2.2.2.1⟩, K9.out.2.2.2.2.2.1⟩, ⟨_, _, (InH.of K9.out.2.2.2.1).below (Below.refl _ _).drew⟩, Nat.le_refl _⟩
        · intro i hi
          match i, hi with
          | 12, _ => exact (InH.of K9.out.2.2.2.1).below (Below.refl _ _).drew
          | 0, _ | 1, _ | 2, _ | 3, _ | 4, _ | 5, _ | 6, _ | 7, _ | 8, _ | 9, _ | 10, _ | 11, _ => trivial
          | _ + 13, h => exact absurd h (by omega)
        · have HRD := Aside0.mk (HRDK.out w9.heap.size)
          simp only [List.take_succ_cons, List.take_zero]
          refine ⟨?_, ?_, ?_, ?_, ?_, ?_, ?_, ?_, ?_, ?_, ?_, ?_, ?_, trivial⟩
          · refine Rel.UponS.of [] (by kernel_rfl) ?_
            intro vals z hz hp hn
            simp only [Rel.rp]
            clear hn hz hp
            go_wp2_with fail
            exact ⟨rfl, rfl⟩
          · refine Rel.UponS.of [] (by kernel_rfl) ?_
            intro vals z hz hp hn
            simp only [Rel.rp]
            clear hn hz hp
            go_wp2_with fail
            exact ⟨rfl, rfl⟩
          · refine Rel.UponS.of [] (by kernel_rfl) ?_
            intro vals z hz hp hn
            simp only [Rel.rp]
            clear hn hz hp
            go_wp2_with fail
            exact ⟨rfl, rfl⟩
          · refine Rel.UponS.of [1, 2] (by kernel_rfl) ?_
            intro vals z hz hp hn
            have d1 : vals 1 = .slice (some ad) xs.length c := hn 1 (show 1 ∈ ([1, 2] : List Nat) by decide)
            have d2 : vals 2 = .int .i64 t := hn 2 (show 2 ∈ ([1, 2] : List Nat) by decide)
            have hlen := HLT.out
            have ht0 := HT0.out
            simp only [Rel.rp, d1, d2]
            clear hn hz hp
            go_wp2_with fail
            exact ⟨rfl, rfl⟩
          · refine Rel.UponS.of [3] (by kernel_rfl) ?_
            intro vals z hz hp hn
            have d3 : vals 3 = .pointer (some (ad.add (t.toNat * 5))) := hn 3 (show 3 ∈ ([3] : List Nat) by decide)
            simp only [Rel.rp, d3]
            clear hn hz hp
            go_wp2_with fail
            exact ⟨rfl, rfl⟩
          · refine Rel.UponS.of [4] (by kernel_rfl) ?_
            intro vals z hz hp hn
            have d4 : vals 4 = .pointer (some (ad.add (t.toNat * 5))) := hn 4 (show 4 ∈ ([4] : List Nat) by decide)
            obtain ⟨ad', e', x0, x1, x2, x3, x4⟩ := HAT5.out z hz.1.1.1.1
            cases e'
            simp only [Rel.rp, d4]
            clear hn hz hp
            go_wp2_with fail
            exact ⟨rfl, rfl⟩
          · refine Rel.UponS.of [] (by kernel_rfl) ?_
            intro vals z hz hp hn
            simp only [Rel.rp]
            clear hn hz hp
            go_wp2_with fail
            exact ⟨rfl, rfl⟩
          · refine Rel.UponS.of [] (by kernel_rfl) ?_
            intro vals z hz hp hn
            simp only [Rel.rp]
            clear hn hz hp
            go_wp2_with fail
            exact ⟨rfl, rfl⟩
          · refine Rel.UponS.of [6, 7] (by kernel_rfl) ?_
            intro vals z hz hp hn
            have d6 : vals 6 = .slice (some ad) xs.length c := hn 6 (show 6 ∈ ([6, 7] : List Nat) by decide)
            have d7 : vals 7 = .int .i64 t := hn 7 (show 7 ∈ ([6, 7] : List Nat) by decide)
            have hlen := HLT.out
            have ht0 := HT0.out
            simp only [Rel.rp, d6, d7]
            clear hn hz hp
            go_wp2_with fail
            exact ⟨rfl, rfl⟩
          · refine Rel.UponS.of [8] (by kernel_rfl) ?_
            intro vals z hz hp hn
            have d8 : vals 8 = .pointer (some (ad.add (t.toNat * 5))) := hn 8 (show 8 ∈ ([8] : List Nat) by decide)
            simp only [Rel.rp, d8]
            clear hn hz hp
            go_wp2_with fail
            exact ⟨rfl, rfl⟩
          · refine Rel.UponS.of [9] (by kernel_rfl) ?_
            intro vals z hz hp hn
            have d9 : vals 9 = .pointer (some ⟨(ad.add (t.toNat * 5)).block, (ad.add (t.toNat * 5)).off + 3, none⟩) := hn 9 (show 9 ∈ ([9] : List Nat) by decide)
            obtain ⟨ad', e', x0, x1, x2, x3, x4⟩ := HAT5.out z hz.1.1.1.1
            cases e'
            simp only [Rel.rp, d9]
            clear hn hz hp
            go_wp2_with fail
            exact ⟨rfl, rfl⟩
          · refine Rel.UponS.of [10] (by kernel_rfl) ?_
            intro vals z hz hp hn
            have d10 : vals 10 = .string x.f2 := hn 10 (show 10 ∈ ([10] : List Nat) by decide)
            simp only [Rel.rp, d10]
            clear hn hz hp
            go_wp2_with fail
            exact ⟨rfl, rfl⟩
          · refine Rel.UponS.of [0, 5, 11] (by kernel_rfl) ?_
            intro vals z hz hp hn
            have d0 : vals 0 = .pointer (some ⟨gz, 0, none⟩) := hn 0 (show 0 ∈ ([0, 5, 11] : List Nat) by decide)
            have d5 : vals 5 = .int .u8 x.f0 := hn 5 (show 5 ∈ ([0, 5, 11] : List Nat) by decide)
            have d11 : vals 11 = .int .i64 x.f2.size := hn 11 (show 11 ∈ ([0, 5, 11] : List Nat) by decide)
            have H := Aside0.mk (HRD.out z hp)
            simp only [Rel.rp, d0, d5, d11]
            clear hn hz hp
            go_wp2_with fail
            refine H.out.mono ?_
            rintro e z1 ⟨rfl, k1, k2⟩
            have K := Aside0.mk (⟨k1, k2⟩ : _ ∧ _)
            clear k1 k2
            go_wp2_with fail
            exact ⟨⟨K.out.2, K.out.1⟩, rfl, K.out.1⟩
        intro vals z hz hrel
        have d12 : vals 12 = rvk := (hrel 12 (by decide) rfl).1
        have K := Aside0.mk (⟨⟨⟨hz.1.1.1.1, hz.1.1.1.2.1.at, hz.1.1.1.2.2.at, (hrel 12 (by decide) rfl).2.at⟩, hz.1.1.2⟩, hz.1.2⟩ : (fun z => ((Below w.heap.size w z ∧ InAt gi r false z ∧ InAt gj (r ++ zB) false z ∧ InAt gz kb1 spk1 z) ∧ z.heap[BX]? = some (.cells #[.int .u8 x.f0, .int .u64 (n1 : Nat), .int .u64 (n2 : Nat), .string n3, .int .i64 x.f2.size] 48 (0, 0))) ∧ z.heap[BY]? = some (.cells #[.int .u8 x.f0, .int .u64 (n1 : Nat), .int .u64 (n2 : Nat), .string n3, .int .i64 1099511627776] 48 (0, 0))) z)
        clear hz hrel K7 HX7 K9
        simp only [List.drop_succ_cons, List.drop_zero]
        rw [show List.range 13 = [0, 1, 2, 3, 4, 5, 6, 7, 8, 9, 10, 11, 12] from rfl]
        generalize e0 : vals 0 = v0
        generalize e1 : vals 1 = v1
        generalize e2 : vals 2 = v2
        generalize e3 : vals 3 = v3
        generalize e4 : vals 4 = v4
        generalize e5 : vals 5 = v5
        generalize e6 : vals 6 = v6
        generalize e7 : vals 7 = v7
        generalize e8 : vals 8 = v8
        generalize e9 : vals 9 = v9
        generalize e10 : vals 10 = v10
        generalize e11 : vals 11 = v11
        simp only [Rel.rp, e0, e1, e2, e3, e4, e5, e6, e7, e8, e9, e10, e11, d12]
        go_wp2_with fail
        have HZS : Aside0 (((r ++ zB).size : Int) = (r.size : Int) + 1) := Aside0.mk (by rw [ByteArray.size_append]; rfl)
        refine Rel.region_told (toldC gi gj xs.length c ad t (r.size : Int) ((r.size : Int) + 1) x (.agg #[.int .u8 x.f0, .int .u64 (n1 : Nat), .int .u64 (n2 : Nat), .string n3, .int .i64 x.f2.size]) (.agg #[.int .u8 x.f0, .int .u64 (n1 : Nat), .int .u64 (n2 : Nat), .string n3, .int .i64 1099511627776]) (fun z => ((Below w.heap.size w z ∧ InAt gi r false z ∧ InAt gj (r ++ zB) false z ∧ InAt gz kb1 spk1 z) ∧ z.heap[BX]? = some (.cells #[.int .u8 x.f0, .int .u64 (n1 : Nat), .int .u64 (n2 : Nat), .string n3, .int .i64 x.f2.size] 48 (0, 0))) ∧ z.heap[BY]? = some (.cells #[.int .u8 x.f0, .int .u64 (n1 : Nat), .int .u64 (n2 : Nat), .string n3, .int .i64 1099511627776] 48 (0, 0)))) 28 (by kernel_rfl) (by kernel_rfl) (by kernel_rfl) (by kernel_rfl) (toldC_ok gi gj xs.length c ad t _ _ x _ _ _ (fun z z' ⟨⟨⟨k1, k2, k3, k4⟩, k5⟩, k6⟩ hb => ⟨⟨⟨k1.trans (hb.mono k1.size), k2.below hb, k3.below hb, k4.below hb⟩, (hb.block BX (blk_lt k5)).trans k5⟩, (hb.block BY (blk_lt k6)).trans k6⟩) _) ?_ ?_ ?_ ?_
        · obtain ⟨⟨⟨k1, k2, k3, k4⟩, k5⟩, k6⟩ := K.out
          exact ⟨⟨⟨k1.drew, k2.below (Below.refl _ _).drew, k3.below (Below.refl _ _).drew, k4.below (Below.refl _ _).drew⟩, k5⟩, k6⟩
        · intro i hi
          trivial
        · skip
          simp only [List.take_succ_cons, List.take_zero]
          refine ⟨?_, ?_, ?_, ?_, ?_, ?_, ?_, ?_, ?_, ?_, ?_, ?_, ?_, ?_, ?_, ?_, ?_, ?_, ?_, ?_, ?_, ?_, ?_, ?_, ?_, ?_, ?_, ?_, trivial⟩
          · refine Rel.UponS.of [] (by kernel_rfl) ?_
            intro vals z hz hp hn
            have c0 : z.cell? ⟨BX, 0, none⟩ = Option.some (.int .u8 x.f0) := blk_cell hz.1.2 0
            have c1 : z.cell? ⟨BX, 1, none⟩ = Option.some (.int .u64 (n1 : Nat)) := blk_cell hz.1.2 1
            have c2 : z.cell? ⟨BX, 2, none⟩ = Option.some (.int .u64 (n2 : Nat)) := blk_cell hz.1.2 2
            have c3 : z.cell? ⟨BX, 3, none⟩ = Option.some (.string n3) := blk_cell hz.1.2 3
            have c4 : z.cell? ⟨BX, 4, none⟩ = Option.some (.int .i64 x.f2.size) := blk_cell hz.1.2 4
            simp only [Rel.rp]
            clear hn hz hp
            go_wp2_with fail
            exact ⟨rfl, rfl⟩
          · refine Rel.UponS.of [] (by kernel_rfl) ?_
            intro vals z hz hp hn
            simp only [Rel.rp]
            clear hn hz hp
            go_wp2_with fail
            exact ⟨rfl, rfl⟩
          · refine Rel.UponS.of [] (by kernel_rfl) ?_
            intro vals z hz hp hn
            simp only [Rel.rp]
            clear hn hz hp
            go_wp2_with fail
            exact ⟨rfl, rfl⟩
          · refine Rel.UponS.of [1, 2] (by kernel_rfl) ?_
            intro vals z hz hp hn
            have d1 : vals 1 = .slice (some ad) xs.length c := hn 1 (show 1 ∈ ([1, 2] : List Nat) by decide)
            have d2 : vals 2 = .int .i64 t := hn 2 (show 2 ∈ ([1, 2] : List Nat) by decide)
            have hlen := HLT.out
            have ht0 := HT0.out
            simp only [Rel.rp, d1, d2]
            clear hn hz hp
            go_wp2_with fail
            exact ⟨rfl, rfl⟩
          · refine Rel.UponS.of [3] (by kernel_rfl) ?_
            intro vals z hz hp hn
            have d3 : vals 3 = .pointer (some (ad.add (t.toNat * 5))) := hn 3 (show 3 ∈ ([3] : List Nat) by decide)
            obtain ⟨ad', e', x0, x1, x2, x3, x4⟩ := HAT5.out z hz.1.1.1
            cases e'
            simp only [Rel.rp, d3]
            clear hn hz hp
            go_wp2_with fail
            exact ⟨rfl, rfl⟩
          · refine Rel.UponS.of [0, 4] (by kernel_rfl) ?_
            intro vals z hz hp hn
            have d0 : vals 0 = .agg #[.int .u8 x.f0, .int .u64 (n1 : Nat), .int .u64 (n2 : Nat), .string n3, .int .i64 x.f2.size] := hn 0 (show 0 ∈ ([0, 4] : List Nat) by decide)
            have d4 : vals 4 = thA x := hn 4 (show 4 ∈ ([0, 4] : List Nat) by decide)
            have H := Aside0.mk (HALX.out z)
            simp only [Rel.rp, d0, d4]
            clear hn hz hp
            go_wp2_with fail
            refine H.out.mono ?_
            rintro e z1 ⟨rfl, k1⟩
            have K := Aside0.mk k1
            clear k1
            go_wp2_with fail
            exact ⟨K.out, rfl⟩
          · refine Rel.UponS.of [5] (by kernel_rfl) ?_
            intro vals z hz hp hn
            have d5 : vals 5 = .bool true := hn 5 (show 5 ∈ ([5] : List Nat) by decide)
            simp only [Rel.rp, d5]
            clear hn hz hp
            go_wp2_with fail
            exact ⟨rfl, rfl⟩
          · refine Rel.UponS.of [6] (by kernel_rfl) ?_
            intro vals z hz hp hn
            have d6 : vals 6 = .bool false := hn 6 (show 6 ∈ ([6] : List Nat) by decide)
            simp only [Rel.rp, d6]
            clear hn hz hp
            go_wp2_with fail
            exact ⟨rfl, rfl⟩
          · refine Rel.UponS.of [7] (by kernel_rfl) ?_
            intro vals z hz hp hn
            have d7 : vals 7 = .bool false := hn 7 (show 7 ∈ ([7] : List Nat) by decide)
            have c0 : z.cell? ⟨BY, 0, none⟩ = Option.some (.int .u8 x.f0) := blk_cell hz.2 0
            have c1 : z.cell? ⟨BY, 1, none⟩ = Option.some (.int .u64 (n1 : Nat)) := blk_cell hz.2 1
            have c2 : z.cell? ⟨BY, 2, none⟩ = Option.some (.int .u64 (n2 : Nat)) := blk_cell hz.2 2
            have c3 : z.cell? ⟨BY, 3, none⟩ = Option.some (.string n3) := blk_cell hz.2 3
            have c4 : z.cell? ⟨BY, 4, none⟩ = Option.some (.int .i64 1099511627776) := blk_cell hz.2 4
            simp only [Rel.rp, d7]
            clear hn hz hp
            go_wp2_with fail
            exact ⟨rfl, rfl⟩
          · refine Rel.UponS.of [7] (by kernel_rfl) ?_
            intro vals z hz hp hn
            have d7 : vals 7 = .bool false := hn 7 (show 7 ∈ ([7] : List Nat) by decide)
            simp only [Rel.rp, d7]
            clear hn hz hp
            go_wp2_with fail
            exact ⟨rfl, rfl⟩
          · refine Rel.UponS.of [7] (by kernel_rfl) ?_
            intro vals z hz hp hn
            have d7 : vals 7 = .bool false := hn 7 (show 7 ∈ ([7] : List Nat) by decide)
            simp only [Rel.rp, d7]
            clear hn hz hp
            go_wp2_with fail
            exact ⟨rfl, rfl⟩
          · refine Rel.UponS.of [7, 9, 10] (by kernel_rfl) ?_
            intro vals z hz hp hn
            have d7 : vals 7 = .bool false := hn 7 (show 7 ∈ ([7, 9, 10] : List Nat) by decide)
            have d9 : vals 9 = .slice (some ad) xs.length c := hn 9 (show 9 ∈ ([7, 9, 10] : List Nat) by decide)
            have d10 : vals 10 = .int .i64 t := hn 10 (show 10 ∈ ([7, 9, 10] : List Nat) by decide)
            have hlen := HLT.out
            have ht0 := HT0.out
            simp only [Rel.rp, d7, d9, d10]
            clear hn hz hp
            go_wp2_with fail
            exact ⟨rfl, rfl⟩
          · refine Rel.UponS.of [7, 11] (by kernel_rfl) ?_
            intro vals z hz hp hn
            have d7 : vals 7 = .bool false := hn 7 (show 7 ∈ ([7, 11] : List Nat) by decide)
            have d11 : vals 11 = .pointer (some (ad.add (t.toNat * 5))) := hn 11 (show 11 ∈ ([7, 11] : List Nat) by decide)
            obtain ⟨ad', e', x0, x1, x2, x3, x4⟩ := HAT5.out z hz.1.1.1
            cases e'
            simp only [Rel.rp, d7, d11]
            clear hn hz hp
            go_wp2_with fail
            exact ⟨rfl, rfl⟩
          · refine Rel.UponS.of [7, 8, 12] (by kernel_rfl) ?_
            intro vals z hz hp hn
            have d7 : vals 7 = .bool false := hn 7 (show 7 ∈ ([7, 8, 12] : List Nat) by decide)
            have d8 : vals 8 = .agg #[.int .u8 x.f0, .int .u64 (n1 : Nat), .int .u64 (n2 : Nat), .string n3, .int .i64 1099511627776] := hn 8 (show 8 ∈ ([7, 8, 12] : List Nat) by decide)
            have d12 : vals 12 = thA x := hn 12 (show 12 ∈ ([7, 8, 12] : List Nat) by decide)
            have H := Aside0.mk (HALY.out z)
            simp only [Rel.rp, d7, d8, d12]
            clear hn hz hp
            go_wp2_with fail
            refine H.out.mono ?_
            rintro e z1 ⟨rfl, k1⟩
            have K := Aside0.mk k1
            clear k1
            go_wp2_with fail
            exact ⟨K.out, rfl⟩
          · refine Rel.UponS.of [7, 13] (by kernel_rfl) ?_
            intro vals z hz hp hn
            have d7 : vals 7 = .bool false := hn 7 (show 7 ∈ ([7, 13] : List Nat) by decide)
            have d13 : vals 13 = .bool true := hn 13 (show 13 ∈ ([7, 13] : List Nat) by decide)
            simp only [Rel.rp, d7, d13]
            clear hn hz hp
            go_wp2_with fail
            exact ⟨rfl, rfl⟩
          · refine Rel.UponS.of [7, 14] (by kernel_rfl) ?_
            intro vals z hz hp hn
            have d7 : vals 7 = .bool false := hn 7 (show 7 ∈ ([7, 14] : List Nat) by decide)
            have d14 : vals 14 = .bool false := hn 14 (show 14 ∈ ([7, 14] : List Nat) by decide)
            simp only [Rel.rp, d7, d14]
            clear hn hz hp
            go_wp2_with fail
            exact ⟨rfl, rfl⟩
          · refine Rel.UponS.of [15] (by kernel_rfl) ?_
            intro vals z hz hp hn
            have d15 : vals 15 = .bool false := hn 15 (show 15 ∈ ([15] : List Nat) by decide)
            simp only [Rel.rp, d15]
            clear hn hz hp
            go_wp2_with fail
            exact ⟨rfl, rfl⟩
          · refine Rel.UponS.of [16] (by kernel_rfl) ?_
            intro vals z hz hp hn
            have d16 : vals 16 = .bool false := hn 16 (show 16 ∈ ([16] : List Nat) by decide)
            simp only [Rel.rp, d16]
            clear hn hz hp
            go_wp2_with fail
            exact ⟨rfl, rfl⟩
          · refine Rel.UponS.of [16, 17] (by kernel_rfl) ?_
            intro vals z hz hp hn
            have d16 : vals 16 = .bool false := hn 16 (show 16 ∈ ([16, 17] : List Nat) by decide)
            have d17 : vals 17 = .pointer (some ⟨gi, 0, none⟩) := hn 17 (show 17 ∈ ([16, 17] : List Nat) by decide)
            have H := Aside0.mk (at_spoilt hz.1.1.2.1)
            simp only [Rel.rp, d16, d17]
            clear hn hz hp
            go_wp2_with fail
            refine H.out.mono ?_
            rintro e z1 ⟨rfl, rfl⟩
            go_wp2_with fail
            exact ⟨rfl, rfl⟩
          · refine Rel.UponS.of [16, 18] (by kernel_rfl) ?_
            intro vals z hz hp hn
            have d16 : vals 16 = .bool false := hn 16 (show 16 ∈ ([16, 18] : List Nat) by decide)
            have d18 : vals 18 = .bool false := hn 18 (show 18 ∈ ([16, 18] : List Nat) by decide)
            simp only [Rel.rp, d16, d18]
            clear hn hz hp
            go_wp2_with fail
            exact ⟨rfl, rfl⟩
          · refine Rel.UponS.of [19] (by kernel_rfl) ?_
            intro vals z hz hp hn
            have d19 : vals 19 = .bool false := hn 19 (show 19 ∈ ([19] : List Nat) by decide)
            simp only [Rel.rp, d19]
            clear hn hz hp
            go_wp2_with fail
            exact ⟨rfl, rfl⟩
          · refine Rel.UponS.of [20] (by kernel_rfl) ?_
            intro vals z hz hp hn
            have d20 : vals 20 = .bool false := hn 20 (show 20 ∈ ([20] : List Nat) by decide)
            simp only [Rel.rp, d20]
            clear hn hz hp
            go_wp2_with fail
            exact ⟨rfl, rfl⟩
          · refine Rel.UponS.of [20, 21] (by kernel_rfl) ?_
            intro vals z hz hp hn
            have d20 : vals 20 = .bool false := hn 20 (show 20 ∈ ([20, 21] : List Nat) by decide)
            have d21 : vals 21 = .pointer (some ⟨gj, 0, none⟩) := hn 21 (show 21 ∈ ([20, 21] : List Nat) by decide)
            have H := Aside0.mk (at_rest hz.1.1.2.2.1)
            rw [HZS.out] at H
            simp only [Rel.rp, d20, d21]
            clear hn hz hp
            go_wp2_with fail
            refine H.out.mono ?_
            rintro e z1 ⟨rfl, rfl⟩
            go_wp2_with fail
            exact ⟨rfl, rfl⟩
          · refine Rel.UponS.of [20] (by kernel_rfl) ?_
            intro vals z hz hp hn
            have d20 : vals 20 = .bool false := hn 20 (show 20 ∈ ([20] : List Nat) by decide)
            simp only [Rel.rp, d20]
            clear hn hz hp
            go_wp2_with fail
            exact ⟨rfl, rfl⟩
          · refine Rel.UponS.of [20, 23] (by kernel_rfl) ?_
            intro vals z hz hp hn
            have d20 : vals 20 = .bool false := hn 20 (show 20 ∈ ([20, 23] : List Nat) by decide)
            have d23 : vals 23 = .pointer (some ⟨gi, 0, none⟩) := hn 23 (show 23 ∈ ([20, 23] : List Nat) by decide)
            have H := Aside0.mk (at_rest hz.1.1.2.1)
            simp only [Rel.rp, d20, d23]
            clear hn hz hp
            go_wp2_with fail
            refine H.out.mono ?_
            rintro e z1 ⟨rfl, rfl⟩
            go_wp2_with fail
            exact ⟨rfl, rfl⟩
          · refine Rel.UponS.of [20, 24] (by kernel_rfl) ?_
            intro vals z hz hp hn
            have d20 : vals 20 = .bool false := hn 20 (show 20 ∈ ([20, 24] : List Nat) by decide)
            have d24 : vals 24 = .int .i64 (r.size : Int) := hn 24 (show 24 ∈ ([20, 24] : List Nat) by decide)
            have hmm := HRS.out
            simp only [Rel.rp, d20, d24]
            clear hn hz hp
            go_wp2_with fail
            exact ⟨rfl, rfl⟩
          · refine Rel.UponS.of [20, 22, 25] (by kernel_rfl) ?_
            intro vals z hz hp hn
            have d20 : vals 20 = .bool false := hn 20 (show 20 ∈ ([20, 22, 25] : List Nat) by decide)
            have d22 : vals 22 = .int .i64 ((r.size : Int) + 1) := hn 22 (show 22 ∈ ([20, 22, 25] : List Nat) by decide)
            have d25 : vals 25 = .int .i64 ((r.size : Int) + 1) := hn 25 (show 25 ∈ ([20, 22, 25] : List Nat) by decide)
            have hmm := HRS.out
            simp only [Rel.rp, d20, d22, d25]
            clear hn hz hp
            go_wp2_with fail
            exact ⟨rfl, rfl⟩
          · refine Rel.UponS.of [20, 26] (by kernel_rfl) ?_
            intro vals z hz hp hn
            have d20 : vals 20 = .bool false := hn 20 (show 20 ∈ ([20, 26] : List Nat) by decide)
            have d26 : vals 26 = .bool false := hn 26 (show 26 ∈ ([20, 26] : List Nat) by decide)
            simp only [Rel.rp, d20, d26]
            clear hn hz hp
            go_wp2_with fail
            exact ⟨rfl, rfl⟩
        intro vals z hz hrel
        have d27 : vals 27 = .bool false := hrel 27 (by decide) rfl
        obtain ⟨⟨⟨k1, k2, k3, k4⟩, k5⟩, k6⟩ := hz
        have K19 := Aside0.mk (⟨k1, k2, k3, k4⟩ : Below w.heap.size w z ∧ InAt gi r false z ∧ InAt gj (r ++ zB) false z ∧ InAt gz kb1 spk1 z)
        clear k1 k2 k3 k4 k5 k6 hrel K
        simp only [List.drop_succ_cons, List.drop_zero]
        rw [show List.range 28 = [0, 1, 2, 3, 4, 5, 6, 7, 8, 9, 10, 11, 12, 13, 14, 15, 16, 17, 18, 19, 20, 21, 22, 23, 24, 25, 26, 27] from rfl]
        generalize e0 : vals 0 = v0
        generalize e1 : vals 1 = v1
        generalize e2 : vals 2 = v2
        generalize e3 : vals 3 = v3
        generalize e4 : vals 4 = v4
        generalize e5 : vals 5 = v5
        generalize e6 : vals 6 = v6
        generalize e7 : vals 7 = v7
        generalize e8 : vals 8 = v8
        generalize e9 : vals 9 = v9
        generalize e10 : vals 10 = v10
        generalize e11 : vals 11 = v11
        generalize e12 : vals 12 = v12
        generalize e13 : vals 13 = v13
        generalize e14 : vals 14 = v14
        generalize e15 : vals 15 = v15
        generalize e16 : vals 16 = v16
        generalize e17 : vals 17 = v17
        generalize e18 : vals 18 = v18
        generalize e19 : vals 19 = v19
        generalize e20 : vals 20 = v20
        generalize e21 : vals 21 = v21
        generalize e22 : vals 22 = v22
        generalize e23 : vals 23 = v23
        generalize e24 : vals 24 = v24
        generalize e25 : vals 25 = v25
        generalize e26 : vals 26 = v26
        simp only [Rel.rp, e0, e1, e2, e3, e4, e5, e6, e7, e8, e9, e10, e11, e12, e13, e14, e15, e16, e17, e18, e19, e20, e21, e22, e23, e24, e25, e26, d27]
        have hrr : r = encs (xs.drop (t + 1).toNat) := by rw [show (t + 1).toNat = t.toNat + 1 by have := HT0.out; omega]; exact HRE.out.symm
        have HRR := Aside0.mk hrr
        clear hrr
        obtain ⟨ad', e', x0, x1, x2, x3, x4⟩ := HAT5.out z K19.out.1
        cases e'
        have hlen := HLT.out
        have ht0 := HT0.out
        have hx0 := (good_nat HGX.out.1).1
        have hx1 := (good_nat HGX.out.1).2.1
        by_cases hc4 : x.f0 % 5 = 4
        · have htm : Int.tmod x.f0 5 = 4 := by rw [Int.tmod_eq_emod_of_nonneg hx0]; exact hc4
          by_cases hsz : 0 < x.f2.size
          · have HWR := Aside0.mk (fun W g h => x_wrote x HGX.out.1 HGX.out.2 W g h)
            have HST := Aside0.mk (short_text x (by omega) HGX.out.2 hsz)
            have HES := Aside0.mk (enc_small1 x HGX.out.1 HGX.out.2)
            have HGXX := Aside0.mk hsz
            have hbn : Below z.heap.size z (z.alloc (.cells #[.int .u8 x.f0, .int .u64 x.f1.f0, .int .u64 x.f1.f1, .string x.f2, .int .i64 x.f3] 48)) := (Below.refl _ _).alloc (Nat.le_refl _) _
            have KA := Aside0.mk (⟨K19.out.1.trans (hbn.mono K19.out.1.size), K19.out.2.1.below hbn, K19.out.2.2.1.below hbn, K19.out.2.2.2.below hbn⟩ : _ ∧ _ ∧ _ ∧ _)
            have HBK := Aside0.mk (blk_new z (.cells #[.int .u8 x.f0, .int .u64 x.f1.f0, .int .u64 x.f1.f1, .string x.f2, .int .i64 x.f3] 48))
            clear hbn
            go_wp2_with fail
            refine (HWR.out _ _ HBK.out).mono ?_
            rintro e w10 ⟨rfl, b10⟩
            have KB := Aside0.mk (⟨KA.out.1.trans (b10.mono KA.out.1.size), KA.out.2.1.below b10, KA.out.2.2.1.below b10, KA.out.2.2.2.below b10⟩ : Below w.heap.size w w10 ∧ InAt gi r false w10 ∧ InAt gj (r ++ zB) false w10 ∧ InAt gz kb1 spk1 w10)
            clear b10 KA HBK
            generalize hte : encT x = te at *
            go_wp2_with fail
            refine (at_open te (by have := HES.out; omega) w10).mono ?_
            rintro e w11 ⟨gs, hgs, rfl, i11, b11⟩
            have KC := Aside0.mk (⟨KB.out.1.trans (b11.mono KB.out.1.size), KB.out.2.1.below b11, KB.out.2.2.1.below b11, KB.out.2.2.2.below b11⟩ : Below w.heap.size w w11 ∧ InAt gi r false w11 ∧ InAt gj (r ++ zB) false w11 ∧ InAt gz kb1 spk1 w11)
            have HGS := Aside0.mk (⟨Nat.le_trans KB.out.1.size hgs, Nat.lt_of_lt_of_le KB.out.2.1.lt hgs, Nat.lt_of_lt_of_le KB.out.2.2.1.lt hgs, Nat.lt_of_lt_of_le KB.out.2.2.2.lt hgs⟩ : w.heap.size ≤ gs ∧ gi < gs ∧ gj < gs ∧ gz < gs)
            have HTX := Aside0.mk (at_text ((x.f2.size : Int) - 1) (by have := HGX.out.2; omega) i11)
            rw [HST.out] at HTX
            have HI11 := Aside0.mk i11
            clear b11 hgs i11 KB
            obtain ⟨ad', e', x0, x1, x2, x3, x4⟩ := HAT5.out w11 KC.out.1
            cases e'
            have hs2k := HGX.out.2
            have hs1k : 1 ≤ x.f2.size := hsz
            go_wp2_with fail
            try rw [show wrap64 ((x.f2.size : Int) - 1) = (x.f2.size : Int) - 1 from by unfold wrap64; simp only [IntKind.wrap, IntKind.signed]; go_num]
            refine HTX.out.mono ?_
            rintro e w12 ⟨rfl, i12, t12⟩
            have KD := Aside0.mk (⟨t12.below KC.out.1 HGS.out.1 KC.out.1.size, KC.out.2.1.other HI11.out t12 (by have := HGS.out; omega), KC.out.2.2.1.other HI11.out t12 (by have := HGS.out; omega), KC.out.2.2.2.other HI11.out t12 (by have := HGS.out; omega)⟩ : Below w.heap.size w w12 ∧ InAt gi r false w12 ∧ InAt gj (r ++ zB) false w12 ∧ InAt gz kb1 spk1 w12)
            have HSP := Aside0.mk (at_spoilt i12)
            clear i12 t12
            go_wp2_with fail
            refine HSP.out.mono ?_
            rintro e z1 ⟨rfl, rfl⟩
            go_wp2_with fail
            go_roundg (gk - 1)
            case measure => have := HK.out; omega
            case rel => exact ⟨t + 1, r, kb1, spk1, by omega, by have := HK.out; omega, by omega, by go_num, HRR.out, KD.out.2.1, KD.out.2.2.1, KD.out.2.2.2, HKI2.out, HRS.out, KD.out.1⟩
          · have hsz0 : x.f2.size = 0 := by omega
            go_wp2_with fail
            go_roundg (gk - 1)
            case measure => have := HK.out; omega
            case rel => exact ⟨t + 1, r, kb1, spk1, by omega, by have := HK.out; omega, by omega, by go_num, HRR.out, K19.out.2.1, K19.out.2.2.1, K19.out.2.2.2, HKI2.out, HRS.out, K19.out.1⟩
        · have htm : ¬ Int.tmod x.f0 5 = 4 := by rw [Int.tmod_eq_emod_of_nonneg hx0]; exact hc4
          go_wp2_with fail
          go_roundg (gk - 1)
          case measure => have := HK.out; omega
          case rel => exact ⟨t + 1, r, kb1, spk1, by omega, by have := HK.out; omega, by omega, by go_num, HRR.out, K19.out.2.1, K19.out.2.2.1, K19.out.2.2.2, HKI2.out, HRS.out, K19.out.1⟩
      · have e : encs (xs.drop t.toNat) = noB := by rw [List.drop_eq_nil_of_le (by omega)]; rfl
        rw [e] at hbe
        subst hbe
        have hkc := KI.close hki
        have HF : Aside0 (((closeS kb spk == 0) == ((tl.size : Int) == 0)) = true) := Aside0.mk (by rw [hkc]; exact beq_self_eq_true _)
        have C1 := Aside0.mk (at_close hi)
        have C2 := Aside0.mk (at_close hj)
        have C3 := Aside0.mk (at_spoilt hj)
        have C4 := Aside0.mk (at_close hkk)
        rw [show closeS noB false = 0 from rfl] at C1
        rw [show closeS (noB ++ zB) false = 80 from rfl] at C2
        generalize closeS kb spk = q at *
        have HBB := Aside0.mk hb
        clear hi hj hkk hki hkc hb hbs
        go_wp2_with fail
        refine C1.out.mono ?_
        rintro e z1 ⟨rfl, rfl⟩
        go_wp2_with fail
        refine C2.out.mono ?_
        rintro e z1 ⟨rfl, rfl⟩
        go_wp2_with fail
        refine C3.out.mono ?_
        rintro e z1 ⟨rfl, rfl⟩
        go_wp2_with fail
        refine C4.out.mono ?_
        rintro e z1 ⟨rfl, rfl⟩
        have hf := HF.out
        go_wp2_with fail
        go_ret
        exact ⟨rfl, HBB.out⟩
theorem octback_row (w : World) (A : Option Addr) (c : Nat) (xs : List S48) (hC : Kd.C k48 w A xs.length xs) (hc : xs.length ≤ c) (hx : ∀ x ∈ xs, Good48 x) (hb : xs.length * Try.prog.bytesOf 48 ≤ 140737488351232) (sm : Int) (ha : (Lit.int .i64 sm).wf = true) :
    Calls Try.prog 7 #[.slice A xs.length c, .int .i64 sm] w fun e w' => e = .returned (.bool true) ∧ Below w.heap.size w w' :=
  back_walk sm xs A c w hC hc hx
end Go.Proofs.Ytdjpcogkpnemlaa.Oct
