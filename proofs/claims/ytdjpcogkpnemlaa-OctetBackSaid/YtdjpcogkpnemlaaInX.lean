/- Texts of this session, put together: In, InF, InAt, Wrote, WroteF. -/
import Derived.Test.YtdjpcogkpnemlaaNumX
import Derived.Test.YtdjpcogkpnemlaaOutX
import Derived.Deep.Fields
import Derived.WalkSpells
import Derived.Outline
import Derived.Laws.IdiomStrings
import Derived.StillTailTactics
import Derived.Test.YtdjpcogkpnemlaaGoodsOr
import Derived.KernelRfl
section
/- The reader octet.In as a state: what it holds, and what each of its methods does. -/
namespace Go.Proofs.Ytdjpcogkpnemlaa.Oct
open Go Go.RowKit Go.Proofs.YtdjpcogkpnemlaaW.PrintWords
set_option linter.unusedVariables false
set_option linter.unusedSimpArgs false
set_option maxRecDepth 100000
set_option maxHeartbeats 4000000
/-- A slice that reads as these bytes; its row came in by w0. -/
def SeenB (w0 : World) (v : Value) (b : ByteArray) : Prop :=
  (v = .slice none 0 0 ∧ b = noB) ∨ ∃ k off cap, v = .slice (some ⟨k, off, none⟩) b.size cap ∧ b.size ≤ cap ∧ k < w0.heap.size ∧ Lib.Bytes w0 k off b
/-- A reader in block g. -/
def IsS84 (w0 W : World) (g : Nat) (f0 : ByteArray) (f1 : Bool) : Prop :=
  (∃ v, W.heap[g]? = some (.cells #[v, .bool f1] 84 (0, 0)) ∧ SeenB w0 v f0) ∧ w0.heap.size ≤ g ∧ OkIn f0 f1
section
variable {w0 W W1 : World} {g : Nat} {f0 : ByteArray} {f1 : Bool}
theorem IsS84.ok (h : IsS84 w0 W g f0 f1) : OkIn f0 f1 := h.2.2
theorem IsS84.ge (h : IsS84 w0 W g f0 f1) : w0.heap.size ≤ g := h.2.1
theorem IsS84.same (h : IsS84 w0 W g f0 f1) (e : W1.heap[g]? = W.heap[g]?) : IsS84 w0 W1 g f0 f1 := by
  obtain ⟨⟨v, hb, hs⟩, hg, hok⟩ := h
  exact ⟨⟨v, e.trans hb, hs⟩, hg, hok⟩
theorem IsS84.lt (h : IsS84 w0 W g f0 f1) : g < W.heap.size := by
  obtain ⟨⟨v, hb, hs⟩, hg, hok⟩ := h
  exact blk_lt hb
theorem IsS84.fresh (h : IsS84 w0 W g f0 f1) : ∀ k, W.heap.size ≤ k → k ≠ g := by
  intro k hk; have := h.lt; omega
theorem IsS84.grown {row : Option Nat} (h : IsS84 w0 W g f0 f1) (hw : W.grownBy W1 row) (hne : some g ≠ row) : IsS84 w0 W1 g f0 f1 := h.same (hw.block g h.lt hne)
theorem IsS84.kept {S : Nat → Prop} (h : IsS84 w0 W g f0 f1) (hk : Kept W W1 S) (hne : ¬ S g) : IsS84 w0 W1 g f0 f1 := h.same (hk.2 g h.lt hne)
theorem IsS84.below (h : IsS84 w0 W g f0 f1) (hw : Below W.heap.size W W1) : IsS84 w0 W1 g f0 f1 := h.same (hw.block g h.lt)
theorem IsS84.alloc (h : IsS84 w0 W g f0 f1) (o : Obj) : IsS84 w0 (W.alloc o) g f0 f1 := h.below (below_alloc (Below.refl _ _) o)
theorem IsS84.drewN (h : IsS84 w0 W g f0 f1) (m : Nat) : IsS84 w0 (W.drewN m) g f0 f1 := h
theorem IsS84.drew (h : IsS84 w0 W g f0 f1) : IsS84 w0 W.drew g f0 f1 := h
theorem IsS84.at_ {w' : World} {m : Nat} (hq : W.drewN m = w') (h : IsS84 w0 W g f0 f1) : IsS84 w0 w' g f0 f1 := by subst hq; exact h.drewN m
theorem IsS84.far {p : Addr} (h : IsS84 w0 W g f0 f1) (hne : g ≠ p.block) (u : Value) : IsS84 w0 (W.setCell p u) g f0 f1 := h.same (Below.heap_setCell W p u g hne)
theorem IsS84.keep {g2 : Nat} (h : IsS84 w0 W g f0 f1) (hk : KeepBut W W1 g2 none) (hne : g ≠ g2) : IsS84 w0 W1 g f0 f1 := h.same (hk.2 g h.lt hne (by simp))
theorem IsS84.ne_blk {a : Nat} {cs : Array Value} {t : TypeId} {fr : Nat × Nat} (h : IsS84 w0 W g f0 f1) (hb2 : W.heap[a]? = some (.cells cs t fr)) (ht : t ≠ 84) : g ≠ a := by
  obtain ⟨⟨v, hb, hs⟩, hg, hok⟩ := h
  rintro rfl
  rw [hb] at hb2
  injection hb2 with e
  injection e with _ e2 _
  exact ht e2.symm
end
theorem in_spoilt (g : Nat) (b : ByteArray) (sp : Bool) (w0 w : World) (hI : IsS84 w0 w g b sp) :
    Calls Try.prog 23 #[.pointer (some ⟨g, 0, none⟩)] w fun e w' => e = .returned (.bool sp) ∧ w' = w := by
  obtain ⟨⟨v, hb, hs⟩, hg, hok⟩ := hI
  have c1 := blk_cell hb 1
  go_enter Try.func23, Try.ntmps23
  go_wp2_with fail
  go_ret
  exact ⟨rfl, rfl⟩
theorem in_spoil (g : Nat) (b : ByteArray) (sp : Bool) (w0 w : World) (hI : IsS84 w0 w g b sp) (hB : Below w0.heap.size w0 w) :
    Calls Try.prog 27 #[.pointer (some ⟨g, 0, none⟩)] w fun e w' => e = .returned (.tuple #[]) ∧ IsS84 w0 w' g noB true ∧ Below w0.heap.size w0 w' ∧ KeepBut w w' g none := by
  obtain ⟨⟨v, hb, hs⟩, hg, hok⟩ := hI
  have f0 := blk_frozen hb 0
  have f1 := blk_frozen hb 1
  have c0 := blk_cell hb 0
  have c1 := blk_cell hb 1
  go_enter Try.func27, Try.ntmps27
  go_wp2_with fail
  refine bodyPost_end (results_none rfl _ _ _) rfl ⟨rfl, ⟨⟨.slice none 0 0, blk_put (blk_put hb 0 _ rfl) 1 _ rfl, .inl ⟨rfl, rfl⟩⟩, hg, by show 0 ≤ _; omega, fun _ => rfl⟩, ?_, ?_⟩
  · exact (hB.setCell hg _).setCell hg _
  · exact ((KeepBut.refl w g none).set_ 0 _).set_ 1 _
theorem in_rest (g : Nat) (b : ByteArray) (sp : Bool) (w0 w : World) (hI : IsS84 w0 w g b sp) :
    Calls Try.prog 24 #[.pointer (some ⟨g, 0, none⟩)] w fun e w' => e = .returned (.int .i64 b.size) ∧ w' = w := by
  have hI2 := Aside0.mk hI
  obtain ⟨⟨v, hb, hs⟩, hg, hok⟩ := hI
  have HF := Aside0.mk hok.2
  clear hok
  have c0 := blk_cell hb 0
  obtain ⟨a, cap, rfl⟩ : ∃ a cap, v = .slice a b.size cap := by
    rcases hs with ⟨h1, h2⟩ | ⟨k, off, cap, h1, _⟩
    · rw [h1, h2]; exact ⟨_, _, rfl⟩
    · exact ⟨_, _, h1⟩
  clear hs
  cases sp with
  | true =>
    go_enter Try.func24, Try.ntmps24
    go_wp2_with (go_at_call 23; refine (in_spoilt _ _ _ _ _ hI2.out).mono ?_; rintro e w' ⟨rfl, rfl⟩)
    go_ret
    rw [HF.out trivial]
    exact ⟨rfl, rfl⟩
  | false =>
    clear HF
    go_enter Try.func24, Try.ntmps24
    go_wp2_with (go_at_call 23; refine (in_spoilt _ _ _ _ _ hI2.out).mono ?_; rintro e w' ⟨rfl, rfl⟩)
    go_ret
    exact ⟨rfl, rfl⟩
def closeS (b : ByteArray) (sp : Bool) : Int := if sp = true ∨ 0 < b.size then 80 else 0
theorem in_close (g : Nat) (b : ByteArray) (sp : Bool) (w0 w : World) (hI : IsS84 w0 w g b sp) :
    Calls Try.prog 25 #[.pointer (some ⟨g, 0, none⟩)] w fun e w' => e = .returned (.int .i64 (closeS b sp)) ∧ w' = w := by
  obtain ⟨⟨v, hb, hs⟩, hg, hok⟩ := hI
  clear hok
  have c0 := blk_cell hb 0
  have c1 := blk_cell hb 1
  obtain ⟨a, cap, rfl⟩ : ∃ a cap, v = .slice a b.size cap := by
    rcases hs with ⟨h1, h2⟩ | ⟨k, off, cap, h1, _⟩
    · rw [h1, h2]; exact ⟨_, _, rfl⟩
    · exact ⟨_, _, h1⟩
  clear hs
  cases sp with
  | true =>
    go_enter Try.func25, Try.ntmps25
    go_wp2_with fail
    go_ret
    exact ⟨rfl, rfl⟩
  | false =>
    by_cases h0 : 0 < b.size
    · have h1 : 0 < (b.size : Int) := by omega
      go_enter Try.func25, Try.ntmps25
      go_wp2_with fail
      go_ret
      exact ⟨congrArg (fun x : Int => Ending.returned (Value.int .i64 x)) (if_pos (.inr h0)).symm, rfl⟩
    · have h1 : ¬ 0 < (b.size : Int) := by omega
      go_enter Try.func25, Try.ntmps25
      go_wp2_with fail
      go_ret
      exact ⟨congrArg (fun x : Int => Ending.returned (Value.int .i64 x)) (if_neg (fun h => h.elim (fun h => by cases h) h0)).symm, rfl⟩
theorem seen_slice {w0 : World} {v : Value} {b : ByteArray} (h : SeenB w0 v b) : ∃ a cap, v = .slice a b.size cap := by
  rcases h with ⟨h1, h2⟩ | ⟨k, off, cap, h1, _⟩
  · rw [h1, h2]; exact ⟨_, _, rfl⟩
  · exact ⟨_, _, h1⟩
theorem seen_far {w0 w : World} {k off g : Nat} {b : ByteArray} (hk : k < w0.heap.size) (hg : w0.heap.size ≤ g) (h : Lib.Bytes w0 k off b) (hB : Below w0.heap.size w0 w) (v : Value) (n : Nat) : Lib.Bytes ((w.setCell ⟨g, 0, none⟩ v).drewN n) k off b := by
  intro i hi
  have h1 := h i hi
  have h2 : w.cell? ⟨k, off + i, none⟩ = some (.int .u8 (b[i].toNat : Int)) := (hB.cell (p := ⟨k, off + i, none⟩) hk).trans h1
  show (w.setCell ⟨g, 0, none⟩ v).cell? ⟨k, off + i, none⟩ = _
  rw [← h2]
  exact World.cell?_of_block (w := w) (a := ⟨k, off + i, none⟩) (Below.heap_setCell w ⟨g, 0, none⟩ v k (by show k ≠ g; omega))
theorem bytes_sub {w0 : World} {k off n : Nat} {b : ByteArray} (h : Lib.Bytes w0 k off b) : Lib.Bytes w0 k (off + n) (b.extract n b.size) := by
  intro i hi
  have hi' : n + i < b.size := by rw [ByteArray.size_extract] at hi; omega
  have h1 := h (n + i) hi'
  rw [← Nat.add_assoc] at h1
  rw [h1]
  congr 2
  congr 1
  rw [ByteArray.getElem_extract]
theorem in_take (n A g : Nat) (b : ByteArray) (sp : Bool) (w0 w : World) (hn : n < 18446744073709551616) (hA : w.heap[A]? = some (.cells #[.pointer (some ⟨g, 0, none⟩)] 54 (0, 0))) (hI : IsS84 w0 w g b sp) (hB : Below w0.heap.size w0 w) :
    Calls Try.prog 63 #[.int .u64 n, .pointer (some ⟨A, 0, none⟩)] w fun e w' => e = .returned (.string (takeS b sp n).1) ∧ IsS84 w0 w' g (takeS b sp n).2.1 (takeS b sp n).2.2 ∧ Below w0.heap.size w0 w' ∧ KeepBut w w' g none := by
  have cA := blk_cell hA 0
  have HI := Aside0.mk hI
  have HB := Aside0.mk hB
  cases sp with
  | true =>
    have e0 : b = noB := hI.ok.2 rfl
    have et : takeS b true n = (noB, noB, true) := if_pos (.inl rfl)
    rw [et]
    subst e0
    clear hI hB et
    go_enter Try.func63, Try.ntmps63
    go_wp2_with (go_at_call 23; refine (in_spoilt _ _ _ _ _ HI.out).mono ?_; rintro e w' ⟨rfl, rfl⟩)
    go_ret
    exact ⟨rfl, HI.out, HB.out, KeepBut.refl _ _ _⟩
  | false =>
    obtain ⟨⟨v, hb, hs⟩, hg, hok⟩ := hI
    have c0 := blk_cell hb 0
    have f0 := blk_frozen hb 0
    have hsz := hok.1
    by_cases hlt : b.size < n
    · have et : takeS b false n = (noB, noB, true) := if_pos (.inr hlt)
      obtain ⟨a, cap, rfl⟩ := seen_slice hs
      have h1 : (b.size : Int) < (n : Int) := by omega
      rw [et]
      clear hs hok et hlt hB
      go_enter Try.func63, Try.ntmps63
      go_wp2_with (first
        | (go_at_call 23; refine (in_spoilt _ _ _ _ _ HI.out).mono ?_; rintro e w' ⟨rfl, rfl⟩)
        | (go_at_call 27; refine (in_spoil _ _ _ _ _ HI.out HB.out).mono ?_; rintro e w1 ⟨rfl, h2, h3, h4⟩))
      go_ret
      exact ⟨rfl, h2, h3, h4⟩
    · have et : takeS b false n = (b.extract 0 n, b.extract n b.size, false) := if_neg (fun h => h.elim (fun h => by cases h) hlt)
      rw [et]
      clear et
      rcases hs with ⟨rfl, rfl⟩ | ⟨k, off, cap, rfl, hcap, hk, hby⟩
      · obtain rfl : n = 0 := by
          have : noB.size = 0 := rfl
          omega
        have hcv : ∀ W, (convert 40 9 (.slice none 0 0)).run Try.prog W = .ok (.string noB) W := fun W => Lib.run_convert_nil_bytes W 40 9 5 0 Try.underlying40 Try.underlying5 Try.underlying9
        have HO := Aside0.mk hok
        clear hlt hok hB
        go_enter Try.func63, Try.ntmps63
        go_wp2_with (first
          | (go_at_call 23; refine (in_spoilt _ _ _ _ _ HI.out).mono ?_; rintro e w' ⟨rfl, rfl⟩))
        go_still_tail 9, (by kernel_rfl)
        go_wp2_with fail
        go_ret
        exact ⟨rfl, ⟨⟨.slice none 0 0, blk_put hb 0 _ rfl, .inl ⟨rfl, rfl⟩⟩, hg, HO.out⟩, (HB.out.setCell (p := ⟨g, 0, none⟩) hg _).drew, (KeepBut.refl _ g none).set_ 0 _⟩
      · have h1 : ¬ (b.size : Int) < (n : Int) := by omega
        have h2 : (n : Int) ≤ (b.size : Int) := by omega
        have h3 : (n : Int) ≤ (cap : Int) := by omega
        have hcv : ∀ v, (convert 40 9 (.slice (some ⟨k, off, none⟩) n n)).run Try.prog (w.setCell ⟨g, 0, none⟩ v).drew = .ok (.string (b.extract 0 n)) (w.setCell ⟨g, 0, none⟩ v).drew := fun v => by
          have h := Lib.run_convert_window (P := Try.prog) (w.setCell ⟨g, 0, none⟩ v).drew 40 5 9 Try.underlying40 Try.underlying5 Try.underlying9 k off b (seen_far hk hg hby hB v 1) 0 n n (by omega)
          rw [Nat.add_zero, Nat.zero_add] at h
          exact h
        have HS := Aside0.mk (⟨hk, hby, hcap⟩ : k < w0.heap.size ∧ Lib.Bytes w0 k off b ∧ b.size ≤ cap)
        have HO : Aside0 (OkIn (b.extract n b.size) false) := Aside0.mk (by have h := (takeS_ok n hok).1; unfold takeS at h; rw [if_neg (fun h => h.elim (fun h => by cases h) hlt)] at h; exact h)
        have hes : (b.extract n b.size).size = b.size - n := by rw [ByteArray.size_extract]; omega
        have HE := Aside0.mk hes
        clear hlt hok hB hk hby hes hcap
        go_enter Try.func63, Try.ntmps63
        go_wp2_with (first
          | (go_at_call 23; refine (in_spoilt _ _ _ _ _ HI.out).mono ?_; rintro e w' ⟨rfl, rfl⟩))
        go_still_tail 9, (by kernel_rfl)
        go_wp2_with fail
        · go_ret
          have hc : cap = n := by assumption
          have hbn : b.size = n := by have := HS.out.2.2; omega
          refine ⟨rfl, ⟨⟨_, blk_put hb 0 _ rfl, .inr ⟨k, off, 0, ?_, ?_, HS.out.1, ?_⟩⟩, hg, HO.out⟩, (HB.out.setCell (p := ⟨g, 0, none⟩) hg _).drew, (KeepBut.refl _ g none).set_ 0 _⟩
          · rw [HE.out, hbn, Nat.sub_self]
          · rw [HE.out]; omega
          · intro i hi
            have := HE.out
            omega
        · go_ret
          refine ⟨rfl, ⟨⟨_, blk_put hb 0 _ rfl, .inr ⟨k, off + n, cap - n, ?_, ?_, HS.out.1, bytes_sub HS.out.2.1⟩⟩, hg, HO.out⟩, (HB.out.setCell (p := ⟨g, 0, none⟩) hg _).drew, (KeepBut.refl _ g none).set_ 0 _⟩
          · rw [HE.out]
          · have := HE.out; have := HS.out.2.2; omega
/-- What takes, made and called at once. -/
theorem in_takes (n g : Nat) (b : ByteArray) (sp : Bool) (w0 w : World) (hn : n < 18446744073709551616) (hI : IsS84 w0 w g b sp) (hB : Below w0.heap.size w0 w) :
    Calls Try.prog 63 #[.int .u64 n, .pointer (some ⟨w.heap.size, 0, none⟩)] (w.alloc (.cells #[.pointer (some ⟨g, 0, none⟩)] 54)) fun e w' => e = .returned (.string (takeS b sp n).1) ∧ IsS84 w0 w' g (takeS b sp n).2.1 (takeS b sp n).2.2 ∧ Below w0.heap.size w0 w' ∧ KeepBut w w' g none := by
  refine (in_take n w.heap.size g b sp w0 _ hn (blk_new _ _) (hI.alloc _) (hB.alloc hB.size _)).mono ?_
  rintro e w' ⟨h1, h2, h3, h4⟩
  exact ⟨h1, h2, h3, (KeepBut.of_below ((Below.refl w.heap.size w).alloc (Nat.le_refl _) _) g none).trans h4 (.inl rfl)⟩
theorem nonempty_s {s : ByteArray} (h : ¬ s.size = 0) : s.toList.isEmpty = false := by
  rw [Lib.toList_data]
  cases e : s.data.toList with
  | nil => rw [size_list, e] at h; exact absurd rfl h
  | cons c l => rfl
theorem in_byte (g : Nat) (b : ByteArray) (sp : Bool) (w0 w : World) (hI : IsS84 w0 w g b sp) (hB : Below w0.heap.size w0 w) :
    Calls Try.prog 28 #[.pointer (some ⟨g, 0, none⟩)] w fun e w' => e = .returned (.int .u8 ((byteS b sp).1 : Nat)) ∧ IsS84 w0 w' g (byteS b sp).2.1 (byteS b sp).2.2 ∧ Below w0.heap.size w0 w' ∧ KeepBut w w' g none := by
  have HT := Aside0.mk (in_takes 1 g b sp w0 w (by omega) hI hB)
  clear hI hB
  unfold byteS
  generalize takeS b sp 1 = t at *
  obtain ⟨s, b2, sp2⟩ := t
  simp only at *
  have hB0 := bt_zero s
  by_cases h0 : s.size = 0
  · obtain rfl : s = noB := ba_ext (List.eq_nil_of_length_eq_zero (l := s.data.toList) (by rw [← size_list]; exact h0))
    clear hB0 h0
    go_enter Try.func28, Try.ntmps28
    go_wp2_with (go_at_call 53; refine (taker_calls _ _).mono ?_; rintro e w' ⟨rfl, rfl⟩)
    refine HT.out.mono ?_
    rintro e w1 ⟨rfl, h2, h3, h4⟩
    go_wp2_with fail
    go_ret
    exact ⟨rfl, h2, h3, h4⟩
  · have hne := nonempty_s h0
    have h1 : 0 < (s.size : Int) := by omega
    have hx := bt_at s 0
    rw [hB0] at hx
    clear hB0 h0
    go_enter Try.func28, Try.ntmps28
    go_wp2_with (go_at_call 53; refine (taker_calls _ _).mono ?_; rintro e w' ⟨rfl, rfl⟩)
    refine HT.out.mono ?_
    rintro e w1 ⟨rfl, h2, h3, h4⟩
    go_wp2_with fail
    go_ret
    exact ⟨congrArg (fun x : Int => Ending.returned (Value.int .u8 x)) (hx (by show 0 < s.size; omega)), h2, h3, h4⟩
theorem rep0 (n : Nat) : Lib.repeatL (⟨#[0]⟩ : ByteArray).data.toList n = List.replicate n 0 := by
  induction n with
  | zero => rfl
  | succ n ih => rw [List.replicate_succ, Lib.repeatL, ih]; rfl
theorem pad_list (s : ByteArray) (n : Nat) : (⟨(Lib.repeatL (⟨#[0]⟩ : ByteArray).data.toList n).toArray⟩ : ByteArray) ++ s = ⟨(List.replicate n 0 ++ s.data.toList).toArray⟩ := by
  apply ba_ext
  rw [ByteArray.data_append, Array.toList_append, rep0]
theorem in_fin {w0 w W : World} {g C : Nat} {b : ByteArray} {sp : Bool} {x y x' y' : Value} (hC : W.heap[C]? = some (.cells #[x, y] 29 (0, 0))) (hw : w.heap.size ≤ C) (hg : g < w.heap.size) (hI : IsS84 w0 W g b sp) (hB : Below w0.heap.size w0 W) (hK : KeepBut w W g none) :
    ((W.setCell ⟨C, 0, none⟩ x').setCell ⟨C, 1, none⟩ y').heap[C]? = some (.cells #[x', y'] 29 (0, 0)) ∧ IsS84 w0 ((W.setCell ⟨C, 0, none⟩ x').setCell ⟨C, 1, none⟩ y') g b sp ∧ Below w0.heap.size w0 ((W.setCell ⟨C, 0, none⟩ x').setCell ⟨C, 1, none⟩ y') ∧ KeepBut w ((W.setCell ⟨C, 0, none⟩ x').setCell ⟨C, 1, none⟩ y') g none := by
  have hge := hI.ge
  have hne : g ≠ C := by omega
  refine ⟨blk_put (blk_put hC 0 _ rfl) 1 _ rfl, (hI.far (p := ⟨C, 0, none⟩) hne _).far (p := ⟨C, 1, none⟩) hne _, (hB.setCell (p := ⟨C, 0, none⟩) (by show w0.heap.size ≤ C; omega) _).setCell (p := ⟨C, 1, none⟩) (by show w0.heap.size ≤ C; omega) _, ?_⟩
  exact keep_far (keep_far hK (p := ⟨C, 0, none⟩) hw _) (p := ⟨C, 1, none⟩) hw _
theorem in_number (most g : Nat) (hm : most ≤ 16) (b : ByteArray) (sp : Bool) (w0 w : World) (hI : IsS84 w0 w g b sp) (hB : Below w0.heap.size w0 w) :
    Calls Try.prog 54 #[.pointer (some ⟨g, 0, none⟩), .int .u8 most] w fun e w' => e = .returned (.agg #[.int .u64 ((numS most b sp).1 : Nat), .int .u64 ((numS most b sp).2.1 : Nat)]) ∧ IsS84 w0 w' g (numS most b sp).2.2.1 (numS most b sp).2.2.2 ∧ Below w0.heap.size w0 w' ∧ KeepBut w w' g none := by
  have hg := hI.lt
  have HZ := Aside0.mk hg
  have gC := blk_new w (.cells #[.int .u64 0, .int .u64 0] 29)
  have HBy := Aside0.mk (in_byte g b sp w0 (w.alloc (.cells #[.int .u64 0, .int .u64 0] 29)) (hI.alloc _) (hB.alloc hB.size _))
  have HK0 := Aside0.mk (keep_alloc (KeepBut.refl w g none) (.cells #[.int .u64 0, .int .u64 0] 29))
  have HC0 := Aside0.mk gC
  have hlt := byteS_lt b sp
  have HN : Aside0 (numS most b sp = numS most b sp) := Aside0.mk rfl
  unfold numS at HN ⊢
  generalize byteS b sp = x at *
  obtain ⟨n, b1, sp1⟩ := x
  simp only at *
  clear hI hB gC hg
  by_cases hc : most < n
  · have h1 : (most : Int) < (n : Int) := by omega
    rw [if_pos hc]
    clear HN hc
    go_enter Try.func54, Try.ntmps54
    go_wp2_with fail
    refine HBy.out.mono ?_
    rintro e w1 ⟨rfl, i1, b1', k1⟩
    have HS := Aside0.mk (in_spoil g b1 sp1 w0 w1 i1 b1')
    have HC1 := Aside0.mk (k1.blk HC0.out (by have := HZ.out; omega) (by simp))
    have HK1 := Aside0.mk (HK0.out.trans k1 (.inl rfl))
    clear i1 b1' k1
    go_wp2_with fail
    refine HS.out.mono ?_
    rintro e w2 ⟨rfl, i2, b2', k2⟩
    have HT := Aside0.mk (in_takes n g noB true w0 w2 (by omega) i2 b2')
    have HC2 := Aside0.mk (k2.blk HC1.out (by have := HZ.out; omega) (by simp))
    have HK2 := Aside0.mk (HK1.out.trans k2 (.inl rfl))
    clear i2 b2' k2
    rw [show takeS noB true n = (noB, noB, true) from if_pos (.inl rfl)] at HT
    go_wp2_with (go_at_call 53; refine (taker_calls _ _).mono ?_; rintro e w' ⟨rfl, rfl⟩)
    refine HT.out.mono ?_
    rintro e w3 ⟨rfl, i3, b3, k3⟩
    have h3 := k3.blk HC2.out (by have := HZ.out; omega) (by simp)
    have HF := Aside0.mk (in_fin (x' := .int .u64 0) (y' := .int .u64 0) h3 (Nat.le_refl _) HZ.out i3 b3 (HK2.out.trans k3 (.inl rfl)))
    have c0 := blk_cell h3 0
    have c1 := blk_cell h3 1
    have f0 := blk_frozen h3 0
    have f1 := blk_frozen h3 1
    clear h3 i3 b3 k3
    go_wp2_with fail
    refine bodyPost_ret (results_cell_row rfl _ _ w.heap.size 29 #[.int .u64 0, .int .u64 0] (0, 0) _ rfl ?_ Try.underlying29 rfl (by kernel_rfl)) rfl ⟨rfl, HF.out.2⟩
    exact HF.out.1
  · have h1 : ¬ (most : Int) < (n : Int) := by omega
    rw [if_neg hc]
    clear HN
    have hn256 : n < 256 := hlt
    have tl := takeS_lt (b := b1) (sp := sp1) n
    have tsz := takeS_size (b := b1) (sp := sp1) n
    have tsp := takeS_sp (b := b1) (sp := sp1) (n := n)
    have HT0 := Aside0.mk (fun w2 i2 b2 => in_takes n g b1 sp1 w0 w2 (by omega) i2 b2)
    generalize takeS b1 sp1 n = t at *
    obtain ⟨s, b2, sp2⟩ := t
    simp only at *
    have hB0 := bt_zero s
    by_cases h0 : s.size = 0
    · obtain rfl : s = noB := ba_ext (List.eq_nil_of_length_eq_zero (l := s.data.toList) (by rw [← size_list]; exact h0))
      have HE : Aside0 ((if sp2 = true ∨ (¬ noB.size = 0 ∧ b0 noB = 0) then ((0 : Nat), (0 : Nat), noB, true) else (valN noB.data.toList / 18446744073709551616, valN noB.data.toList % 18446744073709551616, b2, sp2)) = (0, 0, b2, sp2)) := Aside0.mk (by
        cases sp2 with
        | true =>
          have := tsp rfl
          injection this with _ h
          injection h with h _
          rw [h]; rfl
        | false => rfl)
      rw [HE.out]
      clear HE hB0 tsz tsp tl h0 hlt hc
      go_enter Try.func54, Try.ntmps54
      go_wp2_with fail
      refine HBy.out.mono ?_
      rintro e w1 ⟨rfl, i1, b1', k1⟩
      have HT := Aside0.mk (HT0.out w1 i1 b1')
      have HC1 := Aside0.mk (k1.blk HC0.out (by have := HZ.out; omega) (by simp))
      have HK1 := Aside0.mk (HK0.out.trans k1 (.inl rfl))
      clear i1 b1' k1
      go_wp2_with (go_at_call 53; refine (taker_calls _ _).mono ?_; rintro e w' ⟨rfl, rfl⟩)
      refine HT.out.mono ?_
      rintro e w3 ⟨rfl, i3, b3, k3⟩
      have h3 := k3.blk HC1.out (by have := HZ.out; omega) (by simp)
      have HF := Aside0.mk (in_fin (x' := .int .u64 0) (y' := .int .u64 0) h3 (Nat.le_refl _) HZ.out i3 b3 (HK1.out.trans k3 (.inl rfl)))
      have c0 := blk_cell h3 0
      have c1 := blk_cell h3 1
      have f0 := blk_frozen h3 0
      have f1 := blk_frozen h3 1
      clear h3 i3 b3 k3
      go_wp2_with fail
      refine bodyPost_ret (results_cell_row rfl _ _ w.heap.size 29 #[.int .u64 0, .int .u64 0] (0, 0) _ rfl ?_ Try.underlying29 rfl (by kernel_rfl)) rfl ⟨rfl, HF.out.2⟩
      exact HF.out.1
    · have hne := nonempty_s h0
      have hp : 0 < (s.size : Int) := by omega
      have hx := bt_at s 0
      rw [hB0] at hx
      obtain rfl : sp2 = false := by
        cases sp2 with
        | false => rfl
        | true =>
          have := tsp rfl
          injection this with h _
          rw [h] at h0; exact absurd rfl h0
      have hs16 : s.size ≤ 16 := by omega
      have hx0 : ((s[0]'(by omega)).toNat : Int) = (b0 s : Int) := hx (by show 0 < s.size; omega)
      by_cases hz : b0 s = 0
      · have hq : (s[0]'(by omega)).toNat = 0 := by omega
        have hq2 : (((s[0]'(by omega)).toNat : Int) == 0) = true := by rw [hx0, hz]; rfl
        rw [if_pos (.inr ⟨h0, hz⟩)]
        clear hB0 tsz tsp tl h0 hlt hc hx hx0 hz hq
        go_enter Try.func54, Try.ntmps54
        go_wp2_with fail
        refine HBy.out.mono ?_
        rintro e w1 ⟨rfl, i1, b1', k1⟩
        have HT := Aside0.mk (HT0.out w1 i1 b1')
        have HC1 := Aside0.mk (k1.blk HC0.out (by have := HZ.out; omega) (by simp))
        have HK1 := Aside0.mk (HK0.out.trans k1 (.inl rfl))
        clear i1 b1' k1
        go_wp2_with (go_at_call 53; refine (taker_calls _ _).mono ?_; rintro e w' ⟨rfl, rfl⟩)
        refine HT.out.mono ?_
        rintro e w2 ⟨rfl, i2, b2', k2⟩
        have HS := Aside0.mk (in_spoil g b2 false w0 w2 i2 b2')
        have HC2 := Aside0.mk (k2.blk HC1.out (by have := HZ.out; omega) (by simp))
        have HK2 := Aside0.mk (HK1.out.trans k2 (.inl rfl))
        clear i2 b2' k2
        go_wp2_with fail
        refine HS.out.mono ?_
        rintro e w3 ⟨rfl, i3, b3, k3⟩
        have h3 := k3.blk HC2.out (by have := HZ.out; omega) (by simp)
        have HF := Aside0.mk (in_fin (x' := .int .u64 0) (y' := .int .u64 0) h3 (Nat.le_refl _) HZ.out i3 b3 (HK2.out.trans k3 (.inl rfl)))
        have c0 := blk_cell h3 0
        have c1 := blk_cell h3 1
        have f0 := blk_frozen h3 0
        have f1 := blk_frozen h3 1
        clear h3 i3 b3 k3
        go_wp2_with fail
        refine bodyPost_ret (results_cell_row rfl _ _ w.heap.size 29 #[.int .u64 0, .int .u64 0] (0, 0) _ rfl ?_ Try.underlying29 rfl (by kernel_rfl)) rfl ⟨rfl, HF.out.2⟩
        exact HF.out.1
      · have hq2 : (((s[0]'(by omega)).toNat : Int) == 0) = false := by
          rw [hx0]
          have : ¬ (b0 s : Int) = 0 := by omega
          simpa using this
        rw [if_neg (show ¬ (false = true ∨ (¬ s.size = 0 ∧ b0 s = 0)) from fun h => h.elim (fun h => by cases h) (fun h => hz h.2))]
        have HR := Aside0.mk (fun w2 => Try.strings_Repeat ⟨#[0]⟩ (16 - s.size) w2 (by omega) (by show 1 * (16 - s.size) ≤ _; omega))
        have hw : wrap64 (16 - (s.size : Int)) = ((16 - s.size : Nat) : Int) := by unfold wrap64; omega
        have hw2 : (16 : Int) - (s.size : Int) = ((16 - s.size : Nat) : Int) := by omega
        have HW2 := Aside0.mk hw2
        have HFm : Aside0 (∀ w2, Calls Try.prog 64 #[.string (⟨(Lib.repeatL (⟨#[0]⟩ : ByteArray).data.toList (16 - s.size)).toArray⟩ ++ s)] w2 fun e w' => e = .returned (.tuple #[.agg #[.int .u64 ((valN s.data.toList / 18446744073709551616 : Nat) : Int), .int .u64 ((valN s.data.toList % 18446744073709551616 : Nat) : Int)], .int .i64 0]) ∧ Below w2.heap.size w2 w') := Aside0.mk (fun w2 => by
          rw [pad_list s]
          refine POr.u128_From.calls 40 _ _ _ _ w2 ?_
          rw [uFrom 40 _ (by rw [List.length_append, List.length_replicate, ← size_list]; omega) (by omega), valN_zeros])
        have hlen : (⟨(Lib.repeatL (⟨#[0]⟩ : ByteArray).data.toList (16 - s.size)).toArray⟩ : ByteArray).size + s.size ≤ 16 := by
          rw [rep0]; show (List.replicate (16 - s.size) 0).toArray.size + s.size ≤ 16
          simp; omega
        clear hB0 tsz tsp tl h0 hlt hc hx hx0 hz hw2 hw
        generalize valN s.data.toList / 18446744073709551616 = X at *
        generalize valN s.data.toList % 18446744073709551616 = Y at *
        go_enter Try.func54, Try.ntmps54
        go_wp2_with fail
        refine HBy.out.mono ?_
        rintro e w1 ⟨rfl, i1, b1', k1⟩
        have HT := Aside0.mk (HT0.out w1 i1 b1')
        have HC1 := Aside0.mk (k1.blk HC0.out (by have := HZ.out; omega) (by simp))
        have HK1 := Aside0.mk (HK0.out.trans k1 (.inl rfl))
        clear i1 b1' k1
        go_wp2_with (go_at_call 53; refine (taker_calls _ _).mono ?_; rintro e w' ⟨rfl, rfl⟩)
        refine HT.out.mono ?_
        rintro e w2 ⟨rfl, i2, b2', k2⟩
        have HC2 := Aside0.mk (k2.blk HC1.out (by have := HZ.out; omega) (by simp))
        have HK2 := Aside0.mk (HK1.out.trans k2 (.inl rfl))
        have HI2 := Aside0.mk i2
        have HB2 := Aside0.mk b2'
        clear i2 b2' k2
        go_wp2_with fail
        rw [HW2.out]
        refine (HR.out _).mono ?_
        rintro e w3 ⟨rfl, hb3⟩
        have HC3 := Aside0.mk (blk_below HC2.out hb3)
        have HK3 := Aside0.mk (HK2.out.trans (KeepBut.of_below hb3 g none) (.inl rfl))
        have HI3 := Aside0.mk (HI2.out.below hb3)
        have HB3 := Aside0.mk (HB2.out.trans (hb3.mono HB2.out.size))
        clear hb3
        go_wp2_with fail
        refine (HFm.out _).mono ?_
        rintro e w4 ⟨rfl, hb4⟩
        have HC4 := blk_alloc (blk_below HC3.out hb4) (.cells #[.int .u64 X, .int .u64 Y] 29)
        have HK4 := keep_alloc (HK3.out.trans (KeepBut.of_below hb4 g none) (.inl rfl)) (.cells #[.int .u64 X, .int .u64 Y] 29)
        have HI4 := (HI3.out.below hb4).alloc (.cells #[.int .u64 X, .int .u64 Y] 29)
        have HB4 := HB3.out.trans (hb4.mono HB3.out.size)
        have HF := Aside0.mk (in_fin (x' := .int .u64 X) (y' := .int .u64 Y) HC4 (Nat.le_refl _) HZ.out HI4 (HB4.alloc HB4.size _) HK4)
        have c0 := blk_cell HC4 0
        have c1 := blk_cell HC4 1
        have f0 := blk_frozen HC4 0
        have f1 := blk_frozen HC4 1
        clear hb4 HC4 HK4 HI4 HB4
        go_wp2_with fail
        refine bodyPost_ret (results_cell_row rfl _ _ w.heap.size 29 #[.int .u64 X, .int .u64 Y] (0, 0) _ rfl ?_ Try.underlying29 rfl (by kernel_rfl)) rfl ⟨rfl, HF.out.2⟩
        exact HF.out.1
theorem in_wide (g : Nat) (b : ByteArray) (sp : Bool) (w0 w : World) (hI : IsS84 w0 w g b sp) (hB : Below w0.heap.size w0 w) :
    Calls Try.prog 30 #[.pointer (some ⟨g, 0, none⟩)] w fun e w' => e = .returned (.agg #[.int .u64 ((numS 16 b sp).1 : Nat), .int .u64 ((numS 16 b sp).2.1 : Nat)]) ∧ IsS84 w0 w' g (numS 16 b sp).2.2.1 (numS 16 b sp).2.2.2 ∧ Below w0.heap.size w0 w' ∧ KeepBut w w' g none := by
  have hg := hI.lt
  have gC := Aside0.mk (blk_new w (.cells #[.int .u64 0, .int .u64 0] 29))
  have HZ := Aside0.mk hg
  have HN := Aside0.mk (in_number 16 g (by omega) b sp w0 (w.alloc (.cells #[.int .u64 0, .int .u64 0] 29)) (hI.alloc _) (hB.alloc hB.size _))
  have HK0 := Aside0.mk (keep_alloc (KeepBut.refl w g none) (.cells #[.int .u64 0, .int .u64 0] 29))
  clear hg hI hB
  generalize numS 16 b sp = x at *
  obtain ⟨X, Y, b2, sp2⟩ := x
  simp only at *
  go_enter Try.func30, Try.ntmps30
  go_wp2_with fail
  refine HN.out.mono ?_
  rintro e w3 ⟨rfl, i3, b3, k3⟩
  have h3 := k3.blk gC.out (by have := HZ.out; omega) (by simp)
  have HF := Aside0.mk (in_fin (x' := .int .u64 X) (y' := .int .u64 Y) h3 (Nat.le_refl _) HZ.out i3 b3 (HK0.out.trans k3 (.inl rfl)))
  have c0 := blk_cell h3 0
  have c1 := blk_cell h3 1
  have f0 := blk_frozen h3 0
  have f1 := blk_frozen h3 1
  clear h3 i3 b3 k3
  go_wp2_with fail
  refine bodyPost_ret (results_cell_row rfl _ _ w.heap.size 29 #[.int .u64 X, .int .u64 Y] (0, 0) _ rfl ?_ Try.underlying29 rfl (by kernel_rfl)) rfl ⟨rfl, HF.out.2⟩
  exact HF.out.1
theorem in_num (g : Nat) (b : ByteArray) (sp : Bool) (w0 w : World) (hI : IsS84 w0 w g b sp) (hB : Below w0.heap.size w0 w) :
    Calls Try.prog 29 #[.pointer (some ⟨g, 0, none⟩)] w fun e w' => e = .returned (.int .u64 ((numS 8 b sp).2.1 : Nat)) ∧ IsS84 w0 w' g (numS 8 b sp).2.2.1 (numS 8 b sp).2.2.2 ∧ Below w0.heap.size w0 w' ∧ KeepBut w w' g none := by
  have HN := Aside0.mk (in_number 8 g (by omega) b sp w0 w hI hB)
  clear hI hB
  generalize numS 8 b sp = x at *
  obtain ⟨X, Y, b2, sp2⟩ := x
  simp only at *
  have HF := field_lo X Y
  go_enter Try.func29, Try.ntmps29
  go_wp2_with fail
  refine HN.out.mono ?_
  rintro e w3 ⟨rfl, i3, b3, k3⟩
  have H3 := Aside0.mk (⟨i3, b3, k3⟩ : IsS84 w0 w3 g b2 sp2 ∧ Below w0.heap.size w0 w3 ∧ KeepBut w w3 g none)
  clear i3 b3 k3
  go_wp2_with fail
  go_ret
  exact ⟨rfl, H3.out⟩
theorem in_flag (g : Nat) (b : ByteArray) (sp : Bool) (w0 w : World) (hI : IsS84 w0 w g b sp) (hB : Below w0.heap.size w0 w) :
    Calls Try.prog 31 #[.pointer (some ⟨g, 0, none⟩)] w fun e w' => e = .returned (.bool (flagS b sp).1) ∧ IsS84 w0 w' g (flagS b sp).2.1 (flagS b sp).2.2 ∧ Below w0.heap.size w0 w' ∧ KeepBut w w' g none := by
  have HN := Aside0.mk (in_byte g b sp w0 w hI hB)
  clear hI hB
  unfold flagS
  generalize byteS b sp = x at *
  obtain ⟨n, b2, sp2⟩ := x
  simp only at *
  by_cases hc : 1 < n
  · have h1 : (1 : Int) < (n : Int) := by omega
    have h2 : ((n : Int) == 1) = false := by
      have : ¬ (n : Int) = 1 := by omega
      simpa using this
    rw [if_pos hc]
    clear hc
    go_enter Try.func31, Try.ntmps31
    go_wp2_with fail
    refine HN.out.mono ?_
    rintro e w1 ⟨rfl, i1, b1, k1⟩
    have HS := Aside0.mk (in_spoil g b2 sp2 w0 w1 i1 b1)
    have HK := Aside0.mk k1
    clear i1 b1 k1
    go_wp2_with fail
    refine HS.out.mono ?_
    rintro e w2 ⟨rfl, i2, b3, k2⟩
    have H3 := Aside0.mk (⟨i2, b3, HK.out.trans k2 (.inl rfl)⟩ : IsS84 w0 w2 g noB true ∧ Below w0.heap.size w0 w2 ∧ KeepBut w w2 g none)
    clear i2 b3 k2
    go_wp2_with fail
    go_ret
    exact ⟨rfl, H3.out⟩
  · have h1 : ¬ (1 : Int) < (n : Int) := by omega
    rw [if_neg hc]
    have e1 : ((n : Int) == 1) = (n == 1) := by rw [Bool.eq_iff_iff]; simp; omega
    have E1 := Aside0.mk e1
    clear hc e1
    go_enter Try.func31, Try.ntmps31
    go_wp2_with fail
    refine HN.out.mono ?_
    rintro e w1 ⟨rfl, i1, b1, k1⟩
    have H3 := Aside0.mk (⟨i1, b1, k1⟩ : IsS84 w0 w1 g b2 sp2 ∧ Below w0.heap.size w0 w1 ∧ KeepBut w w1 g none)
    clear i1 b1 k1
    go_wp2_with fail
    go_ret
    exact ⟨congrArg (fun x : Bool => Ending.returned (Value.bool x)) E1.out, H3.out⟩
theorem in_text (g : Nat) (most : Int) (hm : -9223372036854775808 ≤ most ∧ most ≤ 9223372036854775807) (b : ByteArray) (sp : Bool) (w0 w : World) (hI : IsS84 w0 w g b sp) (hB : Below w0.heap.size w0 w) :
    Calls Try.prog 32 #[.pointer (some ⟨g, 0, none⟩), .int .i64 most] w fun e w' => e = .returned (.string (textS most b sp).1) ∧ IsS84 w0 w' g (textS most b sp).2.1 (textS most b sp).2.2 ∧ Below w0.heap.size w0 w' ∧ KeepBut w w' g none := by
  have HN := Aside0.mk (in_num g b sp w0 w hI hB)
  have hlt := numS_lt 8 b sp
  clear hI hB
  unfold textS
  generalize numS 8 b sp = x at *
  obtain ⟨hi, n, b2, sp2⟩ := x
  simp only at *
  by_cases hneg : most < 0
  · by_cases hc : 0 < n
    · rw [if_pos (show max most 0 < (n : Int) by omega)]
      have h1 : (0 : Int) < (n : Int) := by omega
      clear hc
      go_enter Try.func32, Try.ntmps32
      go_wp2_with fail
      refine HN.out.mono ?_
      rintro e w1 ⟨rfl, i1, b1, k1⟩
      have HS := Aside0.mk (in_spoil g b2 sp2 w0 w1 i1 b1)
      have HK := Aside0.mk k1
      clear i1 b1 k1
      go_wp2_with fail
      refine HS.out.mono ?_
      rintro e w2 ⟨rfl, i2, b3, k2⟩
      have HT := Aside0.mk (in_takes n g noB true w0 w2 (by omega) i2 b3)
      have HK2 := Aside0.mk (HK.out.trans k2 (.inl rfl))
      rw [show takeS noB true n = (noB, noB, true) from if_pos (.inl rfl)] at HT
      clear i2 b3 k2
      go_wp2_with (go_at_call 53; refine (taker_calls _ _).mono ?_; rintro e w' ⟨rfl, rfl⟩)
      refine HT.out.mono ?_
      rintro e w3 ⟨rfl, i3, b4, k3⟩
      have HF := Aside0.mk (⟨i3, b4, HK2.out.trans k3 (.inl rfl)⟩ : IsS84 w0 w3 g noB true ∧ Below w0.heap.size w0 w3 ∧ KeepBut w w3 g none)
      clear i3 b4 k3
      go_wp2_with fail
      go_ret
      exact ⟨rfl, HF.out⟩
    · rw [if_neg (show ¬ max most 0 < (n : Int) by omega)]
      have h1 : ¬ (0 : Int) < (n : Int) := by omega
      clear hc
      go_enter Try.func32, Try.ntmps32
      go_wp2_with fail
      refine HN.out.mono ?_
      rintro e w1 ⟨rfl, i1, b1, k1⟩
      have HT := Aside0.mk (in_takes n g b2 sp2 w0 w1 (by omega) i1 b1)
      have HK := Aside0.mk k1
      clear i1 b1 k1
      go_wp2_with (go_at_call 53; refine (taker_calls _ _).mono ?_; rintro e w' ⟨rfl, rfl⟩)
      refine HT.out.mono ?_
      rintro e w3 ⟨rfl, i3, b4, k3⟩
      have HF := Aside0.mk (⟨i3, b4, HK.out.trans k3 (.inl rfl)⟩ : IsS84 w0 w3 g (takeS b2 sp2 n).2.1 (takeS b2 sp2 n).2.2 ∧ Below w0.heap.size w0 w3 ∧ KeepBut w w3 g none)
      clear i3 b4 k3
      go_wp2_with fail
      go_ret
      exact ⟨rfl, HF.out⟩
  · by_cases hc : most < (n : Int)
    · rw [if_pos (show max most 0 < (n : Int) by omega)]
      have h0 : 0 ≤ most := by omega
      clear hneg
      go_enter Try.func32, Try.ntmps32
      go_wp2_with fail
      refine HN.out.mono ?_
      rintro e w1 ⟨rfl, i1, b1, k1⟩
      have HS := Aside0.mk (in_spoil g b2 sp2 w0 w1 i1 b1)
      have HK := Aside0.mk k1
      clear i1 b1 k1
      go_wp2_with fail
      refine HS.out.mono ?_
      rintro e w2 ⟨rfl, i2, b3, k2⟩
      have HT := Aside0.mk (in_takes n g noB true w0 w2 (by omega) i2 b3)
      have HK2 := Aside0.mk (HK.out.trans k2 (.inl rfl))
      rw [show takeS noB true n = (noB, noB, true) from if_pos (.inl rfl)] at HT
      clear i2 b3 k2
      go_wp2_with (go_at_call 53; refine (taker_calls _ _).mono ?_; rintro e w' ⟨rfl, rfl⟩)
      refine HT.out.mono ?_
      rintro e w3 ⟨rfl, i3, b4, k3⟩
      have HF := Aside0.mk (⟨i3, b4, HK2.out.trans k3 (.inl rfl)⟩ : IsS84 w0 w3 g noB true ∧ Below w0.heap.size w0 w3 ∧ KeepBut w w3 g none)
      clear i3 b4 k3
      go_wp2_with fail
      go_ret
      exact ⟨rfl, HF.out⟩
    · rw [if_neg (show ¬ max most 0 < (n : Int) by omega)]
      have h0 : 0 ≤ most := by omega
      clear hneg
      go_enter Try.func32, Try.ntmps32
      go_wp2_with fail
      refine HN.out.mono ?_
      rintro e w1 ⟨rfl, i1, b1, k1⟩
      have HT := Aside0.mk (in_takes n g b2 sp2 w0 w1 (by omega) i1 b1)
      have HK := Aside0.mk k1
      clear i1 b1 k1
      go_wp2_with (go_at_call 53; refine (taker_calls _ _).mono ?_; rintro e w' ⟨rfl, rfl⟩)
      refine HT.out.mono ?_
      rintro e w3 ⟨rfl, i3, b4, k3⟩
      have HF := Aside0.mk (⟨i3, b4, HK.out.trans k3 (.inl rfl)⟩ : IsS84 w0 w3 g (takeS b2 sp2 n).2.1 (takeS b2 sp2 n).2.2 ∧ Below w0.heap.size w0 w3 ∧ KeepBut w w3 g none)
      clear i3 b4 k3
      go_wp2_with fail
      go_ret
      exact ⟨rfl, HF.out⟩
/-- Open: the reader's array, then the reader. -/
theorem in_open (s : ByteArray) (hs : s.size ≤ 140737488351232) (w : World) :
    Calls Try.prog 21 #[.string s] w fun e w' => ∃ w0 g, w.heap.size ≤ w0.heap.size ∧ e = .returned (.pointer (some ⟨g, 0, none⟩)) ∧ IsS84 w0 w' g s false ∧ Below w.heap.size w w0 ∧ Below w0.heap.size w0 w' := by
  have hcv := fun w => run_bytes_of_string (P := Try.prog) w 9 40 5 s Try.underlying9 Try.underlying40 Try.underlying5
  go_enter Try.func21, Try.ntmps21
  go_wp2_with fail
  go_ret
  have hsz : (w.alloc (.cells (bytesRow s (grownCap w s.size 0 5)) 5 ((bytesRow s (grownCap w s.size 0 5)).size, (bytesRow s (grownCap w s.size 0 5)).size + 1))).heap.size = w.heap.size + 1 := alloc_size _ _
  refine ⟨w.alloc (.cells (bytesRow s (grownCap w s.size 0 5)) 5 ((bytesRow s (grownCap w s.size 0 5)).size, (bytesRow s (grownCap w s.size 0 5)).size + 1)), w.heap.size + 1, by rw [hsz]; omega, rfl, ⟨⟨.slice (some ⟨w.heap.size, 0, none⟩) s.size (grownCap w s.size 0 5), ?_, .inr ⟨w.heap.size, 0, _, rfl, grownCap_ge _ _ _ _, ?_, ?_⟩⟩, ?_, hs, fun h => by cases h⟩, ?_, ?_⟩
  · have h := blk_new (w.alloc (.cells (bytesRow s (grownCap w s.size 0 5)) 5 ((bytesRow s (grownCap w s.size 0 5)).size, (bytesRow s (grownCap w s.size 0 5)).size + 1))) (.cells #[.slice (some ⟨w.heap.size, 0, none⟩) s.size (grownCap w s.size 0 5), .bool false] 84)
    rw [hsz] at h
    exact h
  · rw [hsz]; omega
  · intro i hi
    rw [cell_of_row _ w.heap.size (0 + i) _ _ _ (blk_new _ _), Nat.zero_add, bytesRow_at s _ i hi]
    rfl
  · rw [hsz]; omega
  · exact (Below.refl _ _).alloc (Nat.le_refl _) _
  · exact ((Below.refl _ _).alloc (Nat.le_refl _) _).drew
end Go.Proofs.Ytdjpcogkpnemlaa.Oct
end
section
/- The reader's methods in the print's own form: functions that are given to it. -/
namespace Go.Proofs.Ytdjpcogkpnemlaa.Oct
open Go Go.RowKit Go.Proofs.YtdjpcogkpnemlaaW.PrintWords
set_option linter.unusedVariables false
def octet_In_Spoilt.f (s0_0 : ByteArray) (s0_1 : Bool) : Option (Bool × ByteArray × Bool) := some (s0_1, s0_0, s0_1)
theorem octet_In_Spoilt.calls (g : Nat) (s0_0 : ByteArray) (s0_1 : Bool) (r1 : Bool) (r2 : ByteArray) (r3 : Bool) (w0 w : World) (hI : IsS84 w0 w g s0_0 s0_1) (hB : Below w0.heap.size w0 w) (h : octet_In_Spoilt.f s0_0 s0_1 = some (r1, r2, r3)) :
    Calls Try.prog 23 #[.pointer (some ⟨g, 0, none⟩)] w fun e w' => e = .returned (.bool r1) ∧ IsS84 w0 w' g r2 r3 ∧ Below w0.heap.size w0 w' ∧ KeepBut w w' g none := by
  cases h
  refine (in_spoilt g s0_0 s0_1 w0 w hI).mono ?_
  rintro e w' ⟨rfl, rfl⟩
  exact ⟨rfl, hI, hB, KeepBut.refl _ _ _⟩
def octet_In_Spoil.f (s0_0 : ByteArray) (s0_1 : Bool) : Option (ByteArray × Bool) := some (noB, true)
theorem octet_In_Spoil.calls (g : Nat) (s0_0 : ByteArray) (s0_1 : Bool) (r1 : ByteArray) (r2 : Bool) (w0 w : World) (hI : IsS84 w0 w g s0_0 s0_1) (hB : Below w0.heap.size w0 w) (h : octet_In_Spoil.f s0_0 s0_1 = some (r1, r2)) :
    Calls Try.prog 27 #[.pointer (some ⟨g, 0, none⟩)] w fun e w' => e = .returned (.tuple #[]) ∧ IsS84 w0 w' g r1 r2 ∧ Below w0.heap.size w0 w' ∧ KeepBut w w' g none := by
  cases h
  exact in_spoil g s0_0 s0_1 w0 w hI hB
def octet_In_Rest.f (s0_0 : ByteArray) (s0_1 : Bool) : Option (Int × ByteArray × Bool) := some ((s0_0.size : Int), s0_0, s0_1)
theorem octet_In_Rest.calls (g : Nat) (s0_0 : ByteArray) (s0_1 : Bool) (r1 : Int) (r2 : ByteArray) (r3 : Bool) (w0 w : World) (hI : IsS84 w0 w g s0_0 s0_1) (hB : Below w0.heap.size w0 w) (h : octet_In_Rest.f s0_0 s0_1 = some (r1, r2, r3)) :
    Calls Try.prog 24 #[.pointer (some ⟨g, 0, none⟩)] w fun e w' => e = .returned (.int .i64 r1) ∧ IsS84 w0 w' g r2 r3 ∧ Below w0.heap.size w0 w' ∧ KeepBut w w' g none := by
  cases h
  refine (in_rest g s0_0 s0_1 w0 w hI).mono ?_
  rintro e w' ⟨rfl, rfl⟩
  exact ⟨rfl, hI, hB, KeepBut.refl _ _ _⟩
def octet_In_Close.f (s0_0 : ByteArray) (s0_1 : Bool) : Option (Int × ByteArray × Bool) := some (closeS s0_0 s0_1, s0_0, s0_1)
theorem octet_In_Close.calls (g : Nat) (s0_0 : ByteArray) (s0_1 : Bool) (r1 : Int) (r2 : ByteArray) (r3 : Bool) (w0 w : World) (hI : IsS84 w0 w g s0_0 s0_1) (hB : Below w0.heap.size w0 w) (h : octet_In_Close.f s0_0 s0_1 = some (r1, r2, r3)) :
    Calls Try.prog 25 #[.pointer (some ⟨g, 0, none⟩)] w fun e w' => e = .returned (.int .i64 r1) ∧ IsS84 w0 w' g r2 r3 ∧ Below w0.heap.size w0 w' ∧ KeepBut w w' g none := by
  cases h
  refine (in_close g s0_0 s0_1 w0 w hI).mono ?_
  rintro e w' ⟨rfl, rfl⟩
  exact ⟨rfl, hI, hB, KeepBut.refl _ _ _⟩
def octet_In_Byte.f (s0_0 : ByteArray) (s0_1 : Bool) : Option (Int × ByteArray × Bool) := some (((byteS s0_0 s0_1).1 : Nat), (byteS s0_0 s0_1).2.1, (byteS s0_0 s0_1).2.2)
theorem octet_In_Byte.calls (g : Nat) (s0_0 : ByteArray) (s0_1 : Bool) (r1 : Int) (r2 : ByteArray) (r3 : Bool) (w0 w : World) (hI : IsS84 w0 w g s0_0 s0_1) (hB : Below w0.heap.size w0 w) (h : octet_In_Byte.f s0_0 s0_1 = some (r1, r2, r3)) :
    Calls Try.prog 28 #[.pointer (some ⟨g, 0, none⟩)] w fun e w' => e = .returned (.int .u8 r1) ∧ IsS84 w0 w' g r2 r3 ∧ Below w0.heap.size w0 w' ∧ KeepBut w w' g none := by
  cases h
  exact in_byte g s0_0 s0_1 w0 w hI hB
def octet_In_Num.f (s0_0 : ByteArray) (s0_1 : Bool) : Option (Int × ByteArray × Bool) := some (((numS 8 s0_0 s0_1).2.1 : Nat), (numS 8 s0_0 s0_1).2.2.1, (numS 8 s0_0 s0_1).2.2.2)
theorem octet_In_Num.calls (g : Nat) (s0_0 : ByteArray) (s0_1 : Bool) (r1 : Int) (r2 : ByteArray) (r3 : Bool) (w0 w : World) (hI : IsS84 w0 w g s0_0 s0_1) (hB : Below w0.heap.size w0 w) (h : octet_In_Num.f s0_0 s0_1 = some (r1, r2, r3)) :
    Calls Try.prog 29 #[.pointer (some ⟨g, 0, none⟩)] w fun e w' => e = .returned (.int .u64 r1) ∧ IsS84 w0 w' g r2 r3 ∧ Below w0.heap.size w0 w' ∧ KeepBut w w' g none := by
  cases h
  exact in_num g s0_0 s0_1 w0 w hI hB
def octet_In_Wide.f (s0_0 : ByteArray) (s0_1 : Bool) : Option (Int × Int × ByteArray × Bool) := some (((numS 16 s0_0 s0_1).1 : Nat), ((numS 16 s0_0 s0_1).2.1 : Nat), (numS 16 s0_0 s0_1).2.2.1, (numS 16 s0_0 s0_1).2.2.2)
theorem octet_In_Wide.calls (g : Nat) (s0_0 : ByteArray) (s0_1 : Bool) (r1 r2 : Int) (r3 : ByteArray) (r4 : Bool) (w0 w : World) (hI : IsS84 w0 w g s0_0 s0_1) (hB : Below w0.heap.size w0 w) (h : octet_In_Wide.f s0_0 s0_1 = some (r1, r2, r3, r4)) :
    Calls Try.prog 30 #[.pointer (some ⟨g, 0, none⟩)] w fun e w' => e = .returned (.agg #[.int .u64 r1, .int .u64 r2]) ∧ IsS84 w0 w' g r3 r4 ∧ Below w0.heap.size w0 w' ∧ KeepBut w w' g none := by
  cases h
  exact in_wide g s0_0 s0_1 w0 w hI hB
def octet_In_Flag.f (s0_0 : ByteArray) (s0_1 : Bool) : Option (Bool × ByteArray × Bool) := some ((flagS s0_0 s0_1).1, (flagS s0_0 s0_1).2.1, (flagS s0_0 s0_1).2.2)
theorem octet_In_Flag.calls (g : Nat) (s0_0 : ByteArray) (s0_1 : Bool) (r1 : Bool) (r2 : ByteArray) (r3 : Bool) (w0 w : World) (hI : IsS84 w0 w g s0_0 s0_1) (hB : Below w0.heap.size w0 w) (h : octet_In_Flag.f s0_0 s0_1 = some (r1, r2, r3)) :
    Calls Try.prog 31 #[.pointer (some ⟨g, 0, none⟩)] w fun e w' => e = .returned (.bool r1) ∧ IsS84 w0 w' g r2 r3 ∧ Below w0.heap.size w0 w' ∧ KeepBut w w' g none := by
  cases h
  exact in_flag g s0_0 s0_1 w0 w hI hB
def octet_In_Text.f (s0_0 : ByteArray) (s0_1 : Bool) (a1 : Int) : Option (ByteArray × ByteArray × Bool) := if -9223372036854775808 ≤ a1 ∧ a1 ≤ 9223372036854775807 then some ((textS a1 s0_0 s0_1).1, (textS a1 s0_0 s0_1).2.1, (textS a1 s0_0 s0_1).2.2) else none
theorem octet_In_Text.calls (g : Nat) (s0_0 : ByteArray) (s0_1 : Bool) (a1 : Int) (r1 : ByteArray) (r2 : ByteArray) (r3 : Bool) (w0 w : World) (hI : IsS84 w0 w g s0_0 s0_1) (hB : Below w0.heap.size w0 w) (h : octet_In_Text.f s0_0 s0_1 a1 = some (r1, r2, r3)) :
    Calls Try.prog 32 #[.pointer (some ⟨g, 0, none⟩), .int .i64 a1] w fun e w' => e = .returned (.string r1) ∧ IsS84 w0 w' g r2 r3 ∧ Below w0.heap.size w0 w' ∧ KeepBut w w' g none := by
  unfold octet_In_Text.f at h
  split at h
  · rename_i hc
    cases h
    exact in_text g a1 hc s0_0 s0_1 w0 w hI hB
  · cases h
end Go.Proofs.Ytdjpcogkpnemlaa.Oct
end
section
/- Readers side by side: what a call of one keeps of the others. -/
namespace Go.Proofs.Ytdjpcogkpnemlaa.Oct
open Go Go.RowKit Go.Proofs.YtdjpcogkpnemlaaW.PrintWords Go.Proofs.Ytdjpcogkpnemlaa.POr
set_option linter.unusedVariables false
set_option linter.unusedSimpArgs false
set_option maxRecDepth 100000
set_option maxHeartbeats 4000000
/-- All but block g, and what is new, is as it was. -/
structure Touch (g : Nat) (w w' : World) : Prop where
  os : w'.os = w.os
  tape : w'.tape = w.tape
  output : w'.output = w.output
  keep : KeepBut w w' g none
theorem Touch.refl (g : Nat) (w : World) : Touch g w w := ⟨rfl, rfl, rfl, KeepBut.refl _ _ _⟩
theorem Touch.trans {g : Nat} {a b c : World} (h : Touch g a b) (k : Touch g b c) : Touch g a c := ⟨k.os.trans h.os, k.tape.trans h.tape, k.output.trans h.output, h.keep.trans k.keep (.inl rfl)⟩
theorem Touch.size {g : Nat} {w w' : World} (h : Touch g w w') : w.heap.size ≤ w'.heap.size := h.keep.1
theorem Touch.of_below {w w' : World} (h : Below w.heap.size w w') (g : Nat) : Touch g w w' := ⟨h.os, h.tape, h.output, KeepBut.of_below h g none⟩
theorem Touch.below {g N : Nat} {v w w' : World} (h : Touch g w w') (hb : Below N v w) (hN : N ≤ g) (hs : N ≤ w.heap.size) : Below N v w' :=
  hb.trans ⟨h.os, h.tape, h.output, h.size, fun k hk => h.keep.2 k (by omega) (by omega) (by simp)⟩
theorem Touch.of {w0 w w' : World} {g : Nat} (h : Below w0.heap.size w0 w) (h' : Below w0.heap.size w0 w') (k : KeepBut w w' g none) : Touch g w w' :=
  ⟨h'.os.trans h.os.symm, h'.tape.trans h.tape.symm, h'.output.trans h.output.symm, k⟩
/-- The world as it was when it had g blocks. -/
def cutW (w : World) (g : Nat) : World := { w with heap := w.heap.extract 0 g }
theorem cutW_size (w : World) (g : Nat) (h : g ≤ w.heap.size) : (cutW w g).heap.size = g := by
  show (w.heap.extract 0 g).size = g
  simp; omega
theorem cutW_get (w : World) (g k : Nat) (h : k < g) : (cutW w g).heap[k]? = w.heap[k]? := by
  show (w.heap.extract 0 g)[k]? = _
  rw [Array.getElem?_extract]
  by_cases hk : k < w.heap.size
  · rw [if_pos (by omega), Nat.zero_add]
  · rw [if_neg (by omega), Array.getElem?_eq_none (by omega)]
theorem cutW_below (w : World) (g : Nat) (h : g ≤ w.heap.size) : Below (cutW w g).heap.size (cutW w g) w :=
  ⟨rfl, rfl, rfl, by rw [cutW_size w g h]; exact h, fun k hk => (cutW_get w g k (by rw [cutW_size w g h] at hk; exact hk)).symm⟩
/-- A reader in block g. -/
def InAt (g : Nat) (b : ByteArray) (sp : Bool) (w : World) : Prop := ∃ w0, IsS84 w0 w g b sp ∧ Below w0.heap.size w0 w
theorem InAt.lt {g : Nat} {b : ByteArray} {sp : Bool} {w : World} (h : InAt g b sp w) : g < w.heap.size := by obtain ⟨w0, h, _⟩ := h; exact h.lt
theorem InAt.ok {g : Nat} {b : ByteArray} {sp : Bool} {w : World} (h : InAt g b sp w) : OkIn b sp := by obtain ⟨w0, h, _⟩ := h; exact h.ok
theorem InAt.below {g : Nat} {b : ByteArray} {sp : Bool} {w w' : World} (h : InAt g b sp w) (hb : Below w.heap.size w w') : InAt g b sp w' := by
  obtain ⟨w0, h, k⟩ := h
  exact ⟨w0, h.below hb, k.trans (hb.mono k.size)⟩
/-- A call of another reader keeps it. -/
theorem InAt.other {g g2 : Nat} {b b2 : ByteArray} {sp sp2 : Bool} {w w' : World} (h : InAt g b sp w) (h2 : InAt g2 b2 sp2 w) (ht : Touch g2 w w') (hne : g ≠ g2) : InAt g b sp w' := by
  obtain ⟨w0, ⟨⟨v, hb, hs⟩, hg, hok⟩, k⟩ := h
  obtain ⟨w2, ⟨⟨v2, hb2, hs2⟩, hg2, hok2⟩, k2⟩ := h2
  have hlt := blk_lt hb
  have hlt' : g ≤ w'.heap.size := by have := ht.size; omega
  have e1 : w'.heap[g]? = w.heap[g]? := ht.keep.2 g hlt hne (by simp)
  refine ⟨cutW w' g, ⟨⟨v, e1.trans hb, ?_⟩, by rw [cutW_size w' g hlt']; omega, hok⟩, cutW_below w' g hlt'⟩
  rcases hs with hs | ⟨kb, off, cap, rfl, hcap, hk, hby⟩
  · exact .inl hs
  · refine .inr ⟨kb, off, cap, rfl, hcap, by rw [cutW_size w' g hlt']; omega, fun i hi => ?_⟩
    have h1 := hby i hi
    have h3 : w.cell? ⟨kb, off + i, none⟩ = some (.int .u8 (b[i].toNat : Int)) := (k.cell (p := ⟨kb, off + i, none⟩) hk).trans h1
    have hkb : kb ≠ g2 := by
      rintro rfl
      rw [blk_cell hb2] at h3
      match e : off + i with
      | 0 =>
        rw [e] at h3
        rcases hs2 with ⟨rfl, _⟩ | ⟨_, _, _, rfl, _⟩ <;> simp at h3
      | 1 => rw [e] at h3; simp at h3
      | _ + 2 => rw [e] at h3; simp at h3
    rw [World.cell?_of_block (w := w') (w' := cutW w' g) (a := ⟨kb, off + i, none⟩) (cutW_get w' g kb (by omega))]
    rw [World.cell?_of_block (w := w) (w' := w') (a := ⟨kb, off + i, none⟩) (ht.keep.2 kb (Nat.lt_of_lt_of_le hk k.size) hkb (by simp))]
    exact h3
/-- .. and so does a store into a cell of another type, far from it. -/
theorem InAt.set {g p o : Nat} {b : ByteArray} {sp : Bool} {w : World} {cs : Array Value} {t : TypeId} (h : InAt g b sp w) (hp : w.heap[p]? = some (.cells cs t (0, 0))) (ht : t ≠ 84) (hi : ∀ (i : Nat) (n : Int), cs[i]? ≠ some (Value.int .u8 n)) (u : Value) : InAt g b sp (w.setCell ⟨p, o, none⟩ u) := by
  obtain ⟨w0, ⟨⟨v, hb, hs⟩, hg, hok⟩, k⟩ := h
  have hlt := blk_lt hb
  have hsz : (w.setCell ⟨p, o, none⟩ u).heap.size = w.heap.size := by simp [World.setCell]
  have hne : g ≠ p := by
    rintro rfl
    rw [hb] at hp
    injection hp with e
    injection e with _ e2 _
    exact ht e2.symm
  have e1 : (w.setCell ⟨p, o, none⟩ u).heap[g]? = w.heap[g]? := Below.heap_setCell _ _ _ _ hne
  refine ⟨cutW (w.setCell ⟨p, o, none⟩ u) g, ⟨⟨v, e1.trans hb, ?_⟩, by rw [cutW_size _ g (by omega)]; omega, hok⟩, cutW_below _ g (by omega)⟩
  rcases hs with hs | ⟨kb, off, cap, rfl, hcap, hk, hby⟩
  · exact .inl hs
  · refine .inr ⟨kb, off, cap, rfl, hcap, by rw [cutW_size _ g (by omega)]; omega, fun i hi' => ?_⟩
    have h1 := hby i hi'
    have h3 : w.cell? ⟨kb, off + i, none⟩ = some (.int .u8 (b[i].toNat : Int)) := (k.cell (p := ⟨kb, off + i, none⟩) hk).trans h1
    have hkb : kb ≠ p := by
      rintro rfl
      rw [blk_cell hp] at h3
      exact hi _ _ h3
    rw [World.cell?_of_block (w := w.setCell ⟨p, o, none⟩ u) (w' := cutW (w.setCell ⟨p, o, none⟩ u) g) (a := ⟨kb, off + i, none⟩) (cutW_get _ g kb (by omega))]
    rw [World.cell?_of_block (w := w) (w' := w.setCell ⟨p, o, none⟩ u) (a := ⟨kb, off + i, none⟩) (Below.heap_setCell _ _ _ _ hkb)]
    exact h3
section
variable {g : Nat} {b : ByteArray} {sp : Bool} {w : World}
theorem at_open (s : ByteArray) (hs : s.size ≤ 140737488351232) (w : World) :
    Calls Try.prog 21 #[.string s] w fun e w' => ∃ g, w.heap.size ≤ g ∧ e = .returned (.pointer (some ⟨g, 0, none⟩)) ∧ InAt g s false w' ∧ Below w.heap.size w w' := by
  refine (in_open s hs w).mono ?_
  rintro e w' ⟨w0, g, h1, rfl, h2, h3, h4⟩
  exact ⟨g, Nat.le_trans h1 h2.ge, rfl, ⟨w0, h2, h4⟩, h3.trans (h4.mono h1)⟩
theorem at_spoilt (h : InAt g b sp w) : Calls Try.prog 23 #[.pointer (some ⟨g, 0, none⟩)] w fun e w' => e = .returned (.bool sp) ∧ w = w' := by
  obtain ⟨w0, hI, hB⟩ := h
  exact (in_spoilt g b sp w0 w hI).mono fun e w' h => ⟨h.1, h.2.symm⟩
theorem at_rest (h : InAt g b sp w) : Calls Try.prog 24 #[.pointer (some ⟨g, 0, none⟩)] w fun e w' => e = .returned (.int .i64 b.size) ∧ w = w' := by
  obtain ⟨w0, hI, hB⟩ := h
  exact (in_rest g b sp w0 w hI).mono fun e w' h => ⟨h.1, h.2.symm⟩
theorem at_close (h : InAt g b sp w) : Calls Try.prog 25 #[.pointer (some ⟨g, 0, none⟩)] w fun e w' => e = .returned (.int .i64 (closeS b sp)) ∧ w = w' := by
  obtain ⟨w0, hI, hB⟩ := h
  exact (in_close g b sp w0 w hI).mono fun e w' h => ⟨h.1, h.2.symm⟩
theorem at_spoil (h : InAt g b sp w) : Calls Try.prog 27 #[.pointer (some ⟨g, 0, none⟩)] w fun e w' => e = .returned (.tuple #[]) ∧ InAt g noB true w' ∧ Touch g w w' := by
  obtain ⟨w0, hI, hB⟩ := h
  exact (in_spoil g b sp w0 w hI hB).mono fun e w' ⟨h1, h2, h3, h4⟩ => ⟨h1, ⟨w0, h2, h3⟩, Touch.of hB h3 h4⟩
theorem at_byte (h : InAt g b sp w) : Calls Try.prog 28 #[.pointer (some ⟨g, 0, none⟩)] w fun e w' => e = .returned (.int .u8 ((byteS b sp).1 : Nat)) ∧ InAt g (byteS b sp).2.1 (byteS b sp).2.2 w' ∧ Touch g w w' := by
  obtain ⟨w0, hI, hB⟩ := h
  exact (in_byte g b sp w0 w hI hB).mono fun e w' ⟨h1, h2, h3, h4⟩ => ⟨h1, ⟨w0, h2, h3⟩, Touch.of hB h3 h4⟩
theorem at_num (h : InAt g b sp w) : Calls Try.prog 29 #[.pointer (some ⟨g, 0, none⟩)] w fun e w' => e = .returned (.int .u64 ((numS 8 b sp).2.1 : Nat)) ∧ InAt g (numS 8 b sp).2.2.1 (numS 8 b sp).2.2.2 w' ∧ Touch g w w' := by
  obtain ⟨w0, hI, hB⟩ := h
  exact (in_num g b sp w0 w hI hB).mono fun e w' ⟨h1, h2, h3, h4⟩ => ⟨h1, ⟨w0, h2, h3⟩, Touch.of hB h3 h4⟩
theorem at_wide (h : InAt g b sp w) : Calls Try.prog 30 #[.pointer (some ⟨g, 0, none⟩)] w fun e w' => e = .returned (.agg #[.int .u64 ((numS 16 b sp).1 : Nat), .int .u64 ((numS 16 b sp).2.1 : Nat)]) ∧ InAt g (numS 16 b sp).2.2.1 (numS 16 b sp).2.2.2 w' ∧ Touch g w w' := by
  obtain ⟨w0, hI, hB⟩ := h
  exact (in_wide g b sp w0 w hI hB).mono fun e w' ⟨h1, h2, h3, h4⟩ => ⟨h1, ⟨w0, h2, h3⟩, Touch.of hB h3 h4⟩
theorem at_flag (h : InAt g b sp w) : Calls Try.prog 31 #[.pointer (some ⟨g, 0, none⟩)] w fun e w' => e = .returned (.bool (flagS b sp).1) ∧ InAt g (flagS b sp).2.1 (flagS b sp).2.2 w' ∧ Touch g w w' := by
  obtain ⟨w0, hI, hB⟩ := h
  exact (in_flag g b sp w0 w hI hB).mono fun e w' ⟨h1, h2, h3, h4⟩ => ⟨h1, ⟨w0, h2, h3⟩, Touch.of hB h3 h4⟩
theorem at_text (most : Int) (hm : -9223372036854775808 ≤ most ∧ most ≤ 9223372036854775807) (h : InAt g b sp w) : Calls Try.prog 32 #[.pointer (some ⟨g, 0, none⟩), .int .i64 most] w fun e w' => e = .returned (.string (textS most b sp).1) ∧ InAt g (textS most b sp).2.1 (textS most b sp).2.2 w' ∧ Touch g w w' := by
  obtain ⟨w0, hI, hB⟩ := h
  exact (in_text g most hm b sp w0 w hI hB).mono fun e w' ⟨h1, h2, h3, h4⟩ => ⟨h1, ⟨w0, h2, h3⟩, Touch.of hB h3 h4⟩
end
end Go.Proofs.Ytdjpcogkpnemlaa.Oct
end
section
/- What is written of a row of things. -/
namespace Go.Proofs.Ytdjpcogkpnemlaa.Oct
open Go Go.RowKit Go.Proofs.YtdjpcogkpnemlaaW.PrintWords Go.Proofs.Ytdjpcogkpnemlaa.POr
set_option linter.unusedVariables false
set_option linter.unusedSimpArgs false
set_option maxRecDepth 100000
set_option maxHeartbeats 4000000
/-- A thing's bytes. -/
def encT (x : S48) : ByteArray := thingEnc x.f0.toNat x.f1.f0.toNat x.f1.f1.toNat x.f2
abbrev thA (x : S48) : Value := .agg #[.int .u8 x.f0, .int .u64 x.f1.f0, .int .u64 x.f1.f1, .string x.f2, .int .i64 x.f3]
def OutS.new : OutS := ⟨noB, false⟩
def wroteS (xs : List S48) : OutS := xs.foldl (fun o x => o.put (encT x)) OutS.new
theorem wroteS_snoc (xs : List S48) (x : S48) : wroteS (xs ++ [x]) = (wroteS xs).put (encT x) := by simp [wroteS, List.foldl_append]
/-- What a thing is, in whole numbers. -/
theorem good_nat {x : S48} (g : Good48 x) : 0 ≤ x.f0 ∧ x.f0 < 256 ∧ 0 ≤ x.f1.f0 ∧ x.f1.f0 < 18446744073709551616 ∧ 0 ≤ x.f1.f1 ∧ x.f1.f1 < 18446744073709551616 ∧ -9223372036854775808 ≤ x.f3 ∧ x.f3 ≤ 9223372036854775807 := by
  obtain ⟨h0, ⟨h1, h2⟩, h3, h4⟩ := g
  simp [Lit.wf, IntKind.min, IntKind.max, IntKind.signed, IntKind.bits] at h0 h1 h2 h4
  omega
theorem th_nat {x : S48} (g : Good48 x) : thA x = thV x.f0.toNat x.f1.f0.toNat x.f1.f1.toNat x.f2 x.f3 := by
  obtain ⟨h0, _, h1, _, h2, _⟩ := good_nat g
  unfold thA thV
  rw [Int.toNat_of_nonneg h0, Int.toNat_of_nonneg h1, Int.toNat_of_nonneg h2]
theorem write_out (B g : Nat) (o : OutS) (x : S48) (gx : Good48 x) (hs : x.f2.size ≤ 35184372088832) (w : World) (h : OutAt B g o w) (hBw : B ≤ w.heap.size) :
    Calls Try.prog 18 #[.pointer (some ⟨g, 0, none⟩), thA x] w fun e w' => e = .returned (.tuple #[]) ∧ OutAt B g (o.put (encT x)) w' ∧ Below B w w' := by
  obtain ⟨h0, h0', h1, h1', h2, h2', h3, h3'⟩ := good_nat gx
  rw [th_nat gx]
  unfold encT
  have b0 : x.f0.toNat < 256 := by omega
  have b1 : x.f1.f0.toNat < 18446744073709551616 := by omega
  have b2 : x.f1.f1.toNat < 18446744073709551616 := by omega
  generalize x.f0.toNat = kind at *
  generalize x.f1.f0.toNat = hi at *
  generalize x.f1.f1.toNat = lo at *
  refine write_gen _ (fun w' => OutAt B g (o.put (thingEnc kind hi lo x.f2)) w' ∧ Below B w w') kind hi lo b0 x.f2 x.f3 w ?_ ?_ ?_ ?_ ?_
  · intro hk z hz
    have e : ((lo : Int) % 256) = ((UInt8.ofNat lo).toNat : Int) := by rw [UInt8.toNat_ofNat']; omega
    rw [e, show thingEnc kind hi lo x.f2 = ⟨#[UInt8.ofNat lo]⟩ from if_pos hk]
    refine (byte_calls B g o (UInt8.ofNat lo) z (h.keep hz) (Nat.le_trans hBw hz.size)).mono ?_
    rintro e w' ⟨rfl, h4, h5⟩
    exact ⟨rfl, h4, (hz.mono hBw).trans h5⟩
  · intro hk z hz
    rw [show thingEnc kind hi lo x.f2 = wideEnc 0 lo from by unfold thingEnc; rw [if_neg (by omega), if_pos hk]]
    refine (num_calls B g o lo b2 z (h.keep hz) (Nat.le_trans hBw hz.size)).mono ?_
    rintro e w' ⟨rfl, h4, h5⟩
    exact ⟨rfl, h4, (hz.mono hBw).trans h5⟩
  · intro hk z hz
    rw [show thingEnc kind hi lo x.f2 = wideEnc hi lo from by unfold thingEnc; rw [if_neg (by omega), if_neg (by omega), if_pos hk]]
    refine (wide_calls B g o hi lo b1 b2 z (h.keep hz) (Nat.le_trans hBw hz.size)).mono ?_
    rintro e w' ⟨rfl, h4, h5⟩
    exact ⟨rfl, h4, (hz.mono hBw).trans h5⟩
  · intro hk z hz
    rw [show thingEnc kind hi lo x.f2 = ⟨#[flagB (lo % 2 == 1)]⟩ from by unfold thingEnc; rw [if_neg (by omega), if_neg (by omega), if_neg (by omega), if_pos hk]]
    have e : decide ((lo : Int) % 2 = 1) = (lo % 2 == 1) := by rw [Bool.eq_iff_iff]; simp; omega
    rw [e]
    refine flag_gen _ (fun w' => OutAt B g (o.put ⟨#[flagB (lo % 2 == 1)]⟩) w' ∧ Below B w w') _ z ?_
    refine (byte_calls B g o (flagB (lo % 2 == 1)) z (h.keep hz) (Nat.le_trans hBw hz.size)).mono ?_
    rintro e w' ⟨rfl, h4, h5⟩
    exact ⟨rfl, h4, (hz.mono hBw).trans h5⟩
  · intro hk z hz
    rw [show thingEnc kind hi lo x.f2 = textEnc x.f2 from by unfold thingEnc; rw [if_neg (by omega), if_neg (by omega), if_neg (by omega), if_neg (by omega)]]
    refine (text_calls B g o x.f2 hs z (h.keep hz) (Nat.le_trans hBw hz.size)).mono ?_
    rintro e w' ⟨rfl, h4, h5⟩
    exact ⟨rfl, h4, (hz.mono hBw).trans h5⟩
def doneB (o : OutS) : ByteArray := if o.long then noB else o.b
def doneE (o : OutS) : Int := if o.long then 3 else 0
theorem done_calls' (B g : Nat) (o : OutS) (w : World) (h : OutAt B g o w) :
    Calls Try.prog 20 #[.pointer (some ⟨g, 0, none⟩)] w fun e w' => e = .returned (.tuple #[.string (doneB o), .int .i64 (doneE o)]) ∧ w' = w := done_calls B g o w h
theorem wrote_calls (xs : List S48) (A : Option Addr) (c : Nat) (w : World) (hC : Kd.C k48 w A xs.length xs) (hc : xs.length ≤ c) (hx : ∀ x ∈ xs, Good48 x ∧ x.f2.size ≤ 35184372088832) (hl : xs.length ≤ 140737488351232) :
    Calls Try.prog 34 #[.slice A xs.length c] w fun e w' => e = .returned (.tuple #[.string (doneB (wroteS xs)), .int .i64 (doneE (wroteS xs))]) ∧ Below w.heap.size w w' := by
  have HC := Aside0.mk hC
  have HX := Aside0.mk hx
  have HO := Aside0.mk (out_new w)
  have HB := Aside0.mk ((Below.refl w.heap.size w).alloc (Nat.le_refl _) (.cells #[.slice none 0 0, .bool false] 42))
  clear hC hx
  go_enter Try.func34, Try.ntmps34
  go_wp2_with fail
  go_loopg [5] (xs.length + 1) (fun k i wr => ∃ t : Int, 0 ≤ t ∧ t + k = xs.length + 1 ∧ t ≤ xs.length ∧ i = .int .i64 t ∧ OutAt w.heap.size w.heap.size (wroteS (xs.take t.toNat)) wr ∧ Below w.heap.size w wr)
  case atStart => exact ⟨0, by omega, by omega, by omega, rfl, HO.out, HB.out⟩
  case round =>
    obtain ⟨t, h0, hk, ht, rfl, ho, hb⟩ := hrel
    by_cases hlt : t < xs.length
    · have hC := Kd.C_below HC.out hb
      obtain ⟨ad, e, x0, x1, x2, x3, x4⟩ := at_T48 hC t h0 hlt
      have hm : rd_T48 xs t ∈ xs := by
        unfold rd_T48
        rw [List.getD_eq_getElem?_getD, List.getElem?_eq_getElem (by omega)]
        exact List.getElem_mem _
      have hts : xs.take (t + 1).toNat = xs.take t.toNat ++ [rd_T48 xs t] := by
        unfold rd_T48
        rw [show (t + 1).toNat = t.toNat + 1 by omega, List.take_succ_eq_append_getElem (by omega), List.getD_eq_getElem?_getD, List.getElem?_eq_getElem (by omega)]
        rfl
      have HS := Aside0.mk (show wroteS (xs.take (t + 1).toNat) = (wroteS (xs.take t.toNat)).put (encT (rd_T48 xs t)) by rw [hts, wroteS_snoc])
      have HW := Aside0.mk (write_out w.heap.size w.heap.size (wroteS (xs.take t.toNat)) (rd_T48 xs t) (HX.out _ hm).1 (HX.out _ hm).2 wr ho hb.size)
      have HB2 := Aside0.mk hb
      cases e
      clear hC hm hts ho hb
      go_wp2_with fail
      refine HW.out.mono ?_
      rintro e w1 ⟨rfl, h1, hb1⟩
      have H1 := Aside0.mk (⟨h1, HB2.out.trans hb1⟩ : OutAt w.heap.size w.heap.size ((wroteS (xs.take t.toNat)).put (encT (rd_T48 xs t))) w1 ∧ Below w.heap.size w w1)
      clear h1 hb1
      go_wp2_with fail
      go_roundg (gk - 1)
      case measure => omega
      case rel => exact ⟨t + 1, by omega, by omega, by omega, by go_num, by rw [HS.out]; exact H1.out.1, H1.out.2⟩
    · obtain rfl : t = xs.length := by omega
      have e : xs.take ((xs.length : Int)).toNat = xs := List.take_of_length_le (by omega)
      rw [e] at ho
      have HD := Aside0.mk (done_calls' w.heap.size w.heap.size (wroteS xs) wr ho)
      have HB2 := Aside0.mk hb
      clear e ho hb
      go_wp2_with fail
      refine HD.out.mono ?_
      rintro e w1 ⟨rfl, rfl⟩
      go_wp2_with fail
      go_ret2
      exact ⟨rfl, HB2.out⟩
end Go.Proofs.Ytdjpcogkpnemlaa.Oct
end
section
/- The law's writer of a row of things, and the chapter's example, in the print's own form. -/
namespace Go.Proofs.Ytdjpcogkpnemlaa.Oct
open Go Go.RowKit Go.Proofs.YtdjpcogkpnemlaaW.PrintWords Go.Proofs.Ytdjpcogkpnemlaa.POr
set_option linter.unusedVariables false
set_option linter.unusedSimpArgs false
set_option maxRecDepth 100000
set_option maxHeartbeats 4000000
instance (x : S48) : Decidable (Good48 x) := by unfold Good48 Good29; infer_instance
def paymasterlaw08_wrote.f (l0 : List S48) : Option (ByteArray × Int) :=
  if (∀ x ∈ l0, Good48 x ∧ x.f2.size ≤ 35184372088832) ∧ l0.length ≤ 140737488351232 then some (doneB (wroteS l0), doneE (wroteS l0)) else none
theorem paymasterlaw08_wrote.calls (A0 : Option Addr) (c0 : Nat) (l0 : List S48) (r1 : ByteArray) (r2 : Int) (w : World) (hr0 : Kd.C k48 w A0 l0.length l0) (hc0 : l0.length ≤ c0) (h : paymasterlaw08_wrote.f l0 = some (r1, r2)) :
    Calls Try.prog 34 #[.slice A0 l0.length c0] w fun e w' => e = .returned (.tuple #[.string r1, .int .i64 r2]) ∧ Below w.heap.size w w' := by
  unfold paymasterlaw08_wrote.f at h
  split at h
  · rename_i hc
    cases h
    exact wrote_calls l0 A0 c0 w hr0 hc0 hc.1 hc.2
  · cases h
theorem wrote_some (l0 : List S48) (h : ∀ x ∈ l0, Good48 x ∧ x.f2.size ≤ 35184372088832) (hl : l0.length ≤ 140737488351232) : paymasterlaw08_wrote.f l0 = some (doneB (wroteS l0), doneE (wroteS l0)) := if_pos ⟨h, hl⟩
def ab : ByteArray := ⟨#[97, 98]⟩
def ex3 : List S48 := [⟨1, ⟨0, 300⟩, ⟨#[]⟩, 0⟩, ⟨1, ⟨0, 0⟩, ⟨#[]⟩, 0⟩, ⟨4, ⟨0, 0⟩, ⟨#[97, 98]⟩, 0⟩]
theorem ex3_b : doneB (wroteS ex3) = ⟨#[2, 1, 44, 0, 1, 2, 97, 98]⟩ := by kernel_rfl
theorem ex3_e : doneE (wroteS ex3) = 0 := by kernel_rfl
theorem exI : numS 8 ⟨#[1, 0]⟩ false = (0, 0, noB, true) := by kernel_rfl
theorem exJ : numS 8 ⟨#[2, 1, 44, 1, 2, 97, 98]⟩ false = (0, 300, ⟨#[1, 2, 97, 98]⟩, false) := by kernel_rfl
theorem exT : textS 2 ⟨#[1, 2, 97, 98]⟩ false = (⟨#[97, 98]⟩, noB, false) := by kernel_rfl
theorem ex3_good : ∀ x ∈ ex3, Good48 x ∧ x.f2.size ≤ 35184372088832 := by
  intro x hx
  have e : (⟨#[]⟩ : ByteArray).size = 0 := rfl
  have e2 : (⟨#[97, 98]⟩ : ByteArray).size = 2 := rfl
  simp only [ex3, List.mem_cons, List.not_mem_nil, or_false] at hx
  rcases hx with rfl | rfl | rfl
  all_goals exact ⟨⟨rfl, ⟨rfl, rfl⟩, by simp only [e, e2]; omega, rfl⟩, by simp only [e, e2]; omega⟩
theorem three_things (W : World) (g : Nat) (x y z : S48) (h : W.heap[g]? = some (.cells #[.int .u8 x.f0, .int .u64 x.f1.f0, .int .u64 x.f1.f1, .string x.f2, .int .i64 x.f3, .int .u8 y.f0, .int .u64 y.f1.f0, .int .u64 y.f1.f1, .string y.f2, .int .i64 y.f3, .int .u8 z.f0, .int .u64 z.f1.f0, .int .u64 z.f1.f1, .string z.f2, .int .i64 z.f3] 48 (0, 0))) : Kd.C k48 W (some ⟨g, 0, none⟩) 3 [x, y, z] := by
  refine ⟨rfl, by omega, fun _ => ⟨⟨g, 0, none⟩, rfl, fun j p hj => ?_⟩⟩
  have sz5 : k48.sz = 5 := rfl
  have ad : ∀ q, (⟨g, 0, none⟩ : Addr).add q = ⟨g, q, none⟩ := by
    intro q
    by_cases h0 : q = 0
    · subst h0; simp [Addr.add]
    · simp [Addr.add, h0]
  match j, hj with
  | 0, hj =>
    obtain rfl : x = p := by simpa using hj
    refine ⟨_, rfl, k48_mk W x, fun i u hu => ?_⟩
    rw [sz5, ad, Nat.zero_mul, Nat.zero_add, blk_cell h i]
    match i, hu with
    | 0, hu | 1, hu | 2, hu | 3, hu | 4, hu => simpa using hu
  | 1, hj =>
    obtain rfl : y = p := by simpa using hj
    refine ⟨_, rfl, k48_mk W y, fun i u hu => ?_⟩
    rw [sz5, ad, Nat.one_mul, blk_cell h (5 + i)]
    match i, hu with
    | 0, hu | 1, hu | 2, hu | 3, hu | 4, hu => simpa using hu
  | 2, hj =>
    obtain rfl : z = p := by simpa using hj
    refine ⟨_, rfl, k48_mk W z, fun i u hu => ?_⟩
    rw [sz5, ad, blk_cell h (2 * 5 + i)]
    match i, hu with
    | 0, hu | 1, hu | 2, hu | 3, hu | 4, hu => simpa using hu
theorem awake_calls (w : World) : Calls Try.prog 33 #[] w fun e w' => e = .returned (.bool true) ∧ Below w.heap.size w w' := by
  have HW := Aside0.mk (fun (W : World) (g : Nat) h => wrote_calls ex3 (some ⟨g, 0, none⟩) 3 W h (Nat.le_refl _) ex3_good (by show 3 ≤ _; omega))
  rw [ex3_b, ex3_e] at HW
  go_enter Try.func33, Try.ntmps33
  go_wp2_with (go_at_call 37; refine (of_calls 300 _).mono ?_; rintro e w1 ⟨rfl, hb1⟩)
  have hA := three_things (w1.alloc (.cells #[.int .u8 1, .int .u64 0, .int .u64 300, .string ⟨#[]⟩, .int .i64 0, .int .u8 1, .int .u64 0, .int .u64 0, .string ⟨#[]⟩, .int .i64 0, .int .u8 4, .int .u64 0, .int .u64 0, .string ⟨#[97, 98]⟩, .int .i64 0] 48)) w1.heap.size ⟨1, ⟨0, 300⟩, ⟨#[]⟩, 0⟩ ⟨1, ⟨0, 0⟩, ⟨#[]⟩, 0⟩ ⟨4, ⟨0, 0⟩, ⟨#[97, 98]⟩, 0⟩ (blk_new _ _)
  have HB1 := Aside0.mk (hb1.alloc hb1.size (.cells #[.int .u8 1, .int .u64 0, .int .u64 300, .string ⟨#[]⟩, .int .i64 0, .int .u8 1, .int .u64 0, .int .u64 0, .string ⟨#[]⟩, .int .i64 0, .int .u8 4, .int .u64 0, .int .u64 0, .string ⟨#[97, 98]⟩, .int .i64 0] 48))
  refine (HW.out _ w1.heap.size hA).mono ?_
  rintro e w2 ⟨rfl, hb2⟩
  have HB2 := Aside0.mk (HB1.out.trans (hb2.mono HB1.out.size))
  clear hA hb1 hb2 HB1 HW
  go_wp2_with fail
  refine (at_open _ (by show 2 ≤ _; omega) _).mono ?_
  rintro e w3 ⟨gi, hgi, rfl, i3, b3⟩
  have HB3 := Aside0.mk (HB2.out.trans (b3.mono HB2.out.size))
  have HI3 := Aside0.mk i3
  have HGI := Aside0.mk (Nat.le_trans HB2.out.size hgi)
  clear hgi b3 HB2 i3
  go_wp2_with fail
  refine (at_open _ (by show 7 ≤ _; omega) _).mono ?_
  rintro e w4 ⟨gj, hgj, rfl, j4, b4⟩
  have HN := Aside0.mk (show gi < gj by have := HI3.out.lt; omega)
  have HB4 := Aside0.mk (HB3.out.trans (b4.mono HB3.out.size))
  have HI4 := Aside0.mk (HI3.out.below b4)
  have HJ4 := Aside0.mk j4
  have HGJ := Aside0.mk (Nat.le_trans HB3.out.size hgj)
  clear j4 hgj b4 HB3 HI3
  go_wp2_with fail
  have HX := Aside0.mk (at_num HI4.out)
  rw [exI] at HX
  refine HX.out.mono ?_
  rintro e w5 ⟨rfl, i5, t5⟩
  have HJ5 := Aside0.mk (HJ4.out.other HI4.out t5 (by have := HN.out; omega))
  have HI5 := Aside0.mk i5
  have HB5 := Aside0.mk (t5.below HB4.out HGI.out HB4.out.size)
  clear i5 t5 HX HJ4 HI4 HB4
  go_wp2_with fail
  have HX := Aside0.mk (at_num HJ5.out)
  rw [exJ] at HX
  refine HX.out.mono ?_
  rintro e w6 ⟨rfl, j6, t6⟩
  have HI6 := Aside0.mk (HI5.out.other HJ5.out t6 (by have := HN.out; omega))
  have HJ6 := Aside0.mk j6
  have HB6 := Aside0.mk (t6.below HB5.out HGJ.out HB5.out.size)
  clear j6 t6 HX HJ5 HI5 HB5
  go_wp2_with fail
  have HX := Aside0.mk (at_text 2 (by omega) HJ6.out)
  rw [exT] at HX
  refine HX.out.mono ?_
  rintro e w7 ⟨rfl, j7, t7⟩
  have HI7 := Aside0.mk (HI6.out.other HJ6.out t7 (by have := HN.out; omega))
  have HJ7 := Aside0.mk j7
  have HB7 := Aside0.mk (t7.below HB6.out HGJ.out HB6.out.size)
  clear j7 t7 HX HJ6 HI6 HB6
  go_wp2_with fail
  refine (at_spoilt HI7.out).mono ?_
  rintro e w8 ⟨rfl, rfl⟩
  go_wp2_with fail
  refine (at_close HI7.out).mono ?_
  rintro e w8 ⟨rfl, rfl⟩
  rw [show closeS noB true = 80 from rfl]
  go_wp2_with fail
  refine (at_close HJ7.out).mono ?_
  rintro e w8 ⟨rfl, rfl⟩
  rw [show closeS noB false = 0 from rfl]
  go_wp2_with fail
  go_ret
  exact ⟨rfl, HB7.out⟩
def paymasterlaw08_awake.f : Option Bool := some true
theorem paymasterlaw08_awake.calls (r : Bool) (w : World) (h : paymasterlaw08_awake.f = some r) : Calls Try.prog 33 #[] w fun e w' => e = .returned (.bool r) ∧ Below w.heap.size w w' := by
  cases h
  exact awake_calls w
end Go.Proofs.Ytdjpcogkpnemlaa.Oct
end
