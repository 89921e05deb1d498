/- The walk of the law OctetNil. -/
import Derived.Test.YtdjpcogkpnemlaaInp
import Derived.Test.YtdjpcogkpnemlaaGoodsOr
namespace Go.Proofs.Ytdjpcogkpnemlaa.Oct
open Go.RowKit Go.Proofs.YtdjpcogkpnemlaaW.PrintWords Go.Proofs.Ytdjpcogkpnemlaa.POr
set_option linter.unusedVariables false
set_option linter.unusedSimpArgs false
set_option maxRecDepth 100000
set_option maxHeartbeats 4000000
/-- A thing as the print holds it. -/
def th (kind hi lo : Nat) (s : ByteArray) (most : Int) : S48 := ⟨kind, ⟨hi, lo⟩, s, most⟩
theorem one_thing (W : World) (g : Nat) (x : S48) (h : W.heap[g]? = some (.cells #[.int .u8 x.f0, .int .u64 x.f1.f0, .int .u64 x.f1.f1, .string x.f2, .int .i64 x.f3] 48 (0, 0))) : Kd.C k48 W (some ⟨g, 0, none⟩) 1 [x] := by
  refine ⟨rfl, by omega, fun _ => ⟨⟨g, 0, none⟩, rfl, fun j p hj => ?_⟩⟩
  obtain ⟨rfl, rfl⟩ : j = 0 ∧ p = x := by
    match j with
    | 0 => simp at hj; exact ⟨rfl, hj.symm⟩
    | _ + 1 => simp at hj
  refine ⟨_, rfl, k48_mk W p, fun i u hu => ?_⟩
  have hc := blk_cell h i
  have e : (⟨g, 0, none⟩ : Addr).add (0 * k48.sz + i) = ⟨g, i, none⟩ := by
    by_cases h0 : i = 0
    · subst h0; simp [Addr.add]
    · simp [Addr.add, h0]
  rw [e, hc]
  simpa using hu
theorem long1 (x : S48) : paymasterlaw08_Long.f 3 [x] = some (decide (2000 < (x.f2.size : Int))) := by
  have e : rd_T48 [x] 0 = x := rfl
  by_cases h : (2000 : Int) < x.f2.size
  · simp [paymasterlaw08_Long.f, paymasterlaw08_Long.l0, e, h]
  · have w1 : wrap64 1 = 1 := by unfold wrap64; omega
    simp [paymasterlaw08_Long.f, paymasterlaw08_Long.l0, e, h, w1]
theorem long1_calls (g : Nat) (x : S48) (W : World) (h : W.heap[g]? = some (.cells #[.int .u8 x.f0, .int .u64 x.f1.f0, .int .u64 x.f1.f1, .string x.f2, .int .i64 x.f3] 48 (0, 0))) :
    Calls Try.prog 14 #[.slice (some ⟨g, 0, none⟩) 1 1] W fun e w' => e = .returned (.bool (decide (2000 < (x.f2.size : Int)))) ∧ Drawn0 W w' :=
  paymasterlaw08_Long.calls 3 (some ⟨g, 0, none⟩) 1 [x] _ W (one_thing W g x h) (Nat.le_refl _) (long1 x)
theorem write_nil (kind hi lo : Nat) (hk : kind < 256) (h1 : hi < 18446744073709551616) (h2 : lo < 18446744073709551616) (s : ByteArray) (most : Int) (w : World) :
    Calls Try.prog 18 #[.pointer none, thV kind hi lo s most] w fun e w' => e = .returned (.tuple #[]) ∧ Below w.heap.size w w' := by
  refine write_gen _ (fun w' => Below w.heap.size w w') kind hi lo hk s most w ?_ ?_ ?_ ?_ ?_
  · intro _ z hz
    have e : ((lo : Int) % 256) = ((UInt8.ofNat lo).toNat : Int) := by rw [UInt8.toNat_ofNat']; omega
    rw [e]
    refine (byte_nil _ z).mono ?_
    rintro e w' ⟨rfl, h4⟩
    exact ⟨rfl, hz.trans (h4.mono hz.size)⟩
  · intro _ z hz
    refine (num_nil lo h2 z).mono ?_
    rintro e w' ⟨rfl, h4⟩
    exact ⟨rfl, hz.trans (h4.mono hz.size)⟩
  · intro _ z hz
    refine (wide_nil hi lo h1 h2 z).mono ?_
    rintro e w' ⟨rfl, h4⟩
    exact ⟨rfl, hz.trans (h4.mono hz.size)⟩
  · intro _ z hz
    refine flag_gen _ (fun w' => Below w.heap.size w w') _ z ?_
    refine (byte_nil _ z).mono ?_
    rintro e w' ⟨rfl, h4⟩
    exact ⟨rfl, hz.trans (h4.mono hz.size)⟩
  · intro _ z hz
    refine (text_nil s z).mono ?_
    rintro e w' ⟨rfl, rfl⟩
    exact ⟨rfl, hz⟩
theorem octnil_law (kind hi lo : Nat) (hk : kind < 256) (h1 : hi < 18446744073709551616) (h2 : lo < 18446744073709551616) (s : ByteArray) (hs : s.size ≤ 140737488351232) (most : Int) (w : World) :
    Calls Try.prog 6 #[thV kind hi lo s most] w fun e w' => e = .returned (.bool true) ∧ Below w.heap.size w w' := by
  have g0 := blk_new w (.cells #[.int .u8 kind, .int .u64 hi, .int .u64 lo, .string s, .int .i64 most] 48)
  have hb0 : Below w.heap.size w (w.alloc (.cells #[.int .u8 kind, .int .u64 hi, .int .u64 lo, .string s, .int .i64 most] 48)) := (Below.refl _ _).alloc (Nat.le_refl _) _
  have HL := Aside0.mk (fun g W h => long1_calls g (th kind hi lo s most) W h)
  have HW := Aside0.mk (write_nil kind hi lo hk h1 h2 s most)
  have H0 := Aside0.mk hb0
  clear hb0
  unfold thV at *
  go_enter Try.func6, Try.ntmps6
  go_wp2_with fail
  have g1 := blk_new (w.alloc (.cells #[.int .u8 kind, .int .u64 hi, .int .u64 lo, .string s, .int .i64 most] 48)) (.cells #[.int .u8 kind, .int .u64 hi, .int .u64 lo, .string s, .int .i64 most] 48)
  rw [alloc_size] at g1
  have g2 := blk_alloc g0 (.cells #[.int .u8 kind, .int .u64 hi, .int .u64 lo, .string s, .int .i64 most] 48)
  have hb2 := H0.out.alloc (H0.out.size) (.cells #[.int .u8 kind, .int .u64 hi, .int .u64 lo, .string s, .int .i64 most] 48)
  refine (HL.out (w.heap.size + 1) _ g1).mono ?_
  rintro e w2 ⟨rfl, hd⟩
  have hb3 := hd.below
  have g3 := blk_below g2 hb3
  have X := Aside0.mk (hb2.trans (hb3.mono hb2.size))
  have HF := Aside0.mk (show (th kind hi lo s most).f2 = s from rfl)
  clear hd hb3 hb2 g1 g2 g0
  rw [HF.out]
  by_cases hl : 2000 < (s.size : Int)
  · have hl2 := decide_eq_true hl
    go_wp2_with fail
    go_ret
    exact ⟨rfl, X.out⟩
  · have hl2 := decide_eq_false hl
    have c0 := blk_cell g3 0
    have c1 := blk_cell g3 1
    have c2 := blk_cell g3 2
    have c3 := blk_cell g3 3
    have c4 := blk_cell g3 4
    go_wp2_with (first
      | (go_at_call 18; refine (HW.out _).mono ?_; rintro e w3 ⟨rfl, hb3⟩)
      | (go_at_call 20; refine (done_nil _).mono ?_; rintro e w' ⟨rfl, rfl⟩)
      | (go_at_call 27; refine (spoil_nil _).mono ?_; rintro e w' ⟨rfl, rfl⟩)
      | (go_at_call 28; refine (byte_in_nil _).mono ?_; rintro e w4 ⟨rfl, hb4⟩)
      | (go_at_call 29; refine (num_in_nil _).mono ?_; rintro e w5 ⟨rfl, hb5⟩)
      | (go_at_call 30; refine (wide_in_nil _).mono ?_; rintro e w6 ⟨rfl, hb6⟩)
      | (go_at_call 31; refine (flag_in_nil _).mono ?_; rintro e w7 ⟨rfl, hb7⟩)
      | (go_at_call 32; refine (text_in_nil 9 _).mono ?_; rintro e w8 ⟨rfl, hb8⟩)
      | (go_at_call 23; refine (spoilt_nil _).mono ?_; rintro e w' ⟨rfl, rfl⟩)
      | (go_at_call 24; refine (rest_nil _).mono ?_; rintro e w' ⟨rfl, rfl⟩)
      | (go_at_call 25; refine (close_nil _).mono ?_; rintro e w' ⟨rfl, rfl⟩))
    go_ret
    have b1 := X.out.trans (hb3.mono X.out.size)
    have b2 := b1.trans (hb4.mono b1.size)
    have b3 := b2.trans (hb5.mono b2.size)
    have b4 := b3.trans (hb6.mono b3.size)
    have b5 := b4.trans (hb7.mono b4.size)
    have b6 := b5.trans (hb8.mono b5.size)
    exact ⟨rfl, b6⟩
theorem octnil_row (x : S48) (g : Good48 x) (w : World) :
    Calls Try.prog 6 #[.agg #[.int .u8 x.f0, .int .u64 x.f1.f0, .int .u64 x.f1.f1, .string x.f2, .int .i64 x.f3]] w fun e w' => e = .returned (.bool true) ∧ Below w.heap.size w w' := by
  obtain ⟨k, ⟨hi, lo⟩, s, most⟩ := x
  obtain ⟨h0, ⟨h1, h2⟩, h3, h4⟩ := g
  replace h0 : (Lit.int .u8 k).wf = true := h0
  replace h1 : (Lit.int .u64 hi).wf = true := h1
  replace h2 : (Lit.int .u64 lo).wf = true := h2
  have b0 : 0 ≤ k ∧ k < 256 := by
    simp [Lit.wf, IntKind.min, IntKind.max, IntKind.signed, IntKind.bits] at h0
    omega
  have b1 : 0 ≤ hi ∧ hi < 18446744073709551616 := by
    simp [Lit.wf, IntKind.min, IntKind.max, IntKind.signed, IntKind.bits] at h1
    omega
  have b2 : 0 ≤ lo ∧ lo < 18446744073709551616 := by
    simp [Lit.wf, IntKind.min, IntKind.max, IntKind.signed, IntKind.bits] at h2
    omega
  obtain ⟨k, rfl⟩ := Int.eq_ofNat_of_zero_le (show 0 ≤ k by omega)
  obtain ⟨hi, rfl⟩ := Int.eq_ofNat_of_zero_le (show 0 ≤ hi by omega)
  obtain ⟨lo, rfl⟩ := Int.eq_ofNat_of_zero_le (show 0 ≤ lo by omega)
  exact octnil_law k hi lo (by omega) (by omega) (by omega) s h3 most w
end Go.Proofs.Ytdjpcogkpnemlaa.Oct
