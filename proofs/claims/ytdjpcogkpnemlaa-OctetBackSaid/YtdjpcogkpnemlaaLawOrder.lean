/- OctetOrder: the walk and the plain facts on numbers' bytes. -/
import Derived.Test.YtdjpcogkpnemlaaInX
namespace Go.Proofs.Ytdjpcogkpnemlaa.Oct
open Go Go.RowKit Go.Proofs.YtdjpcogkpnemlaaW.PrintWords Go.Proofs.Ytdjpcogkpnemlaa.POr
set_option linter.unusedVariables false
set_option linter.unusedSimpArgs false
set_option maxRecDepth 100000
set_option maxHeartbeats 4000000
theorem bytesLess_be (n : Nat) : ∀ (a b : Nat), Op.bytesLess (beN a n) (beN b n) = decide (a % 256 ^ n < b % 256 ^ n) := by
  have key : ∀ (x y : List UInt8), x.length = y.length → Op.bytesLess x y = decide (valN x < valN y) := by
    intro x
    induction x with
    | nil => intro y hy; rw [List.eq_nil_of_length_eq_zero hy.symm]; rfl
    | cons c x ih =>
      intro y hy
      match y, hy with
      | d :: y, hy =>
        have hl : x.length = y.length := by simpa using hy
        have e1 : valN (c :: x) = c.toNat * 256 ^ x.length + valN x := by
          rw [show c :: x = [c] ++ x from rfl, valN_append]; simp [valN]
        have e2 : valN (d :: y) = d.toNat * 256 ^ x.length + valN y := by
          rw [show d :: y = [d] ++ y from rfl, valN_append, hl]; simp [valN]
        have h1 := valN_lt x
        have h2 := valN_lt y
        rw [← hl] at h2
        rw [Op.bytesLess, ih y hl, e1, e2]
        generalize 256 ^ x.length = P at *
        rcases Nat.lt_trichotomy c.toNat d.toNat with h | h | h
        · have hb : (c < d) = True := eq_true (UInt8.lt_iff_toNat_lt.2 h)
          have : c.toNat * P + P ≤ d.toNat * P := by rw [← Nat.succ_mul]; exact Nat.mul_le_mul_right P h
          have h3 : c.toNat * P + valN x < d.toNat * P + valN y := by omega
          simp only [hb, decide_true, Bool.true_or]
          exact (decide_eq_true h3).symm
        · have hcd : c = d := UInt8.toNat_inj.1 h
          subst hcd
          have hb : ¬ c < c := UInt8.lt_irrefl c
          simp only [decide_eq_false hb, Bool.false_or, beq_self_eq_true, Bool.true_and, Nat.add_lt_add_iff_left]
        · have hb : ¬ c < d := fun h' => by have := UInt8.lt_iff_toNat_lt.1 h'; omega
          have hc : (c == d) = false := by
            rw [beq_eq_false_iff_ne]; rintro rfl; omega
          have : d.toNat * P + P ≤ c.toNat * P := by rw [← Nat.succ_mul]; exact Nat.mul_le_mul_right P h
          have h3 : ¬ c.toNat * P + valN x < d.toNat * P + valN y := by omega
          simp only [decide_eq_false hb, hc, Bool.false_and, Bool.or_false]
          exact (decide_eq_false h3).symm
  intro a b
  rw [key _ _ (by rw [beN_length, beN_length]), valN_beN, valN_beN]
theorem v128_inj {hi lo hi' lo' : Nat} (h2 : lo < 18446744073709551616) (h4 : lo' < 18446744073709551616) (h : v128 hi lo = v128 hi' lo') : hi = hi' ∧ lo = lo' := by
  unfold v128 at h; omega
theorem enc_less (hi lo hi' lo' : Nat) (h1 : hi < 18446744073709551616) (h2 : lo < 18446744073709551616) (h3 : hi' < 18446744073709551616) (h4 : lo' < 18446744073709551616) :
    Op.bytesLess (encL hi lo) (encL hi' lo') = decide (v128 hi lo < v128 hi' lo') := by
  unfold encL
  have n1 := leastN_le hi lo h1 h2
  have n2 := leastN_le hi' lo' h3 h4
  have a1 := least_lt hi lo h1 h2
  have a2 := least_lt hi' lo' h3 h4
  have mono : ∀ p q r s n m : Nat, leastN p q = n → leastN r s = m → n < m → p < 18446744073709551616 → q < 18446744073709551616 → r < 18446744073709551616 → s < 18446744073709551616 → v128 p q < v128 r s := by
    intro p q r s n m e1 e2 hnm b1 b2 b3 b4
    obtain ⟨m, rfl⟩ : ∃ m', m = m' + 1 := ⟨m - 1, by omega⟩
    have := least_ge r s m b3 b4 e2
    have := least_lt p q b1 b2
    rw [e1] at this
    have : 256 ^ n ≤ 256 ^ m := Nat.pow_le_pow_right (by omega) (by omega)
    omega
  have tn : ∀ n : Nat, n ≤ 16 → (UInt8.ofNat n).toNat = n := by intro n hn; rw [UInt8.toNat_ofNat']; omega
  rw [Op.bytesLess]
  rcases Nat.lt_trichotomy (leastN hi lo) (leastN hi' lo') with h | h | h
  · have := mono hi lo hi' lo' _ _ rfl rfl h h1 h2 h3 h4
    have hb : UInt8.ofNat (leastN hi lo) < UInt8.ofNat (leastN hi' lo') := by rw [UInt8.lt_iff_toNat_lt, tn _ n1, tn _ n2]; exact h
    rw [decide_eq_true hb, decide_eq_true this]; rfl
  · rw [h] at a1 ⊢
    have hb : ¬ UInt8.ofNat (leastN hi' lo') < UInt8.ofNat (leastN hi' lo') := UInt8.lt_irrefl _
    rw [bytesLess_be, Nat.mod_eq_of_lt a1, Nat.mod_eq_of_lt a2, decide_eq_false hb]
    simp
  · have := mono hi' lo' hi lo _ _ rfl rfl h h3 h4 h1 h2
    have hb : ¬ UInt8.ofNat (leastN hi lo) < UInt8.ofNat (leastN hi' lo') := by rw [UInt8.lt_iff_toNat_lt, tn _ n1, tn _ n2]; omega
    have hc : (UInt8.ofNat (leastN hi lo) == UInt8.ofNat (leastN hi' lo')) = false := by
      rw [beq_eq_false_iff_ne]
      intro e
      have := congrArg UInt8.toNat e
      rw [tn _ n1, tn _ n2] at this; omega
    rw [decide_eq_false hb, hc, decide_eq_false (by omega)]; rfl
theorem enc_pre (hi lo hi' lo' : Nat) (h1 : hi < 18446744073709551616) (h2 : lo < 18446744073709551616) (h3 : hi' < 18446744073709551616) (h4 : lo' < 18446744073709551616) (l m : List UInt8) (h : encL hi lo ++ l = encL hi' lo' ++ m) : v128 hi lo = v128 hi' lo' ∧ l = m := by
  unfold encL at h
  have n1 := leastN_le hi lo h1 h2
  have n2 := leastN_le hi' lo' h3 h4
  have a1 := least_lt hi lo h1 h2
  have a2 := least_lt hi' lo' h3 h4
  injection h with e1 e2
  have e3 : leastN hi lo = leastN hi' lo' := by
    have := congrArg UInt8.toNat e1
    rw [UInt8.toNat_ofNat', UInt8.toNat_ofNat'] at this; omega
  obtain ⟨e4, e5⟩ := List.append_inj e2 (by rw [beN_length, beN_length, e3])
  refine ⟨?_, e5⟩
  have := congrArg valN e4
  rw [valN_beN, valN_beN, Nat.mod_eq_of_lt a1, Nat.mod_eq_of_lt a2] at this
  exact this
theorem wide_len (hi lo : Nat) (h1 : hi < 18446744073709551616) (h2 : lo < 18446744073709551616) : 1 ≤ (wideEnc hi lo).size ∧ (wideEnc hi lo).size ≤ 17 := by
  have n1 := leastN_le hi lo h1 h2
  rw [wideEnc_size hi lo n1]; omega
theorem cmp_eq (k : Nat) (hi lo hi' lo' : Nat) (h2 : lo < 18446744073709551616) (h4 : lo' < 18446744073709551616) (hk : 5 ≤ k) : ∃ c : Int, u128_Cmp.f k hi lo hi' lo' = some c ∧ (c < 0 ↔ v128 hi lo < v128 hi' lo') := by
  obtain ⟨k, rfl⟩ : ∃ m, k = m + 5 := ⟨k - 5, by omega⟩
  have cc : ∀ a b : Nat, cmp_Compare_uint64.f a b = some (if a < b then -1 else if b < a then 1 else 0) := by
    intro a b
    unfold cmp_Compare_uint64.f cmp_isNaN_uint64.f
    simp only [bne_self_eq_false, Option.bind_some, Bool.false_eq_true, if_false]
    by_cases h : a < b
    · rw [if_pos (by omega), if_pos h]
    · rw [if_neg (by omega), if_neg h]
      by_cases h' : b < a
      · rw [if_pos (by omega), if_pos h']
      · rw [if_neg (by omega), if_neg h']
  have w1 : wrap64 1 = 1 := wrap64_in (by omega) (by omega)
  have w2 : wrap64 2 = 2 := wrap64_in (by omega) (by omega)
  have orr : ∀ a b : Int, cmp_Or_int.f (k + 5) [a, b] = some (if a = 0 then b else a) := by
    intro a b
    unfold cmp_Or_int.f
    have r0 : rd [a, b] 0 = a := rfl
    have r1 : rd [a, b] 1 = b := rfl
    by_cases ha : a = 0
    · rw [cmp_Or_int.l0, if_pos (by simp), if_pos (by omega), if_pos (by simp), r0, if_pos ha, if_pos ha, Int.zero_add, w1, cmp_Or_int.l0, if_pos (by simp), if_pos (by omega), if_pos (by simp), r1]
      by_cases hb : b = 0
      · rw [if_pos hb, show (1 : Int) + 1 = 2 from rfl, w2, cmp_Or_int.l0, if_neg (by simp), hb]
      · rw [if_neg hb]
    · rw [cmp_Or_int.l0, if_pos (by simp), if_pos (by omega), if_pos (by simp), r0, if_neg ha, if_neg ha]
  unfold u128_Cmp.f v128
  by_cases he : ((hi : Int) == (hi' : Int) && ((lo : Int) == (lo' : Int))) = true
  · have : (hi : Int) = hi' ∧ (lo : Int) = lo' := by simpa using he
    rw [if_pos he]
    exact ⟨0, rfl, by omega⟩
  · have hne0 : ¬ ((hi : Int) = hi' ∧ (lo : Int) = lo') := by simpa using he
    have hne : ¬ (hi = hi' ∧ lo = lo') := by omega
    rw [if_neg he, cc, Option.bind_some, cc, Option.bind_some, orr, Option.bind_some]
    refine ⟨_, rfl, ?_⟩
    by_cases e1 : hi < hi'
    · rw [if_pos e1, if_neg (by omega)]; omega
    · rw [if_neg e1]
      by_cases e2 : hi' < hi
      · rw [if_pos e2, if_neg (by omega)]; omega
      · rw [if_neg e2, if_pos rfl]
        by_cases e3 : lo < lo'
        · rw [if_pos e3]; omega
        · rw [if_neg e3]
          by_cases e4 : lo' < lo
          · rw [if_pos e4]; omega
          · omega
theorem one_thing' (W : World) (g : Nat) (x : S48) (h : W.heap[g]? = some (.cells #[.int .u8 x.f0, .int .u64 x.f1.f0, .int .u64 x.f1.f1, .string x.f2, .int .i64 x.f3] 48 (0, 0))) : Kd.C k48 W (some ⟨g, 0, none⟩) 1 [x] := by
  refine ⟨rfl, by omega, fun _ => ⟨⟨g, 0, none⟩, rfl, fun j p hj => ?_⟩⟩
  obtain ⟨rfl, rfl⟩ : j = 0 ∧ p = x := by
    match j with
    | 0 => simp at hj; exact ⟨rfl, hj.symm⟩
    | _ + 1 => simp at hj
  refine ⟨_, rfl, k48_mk W p, fun i u hu => ?_⟩
  have hc := blk_cell h i
  have e : (⟨g, 0, none⟩ : Addr).add (0 * k48.sz + i) = ⟨g, i, none⟩ := by
    by_cases h0 : i = 0
    · subst h0; simp [Addr.add]
    · simp [Addr.add, h0]
  rw [e, hc]
  simpa using hu
theorem wf_u64 {n : Nat} (h : n < 18446744073709551616) : (Lit.int .u64 (n : Int)).wf = true := by
  simp [Lit.wf, IntKind.min, IntKind.max, IntKind.signed, IntKind.bits]; omega
theorem one_wrote (x : S48) (h : (encT x).size ≤ 1048576) : doneB (wroteS [x]) = encT x ∧ doneE (wroteS [x]) = 0 := by
  have e : wroteS [x] = ⟨encT x, false⟩ := empty_put _ h
  rw [e]; exact ⟨rfl, rfl⟩
/-- One number, written. -/
theorem num_wrote (kind hi lo : Nat) (hk : kind = 1 ∨ kind = 2) (h1 : hi < 18446744073709551616) (h2 : lo < 18446744073709551616) (W : World) (g : Nat) (h : W.heap[g]? = some (.cells #[.int .u8 kind, .int .u64 hi, .int .u64 lo, .string ⟨#[]⟩, .int .i64 0] 48 (0, 0))) :
    Calls Try.prog 34 #[.slice (some ⟨g, 0, none⟩) 1 1] W fun e w' => e = .returned (.tuple #[.string (if kind = 1 then wideEnc 0 lo else wideEnc hi lo), .int .i64 0]) ∧ Below W.heap.size W w' := by
  have gd : Good48 ⟨kind, ⟨hi, lo⟩, ⟨#[]⟩, 0⟩ := by
    refine ⟨?_, ⟨wf_u64 h1, wf_u64 h2⟩, by show 0 ≤ _; omega, rfl⟩
    rcases hk with rfl | rfl <;> rfl
  have hx : ∀ x ∈ [(⟨kind, ⟨hi, lo⟩, ⟨#[]⟩, 0⟩ : S48)], Good48 x ∧ x.f2.size ≤ 35184372088832 := by
    intro x hx
    rw [List.mem_singleton.1 hx]
    exact ⟨gd, by show 0 ≤ _; omega⟩
  have ee : encT ⟨kind, ⟨hi, lo⟩, ⟨#[]⟩, 0⟩ = if kind = 1 then wideEnc 0 lo else wideEnc hi lo := by
    rcases hk with rfl | rfl <;> rfl
  have hs : (encT ⟨kind, ⟨hi, lo⟩, ⟨#[]⟩, 0⟩).size ≤ 1048576 := by
    rw [ee]
    split
    · have := wide_len 0 lo (by omega) h2; omega
    · have := wide_len hi lo h1 h2; omega
  obtain ⟨r1, r2⟩ := one_wrote _ hs
  have := wrote_calls [⟨kind, ⟨hi, lo⟩, ⟨#[]⟩, 0⟩] (some ⟨g, 0, none⟩) 1 W (one_thing' W g ⟨kind, ⟨hi, lo⟩, ⟨#[]⟩, 0⟩ h) (Nat.le_refl _) hx (by show 1 ≤ _; omega)
  rw [r1, r2, ee] at this
  exact this
attribute [local go_sem high] eqA29
theorem order_walk (hi lo hi' lo' : Nat) (h1 : hi < 18446744073709551616) (h2 : lo < 18446744073709551616) (h3 : hi' < 18446744073709551616) (h4 : lo' < 18446744073709551616) (w : World) :
    Calls Try.prog 9 #[.agg #[.int .u64 hi, .int .u64 lo], .agg #[.int .u64 hi', .int .u64 lo']] w fun e w' => e = .returned (.bool true) ∧ Below w.heap.size w w' := by
  have x1 := wide_len hi lo h1 h2
  have y1 := wide_len hi' lo' h3 h4
  have hless := enc_less hi lo hi' lo' h1 h2 h3 h4
  rw [← wide_list hi lo h1 h2, ← wide_list hi' lo' h3 h4, ← Lib.toList_data, ← Lib.toList_data] at hless
  obtain ⟨c, hc, hcv⟩ := cmp_eq 5 hi lo hi' lo' h2 h4 (Nat.le_refl _)
  have hcd : decide (c < 0) = decide (v128 hi lo < v128 hi' lo') := by simp only [hcv]
  have heq : ((wideEnc hi lo).toList == (wideEnc hi' lo').toList) = ((hi : Int) == hi' && ((lo : Int) == lo')) := by
    rw [Bool.eq_iff_iff, Lib.toList_data, Lib.toList_data, wide_list hi lo h1 h2, wide_list hi' lo' h3 h4]
    simp only [beq_iff_eq, Bool.and_eq_true]
    constructor
    · intro h
      have := (enc_pre hi lo hi' lo' h1 h2 h3 h4 [] [] (by simpa using h)).1
      have := v128_inj h2 h4 this
      omega
    · rintro ⟨e1, e2⟩
      have e1 : hi = hi' := by omega
      have e2 : lo = lo' := by omega
      rw [e1, e2]
  have hpre : ((hi : Int) == hi' && ((lo : Int) == lo')) = false → (wideEnc hi lo).size ≤ (wideEnc hi' lo').size → (((wideEnc hi' lo').extract 0 (wideEnc hi lo).size).toList == (wideEnc hi lo).toList) = false := by
    intro hn hs
    rw [beq_eq_false_iff_ne, Lib.toList_data, Lib.toList_data]
    intro e
    rw [extract_list, List.drop_zero, Nat.sub_zero] at e
    have := enc_pre hi lo hi' lo' h1 h2 h3 h4 ((wideEnc hi' lo').data.toList.drop (wideEnc hi lo).size) [] (by
      rw [← wide_list hi lo h1 h2, ← wide_list hi' lo' h3 h4, List.append_nil, ← e, size_list (wideEnc hi lo)]
      rw [← size_list (wideEnc hi lo)]
      rw [List.take_append_drop])
    have := v128_inj h2 h4 this.1
    simp [this.1, this.2] at hn
  have W2 := Aside0.mk (fun W g h => num_wrote 2 hi lo (.inr rfl) h1 h2 W g h)
  have W2' := Aside0.mk (fun W g h => num_wrote 2 hi' lo' (.inr rfl) h3 h4 W g h)
  have W1 := Aside0.mk (fun W g h => num_wrote 1 hi lo (.inl rfl) h1 h2 W g h)
  have W3 := Aside0.mk (fun W g h => num_wrote 2 0 lo (.inr rfl) (by omega) h2 W g h)
  rw [if_neg (by omega)] at W2 W2' W3
  rw [if_pos rfl] at W1
  have HC := Aside0.mk (fun W => u128_Cmp.calls 5 hi lo hi' lo' c W hc)
  clear hc hcv
  have z1 := wide_len 0 lo (by omega) h2
  generalize wideEnc hi lo = x at *
  generalize wideEnc hi' lo' = y at *
  generalize wideEnc 0 lo = p at *
  have HL := Aside0.mk hless
  have HCD := Aside0.mk hcd
  have HEQ := Aside0.mk heq
  have HPRE := Aside0.mk hpre
  obtain ⟨x1, x2⟩ := x1
  have q1 : ¬ (x.size : Int) < 1 := by omega
  have q2 : ¬ (17 : Int) < (x.size : Int) := by omega
  have gA := blk_new w (.cells #[.int .u64 hi, .int .u64 lo] 29)
  have hb0 : Below w.heap.size w (w.alloc (.cells #[.int .u64 hi, .int .u64 lo] 29)) := (Below.refl _ _).alloc (Nat.le_refl _) _
  have gB := blk_new (w.alloc (.cells #[.int .u64 hi, .int .u64 lo] 29)) (.cells #[.int .u64 hi', .int .u64 lo'] 29)
  rw [alloc_size] at gB
  have gA2 := blk_alloc gA (.cells #[.int .u64 hi', .int .u64 lo'] 29)
  have GA := Aside0.mk gA2
  have GB := Aside0.mk gB
  have HB := Aside0.mk (hb0.alloc hb0.size (.cells #[.int .u64 hi', .int .u64 lo'] 29))
  clear gA hb0 gB gA2 hless hcd heq hpre y1 z1 x1 x2
  go_enter Try.func9, Try.ntmps9
  go_wp2_with fail
  refine (awake_calls _).mono ?_
  rintro e w1 ⟨rfl, b1⟩
  have GA1 := blk_below GA.out b1
  have c0 := blk_cell GA1 0
  have c1 := blk_cell GA1 1
  have GA2 := Aside0.mk GA1
  have GB2 := Aside0.mk (blk_below GB.out b1)
  have HB2 := Aside0.mk (HB.out.trans (b1.mono HB.out.size))
  clear GA1 GA GB HB b1
  go_wp2_with fail
  refine (W2.out _ _ (blk_new _ _)).mono ?_
  rintro e v3 ⟨rfl, b1⟩
  have GA3 := Aside0.mk (blk_below (blk_alloc GA2.out _) b1)
  have GB3 := Aside0.mk (blk_below (blk_alloc GB2.out _) b1)
  --have hx := HB2.out.alloc HB2.out.size (.cells #[] 0 (0, 0))
  have HB3 : Aside0 (Below w.heap.size w v3) := Aside0.mk ((HB2.out.alloc HB2.out.size _).trans (b1.mono (HB2.out.alloc HB2.out.size _).size))
  clear b1 GA2 GB2 HB2
  have d0 := blk_cell GB3.out 0
  have d1 := blk_cell GB3.out 1
  go_wp2_with fail
  refine (W2'.out _ _ (blk_new _ _)).mono ?_
  rintro e v4 ⟨rfl, b1⟩
  have GA4 := Aside0.mk (blk_below (blk_alloc GA3.out _) b1)
  have GB4 := Aside0.mk (blk_below (blk_alloc GB3.out _) b1)
  --have hx := HB3.out.alloc HB3.out.size (.cells #[] 0 (0, 0))
  have HB4 : Aside0 (Below w.heap.size w v4) := Aside0.mk ((HB3.out.alloc HB3.out.size _).trans (b1.mono (HB3.out.alloc HB3.out.size _).size))
  clear b1 GA3 GB3 HB3
  clear d0 d1
  have c0 := blk_cell GA4.out 0
  have c1 := blk_cell GA4.out 1
  go_wp2_with fail
  refine (W1.out _ _ (blk_new _ _)).mono ?_
  rintro e v5 ⟨rfl, b1⟩
  have GA5 := Aside0.mk (blk_below (blk_alloc GA4.out _) b1)
  have GB5 := Aside0.mk (blk_below (blk_alloc GB4.out _) b1)
  --have hx := HB4.out.alloc HB4.out.size (.cells #[] 0 (0, 0))
  have HB5 : Aside0 (Below w.heap.size w v5) := Aside0.mk ((HB4.out.alloc HB4.out.size _).trans (b1.mono (HB4.out.alloc HB4.out.size _).size))
  clear b1 GA4 GB4 HB4
  clear c0 c1
  have c0 := blk_cell GA5.out 0
  have c1 := blk_cell GA5.out 1
  go_wp2_with fail
  refine (of_calls _ _).mono ?_
  rintro e w5 ⟨rfl, b1⟩
  have GA6 := Aside0.mk (blk_below GA5.out b1)
  have GB6 := Aside0.mk (blk_below GB5.out b1)
  have HB6 := Aside0.mk (HB5.out.trans (b1.mono HB5.out.size))
  clear b1 GA5 GB5 HB5 c0 c1
  go_wp2_with fail
  refine (W3.out _ _ (blk_new _ _)).mono ?_
  rintro e v7 ⟨rfl, b1⟩
  have GA7 := Aside0.mk (blk_below (blk_alloc GA6.out _) b1)
  have GB7 := Aside0.mk (blk_below (blk_alloc GB6.out _) b1)
  --have hx := HB6.out.alloc HB6.out.size (.cells #[] 0 (0, 0))
  have HB7 : Aside0 (Below w.heap.size w v7) := Aside0.mk ((HB6.out.alloc HB6.out.size _).trans (b1.mono (HB6.out.alloc HB6.out.size _).size))
  clear b1 GA6 GB6 HB6
  have c0 := blk_cell GA7.out 0
  have c1 := blk_cell GA7.out 1
  have d0 := blk_cell GB7.out 0
  have d1 := blk_cell GB7.out 1
  go_wp2_with fail
  refine (HC.out _).mono ?_
  rintro e w8 ⟨rfl, b1⟩
  have GA8 := blk_below GA7.out b1
  have GB8 := blk_below GB7.out b1
  have HB8 := Aside0.mk (HB7.out.trans (b1.mono HB7.out.size))
  clear b1 GA7 GB7 HB7 c0 c1 d0 d1
  have c0 := blk_cell GA8 0
  have c1 := blk_cell GA8 1
  have d0 := blk_cell GB8 0
  have d1 := blk_cell GB8 1
  clear GA8 GB8
  have hL := HL.out
  have hD := HCD.out
  have hE := HEQ.out
  generalize decide (v128 hi lo < v128 hi' lo') = L at *
  cases hq : ((hi : Int) == hi' && ((lo : Int) == lo')) with
  | true =>
    rw [hq] at hE
    go_wp2_with fail
    go_ret
    exact ⟨rfl, HB8.out⟩
  | false =>
    rw [hq] at hE
    by_cases hg : (y.size : Int) < (x.size : Int)
    · go_wp2_with fail
      go_ret
      exact ⟨rfl, HB8.out⟩
    · have hP := HPRE.out hq (by omega)
      go_wp2_with fail
      go_ret
      exact ⟨rfl, HB8.out⟩
theorem octorder_row (x0 : S29) (g0 : Good29 x0) (x1 : S29) (g1 : Good29 x1) (w : World) :
    Calls Try.prog 9 #[.agg #[.int .u64 x0.f0, .int .u64 x0.f1], .agg #[.int .u64 x1.f0, .int .u64 x1.f1]] w fun e w' => e = .returned (.bool true) ∧ Below w.heap.size w w' := by
  obtain ⟨h0, h1⟩ := g0
  obtain ⟨h2, h3⟩ := g1
  simp [Lit.wf, IntKind.min, IntKind.max, IntKind.signed, IntKind.bits] at h0 h1 h2 h3
  obtain ⟨x00, x01⟩ := x0
  obtain ⟨x10, x11⟩ := x1
  simp only at *
  obtain ⟨a, rfl⟩ := Int.eq_ofNat_of_zero_le (show 0 ≤ x00 by omega)
  obtain ⟨b, rfl⟩ := Int.eq_ofNat_of_zero_le (show 0 ≤ x01 by omega)
  obtain ⟨c, rfl⟩ := Int.eq_ofNat_of_zero_le (show 0 ≤ x10 by omega)
  obtain ⟨d, rfl⟩ := Int.eq_ofNat_of_zero_le (show 0 ≤ x11 by omega)
  exact order_walk a b c d (by omega) (by omega) (by omega) (by omega) w
end Go.Proofs.Ytdjpcogkpnemlaa.Oct
