/- PostFinds: for all rows of posts, and any author, whether rows are the same and where the author's posts are is what the reference says; the law returns true. -/
import Derived.Test.YthgiglbomgbnbaaPPfx3
import Derived.Test.YthgiglbomgbnbaaGoodsPf
namespace Go.Proofs.Ythgiglbomgbnbaa.Pure
open Go.RowKit Go.Proofs.Ythgiglbomgbnbaa.PPf Go.Proofs.YthgiglbomgbnbaaW.PrintWords Go.Proofs.YthgiglbomgbnbaaW.PrintLast Go.Proofs.YthgiglbomgbnbaaW.PrintMore
set_option linter.unusedVariables false
set_option linter.unusedSimpArgs false

theorem wrap64_in {n : Int} (h0 : -9223372036854775808 ≤ n) (h1 : n ≤ 9223372036854775807) : wrap64 n = n := by
  unfold wrap64; omega
/-- Do two posts differ? -/
def ne35 (a b : S35) : Bool := (!(a.f0 == b.f0) || (!(a.f1 == b.f1) || ((!((a.f2.f0).toList == (b.f2.f0).toList) || ((!(a.f2.f1.f0 == b.f2.f1.f0) || (!(a.f2.f1.f1 == b.f2.f1.f1))) || (!(a.f2.f2 == b.f2.f2)))) || ((!(a.f3.f0 == b.f3.f0) || (!(a.f3.f1 == b.f3.f1) || (!(a.f3.f2 == b.f3.f2) || (!(a.f3.f3 == b.f3.f3))))) || (!(a.f4 == b.f4) || (!((a.f5).toList == (b.f5).toList)))))))
theorem ne35_self (a : S35) : ne35 a a = false := by simp [ne35]
def sameFrom (x y : List S35) : Nat → Nat → Bool
  | 0, _ => true
  | d + 1, i => if ne35 (rd_T35 x i) (rd_T35 y i) = true then false else sameFrom x y d (i + 1)
theorem sameFrom_self (x : List S35) (d i : Nat) : sameFrom x x d i = true := by
  induction d generalizing i with
  | zero => rfl
  | succ d ih => rw [sameFrom, ne35_self, if_neg (by simp)]; exact ih _
theorem post_go (x y : List S35) (hx : x.length ≤ 140737488351232) (hy : x.length = y.length) (d : Nat) : ∀ (k i : Nat), i + d = x.length → d < k →
    api_Post.l0 k x y (x.length : Int) (i : Int) = some (sameFrom x y d i) := by
  induction d with
  | zero =>
    intro k i hi hk
    obtain ⟨k, rfl⟩ : ∃ m, k = m + 1 := ⟨k - 1, by omega⟩
    simp only [api_Post.l0, sameFrom]
    rw [if_neg (by omega)]
  | succ d ih =>
    intro k i hi hk
    obtain ⟨k, rfl⟩ : ∃ m, k = m + 1 := ⟨k - 1, by omega⟩
    have R := ih k (i + 1) (by omega) (by omega)
    have c1 : (i : Int) < (x.length : Int) := by omega
    have c2 : (0 : Int) ≤ (i : Int) := by omega
    have c3 : (i : Int) < (y.length : Int) := by omega
    have e : wrap64 ((i : Int) + 1) = ((i + 1 : Nat) : Int) := by rw [wrap64_in (by omega) (by omega)]; omega
    simp only [api_Post.l0, c1, c2, c3, if_true, e, R, sameFrom]
    unfold ne35
    split <;> rfl
theorem ref_go (x y : List S35) (hx : x.length ≤ 140737488351232) (hy : x.length = y.length) (d : Nat) : ∀ (k i : Nat), i + d = x.length → d < k →
    paymasterref27_Same.l0 k x y (i : Int) = some (sameFrom x y d i) := by
  induction d with
  | zero =>
    intro k i hi hk
    obtain ⟨k, rfl⟩ : ∃ m, k = m + 1 := ⟨k - 1, by omega⟩
    simp only [paymasterref27_Same.l0, sameFrom]
    rw [if_neg (by omega)]
  | succ d ih =>
    intro k i hi hk
    obtain ⟨k, rfl⟩ : ∃ m, k = m + 1 := ⟨k - 1, by omega⟩
    have R := ih k (i + 1) (by omega) (by omega)
    have c1 : (i : Int) < (x.length : Int) := by omega
    have c2 : (0 : Int) ≤ (i : Int) := by omega
    have c3 : (i : Int) < (y.length : Int) := by omega
    have e : wrap64 ((i : Int) + 1) = ((i + 1 : Nat) : Int) := by rw [wrap64_in (by omega) (by omega)]; omega
    simp only [paymasterref27_Same.l0, c1, c2, c3, if_true, e, R, sameFrom]
    unfold ne35
    split <;> rfl
/-- Both answers, alike. -/
theorem both_same (x y : List S35) (hx : x.length ≤ 140737488351232) : ∃ b, ∀ k, x.length < k → post_Same.f k x y = some b ∧ paymasterref27_Same.f k x y = some b := by
  by_cases h : x.length = y.length
  · refine ⟨sameFrom x y x.length 0, fun k hk => ?_⟩
    unfold post_Same.f api_Post.f paymasterref27_Same.f
    rw [if_pos (by omega), if_pos (by omega)]
    have a := post_go x y hx h x.length k 0 (by omega) hk
    have b := ref_go x y hx h x.length k 0 (by omega) hk
    simp only [Int.natCast_zero] at a b
    rw [a, b]
    exact ⟨rfl, rfl⟩
  · refine ⟨false, fun k hk => ?_⟩
    unfold post_Same.f api_Post.f paymasterref27_Same.f
    rw [if_neg (by omega), if_neg (by omega)]
    exact ⟨rfl, rfl⟩
theorem same_self (x : List S35) (hx : x.length ≤ 140737488351232) (k : Nat) (hk : x.length < k) : post_Same.f k x x = some true := by
  unfold post_Same.f api_Post.f
  rw [if_pos rfl]
  have a := post_go x x hx rfl x.length k 0 (by omega) hk
  simp only [Int.natCast_zero] at a
  rw [a, sameFrom_self]
  rfl
/-- The places of an author's posts from i on. -/
def posFrom (x : List S35) (a : Int) : Nat → Nat → List Int
  | 0, _ => []
  | d + 1, i => if (rd_T35 x i).f1 = a then (i : Int) :: posFrom x a d (i + 1) else posFrom x a d (i + 1)
theorem by_go (x : List S35) (a : Int) (hx : x.length ≤ 1100) (d : Nat) : ∀ (k i : Nat) (l : List Int), i + d = x.length → l.length ≤ i → d < k →
    post_By.l0 k a l x (x.length : Int) (i : Int) = some (l ++ posFrom x a d i) := by
  induction d with
  | zero =>
    intro k i l hi hl hk
    obtain ⟨k, rfl⟩ : ∃ m, k = m + 1 := ⟨k - 1, by omega⟩
    simp only [post_By.l0, posFrom, List.append_nil]
    rw [if_neg (by omega)]
  | succ d ih =>
    intro k i l hi hl hk
    obtain ⟨k, rfl⟩ : ∃ m, k = m + 1 := ⟨k - 1, by omega⟩
    have R := ih k (i + 1) l (by omega) (by omega) (by omega)
    have R2 := ih k (i + 1) (l ++ [(i : Int)]) (by omega) (by rw [List.length_append, List.length_singleton]; omega) (by omega)
    have c1 : (i : Int) < (x.length : Int) := by omega
    have c2 : (0 : Int) ≤ (i : Int) := by omega
    have c3 : l.length + [(i : Int)].length < 17592186044416 := by rw [List.length_singleton]; omega
    have e : wrap64 ((i : Int) + 1) = ((i + 1 : Nat) : Int) := by rw [wrap64_in (by omega) (by omega)]; omega
    by_cases ha : (rd_T35 x i).f1 = a
    · simp only [post_By.l0, post_places.f, c1, c2, c3, if_true, e, R2, posFrom, ha, Option.bind_some]
      rw [List.append_assoc]
      rfl
    · simp only [post_By.l0, c1, c2, if_true, if_false, e, R, posFrom, ha]
theorem law_go (x : List S35) (a : Int) (hx : x.length ≤ 1100) (d : Nat) : ∀ (k i : Nat) (l : List Int), i + d = x.length → l.length ≤ i → d < k →
    paymasterlaw27_PostFinds.l0 k x a (l ++ posFrom x a d i) (l.length : Int) (i : Int) = some true := by
  induction d with
  | zero =>
    intro k i l hi hl hk
    obtain ⟨k, rfl⟩ : ∃ m, k = m + 1 := ⟨k - 1, by omega⟩
    simp only [paymasterlaw27_PostFinds.l0, posFrom, List.append_nil]
    rw [if_neg (by omega)]
    simp
  | succ d ih =>
    intro k i l hi hl hk
    obtain ⟨k, rfl⟩ : ∃ m, k = m + 1 := ⟨k - 1, by omega⟩
    have R := ih k (i + 1) l (by omega) (by omega) (by omega)
    have R2 := ih k (i + 1) (l ++ [(i : Int)]) (by omega) (by rw [List.length_append, List.length_singleton]; omega) (by omega)
    have c1 : (i : Int) < (x.length : Int) := by omega
    have c2 : (0 : Int) ≤ (i : Int) := by omega
    have e : wrap64 ((i : Int) + 1) = ((i + 1 : Nat) : Int) := by rw [wrap64_in (by omega) (by omega)]; omega
    by_cases ha : (rd_T35 x i).f1 = a
    · have hn : ¬ (l.length : Int) ≥ ((l ++ (i : Int) :: posFrom x a d (i + 1)).length : Int) := by rw [List.length_append, List.length_cons]; omega
      have hn2 : (l.length : Int) < ((l ++ (i : Int) :: posFrom x a d (i + 1)).length : Int) := by omega
      have hn3 : (0 : Int) ≤ (l.length : Int) := by omega
      have hr : rd (l ++ (i : Int) :: posFrom x a d (i + 1)) (l.length : Int) = (i : Int) := by
        unfold rd
        rw [Int.toNat_natCast, List.getD_eq_getElem?_getD, List.getElem?_append_right (by omega), Nat.sub_self]
        rfl
      have e2 : wrap64 ((l.length : Int) + 1) = ((l.length + 1 : Nat) : Int) := by rw [wrap64_in (by omega) (by omega)]; omega
      rw [List.append_assoc, List.length_append, List.length_singleton] at R2
      simp only [paymasterlaw27_PostFinds.l0, c1, c2, if_true, e, posFrom, ha, hn, hn2, hn3, if_false, hr, e2]
      exact R2
    · simp only [paymasterlaw27_PostFinds.l0, c1, c2, if_true, if_false, e, R, posFrom, ha]
theorem long_go (x : List S35) (hx : x.length ≤ 140737488351232) (d : Nat) : ∀ (i : Nat) (n : Int), i + d = x.length → ∃ b, (b = false → x.length ≤ 1100) ∧ ∀ k, d < k → paymasterlaw27_Long.l0 k x n (i : Int) = some b := by
  induction d with
  | zero =>
    intro i n hi
    refine ⟨if (x.length : Int) > 1100 then true else decide (n > 1200000), fun h => ?_, fun k hk => ?_⟩
    · by_cases hh : (x.length : Int) > 1100
      · rw [if_pos hh] at h; cases h
      · omega
    · obtain ⟨k, rfl⟩ : ∃ m, k = m + 1 := ⟨k - 1, by omega⟩
      simp only [paymasterlaw27_Long.l0]
      rw [if_neg (by omega)]
      split <;> rfl
  | succ d ih =>
    intro i n hi
    obtain ⟨b, hb, hk2⟩ := ih (i + 1) (wrap64 (n + (((rd_T35 x i).f5).size : Int))) (by omega)
    have c1 : (i : Int) < (x.length : Int) := by omega
    have c2 : (0 : Int) ≤ (i : Int) := by omega
    have e : wrap64 ((i : Int) + 1) = ((i + 1 : Nat) : Int) := by rw [wrap64_in (by omega) (by omega)]; omega
    by_cases hs : (((rd_T35 x i).f2.f0).size : Int) > 100
    · refine ⟨true, fun h => (by cases h), fun k hk => ?_⟩
      obtain ⟨k, rfl⟩ : ∃ m, k = m + 1 := ⟨k - 1, by omega⟩
      simp only [paymasterlaw27_Long.l0, c1, c2, hs, if_true]
    · refine ⟨b, hb, fun k hk => ?_⟩
      obtain ⟨k, rfl⟩ : ∃ m, k = m + 1 := ⟨k - 1, by omega⟩
      have R := hk2 k (by omega)
      simp only [paymasterlaw27_Long.l0, c1, c2, hs, if_true, if_false, e, R]
theorem long_some (x : List S35) (hx : x.length ≤ 140737488351232) : ∃ b, (b = false → x.length ≤ 1100) ∧ ∀ k, x.length < k → paymasterlaw27_Long.f k x = some b := by
  obtain ⟨b, hb, h⟩ := long_go x hx x.length 0 0 (by omega)
  simp only [Int.natCast_zero] at h
  exact ⟨b, hb, h⟩
theorem len_of {l : List S35} (b : l.length * Try.prog.bytesOf 35 ≤ 140737488351232) : l.length ≤ 140737488351232 := by
  have e : 1 ≤ Try.prog.bytesOf 35 := by
    have h : Try.prog.bytesOf 35 = 112 := by kernel_rfl
    omega
  exact Nat.le_trans (Nat.le_mul_of_pos_right _ e) b
theorem PostFinds_pure (l : List S35) (g : ∀ y ∈ l, Good35 y) (b : l.length * Try.prog.bytesOf 35 ≤ 140737488351232) (m : List S35) (g2 : ∀ y ∈ m, Good35 y) (b2 : m.length * Try.prog.bytesOf 35 ≤ 140737488351232) (a : Int) (wa : (Lit.int .i64 a).wf = true) :
    ∃ k, paymasterlaw27_PostFinds.f k l m a = some true := by
  have hl := len_of b
  have hm := len_of b2
  obtain ⟨b1, hb1, L1⟩ := long_some l hl
  obtain ⟨b2', hb2, L2⟩ := long_some m hm
  obtain ⟨q, hq⟩ := both_same l m hl
  refine ⟨l.length + m.length + 9, ?_⟩
  unfold paymasterlaw27_PostFinds.f
  rw [L1 _ (by omega)]
  simp only [Option.bind_some]
  cases b1 with
  | true => rfl
  | false =>
    rw [if_neg (by simp), L2 _ (by omega)]
    simp only [Option.bind_some]
    cases b2' with
    | true => rfl
    | false =>
      have hs := hq (l.length + m.length + 8) (by omega)
      have hself := same_self l hl (l.length + m.length + 8) (by omega)
      have hby := by_go l a (hb1 rfl) l.length (l.length + m.length + 7) 0 [] (by omega) (by simp) (by omega)
      have hlaw := law_go l a (hb1 rfl) l.length (l.length + m.length + 7) 0 [] (by omega) (by simp) (by omega)
      simp only [Int.natCast_zero, List.nil_append, List.length_nil] at hby hlaw
      simp only [paymasterlaw27_PostFinds.j0, paymasterlaw27_PostFinds.j1, hs.1, hs.2, hself, Option.bind_some, bne_self_eq_false, Bool.false_eq_true, if_false, Bool.not_true, post_By.f, hby, hlaw]
end Go.Proofs.Ythgiglbomgbnbaa.Pure
