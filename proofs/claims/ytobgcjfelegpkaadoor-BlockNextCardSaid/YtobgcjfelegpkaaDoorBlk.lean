/- Texts of this session, put together: BlkA, BlkB, BlkC. -/
import Derived.Test.YtobgcjfelegpkaaDoorWords
import Derived.Test.YtobgcjfelegpkaaDoorGivA
import Derived.Deep.QuietTactic
import Derived.BigQuiet
import Derived.WalkKit
import Derived.StillTailTactics
import Derived.Deep.LoopGhost
import Derived.RegionTactic
import Derived.ChangeAlike
import Derived.BigRegion
import Derived.Test.YtobgcjfelegpkaaDoorSpA
import Derived.Test.YtobgcjfelegpkaaDoorTl
section
/- Contracts of the program's rounds: block.Round and block.Unround as the plain functions rnd and unrnd on eight 32-bit words. -/
namespace Go.Proofs.YtobgcjfelegpkaaDoor.Blk
open Go.RowKit Go.Proofs.YtobgcjfelegpkaaDoor.PBw Go.Proofs.YtobgcjfelegpkaaDoor.GivA Go.Proofs.YtobgcjfelegpkaaDoorW.PrintWords Go.Proofs.YtobgcjfelegpkaaDoorW.PrintLast Go.Proofs.YtobgcjfelegpkaaDoorW.PrintMore Go.Proofs.Sp Go.Proofs.YtobgcjfelegpkaaDoor.Pure
set_option linter.unusedVariables false
set_option linter.unusedSimpArgs false

theorem bits_not (x : W32) : Go.bits .xor .u32 4294967295 (wd x) = wd (~~~x) := by
  have h := bits_xor (BitVec.allOnes 32) x
  rw [BitVec.allOnes_xor] at h
  have e : wd (BitVec.allOnes 32) = 4294967295 := by
    unfold wd
    rw [BitVec.toNat_allOnes]
    omega
  rw [e] at h
  exact h
theorem sum3 (a b c : W32) : (wd a + wd b + wd c) % 4294967296 = wd (a + b + c) := by
  rw [← wd_add (a + b) c, ← wd_add a b, Int.emod_add_emod]
theorem sum4 (a b c d : W32) : (wd a + wd b + wd c + wd d) % 4294967296 = wd (a + b + c + d) := by
  rw [← wd_add (a + b + c) d, ← sum3, Int.emod_add_emod]
theorem sum5 (a b c d e : W32) : (wd a + wd b + wd c + wd d + wd e) % 4294967296 = wd (a + b + c + d + e) := by
  rw [← wd_add (a + b + c + d) e, ← sum4, Int.emod_add_emod]
theorem sum1_4 (z a b c d : W32) : (wd z + (wd a + wd b + wd c + wd d)) % 4294967296 = wd (z + (a + b + c + d)) := by
  rw [← wd_add z, ← sum4, Int.add_emod_emod]
theorem parts_some (e f g a b c : W32) : block_parts.f (wd e) (wd f) (wd g) (wd a) (wd b) (wd c) = some (wd (bs1 e + ch e f g), wd (bs0 a + maj a b c)) := by
  have r6 : ∀ x, block_right.f (wd x) 6 = some (wd (x.rotateRight 6)) := fun x => right_some x 6 6 rfl (by decide) (by decide)
  have r11 : ∀ x, block_right.f (wd x) 11 = some (wd (x.rotateRight 11)) := fun x => right_some x 11 11 rfl (by decide) (by decide)
  have r25 : ∀ x, block_right.f (wd x) 25 = some (wd (x.rotateRight 25)) := fun x => right_some x 25 25 rfl (by decide) (by decide)
  have r2 : ∀ x, block_right.f (wd x) 2 = some (wd (x.rotateRight 2)) := fun x => right_some x 2 2 rfl (by decide) (by decide)
  have r13 : ∀ x, block_right.f (wd x) 13 = some (wd (x.rotateRight 13)) := fun x => right_some x 13 13 rfl (by decide) (by decide)
  have r22 : ∀ x, block_right.f (wd x) 22 = some (wd (x.rotateRight 22)) := fun x => right_some x 22 22 rfl (by decide) (by decide)
  simp only [block_parts.f, r6, r11, r25, r2, r13, r22, Option.bind_some, bits_not, bits_and, bits_xor, wd_add, bs0, bs1, ch, maj]

/-- A state as the machine holds it. -/
def stv (s : St) : Value := .agg #[.int .u32 (wd s.a), .int .u32 (wd s.b), .int .u32 (wd s.c), .int .u32 (wd s.d), .int .u32 (wd s.e), .int .u32 (wd s.f), .int .u32 (wd s.g), .int .u32 (wd s.h)]
/-- A round's constant as a word. -/
def kw (k : Int) : W32 := BitVec.ofInt 32 (kAt k)
set_option maxRecDepth 10000 in
theorem kTab_range : ∀ k : Nat, k < 64 → 0 ≤ kTab.getD k 0 ∧ kTab.getD k 0 < 4294967296 := by decide
theorem kAt_range (k : Int) : 0 ≤ kAt k ∧ kAt k < 4294967296 := by
  unfold kAt
  split
  · omega
  · split
    · omega
    · exact kTab_range k.toNat (by omega)
theorem wd_kw (k : Int) : wd (kw k) = kAt k := by
  have h := kAt_range k
  unfold kw wd
  rw [BitVec.toNat_ofInt]
  have : ((2 ^ 32 : Nat) : Int) = 4294967296 := by decide
  rw [this]
  omega

theorem parts_calls (e f g a b c : W32) (w : World) : Calls Tryd.prog 81 #[.int .u32 (wd e), .int .u32 (wd f), .int .u32 (wd g), .int .u32 (wd a), .int .u32 (wd b), .int .u32 (wd c)] w
    fun e' w' => e' = .returned (.tuple #[.int .u32 (wd (bs1 e + ch e f g)), .int .u32 (wd (bs0 a + maj a b c))]) ∧ ∃ n, w' = w.drewN n := by
  refine (block_parts.calls _ _ _ _ _ _ _ _ w (parts_some e f g a b c)).mono ?_
  rintro e' w' ⟨rfl, hd⟩
  exact ⟨rfl, hd.out⟩

set_option maxHeartbeats 1000000 in
set_option maxRecDepth 100000 in
theorem round_calls (s : St) (k : Int) (x : W32) (w : World) (hT : Tab w) :
    Calls Tryd.prog 23 #[stv s, .int .i64 k, .int .u32 (wd x)] w fun e w' => e = .returned (stv (rnd s (kw k) x)) ∧ Below w.heap.size w w' := by
  have HT := Aside0.mk hT
  clear hT
  have H1 := Aside0.mk (wd_kw k)
  unfold stv
  go_enter Tryd.func23, Tryd.ntmps23
  go_wp2_with fail
  go_quiet (fail)
  go_wp2_with fail
  refine (parts_calls _ _ _ _ _ _ _).mono ?_
  rintro e w' ⟨rfl, n1, rfl⟩
  go_wp2_with fail
  refine (constant_same k _ (HT.out.keep (by (with_reducible repeat (first | exact Below.refl _ _ | apply below_alloc | apply pw_below_drewN | apply below_drew))))).mono ?_
  rintro e w' ⟨rfl, rfl⟩
  rw [← H1.out]
  go_wp2_with fail
  refine bodyPost_ret (v := .agg #[.int .u32 ((wd s.h + wd (bs1 s.e + ch s.e s.f s.g) + wd (kw k) + wd x + wd (bs0 s.a + maj s.a s.b s.c)) % 4294967296), .int .u32 (wd s.a), .int .u32 (wd s.b), .int .u32 (wd s.c), .int .u32 ((wd s.d + (wd s.h + wd (bs1 s.e + ch s.e s.f s.g) + wd (kw k) + wd x)) % 4294967296), .int .u32 (wd s.e), .int .u32 (wd s.f), .int .u32 (wd s.g)]) (by simp [results, Tryd.results23, go_sem]) rfl ⟨?_, ?_⟩
  · rw [sum5, sum1_4]
    rfl
  · (with_reducible repeat (first | exact Below.refl _ _ | refine Below.setCell ?_ (Nat.le_succ _) _ | apply below_alloc | apply pw_below_drewN | apply below_drew))

theorem still_tail {P : Program} {id : Nat} {Q : Exit → Act → World → Prop} {a : Act} {w : World} {l : List Oper} (n : Nat) (hm : P.follows .mixedOrders = true) (hB : Region.lexTailB .any l.toArray n = true)
    (h : wpStill P l.toArray w.drew (fun a' => wpList P l.toArray Q (l.drop n) a' w.drew) (l.take n) a) : (Code.region id l.toArray true).wp P Q a w := wp_region_still_tail n hm hB h
theorem constant_still (a0 : Int) (w : World) (hT : Tab w) :
    Calls Tryd.prog 25 #[.int .i64 a0] w fun e w' => e = .returned (.int .u32 (wd (kw a0))) ∧ w' = w := by
  refine (constant_same a0 w hT).mono ?_
  rintro e w' ⟨rfl, rfl⟩
  rw [wd_kw]
  exact ⟨rfl, rfl⟩
set_option maxHeartbeats 1000000 in
set_option maxRecDepth 100000 in
theorem unround_calls (s : St) (k : Int) (x : W32) (w : World) (hT : Tab w) :
    Calls Tryd.prog 24 #[stv s, .int .i64 k, .int .u32 (wd x)] w fun e w' => e = .returned (stv (unrnd s (kw k) x)) ∧ Below w.heap.size w w' := by
  have HT := Aside0.mk hT
  clear hT
  unfold stv
  go_enter Tryd.func24, Tryd.ntmps24
  go_wp2_with fail
  go_quiet (fail)
  go_wp2_with fail
  refine (parts_calls _ _ _ _ _ _ _).mono ?_
  rintro e w' ⟨rfl, n1, rfl⟩
  go_wp2_with fail
  refine still_tail 19 (by kernel_rfl) (by kernel_rfl) ?_
  simp only [List.take_succ_cons, List.take_zero, List.drop_succ_cons, List.drop_zero]
  iterate 14 still_step
  still_call (constant_still k _ (HT.out.keep (by (with_reducible repeat (first | exact Below.refl _ _ | apply below_alloc | apply pw_below_drewN | apply below_drew)))))
  iterate 4 still_step
  refine wpStill_nil ?_
  go_wp2_with fail
  refine bodyPost_ret (v := .agg #[.int .u32 (wd s.b), .int .u32 (wd s.c), .int .u32 (wd s.d), .int .u32 ((wd s.e - (wd s.a - wd (bs0 s.b + maj s.b s.c s.d)) % 4294967296) % 4294967296), .int .u32 (wd s.f), .int .u32 (wd s.g), .int .u32 (wd s.h),
    .int .u32 (((((wd s.a - wd (bs0 s.b + maj s.b s.c s.d)) % 4294967296 - wd (bs1 s.f + ch s.f s.g s.h)) % 4294967296 - wd (kw k)) % 4294967296 - wd x) % 4294967296)]) (by simp [results, Tryd.results24, go_sem]) rfl ⟨?_, ?_⟩
  · simp only [wd_sub]
    rfl
  · (with_reducible repeat (first | exact Below.refl _ _ | refine Below.setCell ?_ (Nat.le_succ _) _ | apply below_alloc | apply pw_below_drewN | apply below_drew))
end Go.Proofs.YtobgcjfelegpkaaDoor.Blk
end
section
/- The contract of block.Next: what comes of a state by a block of 64 bytes, as the plain function next; or the error for any other text. -/
namespace Go.Proofs.YtobgcjfelegpkaaDoor.Blk
open Go.RowKit Go.Proofs.YtobgcjfelegpkaaDoor.PBw Go.Proofs.YtobgcjfelegpkaaDoor.GivA Go.Proofs.YtobgcjfelegpkaaDoorW.PrintWords Go.Proofs.YtobgcjfelegpkaaDoorW.PrintLast Go.Proofs.YtobgcjfelegpkaaDoorW.PrintMore Go.Proofs.Sp Go.Proofs.YtobgcjfelegpkaaDoor.Pure
set_option linter.unusedVariables false
set_option linter.unusedSimpArgs false

/-- The rounds' constants as words. -/
def kws (t : Nat) : W32 := kw (t : Int)
def runs (w : List W32) (s : St) : Nat → St
  | 0 => s
  | t + 1 => rnd (runs w s t) (kws t) (w.getD t 0)
def next (s : St) (b : List UInt8) : St := addSt (runs (words b) s 64) s
def stc (s : St) : Array Value := #[.int .u32 (wd s.a), .int .u32 (wd s.b), .int .u32 (wd s.c), .int .u32 (wd s.d), .int .u32 (wd s.e), .int .u32 (wd s.f), .int .u32 (wd s.g), .int .u32 (wd s.h)]

theorem words_calls (b : ByteArray) (h : b.size = 64) (w : World) : Calls Tryd.prog 36 #[.string b] w fun e w' => ∃ A c, e = .returned (.tuple #[.slice (some A) 64 c, .int .i64 0]) ∧ A.spot = none ∧ A.block < w'.heap.size ∧
    (∀ (t : Nat), t < 64 → w'.cell? ⟨A.block, A.off + t, none⟩ = some (.int .u32 (wd ((words b.data.toList).getD t 0)))) ∧ Below w.heap.size w w' := by
  have hf := words_some b h 65 (by decide)
  have hl : (words b.data.toList).length = 64 := sched_length _ 64
  generalize words b.data.toList = ws at hf hl ⊢
  refine (block_Words.calls 65 b _ _ w hf).mono ?_
  rintro e w' ⟨v, rfl, hR, hB⟩
  have hl : (ws.map wd).length = 64 := by rw [List.length_map, hl]
  obtain ⟨A, c, rfl, _, hC⟩ := Kd.R_reads hR
  rw [hl] at hC ⊢
  obtain ⟨ad, rfl, h0⟩ := Kd.at_int hC 0 (by decide) (by decide)
  have hspot : ad.spot = none := World.cell?_spot (by simpa [Addr.add] using h0)
  obtain ⟨B, o, sp⟩ := ad
  obtain rfl : sp = none := hspot
  refine ⟨_, c, rfl, rfl, World.block_lt_of_cell? w' _ (by simpa [Addr.add] using h0), fun t ht => ?_, hB⟩
  obtain ⟨ad2, e2, h2⟩ := Kd.at_int hC (t : Int) (by omega) (by omega)
  obtain rfl := Option.some.inj e2
  rw [Int.toNat_natCast, rd_map] at h2
  rw [← h2]
  congr 1
  unfold Addr.add
  split <;> simp_all

theorem stc_cell {W : World} {B : Nat} {s : St} (h : W.heap[B]? = some (.cells (stc s) 24 (0, 0))) :
    ∀ j, W.cell? ⟨B, j, none⟩ = #[Value.int .u32 (wd s.a), .int .u32 (wd s.b), .int .u32 (wd s.c), .int .u32 (wd s.d), .int .u32 (wd s.e), .int .u32 (wd s.f), .int .u32 (wd s.g), .int .u32 (wd s.h)][j]? := fun j => blk_cell h j
theorem stc_free {W : World} {B : Nat} {s : St} (h : W.heap[B]? = some (.cells (stc s) 24 (0, 0))) : ∀ j, W.frozen? ⟨B, j, none⟩ = false := fun j => blk_frozen h j
def St.at (s : St) : Nat → W32
  | 0 => s.a
  | 1 => s.b
  | 2 => s.c
  | 3 => s.d
  | 4 => s.e
  | 5 => s.f
  | 6 => s.g
  | _ => s.h
theorem stc_at {W : World} {B : Nat} {s : St} (h : W.heap[B]? = some (.cells (stc s) 24 (0, 0))) (t : Nat) (ht : t < 8) : W.cell? ⟨B, t, none⟩ = some (.int .u32 (wd (St.at s t))) := by
  rw [blk_cell h t]
  match t, ht with
  | 0, _ => rfl
  | 1, _ => rfl
  | 2, _ => rfl
  | 3, _ => rfl
  | 4, _ => rfl
  | 5, _ => rfl
  | 6, _ => rfl
  | 7, _ => rfl
/-- The first t words summed. -/
def mixSt (o s : St) (t : Nat) : St := ⟨if 0 < t then o.a + s.a else o.a, if 1 < t then o.b + s.b else o.b, if 2 < t then o.c + s.c else o.c, if 3 < t then o.d + s.d else o.d,
  if 4 < t then o.e + s.e else o.e, if 5 < t then o.f + s.f else o.f, if 6 < t then o.g + s.g else o.g, if 7 < t then o.h + s.h else o.h⟩
theorem mixSt_at (o s : St) (t : Nat) (ht : t < 8) : St.at (mixSt o s t) t = St.at o t := by
  match t, ht with
  | 0, _ => rfl
  | 1, _ => rfl
  | 2, _ => rfl
  | 3, _ => rfl
  | 4, _ => rfl
  | 5, _ => rfl
  | 6, _ => rfl
  | 7, _ => rfl
theorem mixSt_set (o s : St) (t : Nat) (ht : t < 8) : (stc (mixSt o s t)).setIfInBounds t (.int .u32 (wd (St.at o t + St.at s t))) = stc (mixSt o s (t + 1)) := by
  match t, ht with
  | 0, _ => rfl
  | 1, _ => rfl
  | 2, _ => rfl
  | 3, _ => rfl
  | 4, _ => rfl
  | 5, _ => rfl
  | 6, _ => rfl
  | 7, _ => rfl

theorem put8g {W : World} {B T : Nat} (v0 v1 v2 v3 v4 v5 v6 v7 u0 u1 u2 u3 u4 u5 u6 u7 : Value) (h : W.heap[B]? = some (.cells #[u0, u1, u2, u3, u4, u5, u6, u7] T (0, 0))) :
    ((((((((W.setCell ⟨B, 0, none⟩ v0).setCell ⟨B, 1, none⟩ v1).setCell ⟨B, 2, none⟩ v2).setCell ⟨B, 3, none⟩ v3).setCell ⟨B, 4, none⟩ v4).setCell ⟨B, 5, none⟩ v5).setCell ⟨B, 6, none⟩ v6).setCell ⟨B, 7, none⟩ v7).heap[B]? = some (.cells #[v0, v1, v2, v3, v4, v5, v6, v7] T (0, 0)) := by
  have h1 : (W.setCell ⟨B, 0, none⟩ v0).heap[B]? = some (.cells #[v0, u1, u2, u3, u4, u5, u6, u7] T (0, 0)) := blk_put h 0 v0 rfl
  have h2 : ((W.setCell ⟨B, 0, none⟩ v0).setCell ⟨B, 1, none⟩ v1).heap[B]? = some (.cells #[v0, v1, u2, u3, u4, u5, u6, u7] T (0, 0)) := blk_put h1 1 v1 rfl
  have h3 : (((W.setCell ⟨B, 0, none⟩ v0).setCell ⟨B, 1, none⟩ v1).setCell ⟨B, 2, none⟩ v2).heap[B]? = some (.cells #[v0, v1, v2, u3, u4, u5, u6, u7] T (0, 0)) := blk_put h2 2 v2 rfl
  have h4 : ((((W.setCell ⟨B, 0, none⟩ v0).setCell ⟨B, 1, none⟩ v1).setCell ⟨B, 2, none⟩ v2).setCell ⟨B, 3, none⟩ v3).heap[B]? = some (.cells #[v0, v1, v2, v3, u4, u5, u6, u7] T (0, 0)) := blk_put h3 3 v3 rfl
  have h5 : (((((W.setCell ⟨B, 0, none⟩ v0).setCell ⟨B, 1, none⟩ v1).setCell ⟨B, 2, none⟩ v2).setCell ⟨B, 3, none⟩ v3).setCell ⟨B, 4, none⟩ v4).heap[B]? = some (.cells #[v0, v1, v2, v3, v4, u5, u6, u7] T (0, 0)) := blk_put h4 4 v4 rfl
  have h6 : ((((((W.setCell ⟨B, 0, none⟩ v0).setCell ⟨B, 1, none⟩ v1).setCell ⟨B, 2, none⟩ v2).setCell ⟨B, 3, none⟩ v3).setCell ⟨B, 4, none⟩ v4).setCell ⟨B, 5, none⟩ v5).heap[B]? = some (.cells #[v0, v1, v2, v3, v4, v5, u6, u7] T (0, 0)) := blk_put h5 5 v5 rfl
  have h7 : (((((((W.setCell ⟨B, 0, none⟩ v0).setCell ⟨B, 1, none⟩ v1).setCell ⟨B, 2, none⟩ v2).setCell ⟨B, 3, none⟩ v3).setCell ⟨B, 4, none⟩ v4).setCell ⟨B, 5, none⟩ v5).setCell ⟨B, 6, none⟩ v6).heap[B]? = some (.cells #[v0, v1, v2, v3, v4, v5, v6, u7] T (0, 0)) := blk_put h6 6 v6 rfl
  have h8 : ((((((((W.setCell ⟨B, 0, none⟩ v0).setCell ⟨B, 1, none⟩ v1).setCell ⟨B, 2, none⟩ v2).setCell ⟨B, 3, none⟩ v3).setCell ⟨B, 4, none⟩ v4).setCell ⟨B, 5, none⟩ v5).setCell ⟨B, 6, none⟩ v6).setCell ⟨B, 7, none⟩ v7).heap[B]? = some (.cells #[v0, v1, v2, v3, v4, v5, v6, v7] T (0, 0)) := blk_put h7 7 v7 rfl
  exact h8
theorem put8 {W : World} {B : Nat} {s : St} (n : St) (h : W.heap[B]? = some (.cells (stc s) 24 (0, 0))) :
    ((((((((W.setCell ⟨B, 0, none⟩ (.int .u32 (wd n.a))).setCell ⟨B, 1, none⟩ (.int .u32 (wd n.b))).setCell ⟨B, 2, none⟩ (.int .u32 (wd n.c))).setCell ⟨B, 3, none⟩ (.int .u32 (wd n.d))).setCell ⟨B, 4, none⟩ (.int .u32 (wd n.e))).setCell ⟨B, 5, none⟩ (.int .u32 (wd n.f))).setCell ⟨B, 6, none⟩ (.int .u32 (wd n.g))).setCell ⟨B, 7, none⟩ (.int .u32 (wd n.h))).heap[B]? = some (.cells (stc n) 24 (0, 0)) :=
  put8g _ _ _ _ _ _ _ _ _ _ _ _ _ _ _ _ h
theorem below8 {w W : World} {N B : Nat} (n : St) (h : Below N w W) (hB : N ≤ B) : Below N w ((((((((W.setCell ⟨B, 0, none⟩ (.int .u32 (wd n.a))).setCell ⟨B, 1, none⟩ (.int .u32 (wd n.b))).setCell ⟨B, 2, none⟩ (.int .u32 (wd n.c))).setCell ⟨B, 3, none⟩ (.int .u32 (wd n.d))).setCell ⟨B, 4, none⟩ (.int .u32 (wd n.e))).setCell ⟨B, 5, none⟩ (.int .u32 (wd n.f))).setCell ⟨B, 6, none⟩ (.int .u32 (wd n.g))).setCell ⟨B, 7, none⟩ (.int .u32 (wd n.h))) :=
  (((((((h.setCell (p := ⟨B, 0, none⟩) hB _).setCell (p := ⟨B, 1, none⟩) hB _).setCell (p := ⟨B, 2, none⟩) hB _).setCell (p := ⟨B, 3, none⟩) hB _).setCell (p := ⟨B, 4, none⟩) hB _).setCell (p := ⟨B, 5, none⟩) hB _).setCell (p := ⟨B, 6, none⟩) hB _).setCell (p := ⟨B, 7, none⟩) hB _
theorem weaken_two {w w1 : World} {o1 o2 : Obj} (h : Below ((w.alloc o1).alloc o2).heap.size ((w.alloc o1).alloc o2) w1) (_ : True) : Below w.heap.size w w1 :=
  (below_alloc (below_alloc (Below.refl _ _) o1) o2).trans (h.mono (by simp; omega))
set_option maxHeartbeats 2000000 in
set_option maxRecDepth 100000 in
theorem next_calls (s : St) (b : ByteArray) (h64 : b.size = 64) (w : World) (hT : Tab w) :
    Calls Tryd.prog 30 #[stv s, .string b] w fun e w' => e = .returned (.tuple #[stv (next s b.data.toList), .int .i64 0]) ∧ Below w.heap.size w w' := by
  have HT := Aside0.mk hT
  clear hT
  have Hw := Aside0.mk (fun W => words_calls b h64 W)
  clear h64
  unfold stv
  go_enter Tryd.func30, Tryd.ntmps30
  go_wp2_with fail
  refine (Hw.out _).mono ?_
  rintro e w1 ⟨A, c, rfl, hsp, hA, hcell, hB⟩
  obtain ⟨BA, oA, sp⟩ := A
  obtain rfl : sp = none := hsp
  simp only at hA
  have HC := Aside0.mk hcell
  have HB3 := Aside0.mk (weaken_two hB trivial)
  have HT1 := Aside0.mk (HT.out.keep (weaken_two hB trivial))
  clear hcell
  have HB := Aside0.mk hB
  have b0 : w1.heap[w.heap.size]? = some (.cells (stc s) 24 (0, 0)) := blk_below (blk_alloc (blk_new w _) _) hB
  have b1 : w1.heap[w.heap.size + 1]? = some (.cells (stc zeroSt) 24 (0, 0)) := by
    refine blk_below ?_ hB
    have := blk_new (w.alloc (.cells (stc s) 24)) (.cells (stc zeroSt) 24)
    rw [World.size_alloc] at this
    exact this
  have hsz : w.heap.size + 2 ≤ w1.heap.size := by have := hB.size; simpa using this
  clear hB
  have hc := stc_cell b0
  have HB0 := Aside0.mk b0
  have HB1 := Aside0.mk b1
  clear b0 b1
  go_wp2_with fail
  have g0 : (w1.alloc (.cells (stc s) 24)).heap[w1.heap.size]? = some (.cells (stc (runs (words b.data.toList) s 0)) 24 (0, 0)) := blk_new w1 _
  have G0 := Aside0.mk g0
  clear g0 hc
  go_loopg [24] 64 (fun k i wr => ∃ t : Nat, t + k = 64 ∧ i = .int .i64 t ∧ wr.heap[w1.heap.size]? = some (.cells (stc (runs (words b.data.toList) s t)) 24 (0, 0)) ∧ Below w1.heap.size w1 wr)
  case atStart => exact ⟨0, rfl, rfl, G0.out, (Below.refl _ _).alloc (Nat.le_refl _) _⟩
  case round =>
    obtain ⟨t, ht, rfl, hb, hx⟩ := hrel
    have hc := stc_cell hb
    have HX := Aside0.mk hx
    have HE := Aside0.mk hb
    clear hb
    by_cases hlt : t < 64
    · have hcx : wr.cell? ⟨BA, oA + t, none⟩ = some (.int .u32 (wd ((words b.data.toList).getD t 0))) := (hx.cell hA).trans (HC.out t hlt)
      clear hx
      have T2 := Aside0.mk (HT1.out.keep HX.out)
      generalize hcur : runs (words b.data.toList) s t = cur at *
      generalize hxw : (words b.data.toList).getD t 0 = xw at *
      have Hcur := Aside0.mk hcur
      have Hxw := Aside0.mk hxw
      clear hcur hxw
      go_wp2_with fail
      refine (round_calls cur t xw _ T2.out).mono ?_
      rintro e w2 ⟨rfl, hb2⟩
      have hE2 := blk_below HE.out hb2
      have hc2 := stc_cell hE2
      have hf2 := stc_free hE2
      have HB2 := Aside0.mk hb2
      have HE2 := Aside0.mk hE2
      clear hb2 hE2 hc
      simp only [stv]
      go_wp2_with fail
      go_roundg (gk - 1)
      case measure => omega
      case rel =>
        refine ⟨t + 1, by omega, by go_num, ?_, ?_⟩
        · have e : rnd cur (kw (t : Int)) xw = runs (words b.data.toList) s (t + 1) := by rw [runs, Hcur.out, Hxw.out]; rfl
          rw [← e]
          exact put8 _ HE2.out
        · exact below8 _ (HX.out.trans (HB2.out.mono HX.out.size)) (Nat.le_refl _)
    · obtain rfl : t = 64 := by omega
      have b0' := Aside0.mk (blk_below HB0.out HX.out)
      have b1' := Aside0.mk (blk_below HB1.out HX.out)
      generalize hcur : runs (words b.data.toList) s 64 = cur at *
      have Hcur := Aside0.mk hcur
      clear hcur hlt hc
      have G1 := Aside0.mk (show wr.heap[w1.heap.size]? = some (.cells (stc (mixSt cur s 0)) 24 (0, 0)) from HE.out)
      go_wp2_with fail
      go_loopg [34] 8 (fun k i wq => ∃ t : Nat, t + k = 8 ∧ i = .int .i64 t ∧ wq.heap[w1.heap.size]? = some (.cells (stc (mixSt cur s t)) 24 (0, 0)) ∧ Below w1.heap.size w1 wq)
      case atStart => exact ⟨0, rfl, rfl, G1.out, HX.out⟩
      case round =>
        obtain ⟨t, ht, rfl, hb, hx⟩ := hrel
        have HX2 := Aside0.mk hx
        have HE2 := Aside0.mk hb
        have bs := blk_below HB0.out hx
        have br := blk_below HB1.out hx
        by_cases hlt : t < 8
        · have c1 := stc_at hb t hlt
          rw [mixSt_at _ _ _ hlt] at c1
          have c2 := stc_at bs t hlt
          have f1 := stc_free hb t
          generalize hp : St.at cur t = p at *
          generalize hq : St.at s t = q at *
          have Hp := Aside0.mk hp
          have Hq := Aside0.mk hq
          have l1 : (t : Int) < 8 := by omega
          clear hb hx bs br hp hq
          go_wp2_with fail
          go_region
          all_goals
            go_wp2_with fail
            go_roundg (gk - 1)
            case measure => omega
            case rel =>
              refine ⟨t + 1, by omega, by go_num, ?_, ?_⟩
              · refine blk_drew ?_
                rw [wd_add, ← Hp.out, ← Hq.out]
                exact blk_put HE2.out t _ (mixSt_set _ _ _ hlt)
              · exact (HX2.out.setCell (p := ⟨w1.heap.size, t, none⟩) (Nat.le_refl _) _).drew
        · obtain rfl : t = 8 := by omega
          have c1 := stc_cell hb
          have c2 := stc_cell br
          have f2 := stc_free br
          have e8 : mixSt cur s 8 = next s b.data.toList := by rw [← Hcur.out]; rfl
          rw [e8] at c1
          generalize hnx : next s b.data.toList = nx at *
          have Hnx := Aside0.mk hnx
          have HBR := Aside0.mk br
          clear hb hx bs br hlt hnx e8
          go_wp2_with fail
          refine bodyPost_ret (v := .tuple #[stv nx, .int .i64 0]) (by unfold stv; simp [results, Tryd.results30, go_sem, c2]) rfl ⟨by rw [← Hnx.out]; rfl, ?_⟩
          exact below8 nx (HB3.out.trans (HX2.out.mono (by omega))) (by omega)

theorem words_none (b : ByteArray) (h : ¬ b.size = 64) (w : World) : Calls Tryd.prog 36 #[.string b] w fun e w' => ∃ A c, e = .returned (.tuple #[.slice A 0 c, .int .i64 2]) ∧ Below w.heap.size w w' := by
  refine (block_Words.calls 1 b [] 2 w (by unfold block_Words.f; rw [if_neg (by omega)])).mono ?_
  rintro e w' ⟨v, rfl, hR, hB⟩
  obtain ⟨A, c, rfl, _, hC⟩ := Kd.R_reads hR
  exact ⟨A, c, rfl, hB⟩
set_option maxHeartbeats 2000000 in
set_option maxRecDepth 100000 in
theorem next_none (s : St) (b : ByteArray) (h64 : ¬ b.size = 64) (w : World) :
    Calls Tryd.prog 30 #[stv s, .string b] w fun e w' => e = .returned (.tuple #[stv zeroSt, .int .i64 2]) ∧ Below w.heap.size w w' := by
  have Hw := Aside0.mk (fun W => words_none b h64 W)
  clear h64
  unfold stv
  go_enter Tryd.func30, Tryd.ntmps30
  go_wp2_with fail
  refine (Hw.out _).mono ?_
  rintro e w1 ⟨A, c, rfl, hB⟩
  have HB := Aside0.mk (weaken_two hB trivial)
  have hsz : w.heap.size + 2 ≤ w1.heap.size := by have := hB.size; simpa using this
  have b1 : w1.heap[w.heap.size + 1]? = some (.cells (stc zeroSt) 24 (0, 0)) := by
    refine blk_below ?_ hB
    have := blk_new (w.alloc (.cells (stc s) 24)) (.cells (stc zeroSt) 24)
    rw [World.size_alloc] at this
    exact this
  have hc := stc_cell b1
  have hf := stc_free b1
  clear hB b1
  go_wp2_with fail
  refine bodyPost_ret (v := .tuple #[stv zeroSt, .int .i64 2]) (by unfold stv; simp [results, Tryd.results30, go_sem, hc]; exact ⟨rfl, rfl, rfl, rfl, rfl, rfl, rfl, rfl⟩) rfl ⟨rfl, ?_⟩
  exact below8 zeroSt HB.out (by omega)
end Go.Proofs.YtobgcjfelegpkaaDoor.Blk
end
section
/- Contracts of the reference's rounds: Turned as the plain function rnd on eight 32-bit words. -/
namespace Go.Proofs.YtobgcjfelegpkaaDoor.Blk
open Go.RowKit Go.Proofs.YtobgcjfelegpkaaDoor.PBw Go.Proofs.YtobgcjfelegpkaaDoor.GivA Go.Proofs.YtobgcjfelegpkaaDoorW.PrintWords Go.Proofs.YtobgcjfelegpkaaDoorW.PrintLast Go.Proofs.YtobgcjfelegpkaaDoorW.PrintMore Go.Proofs.Sp Go.Proofs.YtobgcjfelegpkaaDoor.Pure
set_option linter.unusedVariables false
set_option linter.unusedSimpArgs false

theorem sumT (a b c d e : W32) : ((wd a + wd b + wd c + wd d) % 4294967296 + wd e) % 4294967296 = wd (a + b + c + d + e) := by
  simp only [← wd_add, Int.emod_add_emod]
theorem stcT_cell {W : World} {B T : Nat} {s : St} (h : W.heap[B]? = some (.cells (stc s) T (0, 0))) :
    ∀ j, W.cell? ⟨B, j, none⟩ = #[Value.int .u32 (wd s.a), .int .u32 (wd s.b), .int .u32 (wd s.c), .int .u32 (wd s.d), .int .u32 (wd s.e), .int .u32 (wd s.f), .int .u32 (wd s.g), .int .u32 (wd s.h)][j]? := fun j => blk_cell h j
theorem stcT_free {W : World} {B T : Nat} {s : St} (h : W.heap[B]? = some (.cells (stc s) T (0, 0))) : ∀ j, W.frozen? ⟨B, j, none⟩ = false := fun j => blk_frozen h j
theorem below8g {w W : World} {N B : Nat} (v0 v1 v2 v3 v4 v5 v6 v7 : Value) (h : Below N w W) (hB : N ≤ B) : Below N w ((((((((W.setCell ⟨B, 0, none⟩ v0).setCell ⟨B, 1, none⟩ v1).setCell ⟨B, 2, none⟩ v2).setCell ⟨B, 3, none⟩ v3).setCell ⟨B, 4, none⟩ v4).setCell ⟨B, 5, none⟩ v5).setCell ⟨B, 6, none⟩ v6).setCell ⟨B, 7, none⟩ v7) :=
  (((((((h.setCell (p := ⟨B, 0, none⟩) hB _).setCell (p := ⟨B, 1, none⟩) hB _).setCell (p := ⟨B, 2, none⟩) hB _).setCell (p := ⟨B, 3, none⟩) hB _).setCell (p := ⟨B, 4, none⟩) hB _).setCell (p := ⟨B, 5, none⟩) hB _).setCell (p := ⟨B, 6, none⟩) hB _).setCell (p := ⟨B, 7, none⟩) hB _
theorem sum3t (a b c : W32) : (wd a + wd b + wd c) % 4294967296 = wd (a + b + c) := by
  simp only [← wd_add, Int.emod_add_emod]
theorem turnedA (h x y k w b m : W32) : h + x + y + k + w + b + m = h + (x + y) + k + w + (b + m) := by ac_rfl
theorem turnedB (d h x y k w : W32) : d + (h + x + y + k + w) = d + (h + (x + y) + k + w) := by ac_rfl
theorem turn_calls (x : W32) (n : Nat) (m : Int) (hm : m = (n : Int)) (hn : n < 32) (w : World) : Calls Tryd.prog 113 #[.int .u32 (wd x), .int .i64 m] w fun e w' => e = .returned (.int .u32 (wd (x.rotateRight n))) ∧ ∃ n, w' = w.drewN n := by
  refine (paymasterref04_turn.calls 33 _ _ _ w (turn_some x n m hm hn 33 (by omega))).mono ?_
  rintro e w' ⟨rfl, hd⟩
  exact ⟨rfl, hd.out⟩
theorem xor_calls (a b c : W32) (w : World) : Calls Tryd.prog 112 #[.int .u32 (wd a), .int .u32 (wd b), .int .u32 (wd c)] w fun e w' => e = .returned (.int .u32 (wd (a ^^^ b ^^^ c))) ∧ ∃ n, w' = w.drewN n := by
  refine (paymasterref04_xor.calls 33 _ _ _ _ w (xor_some a b c 33 (by omega))).mono ?_
  rintro e w' ⟨rfl, hd⟩
  exact ⟨rfl, hd.out⟩

theorem turnI_calls (x : W32) (m : Int) (w : World) (h0 : 0 ≤ m) (h1 : m < 32) : Calls Tryd.prog 113 #[.int .u32 (wd x), .int .i64 m] w fun e w' => e = .returned (.int .u32 (wd (x.rotateRight m.toNat))) ∧ ∃ n, w' = w.drewN n := turn_calls x m.toNat m (by omega) (by omega) w
set_option maxHeartbeats 20000000 in
set_option maxRecDepth 100000 in
theorem turned_calls (s : St) (k x : W32) (w : World) :
    Calls Tryd.prog 80 #[stv s, .int .u32 (wd k), .int .u32 (wd x)] w fun e w' => e = .returned (stv (rnd s k x)) ∧ Below w.heap.size w w' := by
  unfold stv
  go_enter Tryd.func80, Tryd.ntmps80
  go_wp2_with fail
  go_quiet (fail)
  go_wp2_with fail
  go_quiet (fail)
  go_wp2_with fail
  go_loopg [13, 14, 15, 16] 32 (fun k x13 x14 x15 x16 wr => ∃ t n : Nat, t + k = 32 ∧ x13 = .int .u32 (chI s.e s.f s.g t) ∧ x14 = .int .u32 (majI s.a s.b s.c t) ∧ x15 = .int .u32 (bitI t) ∧ x16 = .int .i64 t ∧ wr = ((w.alloc (.cells (stc s) 23)).alloc (.cells (stc zeroSt) 23)).drewN n)
  case atStart => exact ⟨0, _, rfl, rfl, rfl, rfl, rfl, World.drewN_drewN _ _ _⟩
  case round =>
    obtain ⟨t, n, ht, rfl, rfl, rfl, rfl, rfl⟩ := hrel
    by_cases hlt : t < 32
    · have hb1 := (bitI_pos hlt).1
      have hb2 := (bitI_pos hlt).2
      generalize hch : chI s.e s.f s.g t = xc at *
      generalize hmj : majI s.a s.b s.c t = xm at *
      generalize hbi : bitI t = bi at *
      have Hch := Aside0.mk hch
      have Hmj := Aside0.mk hmj
      have Hbi := Aside0.mk hbi
      clear hch hmj hbi
      go_wp2_with fail
      all_goals
        go_quiet (fail)
        go_wp2_with fail
      all_goals
        go_roundg (gk - 1)
        case measure => omega
        case rel =>
          refine ⟨t + 1, _, by omega, ?_, ?_, ?_, by go_num, rfl⟩
          · first
              | (rw [chI_s1 (by rw [Hbi.out]; assumption), Hch.out, Hbi.out])
              | (rw [chI_s0 (by rw [Hbi.out]; assumption), Hch.out, Hbi.out])
          · first
              | (rw [majI_s1 (by rw [Hbi.out]; assumption), Hmj.out, Hbi.out])
              | (rw [majI_s0 (by rw [Hbi.out]; assumption), Hmj.out])
          · rw [← bitI_next, Hbi.out]
    · obtain rfl : t = 32 := by omega
      rw [chI_end, majI_end]
      have h0 : (((w.alloc (.cells (stc s) 23)).alloc (.cells (stc zeroSt) 23)).drewN n).heap[w.heap.size]? = some (.cells (stc s) 23 (0, 0)) := blk_drew (blk_alloc (blk_new w _) _)
      have h1 : (((w.alloc (.cells (stc s) 23)).alloc (.cells (stc zeroSt) 23)).drewN n).heap[w.heap.size + 1]? = some (.cells (stc zeroSt) 23 (0, 0)) := by
        refine blk_drew ?_
        have := blk_new (w.alloc (.cells (stc s) 23)) (.cells (stc zeroSt) 23)
        rw [World.size_alloc] at this
        exact this
      have hx : Below w.heap.size w (((w.alloc (.cells (stc s) 23)).alloc (.cells (stc zeroSt) 23)).drewN n) := by (with_reducible repeat (first | exact Below.refl _ _ | apply below_alloc | apply pw_below_drewN | apply below_drew))
      obtain ⟨W, hW⟩ : ∃ W, W = ((w.alloc (.cells (stc s) 23)).alloc (.cells (stc zeroSt) 23)).drewN n := ⟨_, rfl⟩
      rw [← hW] at h0 h1 hx ⊢
      have HW := Aside0.mk hW
      clear hW
      have c0 := stcT_cell h0
      have H1 := Aside0.mk h1
      have HX := Aside0.mk hx
      clear h0 h1 hx hlt ht
      go_wp2_with fail
      go_quiet ((first
        | (go_at_call 113; exact Calls.quiet_of (turnI_calls _ _ _ (by decide) (by decide)))
        | (go_at_call 112; exact Calls.quiet_of (xor_calls _ _ _ _))))
      go_wp2_with fail
      rw [sumT]
      have c2 : ∀ j, (W.drewN nq).cell? ⟨w.heap.size, j, none⟩ = #[Value.int .u32 (wd s.a), .int .u32 (wd s.b), .int .u32 (wd s.c), .int .u32 (wd s.d), .int .u32 (wd s.e), .int .u32 (wd s.f), .int .u32 (wd s.g), .int .u32 (wd s.h)][j]? := c0
      have H2 := Aside0.mk (blk_drewN H1.out nq)
      have HX2 := Aside0.mk (pw_below_drewN HX.out nq)
      clear c0 H1 HX HW
      generalize W.drewN nq = W2 at *
      refine QTail.region_quiet_tail 22 (by kernel_rfl) (by kernel_rfl) ?_
      simp only [List.take_succ_cons, List.take_zero, List.drop_succ_cons, List.drop_zero]
      repeat (go_big_quiet_step ((first
        | (go_at_call 113; exact Calls.quiet_of (turnI_calls _ _ _ (by decide) (by decide)))
        | (go_at_call 112; exact Calls.quiet_of (xor_calls _ _ _ _)))))
      refine wpQuiet_nil ?_
      rintro _ ⟨m2, rfl⟩
      have hc := stcT_cell (blk_drewN H2.out m2)
      have hf := stcT_free (blk_drewN H2.out m2)
      have HX3 := Aside0.mk (pw_below_drewN HX2.out m2)
      have H3 := Aside0.mk (blk_drewN H2.out m2)
      clear c2 H2 HX2
      generalize W2.drewN m2 = W3 at *
      go_wp2_with fail
      refine bodyPost_ret (v := stv (rnd s k x)) ?_ rfl ⟨rfl, ?_⟩
      · unfold stv rnd
        simp [results, Tryd.results80, go_sem, hc]
        refine ⟨?_, ?_⟩
        · rw [sum3t, turnedA]; rfl
        · rw [wd_add, turnedB]; rfl
      · exact below8g _ _ _ _ _ _ _ _ HX3.out (by omega)
end Go.Proofs.YtobgcjfelegpkaaDoor.Blk
end
