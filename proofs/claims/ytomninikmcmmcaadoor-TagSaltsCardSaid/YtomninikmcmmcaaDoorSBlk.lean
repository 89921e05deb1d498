/- The block function and the reference's: contracts (of XBlkA .. XQuick, what a seat without chapter 04's laws needs). -/
import Derived.Test.YtomninikmcmmcaaDoorSWords
import Derived.Test.YtomninikmcmmcaaDoorGivA
import Derived.Deep.QuietTactic
import Derived.BigQuiet
import Derived.WalkKit
import Derived.StillTailTactics
import Derived.Deep.LoopGhost
import Derived.RegionTactic
import Derived.ChangeAlike
import Derived.BigRegion
import Derived.Test.YtomninikmcmmcaaDoorTl
namespace Go.Proofs.YtomninikmcmmcaaDoor.Blk
open Go.RowKit Go.Proofs.YtomninikmcmmcaaDoor.PBw Go.Proofs.YtomninikmcmmcaaDoor.GivA Go.Proofs.YtomninikmcmmcaaDoorW.PrintWords Go.Proofs.YtomninikmcmmcaaDoorW.PrintLast Go.Proofs.YtomninikmcmmcaaDoorW.PrintMore Go.Proofs.Sp Go.Proofs.YtomninikmcmmcaaDoor.Pure
set_option linter.unusedVariables false
set_option linter.unusedSimpArgs false

theorem bits_not (x : W32) : Go.bits .xor .u32 4294967295 (wd x) = wd (~~~x) := by
  have h := bits_xor (BitVec.allOnes 32) x
  rw [BitVec.allOnes_xor] at h
  have e : wd (BitVec.allOnes 32) = 4294967295 := by
    unfold wd
    rw [BitVec.toNat_allOnes]
    omega
  rw [e] at h
  exact h
theorem sum3 (a b c : W32) : (wd a + wd b + wd c) % 4294967296 = wd (a + b + c) := by
  rw [← wd_add (a + b) c, ← wd_add a b, Int.emod_add_emod]
theorem sum4 (a b c d : W32) : (wd a + wd b + wd c + wd d) % 4294967296 = wd (a + b + c + d) := by
  rw [← wd_add (a + b + c) d, ← sum3, Int.emod_add_emod]
theorem sum5 (a b c d e : W32) : (wd a + wd b + wd c + wd d + wd e) % 4294967296 = wd (a + b + c + d + e) := by
  rw [← wd_add (a + b + c + d) e, ← sum4, Int.emod_add_emod]
theorem sum1_4 (z a b c d : W32) : (wd z + (wd a + wd b + wd c + wd d)) % 4294967296 = wd (z + (a + b + c + d)) := by
  rw [← wd_add z, ← sum4, Int.add_emod_emod]
theorem parts_some (e f g a b c : W32) : block_parts.f (wd e) (wd f) (wd g) (wd a) (wd b) (wd c) = some (wd (bs1 e + ch e f g), wd (bs0 a + maj a b c)) := by
  have r6 : ∀ x, block_right.f (wd x) 6 = some (wd (x.rotateRight 6)) := fun x => right_some x 6 6 rfl (by decide) (by decide)
  have r11 : ∀ x, block_right.f (wd x) 11 = some (wd (x.rotateRight 11)) := fun x => right_some x 11 11 rfl (by decide) (by decide)
  have r25 : ∀ x, block_right.f (wd x) 25 = some (wd (x.rotateRight 25)) := fun x => right_some x 25 25 rfl (by decide) (by decide)
  have r2 : ∀ x, block_right.f (wd x) 2 = some (wd (x.rotateRight 2)) := fun x => right_some x 2 2 rfl (by decide) (by decide)
  have r13 : ∀ x, block_right.f (wd x) 13 = some (wd (x.rotateRight 13)) := fun x => right_some x 13 13 rfl (by decide) (by decide)
  have r22 : ∀ x, block_right.f (wd x) 22 = some (wd (x.rotateRight 22)) := fun x => right_some x 22 22 rfl (by decide) (by decide)
  simp only [block_parts.f, r6, r11, r25, r2, r13, r22, Option.bind_some, bits_not, bits_and, bits_xor, wd_add, bs0, bs1, ch, maj]

/-- A state as the machine holds it. -/
def stv (s : St) : Value := .agg #[.int .u32 (wd s.a), .int .u32 (wd s.b), .int .u32 (wd s.c), .int .u32 (wd s.d), .int .u32 (wd s.e), .int .u32 (wd s.f), .int .u32 (wd s.g), .int .u32 (wd s.h)]
/-- A round's constant as a word. -/
def kw (k : Int) : W32 := BitVec.ofInt 32 (kAt k)
set_option maxRecDepth 10000 in
theorem kTab_range : ∀ k : Nat, k < 64 → 0 ≤ kTab.getD k 0 ∧ kTab.getD k 0 < 4294967296 := by decide
theorem kAt_range (k : Int) : 0 ≤ kAt k ∧ kAt k < 4294967296 := by
  unfold kAt
  split
  · omega
  · split
    · omega
    · exact kTab_range k.toNat (by omega)
theorem wd_kw (k : Int) : wd (kw k) = kAt k := by
  have h := kAt_range k
  unfold kw wd
  rw [BitVec.toNat_ofInt]
  have : ((2 ^ 32 : Nat) : Int) = 4294967296 := by decide
  rw [this]
  omega

theorem parts_calls (e f g a b c : W32) (w : World) : Calls Tryd.prog 124 #[.int .u32 (wd e), .int .u32 (wd f), .int .u32 (wd g), .int .u32 (wd a), .int .u32 (wd b), .int .u32 (wd c)] w
    fun e' w' => e' = .returned (.tuple #[.int .u32 (wd (bs1 e + ch e f g)), .int .u32 (wd (bs0 a + maj a b c))]) ∧ ∃ n, w' = w.drewN n := by
  refine (block_parts.calls _ _ _ _ _ _ _ _ w (parts_some e f g a b c)).mono ?_
  rintro e' w' ⟨rfl, hd⟩
  exact ⟨rfl, hd.out⟩

set_option maxHeartbeats 1000000 in
set_option maxRecDepth 100000 in
theorem round_calls (s : St) (k : Int) (x : W32) (w : World) (hT : Tab w) :
    Calls Tryd.prog 115 #[stv s, .int .i64 k, .int .u32 (wd x)] w fun e w' => e = .returned (stv (rnd s (kw k) x)) ∧ Below w.heap.size w w' := by
  have HT := Aside0.mk hT
  clear hT
  have H1 := Aside0.mk (wd_kw k)
  unfold stv
  go_enter Tryd.func115, Tryd.ntmps115
  go_wp2_with fail
  go_quiet (fail)
  go_wp2_with fail
  refine (parts_calls _ _ _ _ _ _ _).mono ?_
  rintro e w' ⟨rfl, n1, rfl⟩
  go_wp2_with fail
  refine (constant_same k _ (HT.out.keep (by (with_reducible repeat (first | exact Below.refl _ _ | apply below_alloc | apply pw_below_drewN | apply below_drew))))).mono ?_
  rintro e w' ⟨rfl, rfl⟩
  rw [← H1.out]
  go_wp2_with fail
  refine bodyPost_ret (v := .agg #[.int .u32 ((wd s.h + wd (bs1 s.e + ch s.e s.f s.g) + wd (kw k) + wd x + wd (bs0 s.a + maj s.a s.b s.c)) % 4294967296), .int .u32 (wd s.a), .int .u32 (wd s.b), .int .u32 (wd s.c), .int .u32 ((wd s.d + (wd s.h + wd (bs1 s.e + ch s.e s.f s.g) + wd (kw k) + wd x)) % 4294967296), .int .u32 (wd s.e), .int .u32 (wd s.f), .int .u32 (wd s.g)]) (by simp [results, Tryd.results115, go_sem]) rfl ⟨?_, ?_⟩
  · rw [sum5, sum1_4]
    rfl
  · (with_reducible repeat (first | exact Below.refl _ _ | refine Below.setCell ?_ (Nat.le_succ _) _ | apply below_alloc | apply pw_below_drewN | apply below_drew))

theorem still_tail {P : Program} {id : Nat} {Q : Exit → Act → World → Prop} {a : Act} {w : World} {l : List Oper} (n : Nat) (hm : P.follows .mixedOrders = true) (hB : Region.lexTailB .any l.toArray n = true)
    (h : wpStill P l.toArray w.drew (fun a' => wpList P l.toArray Q (l.drop n) a' w.drew) (l.take n) a) : (Code.region id l.toArray true).wp P Q a w := wp_region_still_tail n hm hB h
theorem constant_still (a0 : Int) (w : World) (hT : Tab w) :
    Calls Tryd.prog 125 #[.int .i64 a0] w fun e w' => e = .returned (.int .u32 (wd (kw a0))) ∧ w' = w := by
  refine (constant_same a0 w hT).mono ?_
  rintro e w' ⟨rfl, rfl⟩
  rw [wd_kw]
  exact ⟨rfl, rfl⟩
end Go.Proofs.YtomninikmcmmcaaDoor.Blk

namespace Go.Proofs.YtomninikmcmmcaaDoor.Blk
open Go.RowKit Go.Proofs.YtomninikmcmmcaaDoor.PBw Go.Proofs.YtomninikmcmmcaaDoor.GivA Go.Proofs.YtomninikmcmmcaaDoorW.PrintWords Go.Proofs.YtomninikmcmmcaaDoorW.PrintLast Go.Proofs.YtomninikmcmmcaaDoorW.PrintMore Go.Proofs.Sp Go.Proofs.YtomninikmcmmcaaDoor.Pure
set_option linter.unusedVariables false
set_option linter.unusedSimpArgs false

/-- The rounds' constants as words. -/
def kws (t : Nat) : W32 := kw (t : Int)
def runs (w : List W32) (s : St) : Nat → St
  | 0 => s
  | t + 1 => rnd (runs w s t) (kws t) (w.getD t 0)
def next (s : St) (b : List UInt8) : St := addSt (runs (words b) s 64) s
def stc (s : St) : Array Value := #[.int .u32 (wd s.a), .int .u32 (wd s.b), .int .u32 (wd s.c), .int .u32 (wd s.d), .int .u32 (wd s.e), .int .u32 (wd s.f), .int .u32 (wd s.g), .int .u32 (wd s.h)]

theorem words_calls (b : ByteArray) (h : b.size = 64) (w : World) : Calls Tryd.prog 114 #[.string b] w fun e w' => ∃ A c, e = .returned (.tuple #[.slice (some A) 64 c, .int .i64 0]) ∧ A.spot = none ∧ A.block < w'.heap.size ∧
    (∀ (t : Nat), t < 64 → w'.cell? ⟨A.block, A.off + t, none⟩ = some (.int .u32 (wd ((words b.data.toList).getD t 0)))) ∧ Below w.heap.size w w' := by
  have hf := words_some b h 65 (by decide)
  have hl : (words b.data.toList).length = 64 := sched_length _ 64
  generalize words b.data.toList = ws at hf hl ⊢
  refine (block_Words.calls 65 b _ _ w hf).mono ?_
  rintro e w' ⟨v, rfl, hR, hB⟩
  have hl : (ws.map wd).length = 64 := by rw [List.length_map, hl]
  obtain ⟨A, c, rfl, _, hC⟩ := Kd.R_reads hR
  rw [hl] at hC ⊢
  obtain ⟨ad, rfl, h0⟩ := Kd.at_int hC 0 (by decide) (by decide)
  have hspot : ad.spot = none := World.cell?_spot (by simpa [Addr.add] using h0)
  obtain ⟨B, o, sp⟩ := ad
  obtain rfl : sp = none := hspot
  refine ⟨_, c, rfl, rfl, World.block_lt_of_cell? w' _ (by simpa [Addr.add] using h0), fun t ht => ?_, hB⟩
  obtain ⟨ad2, e2, h2⟩ := Kd.at_int hC (t : Int) (by omega) (by omega)
  obtain rfl := Option.some.inj e2
  rw [Int.toNat_natCast, rd_map] at h2
  rw [← h2]
  congr 1
  unfold Addr.add
  split <;> simp_all

theorem stc_cell {W : World} {B : Nat} {s : St} (h : W.heap[B]? = some (.cells (stc s) 96 (0, 0))) :
    ∀ j, W.cell? ⟨B, j, none⟩ = #[Value.int .u32 (wd s.a), .int .u32 (wd s.b), .int .u32 (wd s.c), .int .u32 (wd s.d), .int .u32 (wd s.e), .int .u32 (wd s.f), .int .u32 (wd s.g), .int .u32 (wd s.h)][j]? := fun j => blk_cell h j
theorem stc_free {W : World} {B : Nat} {s : St} (h : W.heap[B]? = some (.cells (stc s) 96 (0, 0))) : ∀ j, W.frozen? ⟨B, j, none⟩ = false := fun j => blk_frozen h j
def St.at (s : St) : Nat → W32
  | 0 => s.a
  | 1 => s.b
  | 2 => s.c
  | 3 => s.d
  | 4 => s.e
  | 5 => s.f
  | 6 => s.g
  | _ => s.h
theorem stc_at {W : World} {B : Nat} {s : St} (h : W.heap[B]? = some (.cells (stc s) 96 (0, 0))) (t : Nat) (ht : t < 8) : W.cell? ⟨B, t, none⟩ = some (.int .u32 (wd (St.at s t))) := by
  rw [blk_cell h t]
  match t, ht with
  | 0, _ => rfl
  | 1, _ => rfl
  | 2, _ => rfl
  | 3, _ => rfl
  | 4, _ => rfl
  | 5, _ => rfl
  | 6, _ => rfl
  | 7, _ => rfl
/-- The first t words summed. -/
def mixSt (o s : St) (t : Nat) : St := ⟨if 0 < t then o.a + s.a else o.a, if 1 < t then o.b + s.b else o.b, if 2 < t then o.c + s.c else o.c, if 3 < t then o.d + s.d else o.d,
  if 4 < t then o.e + s.e else o.e, if 5 < t then o.f + s.f else o.f, if 6 < t then o.g + s.g else o.g, if 7 < t then o.h + s.h else o.h⟩
theorem mixSt_at (o s : St) (t : Nat) (ht : t < 8) : St.at (mixSt o s t) t = St.at o t := by
  match t, ht with
  | 0, _ => rfl
  | 1, _ => rfl
  | 2, _ => rfl
  | 3, _ => rfl
  | 4, _ => rfl
  | 5, _ => rfl
  | 6, _ => rfl
  | 7, _ => rfl
theorem mixSt_set (o s : St) (t : Nat) (ht : t < 8) : (stc (mixSt o s t)).setIfInBounds t (.int .u32 (wd (St.at o t + St.at s t))) = stc (mixSt o s (t + 1)) := by
  match t, ht with
  | 0, _ => rfl
  | 1, _ => rfl
  | 2, _ => rfl
  | 3, _ => rfl
  | 4, _ => rfl
  | 5, _ => rfl
  | 6, _ => rfl
  | 7, _ => rfl

theorem put8g {W : World} {B T : Nat} (v0 v1 v2 v3 v4 v5 v6 v7 u0 u1 u2 u3 u4 u5 u6 u7 : Value) (h : W.heap[B]? = some (.cells #[u0, u1, u2, u3, u4, u5, u6, u7] T (0, 0))) :
    ((((((((W.setCell ⟨B, 0, none⟩ v0).setCell ⟨B, 1, none⟩ v1).setCell ⟨B, 2, none⟩ v2).setCell ⟨B, 3, none⟩ v3).setCell ⟨B, 4, none⟩ v4).setCell ⟨B, 5, none⟩ v5).setCell ⟨B, 6, none⟩ v6).setCell ⟨B, 7, none⟩ v7).heap[B]? = some (.cells #[v0, v1, v2, v3, v4, v5, v6, v7] T (0, 0)) := by
  have h1 : (W.setCell ⟨B, 0, none⟩ v0).heap[B]? = some (.cells #[v0, u1, u2, u3, u4, u5, u6, u7] T (0, 0)) := blk_put h 0 v0 rfl
  have h2 : ((W.setCell ⟨B, 0, none⟩ v0).setCell ⟨B, 1, none⟩ v1).heap[B]? = some (.cells #[v0, v1, u2, u3, u4, u5, u6, u7] T (0, 0)) := blk_put h1 1 v1 rfl
  have h3 : (((W.setCell ⟨B, 0, none⟩ v0).setCell ⟨B, 1, none⟩ v1).setCell ⟨B, 2, none⟩ v2).heap[B]? = some (.cells #[v0, v1, v2, u3, u4, u5, u6, u7] T (0, 0)) := blk_put h2 2 v2 rfl
  have h4 : ((((W.setCell ⟨B, 0, none⟩ v0).setCell ⟨B, 1, none⟩ v1).setCell ⟨B, 2, none⟩ v2).setCell ⟨B, 3, none⟩ v3).heap[B]? = some (.cells #[v0, v1, v2, v3, u4, u5, u6, u7] T (0, 0)) := blk_put h3 3 v3 rfl
  have h5 : (((((W.setCell ⟨B, 0, none⟩ v0).setCell ⟨B, 1, none⟩ v1).setCell ⟨B, 2, none⟩ v2).setCell ⟨B, 3, none⟩ v3).setCell ⟨B, 4, none⟩ v4).heap[B]? = some (.cells #[v0, v1, v2, v3, v4, u5, u6, u7] T (0, 0)) := blk_put h4 4 v4 rfl
  have h6 : ((((((W.setCell ⟨B, 0, none⟩ v0).setCell ⟨B, 1, none⟩ v1).setCell ⟨B, 2, none⟩ v2).setCell ⟨B, 3, none⟩ v3).setCell ⟨B, 4, none⟩ v4).setCell ⟨B, 5, none⟩ v5).heap[B]? = some (.cells #[v0, v1, v2, v3, v4, v5, u6, u7] T (0, 0)) := blk_put h5 5 v5 rfl
  have h7 : (((((((W.setCell ⟨B, 0, none⟩ v0).setCell ⟨B, 1, none⟩ v1).setCell ⟨B, 2, none⟩ v2).setCell ⟨B, 3, none⟩ v3).setCell ⟨B, 4, none⟩ v4).setCell ⟨B, 5, none⟩ v5).setCell ⟨B, 6, none⟩ v6).heap[B]? = some (.cells #[v0, v1, v2, v3, v4, v5, v6, u7] T (0, 0)) := blk_put h6 6 v6 rfl
  have h8 : ((((((((W.setCell ⟨B, 0, none⟩ v0).setCell ⟨B, 1, none⟩ v1).setCell ⟨B, 2, none⟩ v2).setCell ⟨B, 3, none⟩ v3).setCell ⟨B, 4, none⟩ v4).setCell ⟨B, 5, none⟩ v5).setCell ⟨B, 6, none⟩ v6).setCell ⟨B, 7, none⟩ v7).heap[B]? = some (.cells #[v0, v1, v2, v3, v4, v5, v6, v7] T (0, 0)) := blk_put h7 7 v7 rfl
  exact h8
theorem put8 {W : World} {B : Nat} {s : St} (n : St) (h : W.heap[B]? = some (.cells (stc s) 96 (0, 0))) :
    ((((((((W.setCell ⟨B, 0, none⟩ (.int .u32 (wd n.a))).setCell ⟨B, 1, none⟩ (.int .u32 (wd n.b))).setCell ⟨B, 2, none⟩ (.int .u32 (wd n.c))).setCell ⟨B, 3, none⟩ (.int .u32 (wd n.d))).setCell ⟨B, 4, none⟩ (.int .u32 (wd n.e))).setCell ⟨B, 5, none⟩ (.int .u32 (wd n.f))).setCell ⟨B, 6, none⟩ (.int .u32 (wd n.g))).setCell ⟨B, 7, none⟩ (.int .u32 (wd n.h))).heap[B]? = some (.cells (stc n) 96 (0, 0)) :=
  put8g _ _ _ _ _ _ _ _ _ _ _ _ _ _ _ _ h
theorem below8 {w W : World} {N B : Nat} (n : St) (h : Below N w W) (hB : N ≤ B) : Below N w ((((((((W.setCell ⟨B, 0, none⟩ (.int .u32 (wd n.a))).setCell ⟨B, 1, none⟩ (.int .u32 (wd n.b))).setCell ⟨B, 2, none⟩ (.int .u32 (wd n.c))).setCell ⟨B, 3, none⟩ (.int .u32 (wd n.d))).setCell ⟨B, 4, none⟩ (.int .u32 (wd n.e))).setCell ⟨B, 5, none⟩ (.int .u32 (wd n.f))).setCell ⟨B, 6, none⟩ (.int .u32 (wd n.g))).setCell ⟨B, 7, none⟩ (.int .u32 (wd n.h))) :=
  (((((((h.setCell (p := ⟨B, 0, none⟩) hB _).setCell (p := ⟨B, 1, none⟩) hB _).setCell (p := ⟨B, 2, none⟩) hB _).setCell (p := ⟨B, 3, none⟩) hB _).setCell (p := ⟨B, 4, none⟩) hB _).setCell (p := ⟨B, 5, none⟩) hB _).setCell (p := ⟨B, 6, none⟩) hB _).setCell (p := ⟨B, 7, none⟩) hB _
theorem weaken_two {w w1 : World} {o1 o2 : Obj} (h : Below ((w.alloc o1).alloc o2).heap.size ((w.alloc o1).alloc o2) w1) (_ : True) : Below w.heap.size w w1 :=
  (below_alloc (below_alloc (Below.refl _ _) o1) o2).trans (h.mono (by simp; omega))
set_option maxHeartbeats 2000000 in
set_option maxRecDepth 100000 in
theorem next_calls (s : St) (b : ByteArray) (h64 : b.size = 64) (w : World) (hT : Tab w) :
    Calls Tryd.prog 103 #[stv s, .string b] w fun e w' => e = .returned (.tuple #[stv (next s b.data.toList), .int .i64 0]) ∧ Below w.heap.size w w' := by
  have HT := Aside0.mk hT
  clear hT
  have Hw := Aside0.mk (fun W => words_calls b h64 W)
  clear h64
  unfold stv
  go_enter Tryd.func103, Tryd.ntmps103
  go_wp2_with fail
  refine (Hw.out _).mono ?_
  rintro e w1 ⟨A, c, rfl, hsp, hA, hcell, hB⟩
  obtain ⟨BA, oA, sp⟩ := A
  obtain rfl : sp = none := hsp
  simp only at hA
  have HC := Aside0.mk hcell
  have HB3 := Aside0.mk (weaken_two hB trivial)
  have HT1 := Aside0.mk (HT.out.keep (weaken_two hB trivial))
  clear hcell
  have HB := Aside0.mk hB
  have b0 : w1.heap[w.heap.size]? = some (.cells (stc s) 96 (0, 0)) := blk_below (blk_alloc (blk_new w _) _) hB
  have b1 : w1.heap[w.heap.size + 1]? = some (.cells (stc zeroSt) 96 (0, 0)) := by
    refine blk_below ?_ hB
    have := blk_new (w.alloc (.cells (stc s) 96)) (.cells (stc zeroSt) 96)
    rw [World.size_alloc] at this
    exact this
  have hsz : w.heap.size + 2 ≤ w1.heap.size := by have := hB.size; simpa using this
  clear hB
  have hc := stc_cell b0
  have HB0 := Aside0.mk b0
  have HB1 := Aside0.mk b1
  clear b0 b1
  go_wp2_with fail
  have g0 : (w1.alloc (.cells (stc s) 96)).heap[w1.heap.size]? = some (.cells (stc (runs (words b.data.toList) s 0)) 96 (0, 0)) := blk_new w1 _
  have G0 := Aside0.mk g0
  clear g0 hc
  go_loopg [24] 64 (fun k i wr => ∃ t : Nat, t + k = 64 ∧ i = .int .i64 t ∧ wr.heap[w1.heap.size]? = some (.cells (stc (runs (words b.data.toList) s t)) 96 (0, 0)) ∧ Below w1.heap.size w1 wr)
  case atStart => exact ⟨0, rfl, rfl, G0.out, (Below.refl _ _).alloc (Nat.le_refl _) _⟩
  case round =>
    obtain ⟨t, ht, rfl, hb, hx⟩ := hrel
    have hc := stc_cell hb
    have HX := Aside0.mk hx
    have HE := Aside0.mk hb
    clear hb
    by_cases hlt : t < 64
    · have hcx : wr.cell? ⟨BA, oA + t, none⟩ = some (.int .u32 (wd ((words b.data.toList).getD t 0))) := (hx.cell hA).trans (HC.out t hlt)
      clear hx
      have T2 := Aside0.mk (HT1.out.keep HX.out)
      generalize hcur : runs (words b.data.toList) s t = cur at *
      generalize hxw : (words b.data.toList).getD t 0 = xw at *
      have Hcur := Aside0.mk hcur
      have Hxw := Aside0.mk hxw
      clear hcur hxw
      go_wp2_with fail
      refine (round_calls cur t xw _ T2.out).mono ?_
      rintro e w2 ⟨rfl, hb2⟩
      have hE2 := blk_below HE.out hb2
      have hc2 := stc_cell hE2
      have hf2 := stc_free hE2
      have HB2 := Aside0.mk hb2
      have HE2 := Aside0.mk hE2
      clear hb2 hE2 hc
      simp only [stv]
      go_wp2_with fail
      go_roundg (gk - 1)
      case measure => omega
      case rel =>
        refine ⟨t + 1, by omega, by go_num, ?_, ?_⟩
        · have e : rnd cur (kw (t : Int)) xw = runs (words b.data.toList) s (t + 1) := by rw [runs, Hcur.out, Hxw.out]; rfl
          rw [← e]
          exact put8 _ HE2.out
        · exact below8 _ (HX.out.trans (HB2.out.mono HX.out.size)) (Nat.le_refl _)
    · obtain rfl : t = 64 := by omega
      have b0' := Aside0.mk (blk_below HB0.out HX.out)
      have b1' := Aside0.mk (blk_below HB1.out HX.out)
      generalize hcur : runs (words b.data.toList) s 64 = cur at *
      have Hcur := Aside0.mk hcur
      clear hcur hlt hc
      have G1 := Aside0.mk (show wr.heap[w1.heap.size]? = some (.cells (stc (mixSt cur s 0)) 96 (0, 0)) from HE.out)
      go_wp2_with fail
      go_loopg [34] 8 (fun k i wq => ∃ t : Nat, t + k = 8 ∧ i = .int .i64 t ∧ wq.heap[w1.heap.size]? = some (.cells (stc (mixSt cur s t)) 96 (0, 0)) ∧ Below w1.heap.size w1 wq)
      case atStart => exact ⟨0, rfl, rfl, G1.out, HX.out⟩
      case round =>
        obtain ⟨t, ht, rfl, hb, hx⟩ := hrel
        have HX2 := Aside0.mk hx
        have HE2 := Aside0.mk hb
        have bs := blk_below HB0.out hx
        have br := blk_below HB1.out hx
        by_cases hlt : t < 8
        · have c1 := stc_at hb t hlt
          rw [mixSt_at _ _ _ hlt] at c1
          have c2 := stc_at bs t hlt
          have f1 := stc_free hb t
          generalize hp : St.at cur t = p at *
          generalize hq : St.at s t = q at *
          have Hp := Aside0.mk hp
          have Hq := Aside0.mk hq
          have l1 : (t : Int) < 8 := by omega
          clear hb hx bs br hp hq
          go_wp2_with fail
          go_region
          all_goals
            go_wp2_with fail
            go_roundg (gk - 1)
            case measure => omega
            case rel =>
              refine ⟨t + 1, by omega, by go_num, ?_, ?_⟩
              · refine blk_drew ?_
                rw [wd_add, ← Hp.out, ← Hq.out]
                exact blk_put HE2.out t _ (mixSt_set _ _ _ hlt)
              · exact (HX2.out.setCell (p := ⟨w1.heap.size, t, none⟩) (Nat.le_refl _) _).drew
        · obtain rfl : t = 8 := by omega
          have c1 := stc_cell hb
          have c2 := stc_cell br
          have f2 := stc_free br
          have e8 : mixSt cur s 8 = next s b.data.toList := by rw [← Hcur.out]; rfl
          rw [e8] at c1
          generalize hnx : next s b.data.toList = nx at *
          have Hnx := Aside0.mk hnx
          have HBR := Aside0.mk br
          clear hb hx bs br hlt hnx e8
          go_wp2_with fail
          refine bodyPost_ret (v := .tuple #[stv nx, .int .i64 0]) (by unfold stv; simp [results, Tryd.results103, go_sem, c2]) rfl ⟨by rw [← Hnx.out]; rfl, ?_⟩
          exact below8 nx (HB3.out.trans (HX2.out.mono (by omega))) (by omega)

theorem words_none (b : ByteArray) (h : ¬ b.size = 64) (w : World) : Calls Tryd.prog 114 #[.string b] w fun e w' => ∃ A c, e = .returned (.tuple #[.slice A 0 c, .int .i64 2]) ∧ Below w.heap.size w w' := by
  refine (block_Words.calls 1 b [] 2 w (by unfold block_Words.f; rw [if_neg (by omega)])).mono ?_
  rintro e w' ⟨v, rfl, hR, hB⟩
  obtain ⟨A, c, rfl, _, hC⟩ := Kd.R_reads hR
  exact ⟨A, c, rfl, hB⟩
set_option maxHeartbeats 2000000 in
set_option maxRecDepth 100000 in
theorem next_none (s : St) (b : ByteArray) (h64 : ¬ b.size = 64) (w : World) :
    Calls Tryd.prog 103 #[stv s, .string b] w fun e w' => e = .returned (.tuple #[stv zeroSt, .int .i64 2]) ∧ Below w.heap.size w w' := by
  have Hw := Aside0.mk (fun W => words_none b h64 W)
  clear h64
  unfold stv
  go_enter Tryd.func103, Tryd.ntmps103
  go_wp2_with fail
  refine (Hw.out _).mono ?_
  rintro e w1 ⟨A, c, rfl, hB⟩
  have HB := Aside0.mk (weaken_two hB trivial)
  have hsz : w.heap.size + 2 ≤ w1.heap.size := by have := hB.size; simpa using this
  have b1 : w1.heap[w.heap.size + 1]? = some (.cells (stc zeroSt) 96 (0, 0)) := by
    refine blk_below ?_ hB
    have := blk_new (w.alloc (.cells (stc s) 96)) (.cells (stc zeroSt) 96)
    rw [World.size_alloc] at this
    exact this
  have hc := stc_cell b1
  have hf := stc_free b1
  clear hB b1
  go_wp2_with fail
  refine bodyPost_ret (v := .tuple #[stv zeroSt, .int .i64 2]) (by unfold stv; simp [results, Tryd.results103, go_sem, hc]; exact ⟨rfl, rfl, rfl, rfl, rfl, rfl, rfl, rfl⟩) rfl ⟨rfl, ?_⟩
  exact below8 zeroSt HB.out (by omega)
end Go.Proofs.YtomninikmcmmcaaDoor.Blk

namespace Go.Proofs.YtomninikmcmmcaaDoor.Blk
open Go.RowKit Go.Proofs.YtomninikmcmmcaaDoor.PBw Go.Proofs.YtomninikmcmmcaaDoor.GivA Go.Proofs.YtomninikmcmmcaaDoorW.PrintWords Go.Proofs.YtomninikmcmmcaaDoorW.PrintLast Go.Proofs.YtomninikmcmmcaaDoorW.PrintMore Go.Proofs.Sp Go.Proofs.YtomninikmcmmcaaDoor.Pure
set_option linter.unusedVariables false
set_option linter.unusedSimpArgs false

theorem stcT_cell {W : World} {B T : Nat} {s : St} (h : W.heap[B]? = some (.cells (stc s) T (0, 0))) :
    ∀ j, W.cell? ⟨B, j, none⟩ = #[Value.int .u32 (wd s.a), .int .u32 (wd s.b), .int .u32 (wd s.c), .int .u32 (wd s.d), .int .u32 (wd s.e), .int .u32 (wd s.f), .int .u32 (wd s.g), .int .u32 (wd s.h)][j]? := fun j => blk_cell h j
theorem stcT_free {W : World} {B T : Nat} {s : St} (h : W.heap[B]? = some (.cells (stc s) T (0, 0))) : ∀ j, W.frozen? ⟨B, j, none⟩ = false := fun j => blk_frozen h j
theorem below8g {w W : World} {N B : Nat} (v0 v1 v2 v3 v4 v5 v6 v7 : Value) (h : Below N w W) (hB : N ≤ B) : Below N w ((((((((W.setCell ⟨B, 0, none⟩ v0).setCell ⟨B, 1, none⟩ v1).setCell ⟨B, 2, none⟩ v2).setCell ⟨B, 3, none⟩ v3).setCell ⟨B, 4, none⟩ v4).setCell ⟨B, 5, none⟩ v5).setCell ⟨B, 6, none⟩ v6).setCell ⟨B, 7, none⟩ v7) :=
  (((((((h.setCell (p := ⟨B, 0, none⟩) hB _).setCell (p := ⟨B, 1, none⟩) hB _).setCell (p := ⟨B, 2, none⟩) hB _).setCell (p := ⟨B, 3, none⟩) hB _).setCell (p := ⟨B, 4, none⟩) hB _).setCell (p := ⟨B, 5, none⟩) hB _).setCell (p := ⟨B, 6, none⟩) hB _).setCell (p := ⟨B, 7, none⟩) hB _
end Go.Proofs.YtomninikmcmmcaaDoor.Blk

namespace Go.Proofs.YtomninikmcmmcaaDoor.Blk
open Go.RowKit Go.Proofs.YtomninikmcmmcaaDoor.PBw Go.Proofs.YtomninikmcmmcaaDoor.GivA Go.Proofs.YtomninikmcmmcaaDoorW.PrintWords Go.Proofs.YtomninikmcmmcaaDoorW.PrintLast Go.Proofs.YtomninikmcmmcaaDoorW.PrintMore Go.Proofs.Sp Go.Proofs.YtomninikmcmmcaaDoor.Pure
set_option linter.unusedVariables false
set_option linter.unusedSimpArgs false

theorem start_calls (w : World) : Calls Tryd.prog 93 #[] w fun e w' => e = .returned (stv st0) ∧ Below w.heap.size w w' :=
  (paymasterref04_Start.calls _ _ _ _ _ _ _ _ w rfl).mono fun e w' ⟨he, hB⟩ => ⟨he, hB⟩
theorem stcT_at {W : World} {B T : Nat} {s : St} (h : W.heap[B]? = some (.cells (stc s) T (0, 0))) (t : Nat) (ht : t < 8) : W.cell? ⟨B, t, none⟩ = some (.int .u32 (wd (St.at s t))) := by
  rw [blk_cell h t]
  match t, ht with
  | 0, _ => rfl
  | 1, _ => rfl
  | 2, _ => rfl
  | 3, _ => rfl
  | 4, _ => rfl
  | 5, _ => rfl
  | 6, _ => rfl
  | 7, _ => rfl
end Go.Proofs.YtomninikmcmmcaaDoor.Blk

namespace Go.Proofs.YtomninikmcmmcaaDoor.Blk
open Go.RowKit Go.Proofs.YtomninikmcmmcaaDoor.PBw Go.Proofs.YtomninikmcmmcaaDoor.GivA Go.Proofs.YtomninikmcmmcaaDoorW.PrintWords Go.Proofs.YtomninikmcmmcaaDoorW.PrintLast Go.Proofs.YtomninikmcmmcaaDoorW.PrintMore Go.Proofs.Sp Go.Proofs.YtomninikmcmmcaaDoor.Pure
set_option linter.unusedVariables false
set_option linter.unusedSimpArgs false
/-- A row of 64 words in memory, by what each is. -/
theorem row_of_R {w w' : World} {v : Value} {l : List Int} {base : Nat} {ok : Nat → Prop} (hl : l.length = 64) (hR : Kd.R (Kd.int .u32) 94 w' base ok v l) : ∃ B o c, v = .slice (some ⟨B, o, none⟩) 64 c ∧ 64 ≤ c ∧ B < w'.heap.size ∧ (∀ (t : Nat), t < 64 → w'.cell? ⟨B, o + t, none⟩ = some (.int .u32 (l.getD t 0))) := by
  obtain ⟨A, c, rfl, hcap, hC⟩ := Kd.R_reads hR
  rw [hl] at hC hcap ⊢
  obtain ⟨ad, rfl, h0⟩ := Kd.at_int hC 0 (by decide) (by decide)
  have hspot : ad.spot = none := World.cell?_spot (by simpa [Addr.add] using h0)
  obtain ⟨B, o, sp⟩ := ad
  obtain rfl : sp = none := hspot
  refine ⟨B, o, c, rfl, hcap, World.block_lt_of_cell? w' _ (by simpa [Addr.add] using h0), fun t ht => ?_⟩
  obtain ⟨ad2, e2, h2⟩ := Kd.at_int hC (t : Int) (by omega) (by omega)
  obtain rfl := Option.some.inj e2
  rw [Int.toNat_natCast] at h2
  have e : rd l (t : Int) = l.getD t 0 := by unfold rd; rw [Int.toNat_natCast]
  rw [← e, ← h2]
  congr 1
  unfold Addr.add
  split <;> simp_all
theorem getD_map (l : List W32) (t : Nat) : (l.map wd).getD t 0 = wd (l.getD t 0) := by
  have := rd_map l t
  unfold rd at this
  rw [Int.toNat_natCast] at this
  exact this
theorem kTab_length : kTab.length = 64 := rfl
theorem kTab_kws (t : Nat) (h : t < 64) : kTab.getD t 0 = wd (kws t) := by
  unfold kws
  rw [wd_kw]
  unfold kAt
  rw [if_neg (by omega), if_neg (by omega), Int.toNat_natCast]
theorem table_calls (w : World) : Calls Tryd.prog 92 #[] w fun e w' => ∃ B o c, e = .returned (.slice (some ⟨B, o, none⟩) 64 c) ∧ 64 ≤ c ∧ B < w'.heap.size ∧
    (∀ (t : Nat), t < 64 → w'.cell? ⟨B, o + t, none⟩ = some (.int .u32 (wd (kws t)))) ∧ Below w.heap.size w w' := by
  refine (paymasterref04_Table.calls kTab w rfl).mono ?_
  rintro e w' ⟨v, rfl, hR, hB⟩
  obtain ⟨B, o, c, rfl, h1, h2, h3⟩ := row_of_R (w := w) kTab_length hR
  refine ⟨B, o, c, rfl, h1, h2, fun t ht => ?_, hB⟩
  rw [h3 t ht, kTab_kws t ht]
def put8V (W : World) (B : Nat) (s : St) : World := ((((((((W.setCell ⟨B, 0, none⟩ (.int .u32 (wd s.a))).setCell ⟨B, 1, none⟩ (.int .u32 (wd s.b))).setCell ⟨B, 2, none⟩ (.int .u32 (wd s.c))).setCell ⟨B, 3, none⟩ (.int .u32 (wd s.d))).setCell ⟨B, 4, none⟩ (.int .u32 (wd s.e))).setCell ⟨B, 5, none⟩ (.int .u32 (wd s.f))).setCell ⟨B, 6, none⟩ (.int .u32 (wd s.g))).setCell ⟨B, 7, none⟩ (.int .u32 (wd s.h)))
theorem put8V_self {W : World} {B T : Nat} (s : St) {u0 u1 u2 u3 u4 u5 u6 u7 : Value} (h : W.heap[B]? = some (.cells #[u0, u1, u2, u3, u4, u5, u6, u7] T (0, 0))) : (put8V W B s).heap[B]? = some (.cells (stc s) T (0, 0)) :=
  put8g _ _ _ _ _ _ _ _ _ _ _ _ _ _ _ _ h
theorem put8V_below {w W : World} {N B : Nat} (s : St) (h : Below N w W) (hB : N ≤ B) : Below N w (put8V W B s) := below8g _ _ _ _ _ _ _ _ h hB
theorem below_two {w w1 : World} {o1 o2 : Obj} (h : Below ((w.alloc o1).alloc o2).heap.size ((w.alloc o1).alloc o2) w1) : Below w.heap.size w w1 :=
  (below_alloc (below_alloc (Below.refl _ w) o1) o2).trans (h.mono (by simp; omega))
end Go.Proofs.YtomninikmcmmcaaDoor.Blk

namespace Go.Proofs.YtomninikmcmmcaaDoor.Blk
open Go.RowKit Go.Proofs.YtomninikmcmmcaaDoor.PBw Go.Proofs.YtomninikmcmmcaaDoor.GivA Go.Proofs.YtomninikmcmmcaaDoorW.PrintWords Go.Proofs.YtomninikmcmmcaaDoorW.PrintLast Go.Proofs.YtomninikmcmmcaaDoorW.PrintMore Go.Proofs.Sp Go.Proofs.YtomninikmcmmcaaDoor.Pure
set_option linter.unusedVariables false
set_option linter.unusedSimpArgs false
theorem refright_some (x : W32) (n : Nat) (m : Int) (hm : m = (n : Int)) (hn : n < 32) (h0 : 0 < n) : paymasterref04_right.f (wd x) m = some (wd (x.rotateRight n)) := by
  subst hm
  unfold paymasterref04_right.f
  have e2 : IntKind.u64.wrap (32 - (n : Int)) = ((32 - n : Nat) : Int) := by simp [IntKind.wrap, IntKind.bits, IntKind.signed]; omega
  rw [e2, if_pos (by omega), if_pos (by omega)]
  congr 1
  unfold shl shr
  have e3 : min ((32 - n : Nat) : Int).toNat IntKind.u32.bits = 32 - n := by show min _ 32 = _; omega
  have e4 : min (n : Int).toNat IntKind.u32.bits = n := by show min _ 32 = _; omega
  rw [e3, e4, shl_wd, shr_wd, bits_or]
  congr 1
  apply BitVec.eq_of_getLsbD_eq
  intro i hi
  simp only [BitVec.getLsbD_or, BitVec.getLsbD_ushiftRight, BitVec.getLsbD_shiftLeft, BitVec.getLsbD_rotateRight, Nat.mod_eq_of_lt hn, Bool.cond_decide]
  by_cases a : i < 32 - n
  · simp [a, hi]
  · rw [if_neg a]
    have : x.getLsbD (n + i) = false := BitVec.getLsbD_of_ge _ _ (by omega)
    simp [a, this]
theorem refright_calls (x : W32) (m : Int) (h0 : 0 < m) (h1 : m < 32) (w : World) : Calls Tryd.prog 107 #[.int .u32 (wd x), .int .u64 m] w fun e w' => e = .returned (.int .u32 (wd (x.rotateRight m.toNat))) ∧ ∃ n, w' = w.drewN n := by
  refine (paymasterref04_right.calls (wd x) m _ w (refright_some x m.toNat m (by omega) (by omega) (by omega))).mono ?_
  rintro e w' ⟨rfl, hd⟩
  exact ⟨rfl, hd.out⟩
def rowC (b : List UInt8) (t : Nat) : Array Value := ((Pure.rowAt b t).map (Value.int .u32)).toArray
theorem rowC_set (b : List UInt8) (t : Nat) (h : t < 64) : (rowC b t).setIfInBounds t (.int .u32 (wd (nextWord b (sched b t)))) = rowC b (t + 1) := by
  unfold rowC
  rw [← rowAt_set b t h, List.map_set]
  simp
theorem rowC_at (b : List UInt8) (t i : Nat) (hi : i < t) (ht : t ≤ 64) {W : World} {B T : Nat} (h : W.heap[B]? = some (.cells (rowC b t) T (0, 0))) : W.cell? ⟨B, i, none⟩ = some (.int .u32 (wd ((sched b t).getD i 0))) := by
  rw [blk_cell h i]
  have hl := rowAt_length b t ht
  have hr := rd_rowAt b t i hi
  unfold rd at hr
  rw [Int.toNat_natCast, List.getD_eq_getElem?_getD, List.getElem?_eq_getElem (by omega)] at hr
  unfold rowC
  rw [List.getElem?_toArray, List.getElem?_map, List.getElem?_eq_getElem (by omega)]
  simp only [Option.map_some, Option.getD_some] at hr ⊢
  rw [hr]
theorem rowC_some (b : List UInt8) (t i : Nat) (hi : i < 64) (ht : t ≤ 64) {W : World} {B T : Nat} (h : W.heap[B]? = some (.cells (rowC b t) T (0, 0))) : ∃ x, W.cell? ⟨B, i, none⟩ = some (.int .u32 x) := by
  have hl := rowAt_length b t ht
  refine ⟨(Pure.rowAt b t)[i]'(by omega), ?_⟩
  rw [blk_cell h i]
  unfold rowC
  rw [List.getElem?_toArray, List.getElem?_map, List.getElem?_eq_getElem (by omega)]
  rfl
theorem byte_get (b : ByteArray) (t : Nat) (h : t < b.size) : ((b[t]'h).toNat : Int) = ((b.data.toList.getD t 0).toNat : Int) := by
  have h' : t < b.data.size := h
  rw [List.getD_eq_getElem?_getD, Array.getElem?_toList, Array.getElem?_eq_getElem h']
  rfl
theorem word_first (b : ByteArray) (t : Nat) (h : t < 16) (n0 : 4 * t < b.size) (n1 : 4 * t + 1 < b.size) (n2 : 4 * t + 2 < b.size) (n3 : 4 * t + 3 < b.size) :
    Go.bits .or .u32 (Go.bits .or .u32 (Go.bits .or .u32 (((b[4 * t]'n0).toNat : Int) % 4294967296 * 16777216 % 4294967296) (((b[4 * t + 1]'n1).toNat : Int) % 4294967296 * 65536 % 4294967296)) (((b[4 * t + 2]'n2).toNat : Int) % 4294967296 * 256 % 4294967296)) (((b[4 * t + 3]'n3).toNat : Int) % 4294967296) = wd (nextWord b.data.toList (sched b.data.toList t)) := by
  rw [byte_get b _ n0, byte_get b _ n1, byte_get b _ n2, byte_get b _ n3, nextWord, sched_length, if_pos h, be4_wd]
  exact or4 _ _ _ _ (byte_lt _ _) (byte_lt _ _) (byte_lt _ _) (byte_lt _ _)
theorem quick_word (x16 x15 x7 x2 : W32) : (wd x16 + Go.bits .xor .u32 (Go.bits .xor .u32 (wd (x15.rotateRight 7)) (wd (x15.rotateRight 18))) (wd x15 / 8) + wd x7 + Go.bits .xor .u32 (Go.bits .xor .u32 (wd (x2.rotateRight 17)) (wd (x2.rotateRight 19))) (wd x2 / 1024)) % 4294967296 = wd (x16 + ss0 x15 + x7 + ss1 x2) := by
  have e3 : wd x15 / 8 = wd (x15 >>> (3 : Nat)) := shr_wd x15 3
  have e10 : wd x2 / 1024 = wd (x2 >>> (10 : Nat)) := shr_wd x2 10
  rw [e3, e10, bits_xor, bits_xor, bits_xor, bits_xor]
  simp only [← wd_add, Int.emod_add_emod, ss0, ss1]
theorem next_tail (b : List UInt8) (t : Nat) (h : 16 ≤ t) : nextWord b (sched b t) = (sched b t).getD (t - 16) 0 + ss0 ((sched b t).getD (t - 15) 0) + (sched b t).getD (t - 7) 0 + ss1 ((sched b t).getD (t - 2) 0) := by
  rw [nextWord, sched_length, if_neg (by omega)]
theorem not_wd (x : W32) : (4294967295 - wd x) % 4294967296 = wd (~~~x) := by
  unfold wd
  rw [BitVec.toNat_not]
  have := x.isLt
  omega
theorem sum7 (h x y k w b m : W32) : (wd h + wd x + wd y + wd k + wd w + (wd b + wd m)) % 4294967296 = wd (h + x + y + k + w + (b + m)) := by
  simp only [← wd_add, Int.emod_add_emod, Int.add_emod_emod]
theorem sum6 (d h x y k w : W32) : (wd d + (wd h + wd x + wd y + wd k + wd w)) % 4294967296 = wd (d + (h + x + y + k + w)) := by
  simp only [← wd_add, Int.emod_add_emod, Int.add_emod_emod]
theorem quick_a (cur : St) (k x : W32) : (wd cur.h + Go.bits .xor .u32 (Go.bits .xor .u32 (wd (cur.e.rotateRight 6)) (wd (cur.e.rotateRight 11))) (wd (cur.e.rotateRight 25)) + Go.bits .xor .u32 (Go.bits .and .u32 (wd cur.e) (wd cur.f)) (Go.bits .and .u32 ((4294967295 - wd cur.e) % 4294967296) (wd cur.g)) + wd k + wd x +
    (Go.bits .xor .u32 (Go.bits .xor .u32 (wd (cur.a.rotateRight 2)) (wd (cur.a.rotateRight 13))) (wd (cur.a.rotateRight 22)) + Go.bits .xor .u32 (Go.bits .xor .u32 (Go.bits .and .u32 (wd cur.a) (wd cur.b)) (Go.bits .and .u32 (wd cur.a) (wd cur.c))) (Go.bits .and .u32 (wd cur.b) (wd cur.c)))) % 4294967296 = wd (rnd cur k x).a := by
  rw [not_wd]
  simp only [bits_xor, bits_and]
  rw [sum7]
  congr 1
  show _ = tOf cur k x + (bs0 cur.a + maj cur.a cur.b cur.c)
  unfold tOf
  show cur.h + bs1 cur.e + ch cur.e cur.f cur.g + k + x + (bs0 cur.a + maj cur.a cur.b cur.c) = _
  ac_rfl
theorem quick_e (cur : St) (k x : W32) : (wd cur.d + (wd cur.h + Go.bits .xor .u32 (Go.bits .xor .u32 (wd (cur.e.rotateRight 6)) (wd (cur.e.rotateRight 11))) (wd (cur.e.rotateRight 25)) + Go.bits .xor .u32 (Go.bits .and .u32 (wd cur.e) (wd cur.f)) (Go.bits .and .u32 ((4294967295 - wd cur.e) % 4294967296) (wd cur.g)) + wd k + wd x)) % 4294967296 = wd (rnd cur k x).e := by
  rw [not_wd]
  simp only [bits_xor, bits_and]
  rw [sum6]
  congr 1
  show _ = cur.d + tOf cur k x
  unfold tOf
  show cur.d + (cur.h + bs1 cur.e + ch cur.e cur.f cur.g + k + x) = _
  ac_rfl
theorem heap3 (w : World) (o0 o1 o2 : Obj) : (((w.alloc o0).alloc o1).alloc o2).heap[w.heap.size]? = some o0 ∧ (((w.alloc o0).alloc o1).alloc o2).heap[w.heap.size + 1]? = some o1 ∧ (((w.alloc o0).alloc o1).alloc o2).heap[w.heap.size + 2]? = some o2 := by
  refine ⟨blk_alloc (blk_alloc (blk_new w _) _) _, blk_alloc ?_ _, ?_⟩
  · have := blk_new (w.alloc o0) o1
    rw [World.size_alloc] at this
    exact this
  · have := blk_new ((w.alloc o0).alloc o1) o2
    rw [World.size_alloc, World.size_alloc] at this
    exact this
set_option maxHeartbeats 8000000 in
set_option maxRecDepth 100000 in
theorem quick_calls (s : St) (b : ByteArray) (h64 : b.size = 64) (w : World) (BT oT cT : Nat) (hcT : 64 ≤ cT) (hBT : BT < w.heap.size) (hcell : ∀ (t : Nat), t < 64 → w.cell? ⟨BT, oT + t, none⟩ = some (.int .u32 (wd (kws t)))) :
    Calls Tryd.prog 94 #[stv s, .string b, .slice (some ⟨BT, oT, none⟩) 64 cT] w fun e w' => e = .returned (stv (next s b.data.toList)) ∧ Below w.heap.size w w' := by
  have HT := Aside0.mk hcell
  have H64 := Aside0.mk h64
  have hsz : (b.size : Int) ≤ 64 := by omega
  have hsz2 : (64 : Int) ≤ b.size := by omega
  clear hcell h64
  have HNE := Aside0.mk (show next s b.data.toList = addSt (runs (words b.data.toList) s 64) s from rfl)
  generalize next s b.data.toList = nx at *
  unfold stv
  go_enter Tryd.func94, Tryd.ntmps94
  go_wp2_with fail
  have hd := Aside0.mk (heap3 w (.cells (stc s) 95) (.cells (stc zeroSt) 95) (.cells (rowC b.data.toList 0) 137))
  have hx0 := Aside0.mk (below_alloc (below_alloc (below_alloc (Below.refl _ w) (.cells (stc s) 95)) (.cells (stc zeroSt) 95)) (.cells (rowC b.data.toList 0) 137))
  go_loopg [8] 16 (fun k i wr => ∃ t : Nat, t + k = 16 ∧ i = .int .i64 t ∧ wr.heap[w.heap.size]? = some (.cells (stc s) 95 (0, 0)) ∧ wr.heap[w.heap.size + 1]? = some (.cells (stc zeroSt) 95 (0, 0)) ∧ wr.heap[w.heap.size + 2]? = some (.cells (rowC b.data.toList t) 137 (0, 0)) ∧ Below w.heap.size w wr)
  case atStart => exact ⟨0, rfl, rfl, hd.out.1, hd.out.2.1, hd.out.2.2, hx0.out⟩
  case round =>
    obtain ⟨t, ht, rfl, hb0, hb1, hb2, hx⟩ := hrel
    have H0 := Aside0.mk hb0
    have H1 := Aside0.mk hb1
    have H2 := Aside0.mk hb2
    have HX := Aside0.mk hx
    clear hd hx0
    by_cases hlt : t < 16
    · have l1 : (t : Int) < 16 := by omega
      have m0 : 4 * (t : Int) < b.size := by omega
      have m1 : 4 * (t : Int) + 1 < b.size := by omega
      have m2 : 4 * (t : Int) + 2 < b.size := by omega
      have m3 : 4 * (t : Int) + 3 < b.size := by omega
      have q0 : 0 ≤ 4 * (t : Int) := by omega
      have q1 : 0 ≤ 4 * (t : Int) + 1 := by omega
      have q2 : 0 ≤ 4 * (t : Int) + 2 := by omega
      have q3 : 0 ≤ 4 * (t : Int) + 3 := by omega
      have n0 : 4 * t < b.size := by omega
      have n1 : 4 * t + 1 < b.size := by omega
      have n2 : 4 * t + 2 < b.size := by omega
      have n3 : 4 * t + 3 < b.size := by omega
      have LZ := Aside0.mk (fun z : Made.Later wr.heap.size wr => And.intro (Made.Later.blk hb0 (blk_lt hb0) z) (And.intro (Made.Later.blk hb1 (blk_lt hb1) z) (Made.Later.blk hb2 (blk_lt hb2) z)))
      clear hb0 hb1 hb2 hx
      go_wp2_with fail
      refine Made.region_made_tail wr.heap.size 31 (by kernel_rfl) (by kernel_rfl) ?_
      simp only [List.take_succ_cons, List.take_zero, List.drop_succ_cons, List.drop_zero]
      iterate 31 (go_big_quiet_step (fail))
      refine wpQuiet_nil ?_
      rintro _ ⟨z, rfl⟩
      obtain ⟨g0, g1, g2⟩ := LZ.out z
      have GX := Aside0.mk (HX.out.trans (z.below.mono HX.out.size))
      clear LZ
      generalize z.world = w6 at *
      obtain ⟨x0, cb⟩ := rowC_some b.data.toList t t (by omega) (by omega) g2
      have fb := blk_frozen g2 t
      have G0 := Aside0.mk g0
      have G1 := Aside0.mk g1
      have G2 := Aside0.mk g2
      clear g0 g1 g2
      go_wp2_with fail
      go_roundg (gk - 1)
      case measure => omega
      case rel =>
        refine ⟨t + 1, by omega, by go_num, blk_far G0.out (p := ⟨w.heap.size + 1 + 1, t, none⟩) (by simp; omega) _, blk_far G1.out (p := ⟨w.heap.size + 1 + 1, t, none⟩) (by simp) _, ?_, GX.out.setCell (p := ⟨w.heap.size + 1 + 1, t, none⟩) (by simp; omega) _⟩
        rw [word_first b t hlt n0 n1 n2 n3]
        exact blk_put G2.out t _ (rowC_set _ _ (by omega))
    · obtain rfl : t = 16 := by omega
      clear hb0 hb1 hb2 hx hlt ht
      go_wp2_with fail
      go_loopg [9] 48 (fun k i wr => ∃ t : Nat, 16 ≤ t ∧ t + k = 64 ∧ i = .int .i64 t ∧ wr.heap[w.heap.size]? = some (.cells (stc s) 95 (0, 0)) ∧ wr.heap[w.heap.size + 1]? = some (.cells (stc zeroSt) 95 (0, 0)) ∧ wr.heap[w.heap.size + 2]? = some (.cells (rowC b.data.toList t) 137 (0, 0)) ∧ Below w.heap.size w wr)
      case atStart => exact ⟨16, Nat.le_refl _, rfl, rfl, H0.out, H1.out, H2.out, HX.out⟩
      case round =>
        clear H0 H1 H2 HX
        obtain ⟨t, h16, ht, rfl, hb0, hb1, hb2, hx⟩ := hrel
        have H0 := Aside0.mk hb0
        have H1 := Aside0.mk hb1
        have H2 := Aside0.mk hb2
        have HX := Aside0.mk hx
        by_cases hlt : t < 64
        · have l1 : (t : Int) < 64 := by omega
          have l2 : (16 : Int) ≤ (t : Int) := by omega
          have z15 := rowC_at b.data.toList t (t - 15) (by omega) (by omega) hb2
          have z2 := rowC_at b.data.toList t (t - 2) (by omega) (by omega) hb2
          have z16 := rowC_at b.data.toList t (t - 16) (by omega) (by omega) hb2
          have z7 := rowC_at b.data.toList t (t - 7) (by omega) (by omega) hb2
          have HNW := Aside0.mk (next_tail b.data.toList t h16)
          generalize (sched b.data.toList t).getD (t - 15) 0 = x15 at *
          generalize (sched b.data.toList t).getD (t - 2) 0 = x2 at *
          generalize (sched b.data.toList t).getD (t - 16) 0 = x16 at *
          generalize (sched b.data.toList t).getD (t - 7) 0 = x7 at *
          have Z16 := Aside0.mk z16
          have Z7 := Aside0.mk z7
          clear hb0 hb1 hb2 hx z16 z7
          go_wp2_with fail
          go_quiet (fail)
          have Y16 := Aside0.mk (show (wr.drewN nq).cell? ⟨w.heap.size + 2, t - 16, none⟩ = some (.int .u32 (wd x16)) from Z16.out)
          have Y7 := Aside0.mk (show (wr.drewN nq).cell? ⟨w.heap.size + 2, t - 7, none⟩ = some (.int .u32 (wd x7)) from Z7.out)
          have G0 := Aside0.mk (blk_drewN H0.out nq)
          have G1 := Aside0.mk (blk_drewN H1.out nq)
          have G2 := Aside0.mk (blk_drewN H2.out nq)
          have GX := Aside0.mk (pw_below_drewN HX.out nq)
          clear H0 H1 H2 HX z15 z2 Z16 Z7
          generalize wr.drewN nq = w5 at *
          have LZ := Aside0.mk (fun z : Made.Later w5.heap.size w5 => And.intro (Made.Later.blk G0.out (blk_lt G0.out) z) (And.intro (Made.Later.blk G1.out (blk_lt G1.out) z) (Made.Later.blk G2.out (blk_lt G2.out) z)))
          have c16 : ∀ z : Made.Later w5.heap.size w5, z.world.cell? ⟨w.heap.size + 2, t - 16, none⟩ = some (.int .u32 (wd x16)) := Made.Later.cell Y16.out (World.block_lt_of_cell? w5 _ Y16.out)
          have c7 : ∀ z : Made.Later w5.heap.size w5, z.world.cell? ⟨w.heap.size + 2, t - 7, none⟩ = some (.int .u32 (wd x7)) := Made.Later.cell Y7.out (World.block_lt_of_cell? w5 _ Y7.out)
          go_wp2_with fail
          refine Made.region_made_tail w5.heap.size 29 (by kernel_rfl) (by kernel_rfl) ?_
          simp only [List.take_succ_cons, List.take_zero, List.drop_succ_cons, List.drop_zero]
          repeat (go_big_quiet_step ((go_at_call 107; exact Made.of_drawn (refright_calls _ _ (by decide) (by decide) _))))
          refine wpQuiet_nil ?_
          rintro _ ⟨z, rfl⟩
          obtain ⟨g0, g1, g2⟩ := LZ.out z
          have GX2 := Aside0.mk (GX.out.trans (z.below.mono GX.out.size))
          clear LZ c16 c7 G0 G1 G2 Y16 Y7
          generalize z.world = w6 at *
          obtain ⟨x0, cb⟩ := rowC_some b.data.toList t t (by omega) (by omega) g2
          have fb := blk_frozen g2 t
          have G0 := Aside0.mk g0
          have G1 := Aside0.mk g1
          have G2 := Aside0.mk g2
          clear g0 g1 g2
          go_wp2_with fail
          go_roundg (gk - 1)
          case measure => omega
          case rel =>
            refine ⟨t + 1, by omega, by omega, by go_num, blk_far G0.out (p := ⟨w.heap.size + 1 + 1, t, none⟩) (by simp; omega) _, blk_far G1.out (p := ⟨w.heap.size + 1 + 1, t, none⟩) (by simp) _, ?_, GX2.out.setCell (p := ⟨w.heap.size + 1 + 1, t, none⟩) (by simp; omega) _⟩
            rw [quick_word, ← HNW.out]
            exact blk_put G2.out t _ (rowC_set _ _ (by omega))
        · obtain rfl : t = 64 := by omega
          have c0 := stcT_cell hb0
          have hltT := Nat.lt_of_lt_of_le hBT hx.size
          have HRow := Aside0.mk (fun t (h : t < 64) => rowC_at b.data.toList 64 t h (Nat.le_refl _) hb2)
          have HTab := Aside0.mk (fun t (h : t < 64) => (hx.cell (p := ⟨BT, oT + t, none⟩) hBT).trans (HT.out t h))
          have lb2 := blk_lt hb2
          have lb0 := blk_lt hb0
          have lb1 := blk_lt hb1
          clear hb0 hb1 hb2 hx hlt ht h16
          go_wp2_with fail
          have HR2 := Aside0.mk (show ∀ t : Nat, t < 64 → wr.cell? ⟨w.heap.size + 2, t, none⟩ = some (.int .u32 (wd ((words b.data.toList).getD t 0))) from HRow.out)
          clear HRow
          generalize words b.data.toList = ws at *
          have GN := Aside0.mk (show (wr.alloc (.cells (stc s) 95)).heap[wr.heap.size]? = some (.cells (stc (runs ws s 0)) 95 (0, 0)) from blk_new wr _)
          clear c0
          obtain ⟨wo, rfl⟩ : ∃ wo : World, wo = wr := ⟨wr, rfl⟩
          go_loopg [13] 64 (fun k i wr => ∃ t : Nat, t + k = 64 ∧ i = .int .i64 t ∧ wr.heap[wo.heap.size]? = some (.cells (stc (runs ws s t)) 95 (0, 0)) ∧ Below wo.heap.size wo wr)
          case atStart => exact ⟨0, rfl, rfl, GN.out, (Below.refl _ _).alloc (Nat.le_refl _) _⟩
          case round =>
            clear GN
            obtain ⟨t, ht, rfl, hb, hx2⟩ := hrel
            have HN := Aside0.mk hb
            have HX2 := Aside0.mk hx2
            by_cases hlt : t < 64
            · have l1 : (t : Int) < 64 := by omega
              have cw := (hx2.cell (p := ⟨w.heap.size + 2, t, none⟩) lb2).trans (HR2.out t hlt)
              have ck := (hx2.cell (p := ⟨BT, oT + t, none⟩) hltT).trans (HTab.out t hlt)
              have cN := stcT_cell hb
              have e1 := Aside0.mk (show rnd (runs ws s t) (kws t) (ws.getD t 0) = runs ws s (t + 1) from rfl)
              generalize runs ws s t = cur at *
              generalize hnxt : runs ws s (t + 1) = nxt at *
              have HNX := Aside0.mk hnxt
              clear hnxt
              generalize ws.getD t 0 = xw at *
              generalize kws t = kk at *
              have CW := Aside0.mk cw
              have CK := Aside0.mk ck
              clear hb hx2
              go_wp2_with fail
              go_quiet (fail)
              have HN_A := Aside0.mk (blk_drewN HN.out nq)
              have HX_A := Aside0.mk (pw_below_drewN HX2.out nq)
              have CW_A := Aside0.mk (show (wr.drewN nq).cell? ⟨w.heap.size + 2, t, none⟩ = some (.int .u32 (wd xw)) from CW.out)
              have CK_A := Aside0.mk (show (wr.drewN nq).cell? ⟨BT, oT + t, none⟩ = some (.int .u32 (wd kk)) from CK.out)
              clear HN HX2 CW CK cw ck cN
              have HN := HN_A
              have HX2 := HX_A
              have CW := CW_A
              have CK := CK_A
              clear HN_A HX_A CW_A CK_A
              generalize wr.drewN nq = wr at *
              have cN := stcT_cell HN.out
              have cw := CW.out
              have ck := CK.out
              go_wp2_with fail
              go_quiet (fail)
              have HN_A := Aside0.mk (blk_drewN HN.out nq)
              have HX_A := Aside0.mk (pw_below_drewN HX2.out nq)
              have CW_A := Aside0.mk (show (wr.drewN nq).cell? ⟨w.heap.size + 2, t, none⟩ = some (.int .u32 (wd xw)) from CW.out)
              have CK_A := Aside0.mk (show (wr.drewN nq).cell? ⟨BT, oT + t, none⟩ = some (.int .u32 (wd kk)) from CK.out)
              clear HN HX2 CW CK cw ck cN
              have HN := HN_A
              have HX2 := HX_A
              have CW := CW_A
              have CK := CK_A
              clear HN_A HX_A CW_A CK_A
              generalize wr.drewN nq = wr at *
              have cN := stcT_cell HN.out
              have cw := CW.out
              have ck := CK.out
              go_wp2_with fail
              go_quiet ((go_at_call 107; exact Calls.quiet_of (refright_calls _ _ (by decide) (by decide) _)))
              have HN_A := Aside0.mk (blk_drewN HN.out nq)
              have HX_A := Aside0.mk (pw_below_drewN HX2.out nq)
              have CW_A := Aside0.mk (show (wr.drewN nq).cell? ⟨w.heap.size + 2, t, none⟩ = some (.int .u32 (wd xw)) from CW.out)
              have CK_A := Aside0.mk (show (wr.drewN nq).cell? ⟨BT, oT + t, none⟩ = some (.int .u32 (wd kk)) from CK.out)
              clear HN HX2 CW CK cw ck cN
              have HN := HN_A
              have HX2 := HX_A
              have CW := CW_A
              have CK := CK_A
              clear HN_A HX_A CW_A CK_A
              generalize wr.drewN nq = wr at *
              have cN := stcT_cell HN.out
              have cw := CW.out
              have ck := CK.out
              go_wp2_with fail
              refine (refright_calls _ _ (by decide) (by decide) _).mono ?_
              rintro e w' ⟨rfl, n1, rfl⟩
              go_wp2_with fail
              refine (refright_calls _ _ (by decide) (by decide) _).mono ?_
              rintro e w' ⟨rfl, n2, rfl⟩
              go_wp2_with fail
              refine (refright_calls _ _ (by decide) (by decide) _).mono ?_
              rintro e w' ⟨rfl, n3, rfl⟩
              have fN := stcT_free HN.out
              go_wp2_with fail
              go_roundg (gk - 1)
              case measure => omega
              case rel =>
                refine ⟨t + 1, by omega, by go_num, ?_, below8g _ _ _ _ _ _ _ _ (pw_below_drewN HX2.out _) (Nat.le_refl _)⟩
                rw [quick_a, quick_e, HNX.out, ← e1.out]
                exact put8g _ _ _ _ _ _ _ _ _ _ _ _ _ _ _ _ (blk_drewN HN.out _)
            · obtain rfl : t = 64 := by omega
              have b0' := Aside0.mk (blk_below H0.out hx2)
              have b1' := Aside0.mk (blk_below H1.out hx2)
              clear hb hx2 hlt ht
              generalize runs ws s 64 = cur at *
              have G1 := Aside0.mk (show wr.heap[wo.heap.size]? = some (.cells (stc (mixSt cur s 0)) 95 (0, 0)) from HN.out)
              go_wp2_with fail
              go_loopg [22] 8 (fun k i wq => ∃ t : Nat, t + k = 8 ∧ i = .int .i64 t ∧ wq.heap[wo.heap.size]? = some (.cells (stc (mixSt cur s t)) 95 (0, 0)) ∧ Below wo.heap.size wo wq)
              case atStart => exact ⟨0, rfl, rfl, G1.out, HX2.out⟩
              case round =>
                obtain ⟨t, ht, rfl, hb, hx3⟩ := hrel
                have HX3 := Aside0.mk hx3
                have HE2 := Aside0.mk hb
                have bs := blk_below H0.out hx3
                have br := blk_below H1.out hx3
                by_cases hlt : t < 8
                · have c1 := stcT_at hb t hlt
                  rw [mixSt_at _ _ _ hlt] at c1
                  have c2 := stcT_at bs t hlt
                  have f1 := stcT_free hb t
                  generalize hp : St.at cur t = p at *
                  generalize hq : St.at s t = q at *
                  have Hp := Aside0.mk hp
                  have Hq := Aside0.mk hq
                  have l1 : (t : Int) < 8 := by omega
                  clear hb hx3 bs br hp hq
                  go_wp2_with fail
                  go_region
                  all_goals
                    go_wp2_with fail
                    go_roundg (gk - 1)
                    case measure => omega
                    case rel =>
                      refine ⟨t + 1, by omega, by go_num, ?_, ?_⟩
                      · refine blk_drew ?_
                        rw [wd_add, ← Hp.out, ← Hq.out]
                        exact blk_put HE2.out t _ (mixSt_set _ _ _ hlt)
                      · exact (HX3.out.setCell (p := ⟨wo.heap.size, t, none⟩) (Nat.le_refl _) _).drew
                · obtain rfl : t = 8 := by omega
                  have e8 : mixSt cur s 8 = nx := by rw [HNE.out]; rfl
                  rw [e8] at hb
                  have c1 := stcT_cell hb
                  have c2 := stcT_cell br
                  have f2 := stcT_free br
                  clear hb hx3 bs hlt e8 HNE
                  go_wp2_with fail
                  refine bodyPost_ret (v := stv nx) (by unfold stv; simp [results, Tryd.results94, go_sem, c2]) rfl ⟨rfl, ?_⟩
                  exact put8V_below nx (HX.out.trans (HX3.out.mono HX.out.size)) (by omega)
end Go.Proofs.YtomninikmcmmcaaDoor.Blk

