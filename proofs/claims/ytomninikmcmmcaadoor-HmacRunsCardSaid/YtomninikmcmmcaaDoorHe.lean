/- Texts of this session, put together: Hex, SEval. -/
import Derived.Test.YtomninikmcmmcaaDoorMark
import Derived.Test.YtomninikmcmmcaaDoorHn
import Derived.Test.YtomninikmcmmcaaDoorHm
section
/- A text's digits: a builder whose row lies above the text's own bytes; sha.Hex. -/
namespace Go.Proofs.YtomninikmcmmcaaDoor.Sha
open Go Go.RowKit Go.Shelf Go.Proofs.YtomninikmcmmcaaDoor.Rng Go.Proofs.YtomninikmcmmcaaDoorW.PrintWords Go.Proofs.Sp Go.Proofs.YtomninikmcmmcaaDoor.Blk Go.Proofs.YtomninikmcmmcaaDoor.GivA
set_option linter.unusedVariables false
set_option linter.unusedSimpArgs false
/-- A builder in block b whose row lies at B or above. -/
def Bld (B b : Nat) (bs : List Value) (w : World) : Prop :=
  ∃ p v, (p = .pointer none ∨ p = .pointer (some ⟨b, 0, none⟩)) ∧ w.heap[b]? = some (.cells #[p, v] 121 (0, 0)) ∧ w.ownsRowF B 5 1 v bs.length bs ∧ v.ownBlock ≠ some b
/-- Nothing of what lies below B but block b is touched. -/
structure KeepX (B b : Nat) (w w' : World) : Prop where
  os : w'.os = w.os
  tape : w'.tape = w.tape
  output : w'.output = w.output
  size : w.heap.size ≤ w'.heap.size
  block : ∀ k, k < B → k ≠ b → w'.heap[k]? = w.heap[k]?
theorem KeepX.trans {B b : Nat} {x y z : World} (h : KeepX B b x y) (k : KeepX B b y z) : KeepX B b x z :=
  ⟨k.os.trans h.os, k.tape.trans h.tape, k.output.trans h.output, Nat.le_trans h.size k.size, fun i h1 h2 => (k.block i h1 h2).trans (h.block i h1 h2)⟩
theorem KeepX.set {B b : Nat} (w : World) (j : Nat) (v : Value) : KeepX B b w (w.setCell ⟨b, j, none⟩ v) :=
  ⟨rfl, rfl, rfl, by simp [World.setCell], fun k _ hk => Below.heap_setCell _ _ _ _ (fun e => hk (by simp [e]))⟩
theorem KeepX.alloc {B b : Nat} (w : World) (o : Obj) (h : B ≤ w.heap.size) : KeepX B b w (w.alloc o) :=
  ⟨rfl, rfl, rfl, by rw [show (w.alloc o).heap.size = w.heap.size + 1 from Array.size_push _]; omega, fun k h1 _ => Below.heap_alloc _ _ _ (by omega)⟩
theorem KeepX.grown {B b : Nat} {w w' : World} {r : Option Nat} (h : w.grownBy w' r) (hB : B ≤ w.heap.size) (hr : ∀ k, r = some k → B ≤ k) : KeepX B b w w' :=
  ⟨h.os, h.tape, h.output, h.size, fun k h1 _ => h.block k (by omega) (fun e => by have := hr k e.symm; omega)⟩
theorem KeepX.below {B b N : Nat} {v w w' : World} (h : KeepX B b w w') (hb : Below N v w) (h1 : N ≤ B) (h2 : N ≤ b) (hs : N ≤ w.heap.size) : Below N v w' :=
  ⟨h.os.trans hb.os, h.tape.trans hb.tape, h.output.trans hb.output, Nat.le_trans hb.size h.size, fun k hk => (h.block k (by omega) (by omega)).trans (hb.block k hk)⟩
theorem hx_lt {w : World} {b : Nat} {o : Obj} (h : w.heap[b]? = some o) : b < w.heap.size := by
  apply Decidable.byContradiction
  intro hn
  rw [Array.getElem?_eq_none (by omega)] at h
  cases h
theorem copy_check (B b : Nat) (bs : List Value) (w : World) (h : Bld B b bs w) :
    Calls Tryd.prog 111 #[.pointer (some ⟨b, 0, none⟩)] w fun e w' => e = .returned (.tuple #[]) ∧
      (∃ v, w'.heap[b]? = some (.cells #[.pointer (some ⟨b, 0, none⟩), v] 121 (0, 0)) ∧ w'.ownsRowF B 5 1 v bs.length bs ∧ v.ownBlock ≠ some b) ∧ KeepX B b w w' := by
  obtain ⟨p, v, hp, hb, hown, hne⟩ := h
  have c0 : w.cell? ⟨b, 0, none⟩ = some p := by rw [Lib.cell_of_heap hb]; rfl
  rcases hp with rfl | rfl
  · refine (Any.Builder_copyCheck_fresh { Tryd.lays167b with } Tryd.Builder_Extra_167b.toX72 b w c0 (by simp [World.shape?, hb, Tryd.lays167b_ren]) (Lib.frozen_of_heap hb 0)).mono ?_
    rintro e w' ⟨rfl, rfl⟩
    refine ⟨rfl, ⟨v, by simp [World.setCell, Array.getElem?_modify, hb], ?_, hne⟩, KeepX.set _ _ _⟩
    exact hown.kept (row := some b) ⟨rfl, rfl, rfl, by simp [World.setCell], fun k _ hk => Below.heap_setCell _ _ _ _ (fun e => hk (by simp [e]))⟩ (Or.inr hne)
  · refine (Any.Builder_copyCheck_used { Tryd.lays167b with } Tryd.Builder_Extra_167b.toX72 b w c0).mono ?_
    rintro e w' ⟨rfl, rfl⟩
    exact ⟨rfl, ⟨v, hb, hown, hne⟩, ⟨rfl, rfl, rfl, Nat.le_refl _, fun _ _ _ => rfl⟩⟩
set_option maxHeartbeats 2000000 in
set_option maxRecDepth 100000 in
theorem wbyte_calls (B b : Nat) (bs : List Value) (c : Int) (w : World) (h : Bld B b bs w) (hlen : bs.length + 1 ≤ 140737488355328) (hBw : B ≤ w.heap.size) :
    Calls Tryd.prog 101 #[.pointer (some ⟨b, 0, none⟩), .int .u8 c] w fun e w' => e = .returned .nilIface ∧ Bld B b (bs ++ [.int .u8 c]) w' ∧ KeepX B b w w' := by
  obtain ⟨i0, hi, hz0, hz1, hz2⟩ := info_parts (P := Tryd.prog) (e := 5) (z := .int .u8 0) (size := 1) (bytes := 1) (by kernel_rfl)
  have HCC := Aside0.mk (copy_check B b bs w h)
  clear h
  go_enter Tryd.func101, Tryd.ntmps101
  go_wp2_with fail
  refine HCC.out.mono ?_
  rintro e w1 ⟨rfl, ⟨v, hbk, hown, hne⟩, hk1⟩
  have c0 : w1.cell? ⟨b, 0, none⟩ = some (.pointer (some ⟨b, 0, none⟩)) := by rw [Lib.cell_of_heap hbk]; rfl
  have c1 : w1.cell? ⟨b, 1, none⟩ = some v := by rw [Lib.cell_of_heap hbk]; rfl
  have HK1 := Aside0.mk hk1
  have hB1 : B ≤ w1.heap.size := Nat.le_trans hBw hk1.size
  clear hk1
  go_wp2_with (at_builtin; refine wpList_append_ownF _ rfl _ _ 65 rfl B 5 i0 (.int .u8 0) 1 1 Tryd.underlying65 hi hz0 hz1 hz2 rfl (by decide) _ _ _ rfl (hown.alloc _) ⟨w1.heap.size, 0, none⟩ 1 1 [.int .u8 c] rfl rfl ?c1 ?c2 ?c3 ?c4 ?c5 ?_)
  case c1 =>
    intro j u hj
    match j, hj with
    | 0, hj => simp at hj; subst hj; simp [Addr.add]
  case c2 => intro u hu; simp at hu; subst hu; rfl
  case c3 => unfold maxLen; omega
  case c4 => omega
  case c5 => simp; omega
  intro v' w2 hown' hgrow _
  have hlt : b < w1.heap.size := hx_lt hbk
  have hb2 : w2.heap[b]? = some (.cells #[.pointer (some ⟨b, 0, none⟩), v] 121 (0, 0)) := by
    rw [hgrow.block b (by simp; omega) (fun e => hne e.symm), Lib.alloc_old w1 _ b hlt]
    exact hbk
  have HG := Aside0.mk ((KeepX.alloc (b := b) w1 (.cells #[.int .u8 c] 5) hB1).trans (KeepX.grown hgrow (by simp; omega) (fun k hk => (hown.lt k hk).1)))
  have d0 : w2.cell? ⟨b, 0, none⟩ = some (.pointer (some ⟨b, 0, none⟩)) := by rw [Lib.cell_of_heap hb2]; rfl
  have d1 : w2.cell? ⟨b, 1, none⟩ = some v := by rw [Lib.cell_of_heap hb2]; rfl
  have f1 : w2.frozen? ⟨b, 1, none⟩ = false := Lib.frozen_of_heap hb2 1
  obtain ⟨g, cap, rfl⟩ : ∃ g cap, v' = .slice (some ⟨g, 0, none⟩) (bs.length + 1) cap := by
    rcases hown'.2 with ⟨_, h0⟩ | ⟨g, cap, cur, fz, hv, _⟩
    · omega
    · exact ⟨g, cap, hv⟩
  have HO := Aside0.mk hown'
  have HB2 := Aside0.mk hb2
  clear hown' hgrow hown hb2 hbk c0 c1 hi
  go_wp2_with fail
  go_ret
  have hne2 := Lib.ownBlock_neF HO.out HB2.out (by decide)
  refine ⟨rfl, ⟨_, _, .inr rfl, ?_, ?_, hne2⟩, (HK1.out.trans HG.out).trans (KeepX.set _ _ _)⟩
  · simp only [World.setCell, Array.getElem?_modify, HB2.out]
    simp
  · have := HO.out.kept (row := some b) (w' := w2.setCell ⟨b, 1, none⟩ (.slice (some ⟨g, 0, none⟩) (bs.length + 1) cap)) ⟨rfl, rfl, rfl, by simp [World.setCell], fun k _ hk => Below.heap_setCell _ _ _ _ (fun e => hk (by simp [e]))⟩ (Or.inr hne2)
    rw [List.length_append]
    exact this
def digits : List UInt8 := [48, 49, 50, 51, 52, 53, 54, 55, 56, 57, 97, 98, 99, 100, 101, 102]
def dig (n : Nat) : UInt8 := digits.getD n 0
def hx (l : List UInt8) : Nat → List UInt8
  | 0 => []
  | t + 1 => hx l t ++ [dig ((l.getD t 0).toNat / 16), dig ((l.getD t 0).toNat % 16)]
def hex (s : ByteArray) : ByteArray := ⟨(hx s.data.toList s.size).toArray⟩
theorem hx_length (l : List UInt8) : ∀ t, (hx l t).length = 2 * t
  | 0 => rfl
  | t + 1 => by rw [hx, List.length_append, hx_length l t]; rfl
theorem bld_start (w : World) (W : World) (h : W.heap[w.heap.size]? = some (.cells #[.pointer none, .slice none 0 0] 121 (0, 0))) (B : Nat) : Bld B w.heap.size [] W :=
  ⟨_, _, .inl rfl, h, ⟨by simp, .inl ⟨rfl, rfl⟩⟩, fun e => by cases e⟩
theorem dig_get (j : Nat) (h : j < (⟨#[48, 49, 50, 51, 52, 53, 54, 55, 56, 57, 97, 98, 99, 100, 101, 102]⟩ : ByteArray).size) : (⟨#[48, 49, 50, 51, 52, 53, 54, 55, 56, 57, 97, 98, 99, 100, 101, 102]⟩ : ByteArray)[j]'h = dig j := byte_get' _ j h
theorem bld_is {b : Nat} {bs : List Value} {w : World} (h : Bld (b + 2) b bs w) : Lib.IsBuilderF 121 5 b b bs w := by
  obtain ⟨p, v, hp, hb, hown, hne⟩ := h
  have hown' : w.ownsRowF b 5 1 v bs.length bs := by
    refine ⟨hown.1, ?_⟩
    rcases hown.2 with h0 | ⟨g, cap, cur, fz, h1, h2, h3⟩
    · exact .inl h0
    · exact .inr ⟨g, cap, cur, fz, h1, by omega, h3⟩
  rcases hp with rfl | rfl
  · exact .inl ⟨Nat.le_refl _, v, hb, hown', hne⟩
  · exact .inr ⟨Nat.le_refl _, v, hb, hown', hne⟩
set_option maxHeartbeats 2000000 in
set_option maxRecDepth 100000 in
theorem hex_calls (s : ByteArray) (hs : s.size ≤ 1000) (w : World) :
    Calls Tryd.prog 80 #[.string s] w fun e w' => e = .returned (.string (hex s)) ∧ Below w.heap.size w w' := by
  have hcv := fun w => run_bytes_of_string (P := Tryd.prog) w 9 65 5 s Tryd.underlying9 Tryd.underlying65 Tryd.underlying5
  go_enter Tryd.func80, Tryd.ntmps80
  go_wp2_with fail
  clear hcv
  generalize grownCap (w.alloc (.cells #[.pointer none, .slice none 0 0] 121)) s.size 0 5 = n at *
  have X0 := XRow.start s 0 (w.alloc (.cells #[.pointer none, .slice none 0 0] 121)) n
  have z0 : (w.alloc (.cells #[.pointer none, .slice none 0 0] 121)).heap.size = w.heap.size + 1 := Array.size_push _
  rw [z0] at X0
  have k0 : ((w.alloc (.cells #[.pointer none, .slice none 0 0] 121)).alloc (.cells (bytesRow s n) 5 ((bytesRow s n).size, (bytesRow s n).size + 1))).drew.heap[w.heap.size]? = some (.cells #[.pointer none, .slice none 0 0] 121 (0, 0)) := by
    show ((w.alloc (.cells #[.pointer none, .slice none 0 0] 121)).alloc _).heap[w.heap.size]? = _
    rw [Below.heap_alloc _ _ _ (by rw [z0]; omega)]
    exact blk_new w _
  have b0 : Below w.heap.size w ((w.alloc (.cells #[.pointer none, .slice none 0 0] 121)).alloc (.cells (bytesRow s n) 5 ((bytesRow s n).size, (bytesRow s n).size + 1))).drew := (((Below.refl _ _).alloc (Nat.le_refl _) _).alloc (by rw [z0]; omega) _).drew
  have s0 : ((w.alloc (.cells #[.pointer none, .slice none 0 0] 121)).alloc (.cells (bytesRow s n) 5 ((bytesRow s n).size, (bytesRow s n).size + 1))).drew.heap.size = w.heap.size + 2 := by
    show ((w.alloc (.cells #[.pointer none, .slice none 0 0] 121)).alloc _).heap.size = _
    rw [show ∀ (v : World) (o : Obj), (v.alloc o).heap.size = v.heap.size + 1 from fun v o => Array.size_push _, z0]
  generalize ((w.alloc (.cells #[.pointer none, .slice none 0 0] 121)).alloc (.cells (bytesRow s n) 5 ((bytesRow s n).size, (bytesRow s n).size + 1))).drew = W at *
  clear z0
  have HX := Aside0.mk (show ∀ t, t < s.size → ∀ W', KeepX (w.heap.size + 2) w.heap.size W W' → W'.cell? ⟨w.heap.size + 1, t, none⟩ = some (.int .u8 ((s.data.toList.getD t 0).toNat : Int)) from fun t ht W' hk => by
    have h1 := hk.block (w.heap.size + 1) (by omega) (by omega)
    have h2 := X0.cell t ht
    rw [World.cell?_of_block (w := W) (w' := W') h1, h2]
    rfl)
  have H0 := Aside0.mk (bld_start w W k0 (w.heap.size + 2))
  have B0 := Aside0.mk b0
  clear X0 k0 b0
  generalize hl : s.data.toList = l at *
  go_loopg [9] s.size (fun k v wr => ∃ t : Nat, t + k = s.size ∧ v = .int .i64 (t : Int) ∧ Bld (w.heap.size + 2) w.heap.size (Lib.byteCells (hx l t)) wr ∧ KeepX (w.heap.size + 2) w.heap.size W wr)
  case atStart => exact ⟨0, by omega, rfl, H0.out, ⟨rfl, rfl, rfl, Nat.le_refl _, fun _ _ _ => rfl⟩⟩
  case round =>
    obtain ⟨t, ht, rfl, hI, hK⟩ := hrel
    have HI := Aside0.mk hI
    have HK := Aside0.mk hK
    have hlen := hx_length l t
    have hsz := hK.size
    by_cases hlt : t < s.size
    · have hc := HX.out t hlt _ hK
      have hu := (l.getD t 0).toNat_lt
      have HS := Aside0.mk (show hx l (t + 1) = hx l t ++ [dig ((l.getD t 0).toNat / 16), dig ((l.getD t 0).toNat % 16)] from rfl)
      have HD := Aside0.mk (fun m : Nat => show dig m = digits.getD m 0 from rfl)
      generalize (l.getD t 0) = c at *
      generalize hcn : c.toNat = cn at *
      have l1 : (t : Int) < s.size := by omega
      have hW1 := wbyte_calls (w.heap.size + 2) w.heap.size (Lib.byteCells (hx l t)) (((dig (cn / 16)).toNat : Nat) : Int) _ HI.out (by rw [byteCells_length, hlen]; omega) (by omega)
      have HW1 := Aside0.mk hW1
      clear hW1 hI hK
      go_wp2_with fail
      rw [dig_get]
      refine HW1.out.mono ?_
      rintro e w2 ⟨rfl, h2, k2⟩
      have HI2 := Aside0.mk h2
      have HK2 := Aside0.mk (HK.out.trans k2)
      have hs2 := k2.size
      have HW2 := Aside0.mk (wbyte_calls (w.heap.size + 2) w.heap.size _ (((dig (cn % 16)).toNat : Nat) : Int) _ HI2.out (by rw [List.length_append, byteCells_length, hlen]; simp; omega) (by omega))
      clear h2 k2 hc HW1
      go_wp2_with fail
      rw [dig_get]
      refine HW2.out.mono ?_
      rintro e w3 ⟨rfl, h3, k3⟩
      have HI3 := Aside0.mk h3
      have HK3 := Aside0.mk (HK2.out.trans k3)
      clear h3 k3 HW2
      go_wp2_with fail
      go_roundg (gk - 1)
      case measure => omega
      case rel =>
        refine ⟨t + 1, by omega, by go_num, ?_, HK3.out⟩
        rw [HS.out]
        have h3 := HI3.out
        rw [List.append_assoc] at h3
        have e : Lib.byteCells (hx l t ++ [dig (cn / 16), dig (cn % 16)]) = Lib.byteCells (hx l t) ++ ([.int .u8 ((dig (cn / 16)).toNat : Int)] ++ [.int .u8 ((dig (cn % 16)).toNat : Int)]) := by simp [Lib.byteCells]
        rw [e]
        exact h3
    · obtain rfl : t = s.size := by omega
      have HS := Aside0.mk (Tryd.Builder_String_any_k w.heap.size w.heap.size _ _ (bld_is HI.out) (by omega))
      have HE := Aside0.mk (show hex s = ⟨(hx l s.size).toArray⟩ by rw [← hl]; rfl)
      have HB := Aside0.mk (HK.out.below B0.out (by omega) (Nat.le_refl _) (by omega))
      clear hK hI
      go_wp2_with fail
      refine HS.out.mono ?_
      rintro e w2 ⟨rfl, _, hb2, _⟩
      go_wp2_with fail
      go_ret
      exact ⟨by rw [HE.out]; rfl, HB.out.trans hb2⟩
end Go.Proofs.YtomninikmcmmcaaDoor.Sha
end
section
/- Chapter 6's example evaluated by the kernel: an evaluator that forces each word to a number, equal to the specification. -/
namespace Go.Proofs.YtomninikmcmmcaaDoor.Blk
open Go Go.Proofs.Sp Go.Proofs.YtomninikmcmmcaaDoor.GivA Go.Proofs.YtomninikmcmmcaaDoor.Sha
def forceN {α : Type} (n : Nat) (f : Nat → α) : α := Nat.rec (motive := fun _ => α) (f 0) (fun m _ => f (m + 1)) n
theorem forceN_eq {α : Type} (n : Nat) (f : Nat → α) : forceN n f = f n := by cases n <;> rfl
def forceW {α : Type} (x : W32) (f : W32 → α) : α := forceN x.toNat (fun n => f (BitVec.ofNat 32 n))
theorem forceW_eq {α : Type} (x : W32) (f : W32 → α) : forceW x f = f x := by unfold forceW; rw [forceN_eq, BitVec.ofNat_toNat, BitVec.setWidth_eq]
def schedF {α : Type} (b : List UInt8) : Nat → List W32 → (List W32 → α) → α
  | 0, l, k => k l
  | t + 1, l, k => forceW (nextWord b l) fun x => schedF b t (l ++ [x]) k
theorem schedF_eq {α : Type} (b : List UInt8) (k : List W32 → α) : ∀ (n t : Nat), schedF b n (sched b t) k = k (sched b (t + n))
  | 0, t => rfl
  | n + 1, t => by
    have e : t + (n + 1) = t + 1 + n := by omega
    rw [schedF, forceW_eq, e, ← schedF_eq b k n (t + 1)]
    rfl
def forceSt {α : Type} (s : St) (f : St → α) : α :=
  forceW s.a fun a => forceW s.b fun b => forceW s.c fun c => forceW s.d fun d => forceW s.e fun e => forceW s.f fun x => forceW s.g fun g => forceW s.h fun h => f ⟨a, b, c, d, e, x, g, h⟩
theorem forceSt_eq {α : Type} (s : St) (f : St → α) : forceSt s f = f s := by unfold forceSt; simp only [forceW_eq]
def runF {α : Type} (w : List W32) : Nat → Nat → St → (St → α) → α
  | 0, _, s, k => k s
  | n + 1, t, s, k => forceSt (rnd s (kws t) (w.getD t 0)) fun s' => runF w n (t + 1) s' k
theorem runF_eq {α : Type} (w : List W32) (s : St) (k : St → α) : ∀ (n t : Nat), runF w n t (runs w s t) k = k (runs w s (t + n))
  | 0, t => rfl
  | n + 1, t => by
    have e : t + (n + 1) = t + 1 + n := by omega
    rw [runF, forceSt_eq, e, ← runF_eq w s k n (t + 1)]
    rfl
def nextF {α : Type} (b : List UInt8) (s : St) (k : St → α) : α := schedF b 64 [] fun w => runF w 64 0 s fun r => forceSt (addSt r s) k
theorem nextF_eq {α : Type} (b : List UInt8) (s : St) (k : St → α) : nextF b s k = k (next s b) := by
  unfold nextF
  rw [show ([] : List W32) = sched b 0 from rfl, schedF_eq, show runF (sched b (0 + 64)) 64 0 s = runF (sched b (0 + 64)) 64 0 (runs (sched b (0 + 64)) s 0) from rfl, runF_eq, forceSt_eq, Nat.zero_add]
  rfl
def eatF {α : Type} (l : List UInt8) : Nat → Nat → St → (St → α) → α
  | 0, _, s, k => k s
  | n + 1, i, s, k => nextF ((l.drop (64 * i)).take 64) s fun s' => eatF l n (i + 1) s' k
theorem eatF_eq {α : Type} (l : List UInt8) (s : St) (k : St → α) : ∀ (n i : Nat), eatF l n i (eat s l i) k = k (eat s l (i + n))
  | 0, i => rfl
  | n + 1, i => by
    have e : i + (n + 1) = i + 1 + n := by omega
    rw [eatF, nextF_eq, e, ← eatF_eq l s k n (i + 1)]
    rfl
theorem sha_eval (m : ByteArray) (n : Nat) (d : List UInt8) (hn : (m.data.toList ++ padL m.size).length / 64 = n) (h : eatF (m.data.toList ++ padL m.size) n 0 st0 (fun s => decide (dgL s = d)) = true) : sha m = ⟨d.toArray⟩ := by
  have hl : (m ++ pad m.size).data.toList = m.data.toList ++ padL m.size := append_list _ _
  rw [show st0 = eat st0 (m.data.toList ++ padL m.size) 0 from rfl, eatF_eq, Nat.zero_add] at h
  have h2 := of_decide_eq_true h
  unfold sha sT
  rw [← data_size (m ++ pad m.size), hl, hn]
  unfold dg
  rw [h2]
def jefe : ByteArray := ⟨#[74, 101, 102, 101]⟩
def wants : ByteArray := ⟨#[119, 104, 97, 116, 32, 100, 111, 32, 121, 97, 32, 119, 97, 110, 116, 32, 102, 111, 114, 32, 110, 111, 116, 104, 105, 110, 103, 63]⟩
def innerL : List UInt8 := [124, 83, 80, 83, 54, 54, 54, 54, 54, 54, 54, 54, 54, 54, 54, 54, 54, 54, 54, 54, 54, 54, 54, 54, 54, 54, 54, 54, 54, 54, 54, 54, 54, 54, 54, 54, 54, 54, 54, 54, 54, 54, 54, 54, 54, 54, 54, 54, 54, 54, 54, 54, 54, 54, 54, 54, 54, 54, 54, 54, 54, 54, 54, 54, 119, 104, 97, 116, 32, 100, 111, 32, 121, 97, 32, 119, 97, 110, 116, 32, 102, 111, 114, 32, 110, 111, 116, 104, 105, 110, 103, 63]
def innerD : List UInt8 := [162, 228, 133, 134, 61, 39, 249, 216, 100, 172, 141, 128, 36, 50, 161, 237, 71, 125, 140, 76, 111, 52, 157, 22, 212, 231, 233, 23, 198, 41, 202, 215]
def outerL : List UInt8 := [22, 57, 58, 57, 92, 92, 92, 92, 92, 92, 92, 92, 92, 92, 92, 92, 92, 92, 92, 92, 92, 92, 92, 92, 92, 92, 92, 92, 92, 92, 92, 92, 92, 92, 92, 92, 92, 92, 92, 92, 92, 92, 92, 92, 92, 92, 92, 92, 92, 92, 92, 92, 92, 92, 92, 92, 92, 92, 92, 92, 92, 92, 92, 92, 162, 228, 133, 134, 61, 39, 249, 216, 100, 172, 141, 128, 36, 50, 161, 237, 71, 125, 140, 76, 111, 52, 157, 22, 212, 231, 233, 23, 198, 41, 202, 215]
def outerD : List UInt8 := [91, 220, 193, 70, 191, 96, 117, 78, 106, 4, 36, 38, 8, 149, 117, 199, 90, 0, 63, 8, 157, 39, 57, 131, 157, 236, 88, 185, 100, 236, 56, 67]
set_option maxRecDepth 1000000 in
theorem sha_inner : sha ⟨innerL.toArray⟩ = ⟨innerD.toArray⟩ :=
  sha_eval _ 2 innerD (by decide +kernel) (by decide +kernel)
set_option maxRecDepth 1000000 in
theorem sha_outer : sha ⟨outerL.toArray⟩ = ⟨outerD.toArray⟩ :=
  sha_eval _ 2 outerD (by decide +kernel) (by decide +kernel)
theorem kblock_list : (kBlock jefe).data.toList = [74, 101, 102, 101] ++ List.replicate 60 0 := by
  unfold kBlock kOf
  rw [if_neg (by decide), append_list]
  rfl
theorem inner_eq : inB jefe ++ wants = ⟨innerL.toArray⟩ := by
  apply ext_list
  rw [append_list]
  unfold inB xorB
  rw [kblock_list]
  decide +kernel
theorem outer_eq : outB jefe ++ ⟨innerD.toArray⟩ = ⟨outerL.toArray⟩ := by
  apply ext_list
  rw [append_list]
  unfold outB xorB
  rw [kblock_list]
  decide +kernel
theorem mac_jefe : mac jefe wants = ⟨outerD.toArray⟩ := by
  unfold mac
  rw [inner_eq, sha_inner, outer_eq, sha_outer]
def innerL0 : List UInt8 := [124, 83, 80, 83, 54, 54, 54, 54, 54, 54, 54, 54, 54, 54, 54, 54, 54, 54, 54, 54, 54, 54, 54, 54, 54, 54, 54, 54, 54, 54, 54, 54, 54, 54, 54, 54, 54, 54, 54, 54, 54, 54, 54, 54, 54, 54, 54, 54, 54, 54, 54, 54, 54, 54, 54, 54, 54, 54, 54, 54, 54, 54, 54, 54]
def innerD0 : List UInt8 := [38, 117, 27, 251, 228, 34, 219, 61, 154, 64, 214, 95, 240, 39, 224, 114, 210, 35, 224, 51, 13, 245, 75, 198, 186, 105, 61, 8, 224, 28, 214, 84]
def outerL0 : List UInt8 := [22, 57, 58, 57, 92, 92, 92, 92, 92, 92, 92, 92, 92, 92, 92, 92, 92, 92, 92, 92, 92, 92, 92, 92, 92, 92, 92, 92, 92, 92, 92, 92, 92, 92, 92, 92, 92, 92, 92, 92, 92, 92, 92, 92, 92, 92, 92, 92, 92, 92, 92, 92, 92, 92, 92, 92, 92, 92, 92, 92, 92, 92, 92, 92, 38, 117, 27, 251, 228, 34, 219, 61, 154, 64, 214, 95, 240, 39, 224, 114, 210, 35, 224, 51, 13, 245, 75, 198, 186, 105, 61, 8, 224, 28, 214, 84]
def outerD0 : List UInt8 := [146, 53, 152, 202, 109, 100, 175, 42, 93, 186, 121, 220, 208, 33, 168, 160, 254, 92, 95, 85, 117, 25, 173, 170, 240, 173, 83, 45, 69, 6, 221, 48]
set_option maxRecDepth 1000000 in
theorem sha_inner0 : sha ⟨innerL0.toArray⟩ = ⟨innerD0.toArray⟩ :=
  sha_eval _ 2 innerD0 (by decide +kernel) (by decide +kernel)
set_option maxRecDepth 1000000 in
theorem sha_outer0 : sha ⟨outerL0.toArray⟩ = ⟨outerD0.toArray⟩ :=
  sha_eval _ 2 outerD0 (by decide +kernel) (by decide +kernel)
theorem inner_eq0 : inB jefe ++ ⟨#[]⟩ = ⟨innerL0.toArray⟩ := by
  apply ext_list
  rw [append_list]
  unfold inB xorB
  rw [kblock_list]
  decide +kernel
theorem outer_eq0 : outB jefe ++ ⟨innerD0.toArray⟩ = ⟨outerL0.toArray⟩ := by
  apply ext_list
  rw [append_list]
  unfold outB xorB
  rw [kblock_list]
  decide +kernel
theorem mac_jefe0 : mac jefe ⟨#[]⟩ = ⟨outerD0.toArray⟩ := by
  unfold mac
  rw [inner_eq0, sha_inner0, outer_eq0, sha_outer0]
end Go.Proofs.YtomninikmcmmcaaDoor.Blk
end
