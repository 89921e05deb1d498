/- paymasterlaw07.awake: the chapter's examples hold. -/
import Derived.Test.YtomninikmcmmcaaDoorDg
import Derived.Test.YtomninikmcmmcaaDoorMk
import Derived.Test.YtomninikmcmmcaaDoorTcc
import Derived.Test.YtomninikmcmmcaaDoorMi
import Derived.KernelRfl
namespace Go.Proofs.YtomninikmcmmcaaDoor.Awake7
open Go Go.RowKit Go.Proofs.YtomninikmcmmcaaDoorW.PrintWords Go.Proofs.YtomninikmcmmcaaDoor.PTg Go.Proofs.YtomninikmcmmcaaDoor.PTk Go.Proofs.YtomninikmcmmcaaDoor.PTh Go.Proofs.YtomninikmcmmcaaDoor.PTc Go.Proofs.YtomninikmcmmcaaDoor.GivL Go.Proofs.YtomninikmcmmcaaDoor.GivU Go.Proofs.YtomninikmcmmcaaDoor.GivW Go.Proofs.YtomninikmcmmcaaDoor.Ids Go.Proofs.YtomninikmcmmcaaDoor.Tag
set_option linter.unusedVariables false
set_option linter.unusedSimpArgs false
def txA : ByteArray := ⟨#[0, 1, 97, 1, 115, 0, 0, 0, 0, 0, 0, 0, 0, 0, 0, 0, 0, 0, 0, 0, 5]⟩
def t24 : ByteArray := ⟨#[97, 97, 97, 97, 97, 97, 97, 97, 97, 97, 97, 97, 97, 97, 97, 97, 97, 97, 97, 97, 97, 97, 97, 97]⟩
def t25 : ByteArray := ⟨#[97, 97, 97, 97, 97, 97, 97, 97, 97, 97, 97, 97, 97, 97, 97, 97, 97, 97, 97, 97, 97, 97, 97, 97, 97]⟩
theorem idA : mayId ⟨#[97]⟩ = true := by kernel_rfl
theorem id1 : mayId ⟨#[97, 32, 98]⟩ = false := by kernel_rfl
theorem id2 : mayId ⟨#[]⟩ = false := by kernel_rfl
theorem id3 : mayId t25 = false := by kernel_rfl
theorem id4 : mayId t24 = true := by kernel_rfl
theorem id5 : mayId ⟨#[195, 164, 45, 49]⟩ = true := by kernel_rfl
theorem mayP : mayL true ⟨#[]⟩ ⟨#[]⟩ 0 0 = true := by kernel_rfl
theorem mayA : mayL false ⟨#[97]⟩ ⟨#[115]⟩ 0 5 = true := by
  unfold mayL
  rw [if_neg (by decide), idA]
  rfl
theorem leafP : leafT true ⟨#[]⟩ ⟨#[]⟩ 0 0 = ⟨#[2, 0]⟩ := by kernel_rfl
theorem leafA : leafT false ⟨#[97]⟩ ⟨#[115]⟩ 0 5 = txA := by kernel_rfl
theorem in5 : In64 5 := ⟨by decide, by decide⟩
theorem in0 : In64 0 := ⟨by decide, by decide⟩
theorem slot0 (a b : ByteArray) : Sha.slot1 a b 0 = 0 := by
  unfold Sha.slot1
  rw [if_neg (by decide)]
  exact Nat.mod_one _
abbrev leafC (p : Bool) (i s : ByteArray) (h l : Int) : Obj := .cells #[.bool p, .string i, .string s, .int .u64 h, .int .u64 l] 39 (0, 0)
structure Kq (w : World) (gl gn : Nat) (D : ByteArray) (W : World) : Prop where
  below : Below w.heap.size w W
  a : W.heap[w.heap.size]? = some (leafC false ⟨#[97]⟩ ⟨#[115]⟩ 0 5)
  l : W.heap[gl]? = some (leafC true ⟨#[]⟩ ⟨#[]⟩ 0 0)
  n : W.heap[gn]? = some (.cells #[.string D, .int .u64 0, .int .u64 5] 57 (0, 0))
theorem Kq.step {w : World} {gl gn : Nat} {D : ByteArray} {W W' : World} (k : Kq w gl gn D W) (hb : Below W.heap.size W W') : Kq w gl gn D W' :=
  ⟨k.below.trans (hb.mono k.below.size), blk_below k.a hb, blk_below k.l hb, blk_below k.n hb⟩
def paymasterlaw07_awake.f : Option Bool := some true
set_option maxHeartbeats 8000000 in
set_option maxRecDepth 100000 in
theorem awake_calls (w : World) (hT : Tab2 w) : Calls Tryd.prog 58 #[] w fun e w' => e = .returned (.bool true) ∧ Below w.heap.size w w' := by
  have HT := Aside0.mk hT
  have hrd := read_yes true ⟨#[]⟩ ⟨#[]⟩ 0 0 in0 in0 mayP 20 (Nat.le_refl _)
  rw [leafP] at hrd
  have hln := leafnode_some 2 false ⟨#[97]⟩ ⟨#[115]⟩ 0 5 (by decide) in0 in5 10 (by decide)
  have eln : lnT 2 false ⟨#[97]⟩ ⟨#[115]⟩ 0 5 = (dgT 2 txA, 0, 5) := by
    unfold lnT
    rw [if_pos ⟨by decide, mayA⟩, leafA]
  rw [eln] at hln
  have hD : (dgT 2 txA).size = 2 := by
    unfold dgT
    rw [if_pos (by decide), ByteArray.size_extract, Sha.sha_size]
    rfl
  have hDz : (((dgT 2 txA).size : Nat) : Int) = 2 := by rw [hD]; rfl
  have hl1 := leaftext_some true ⟨#[]⟩ ⟨#[]⟩ 0 0 (by decide) in0.1 in0.2 in0.1 in0.2
  rw [mayP, if_pos rfl, leafP] at hl1
  have hl2 := leaftext_some false ⟨#[97]⟩ ⟨#[115]⟩ 0 5 (by decide) in0.1 in0.2 in5.1 in5.2
  rw [mayA, if_pos rfl, leafA] at hl2
  have hf := Sha.first07_some ⟨#[107]⟩ ⟨#[97]⟩ (by decide) (by decide) 0
  rw [slot0] at hf
  have H1 := Aside0.mk (fun w hT => tag_Read.calls 20 ⟨#[2, 0]⟩ true ⟨#[]⟩ ⟨#[]⟩ 0 0 true w hT hrd)
  have H2 := Aside0.mk (fun w hT => tag_LeafNode.calls 10 2 false ⟨#[97]⟩ ⟨#[115]⟩ 0 5 (dgT 2 txA) 0 5 w hT hln)
  have H3 := Aside0.mk (fun w hT => tag_LeafText.calls true ⟨#[]⟩ ⟨#[]⟩ 0 0 _ w hT hl1)
  have H4 := Aside0.mk (fun w hT => tag_LeafText.calls false ⟨#[97]⟩ ⟨#[115]⟩ 0 5 _ w hT hl2)
  have H5 := Aside0.mk (fun w hT => tag_MayId.calls ⟨#[97, 32, 98]⟩ _ w hT ((mayid_some _ (by decide)).trans (congrArg some id1)))
  have H6 := Aside0.mk (fun w hT => tag_MayId.calls ⟨#[]⟩ _ w hT ((mayid_some _ (by decide)).trans (congrArg some id2)))
  have H7 := Aside0.mk (fun w hT => tag_MayId.calls t25 _ w hT ((mayid_some _ (by decide)).trans (congrArg some id3)))
  have H8 := Aside0.mk (fun w hT => tag_MayId.calls t24 _ w hT ((mayid_some _ (by decide)).trans (congrArg some id4)))
  have H9 := Aside0.mk (fun w hT => tag_MayId.calls ⟨#[195, 164, 45, 49]⟩ _ w hT ((mayid_some _ (by decide)).trans (congrArg some id5)))
  have H10 := Aside0.mk (fun w hT => tag_First.calls ⟨#[107]⟩ ⟨#[97]⟩ 0 _ w hT hf)
  clear hT hrd hln eln hl1 hl2 hf hD
  unfold txA t24 t25 at *
  generalize dgT 2 ⟨#[0, 1, 97, 1, 115, 0, 0, 0, 0, 0, 0, 0, 0, 0, 0, 0, 0, 0, 0, 0, 5]⟩ = D at *
  go_enter Tryd.func58, Tryd.ntmps58
  go_wp2_with fail
  refine (H1.out _ (HT.out.keep ((Below.refl _ w).alloc (Nat.le_refl _) _)).utf).mono ?_
  rintro e w1 ⟨rfl, b1⟩
  have A1 : Aside0 (w1.heap[w.heap.size]? = some (leafC false ⟨#[97]⟩ ⟨#[115]⟩ 0 5)) := Aside0.mk (blk_below (blk_new w _) b1)
  have B1 : Aside0 (Below w.heap.size w w1) := Aside0.mk (((Below.refl _ w).alloc (Nat.le_refl _) _).trans (b1.mono (by simp)))
  have c0 := (blk_cell A1.out 0).trans rfl
  clear b1 H1 c0
  have A2 : Aside0 ((w1.alloc (leafC true ⟨#[]⟩ ⟨#[]⟩ 0 0)).heap[w.heap.size]? = some (leafC false ⟨#[97]⟩ ⟨#[115]⟩ 0 5)) := Aside0.mk (blk_alloc A1.out _)
  have k0 : (w1.alloc (.cells #[.bool true, .string ⟨#[]⟩, .string ⟨#[]⟩, .int .u64 0, .int .u64 0] 39)).cell? ⟨w.heap.size, 0, none⟩ = some (.bool false) := (blk_cell A2.out 0).trans rfl
  have k1 : (w1.alloc (.cells #[.bool true, .string ⟨#[]⟩, .string ⟨#[]⟩, .int .u64 0, .int .u64 0] 39)).cell? ⟨w.heap.size, 1, none⟩ = some (.string ⟨#[97]⟩) := (blk_cell A2.out 1).trans rfl
  have k2 : (w1.alloc (.cells #[.bool true, .string ⟨#[]⟩, .string ⟨#[]⟩, .int .u64 0, .int .u64 0] 39)).cell? ⟨w.heap.size, 2, none⟩ = some (.string ⟨#[115]⟩) := (blk_cell A2.out 2).trans rfl
  have k3 : (w1.alloc (.cells #[.bool true, .string ⟨#[]⟩, .string ⟨#[]⟩, .int .u64 0, .int .u64 0] 39)).cell? ⟨w.heap.size, 3, none⟩ = some (.int .u64 0) := (blk_cell A2.out 3).trans rfl
  have k4 : (w1.alloc (.cells #[.bool true, .string ⟨#[]⟩, .string ⟨#[]⟩, .int .u64 0, .int .u64 0] 39)).cell? ⟨w.heap.size, 4, none⟩ = some (.int .u64 5) := (blk_cell A2.out 4).trans rfl
  go_wp2_with fail
  refine (H2.out _ (HT.out.keep (B1.out.alloc B1.out.size _))).mono ?_
  rintro e w2 ⟨rfl, b2⟩
  have K2 : Aside0 (w2.heap[w.heap.size]? = some (leafC false ⟨#[97]⟩ ⟨#[115]⟩ 0 5) ∧ w2.heap[w1.heap.size]? = some (leafC true ⟨#[]⟩ ⟨#[]⟩ 0 0) ∧ Below w.heap.size w w2) := Aside0.mk ⟨blk_below A2.out b2, blk_below (blk_new w1 _) b2, (B1.out.alloc B1.out.size _).trans (b2.mono (Nat.le_trans B1.out.size (by simp)))⟩
  clear b2 H2 A1 A2 B1 k0 k1 k2 k3 k4
  go_wp2_with fail
  have K3 : Aside0 (Kq w w1.heap.size w2.heap.size D (w2.alloc (.cells #[.string D, .int .u64 0, .int .u64 5] 57))) := Aside0.mk ⟨K2.out.2.2.alloc K2.out.2.2.size _, blk_alloc K2.out.1 _, blk_alloc K2.out.2.1 _, blk_new w2 _⟩
  clear K2
  generalize w2.alloc (.cells #[.string D, .int .u64 0, .int .u64 5] 57) = w3 at K3 ⊢
  generalize w2.heap.size = gn at K3 ⊢
  generalize w1.heap.size = gl at K3 ⊢
  refine (H3.out _ (HT.out.keep K3.out.below).utf).mono ?_
  rintro e w4 ⟨rfl, b4⟩
  have K4 := Aside0.mk (K3.out.step b4)
  clear b4 K3 H3
  have c4_0 : w4.cell? ⟨w.heap.size, 0, none⟩ = some (.bool false) := (blk_cell K4.out.a 0).trans rfl
  have c4_1 : w4.cell? ⟨w.heap.size, 1, none⟩ = some (.string ⟨#[97]⟩) := (blk_cell K4.out.a 1).trans rfl
  have c4_2 : w4.cell? ⟨w.heap.size, 2, none⟩ = some (.string ⟨#[115]⟩) := (blk_cell K4.out.a 2).trans rfl
  have c4_3 : w4.cell? ⟨w.heap.size, 3, none⟩ = some (.int .u64 0) := (blk_cell K4.out.a 3).trans rfl
  have c4_4 : w4.cell? ⟨w.heap.size, 4, none⟩ = some (.int .u64 5) := (blk_cell K4.out.a 4).trans rfl
  go_wp2_with fail
  refine (H4.out _ (HT.out.keep K4.out.below).utf).mono ?_
  rintro e w5 ⟨rfl, b5⟩
  have K5 := Aside0.mk (K4.out.step b5)
  clear b5 K4 H4
  go_wp2_with fail
  refine (H5.out _ (HT.out.keep K5.out.below).utf).mono ?_
  rintro e w6 ⟨rfl, b6⟩
  have K6 := Aside0.mk (K5.out.step b6)
  clear b6 K5 H5
  go_wp2_with fail
  refine (H6.out _ (HT.out.keep K6.out.below).utf).mono ?_
  rintro e w7 ⟨rfl, b7⟩
  have K7 := Aside0.mk (K6.out.step b7)
  clear b7 K6 H6
  go_wp2_with fail
  refine (H7.out _ (HT.out.keep K7.out.below).utf).mono ?_
  rintro e w8 ⟨rfl, b8⟩
  have K8 := Aside0.mk (K7.out.step b8)
  clear b8 K7 H7
  go_wp2_with fail
  refine (H8.out _ (HT.out.keep K8.out.below).utf).mono ?_
  rintro e w9 ⟨rfl, b9⟩
  have K9 := Aside0.mk (K8.out.step b9)
  clear b9 K8 H8
  go_wp2_with fail
  refine (H9.out _ (HT.out.keep K9.out.below).utf).mono ?_
  rintro e w10 ⟨rfl, b10⟩
  have K10 := Aside0.mk (K9.out.step b10)
  clear b10 K9 H9
  have c10_0 : w10.cell? ⟨w.heap.size, 0, none⟩ = some (.bool false) := (blk_cell K10.out.a 0).trans rfl
  have c10_1 : w10.cell? ⟨w.heap.size, 1, none⟩ = some (.string ⟨#[97]⟩) := (blk_cell K10.out.a 1).trans rfl
  have c10_2 : w10.cell? ⟨w.heap.size, 2, none⟩ = some (.string ⟨#[115]⟩) := (blk_cell K10.out.a 2).trans rfl
  have c10_3 : w10.cell? ⟨w.heap.size, 3, none⟩ = some (.int .u64 0) := (blk_cell K10.out.a 3).trans rfl
  have c10_4 : w10.cell? ⟨w.heap.size, 4, none⟩ = some (.int .u64 5) := (blk_cell K10.out.a 4).trans rfl
  have d10_0 : w10.cell? ⟨gl, 0, none⟩ = some (.bool true) := (blk_cell K10.out.l 0).trans rfl
  have d10_1 : w10.cell? ⟨gl, 1, none⟩ = some (.string ⟨#[]⟩) := (blk_cell K10.out.l 1).trans rfl
  have d10_2 : w10.cell? ⟨gl, 2, none⟩ = some (.string ⟨#[]⟩) := (blk_cell K10.out.l 2).trans rfl
  have d10_3 : w10.cell? ⟨gl, 3, none⟩ = some (.int .u64 0) := (blk_cell K10.out.l 3).trans rfl
  have d10_4 : w10.cell? ⟨gl, 4, none⟩ = some (.int .u64 0) := (blk_cell K10.out.l 4).trans rfl
  have e10_0 : w10.cell? ⟨gn, 0, none⟩ = some (.string D) := (blk_cell K10.out.n 0).trans rfl
  have e10_1 : w10.cell? ⟨gn, 1, none⟩ = some (.int .u64 0) := (blk_cell K10.out.n 1).trans rfl
  have e10_2 : w10.cell? ⟨gn, 2, none⟩ = some (.int .u64 5) := (blk_cell K10.out.n 2).trans rfl
  go_wp2_with fail
  refine (H10.out _ (HT.out.keep K10.out.below).sha).mono ?_
  rintro e w11 ⟨rfl, b11⟩
  have K11 := Aside0.mk (K10.out.step b11)
  clear b11 K10 H10
  go_wp2_with fail
  go_ret
  exact ⟨rfl, K11.out.below⟩
theorem paymasterlaw07_awake.calls (r : Bool) (w : World) (hT : Tab2 w) (h : paymasterlaw07_awake.f = some r) :
    Calls Tryd.prog 58 #[] w fun e w' => e = .returned (.bool r) ∧ Below w.heap.size w w' := by
  obtain rfl := Option.some.inj h
  exact awake_calls w hT
end Go.Proofs.YtomninikmcmmcaaDoor.Awake7
