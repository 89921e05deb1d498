/- PostFinds: for every input the law returns true, and the input reads as it did; no condition. -/
import Derived.Test.YthgiglbomgbnbaaRows
import Derived.Test.YthgiglbomgbnbaaPPfx3
import Derived.Test.YthgiglbomgbnbaaPurePostFinds
import Derived.Test.YthgiglbomgbnbaaOpen
import Derived.WalkKit
import Derived.ProofKit
import Derived.OpenShut
import Derived.ShutString
import Derived.ChangeOld
import Derived.Below
import Derived.SizedLaws
import Derived.Carry
namespace Go.Proofs.Ythgiglbomgbnbaa.RowPostFinds
open Go.ChangeShapes Go.WideShapes Go.ChangeAt Go.RowKit Go.Proofs.Ythgiglbomgbnbaa.PPf Go.Proofs.YthgiglbomgbnbaaW.PrintWords Go.Proofs.YthgiglbomgbnbaaW.Op
open Go.ChangeMaps (open_string shut_string)
set_option linter.unusedVariables false
theorem own : ownKnob Try.prog.godebug = none := by kernel_rfl
theorem laidOut : laidOutB Try.prog = true := by kernel_rfl
instance : Inhabited S29 := ⟨z29⟩
theorem opens29 : Opens Try.prog k29 29 Good29 :=
  Opens.struct (fun x : S29 => (x.f0, x.f1)) (fun p => (⟨p.1, p.2⟩ : S29)) (fun _ => rfl) Try.underlying29 (by kernel_rfl)
    (OpensF.cons (good := (fun z : Int => (Lit.int .u64 z).wf = true)) (Opens.int Try.underlying27) rfl (by kernel_rfl) (OpensF.one (good := (fun z : Int => (Lit.int .u64 z).wf = true)) (Opens.int Try.underlying27) rfl (by kernel_rfl))) (fun _ h => h)
instance : Inhabited S31 := ⟨z31⟩
theorem opens31 : Opens Try.prog k31 31 Good31 :=
  Opens.struct (fun x : S31 => (x.f0, x.f1, x.f2)) (fun p => (⟨p.1, p.2.1, p.2.2⟩ : S31)) (fun _ => rfl) Try.underlying31 (by kernel_rfl)
    (OpensF.cons (good := (fun z : ByteArray => z.size ≤ 140737488351232)) (Opens.string Try.underlying9) rfl (by kernel_rfl) (OpensF.cons (good := (fun z : S29 => Good29 z)) opens29 rfl (by kernel_rfl) (OpensF.one (good := (fun z : Int => (Lit.int .i64 z).wf = true)) (Opens.int Try.underlying3) rfl (by kernel_rfl)))) (fun _ h => h)
instance : Inhabited S33 := ⟨z33⟩
theorem opens33 : Opens Try.prog k33 33 Good33 :=
  Opens.struct (fun x : S33 => (x.f0, x.f1, x.f2, x.f3)) (fun p => (⟨p.1, p.2.1, p.2.2.1, p.2.2.2⟩ : S33)) (fun _ => rfl) Try.underlying33 (by kernel_rfl)
    (OpensF.cons (good := (fun z : Int => (Lit.int .u8 z).wf = true)) (Opens.int Try.underlying5) rfl (by kernel_rfl) (OpensF.cons (good := (fun z : Int => (Lit.int .i64 z).wf = true)) (Opens.int Try.underlying3) rfl (by kernel_rfl) (OpensF.cons (good := (fun z : Int => (Lit.int .u64 z).wf = true)) (Opens.int Try.underlying27) rfl (by kernel_rfl) (OpensF.one (good := (fun z : Int => (Lit.int .u64 z).wf = true)) (Opens.int Try.underlying27) rfl (by kernel_rfl))))) (fun _ h => h)
instance : Inhabited S35 := ⟨z35⟩
theorem opens35 : Opens Try.prog k35 35 Good35 :=
  Opens.struct (fun x : S35 => (x.f0, x.f1, x.f2, x.f3, x.f4, x.f5)) (fun p => (⟨p.1, p.2.1, p.2.2.1, p.2.2.2.1, p.2.2.2.2.1, p.2.2.2.2.2⟩ : S35)) (fun _ => rfl) Try.underlying35 (by kernel_rfl)
    (OpensF.cons (good := (fun z : Int => (Lit.int .u8 z).wf = true)) (Opens.int Try.underlying5) rfl (by kernel_rfl) (OpensF.cons (good := (fun z : Int => (Lit.int .i64 z).wf = true)) (Opens.int Try.underlying3) rfl (by kernel_rfl) (OpensF.cons (good := (fun z : S31 => Good31 z)) opens31 rfl (by kernel_rfl) (OpensF.cons (good := (fun z : S33 => Good33 z)) opens33 rfl (by kernel_rfl) (OpensF.cons (good := (fun z : Int => (Lit.int .i64 z).wf = true)) (Opens.int Try.underlying3) rfl (by kernel_rfl) (OpensF.one (good := (fun z : ByteArray => z.size ≤ 140737488351232)) (Opens.string Try.underlying9) rfl (by kernel_rfl))))))) (fun _ h => h)
set_option maxRecDepth 100000 in
theorem lifted (os : Os) (started : os.Started) (H : Type) (enc : TypeId × Value → H) :
    ReturnsInHanded {} Try.checked os 3 .any (Rows.postFindsSpec.pre6 enc Try.prog Try.f3 Rows.postFindsRow.domain false) (Rows.postFindsSpec.post enc Try.prog Try.f3 false true false false) := by
  refine returnsInHanded_of_change_sized (C := Try.checked) own started (by kernel_rfl) Try.func3
    (ChangeSpec.witness6 (enc := enc) (C := Try.checked) false ⟨#[], #[.slice none 0 0, .slice none 0 0, .int .i64 0], []⟩ 8 (by kernel_rfl) (by kernel_rfl) (by kernel_rfl) (by kernel_rfl)) ?_
  intro W base args ds gs before hval0 hW hcnd hsz0 _
  have hsz : (DataW.weightsEach Try.prog (Try.f3.params.toList ++ Rows.postFindsSpec.plain.varTypes Try.prog) (ds ++ gs)).all (· ≤ reachBytes) = true := hsz0
  have hval : ∀ (j : Nat) t v, Try.f3.params[j]? = some t → args[j]? = some v → Value.okWide Try.prog W .any base t v := hval0
  have hW' := hW
  obtain ⟨p, q, hA0, hV, rfl, hfz, hnd⟩ := hW
  have hA : DataW.TrodAll enc Try.prog W 0 (fun _ => true) true Try.f3.params.toList args.toList ds p := hA0
  rw [Try.params3] at hA hval hsz
  obtain ⟨v0, vs0, d0, ds0, p0, q0, hargs, rfl, rfl, h0, r0⟩ := trodAll_cons hA
  obtain ⟨v1, vs1, d1, ds1, p1, q1, rfl, rfl, rfl, h1, r1⟩ := trodAll_cons r0
  obtain ⟨v2, vs2, d2, ds2, p2, q2, rfl, rfl, rfl, h2, r2⟩ := trodAll_cons r1
  obtain ⟨rfl, rfl, rfl⟩ := trodAll_nil r2
  obtain rfl : args = #[v0, v1, v2] := by cases args; simp_all
  obtain ⟨rfl, rfl⟩ := trodVars_none hV
  have k0' := h0
  have lt0 : ∀ x ∈ p0, x.block < W.heap.size := by obtain ⟨m, hm⟩ := h0; exact DataW.trod_lt m _ _ _ hm
  have wt0 := weights_each_le hsz (j := 0) (t := 22) (d := d0) rfl rfl
  obtain ⟨a0, len0, cap0, rfl⟩ := okWide_slice Try.underlying22 (hval 0 22 v0 rfl rfl)
  obtain ⟨fu0, hf0⟩ := h0
  obtain ⟨A0, c0, l0, e0, hl0, hC0, g0, b0⟩ := opens_slice (d := k35) (good := (fun z : S35 => Good35 z)) Try.underlying22 (by kernel_rfl) opens35 hf0 wt0
  simp [Value.cells] at e0
  obtain ⟨rfl, rfl, rfl⟩ := e0
  have k1' := h1
  have lt1 : ∀ x ∈ p1, x.block < W.heap.size := by obtain ⟨m, hm⟩ := h1; exact DataW.trod_lt m _ _ _ hm
  have wt1 := weights_each_le hsz (j := 1) (t := 22) (d := d1) rfl rfl
  obtain ⟨a1, len1, cap1, rfl⟩ := okWide_slice Try.underlying22 (hval 1 22 v1 rfl rfl)
  obtain ⟨fu1, hf1⟩ := h1
  obtain ⟨A1, c1, l1, e1, hl1, hC1, g1, b1⟩ := opens_slice (d := k35) (good := (fun z : S35 => Good35 z)) Try.underlying22 (by kernel_rfl) opens35 hf1 wt1
  simp [Value.cells] at e1
  obtain ⟨rfl, rfl, rfl⟩ := e1
  have k2' := h2
  have lt2 : ∀ x ∈ p2, x.block < W.heap.size := by obtain ⟨m, hm⟩ := h2; exact DataW.trod_lt m _ _ _ hm
  have wt2 := weights_each_le hsz (j := 2) (t := 3) (d := d2) rfl rfl
  obtain ⟨a2, rfl, rfl, rfl, w2⟩ := open_int Try.underlying3 (hval 2 3 v2 rfl rfl) h2
  clear hA0 hval0 hsz0 hsz
  obtain ⟨k, hk⟩ := Pure.PostFinds_pure l0 g0 b0 l1 g1 b1 a2 w2
  refine (paymasterlaw27_PostFinds.calls k _ _ l0 _ _ l1 a2 true W hC0 hl0 hC1 hl1 hk).mono fun e W' ⟨he, bel⟩ => ?_
  subst he
  exact ⟨_, rfl, _, _, _, [], _, [], hW', trodAll_mk1 (shut_bool Try.underlying4 _), (trodAll_cons_mk (Below.trod laidOut (by kernel_rfl) (of_decide_eq_true (by kernel_rfl)) k0' bel lt0) (trodAll_cons_mk (Below.trod laidOut (by kernel_rfl) (of_decide_eq_true (by kernel_rfl)) k1' bel lt1) (trodAll_cons_mk (Below.trod laidOut (by kernel_rfl) (of_decide_eq_true (by kernel_rfl)) k2' bel lt2) trodAll_mk0))), rfl, bel.frame _, fun h => by cases h⟩
theorem over : Rows.postFindsRow.holds Try.pinned (OpenSpec.ofChange Rows.postFindsSpec) :=
  OpenClaim.holds_of_wide 3 Try.f3 rfl rfl rfl rfl rfl rfl rfl ⟨rfl, rfl, rfl, rfl, rfl⟩ rfl rfl rfl rfl rfl (by kernel_rfl) Try.func3 (by kernel_rfl)
    (of_decide_eq_true (by kernel_rfl)) (by unfold Func.isWrapper; first | (rw [if_pos (by decide +kernel)]; kernel_rfl) | (rw [if_neg (by decide +kernel)]; exact ⟨rfl, rfl⟩))
    (fun os started H enc _ => lifted os started H enc)
end Go.Proofs.Ythgiglbomgbnbaa.RowPostFinds
namespace Go.Proofs.Ythgiglbomgbnbaa
/-- The row. -/
theorem postFinds_holds : Rows.PostFindsSaid := RowPostFinds.over
#print axioms postFinds_holds
end Go.Proofs.Ythgiglbomgbnbaa
