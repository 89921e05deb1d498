/- OctetOrder: for every input the law returns true, and the input reads as it did; no condition. -/
import Derived.Test.YtdjpcogkpnemlaaRows
import Derived.Test.YtdjpcogkpnemlaaJoined
import Derived.Test.YtdjpcogkpnemlaaLawOrder
import Derived.Test.YtdjpcogkpnemlaaOpen
import Derived.WalkKit
import Derived.ProofKit
import Derived.OpenShut
import Derived.ShutString
import Derived.ChangeOld
import Derived.Below
import Derived.SizedLaws
import Derived.Carry
namespace Go.Proofs.Ytdjpcogkpnemlaa.RowOctetOrder
open Go.ChangeShapes Go.WideShapes Go.ChangeAt Go.RowKit Go.Proofs.Ytdjpcogkpnemlaa.Oct Go.Proofs.Ytdjpcogkpnemlaa.POr Go.Proofs.YtdjpcogkpnemlaaW.PrintWords Go.Proofs.YtdjpcogkpnemlaaW.Op
open Go.ChangeMaps (open_string shut_string)
set_option linter.unusedVariables false
theorem own : ownKnob Try.prog.godebug = none := by kernel_rfl
theorem laidOut : laidOutB Try.prog = true := by kernel_rfl
instance : Inhabited S29 := ⟨z29⟩
theorem opens29 : Opens Try.prog k29 29 Good29 :=
  Opens.struct (fun x : S29 => (x.f0, x.f1)) (fun p => (⟨p.1, p.2⟩ : S29)) (fun _ => rfl) Try.underlying29 (by kernel_rfl)
    (OpensF.cons (good := (fun z : Int => (Lit.int .u64 z).wf = true)) (Opens.int Try.underlying27) rfl (by kernel_rfl) (OpensF.one (good := (fun z : Int => (Lit.int .u64 z).wf = true)) (Opens.int Try.underlying27) rfl (by kernel_rfl))) (fun _ h => h)
set_option maxRecDepth 100000 in
theorem lifted (os : Os) (started : os.Started) (H : Type) (enc : TypeId × Value → H) :
    ReturnsInHanded {} Try.checked os 9 .any (Rows.octetOrderSpec.pre6 enc Try.prog Try.f9 Rows.octetOrderRow.domain false) (Rows.octetOrderSpec.post enc Try.prog Try.f9 false true false false) := by
  refine returnsInHanded_of_change_sized (C := Try.checked) own started (by kernel_rfl) Try.func9
    (ChangeSpec.witness6 (enc := enc) (C := Try.checked) false ⟨#[], #[.agg #[.int .u64 0, .int .u64 0], .agg #[.int .u64 0, .int .u64 0]], []⟩ 8 (by kernel_rfl) (by kernel_rfl) (by kernel_rfl) (by kernel_rfl)) ?_
  intro W base args ds gs before hval0 hW hcnd hsz0 _
  have hsz : (DataW.weightsEach Try.prog (Try.f9.params.toList ++ Rows.octetOrderSpec.plain.varTypes Try.prog) (ds ++ gs)).all (· ≤ reachBytes) = true := hsz0
  have hval : ∀ (j : Nat) t v, Try.f9.params[j]? = some t → args[j]? = some v → Value.okWide Try.prog W .any base t v := hval0
  have hW' := hW
  obtain ⟨p, q, hA0, hV, rfl, hfz, hnd⟩ := hW
  have hA : DataW.TrodAll enc Try.prog W 0 (fun _ => true) true Try.f9.params.toList args.toList ds p := hA0
  rw [Try.params9] at hA hval hsz
  obtain ⟨v0, vs0, d0, ds0, p0, q0, hargs, rfl, rfl, h0, r0⟩ := trodAll_cons hA
  obtain ⟨v1, vs1, d1, ds1, p1, q1, rfl, rfl, rfl, h1, r1⟩ := trodAll_cons r0
  obtain ⟨rfl, rfl, rfl⟩ := trodAll_nil r1
  obtain rfl : args = #[v0, v1] := by cases args; simp_all
  obtain ⟨rfl, rfl⟩ := trodVars_none hV
  have k0' := h0
  have lt0 : ∀ x ∈ p0, x.block < W.heap.size := by obtain ⟨m, hm⟩ := h0; exact DataW.trod_lt m _ _ _ hm
  have wt0 := weights_each_le hsz (j := 0) (t := 29) (d := d0) rfl rfl
  obtain ⟨cs0, rfl, z0⟩ := okWide_struct Try.underlying29 (hval 0 29 v0 rfl rfl)
  obtain ⟨fu0, hf0⟩ := h0
  obtain ⟨x0, hK0, g0⟩ := opens29 H enc W fu0 _ _ hf0 wt0
  have e0 := k29_open hK0
  obtain rfl := Array.toList_inj.1 (e0.trans (List.toList_toArray ..).symm)
  have k1' := h1
  have lt1 : ∀ x ∈ p1, x.block < W.heap.size := by obtain ⟨m, hm⟩ := h1; exact DataW.trod_lt m _ _ _ hm
  have wt1 := weights_each_le hsz (j := 1) (t := 29) (d := d1) rfl rfl
  obtain ⟨cs1, rfl, z1⟩ := okWide_struct Try.underlying29 (hval 1 29 v1 rfl rfl)
  obtain ⟨fu1, hf1⟩ := h1
  obtain ⟨x1, hK1, g1⟩ := opens29 H enc W fu1 _ _ hf1 wt1
  have e1 := k29_open hK1
  obtain rfl := Array.toList_inj.1 (e1.trans (List.toList_toArray ..).symm)
  clear hA0 hval0 hsz0 hsz
  refine (octorder_row x0 g0 x1 g1 W).mono fun e W' ⟨he, bel⟩ => ?_
  subst he
  exact ⟨_, rfl, _, _, _, [], _, [], hW', trodAll_mk1 (shut_bool Try.underlying4 _), (trodAll_cons_mk (Below.trod laidOut (by kernel_rfl) (of_decide_eq_true (by kernel_rfl)) k0' bel lt0) (trodAll_cons_mk (Below.trod laidOut (by kernel_rfl) (of_decide_eq_true (by kernel_rfl)) k1' bel lt1) trodAll_mk0)), rfl, bel.frame _, fun h => by cases h⟩
theorem k1 : Rows.octetOrderRow.wf (OpenSpec.ofChange Rows.octetOrderSpec) = true := by kernel_rfl
theorem k4 : Try.f9.params.all (Try.prog.readableRec ·) = true := by kernel_rfl
theorem k5 : namedTie Try.prog Rows.octetOrderRow.named Rows.octetOrderSpec.vars = true := by kernel_rfl
theorem k6 : (Rows.octetOrderRow.stops == []) = true := by kernel_rfl
theorem k8 : (Rows.octetOrderRow.knobs == []) = true := by kernel_rfl
theorem k10 : (Rows.octetOrderRow.inPlace == Try.prog.inPlace 9) = true := by kernel_rfl
theorem k11 : (Rows.octetOrderRow.unfollowed == Try.prog.unfollowed 9) = true := by kernel_rfl
theorem k12 : (Rows.octetOrderRow.recurses == Try.prog.recurses 9) = true := by kernel_rfl
theorem k13 : (Rows.octetOrderRow.named == Try.prog.varsNamed 9) = true := by kernel_rfl
theorem k14 : (Rows.octetOrderRow.maps == (Try.f9.params.toList ++ Rows.octetOrderSpec.plain.varTypes Try.prog).any (Try.prog.mapsRec ·)) = true := by kernel_rfl
theorem k15 : (Rows.octetOrderRow.ifaces == (Try.f9.params.toList ++ Rows.octetOrderSpec.plain.varTypes Try.prog).any (Try.prog.ifacesRec ·)) = true := by kernel_rfl
theorem k16 : (Rows.octetOrderRow.mapsOut == Try.prog.mapsAmong Try.f9.resultTypes.toList) = true := by kernel_rfl
theorem k17 : (Rows.octetOrderRow.loops == (Try.f9.params.toList ++ Rows.octetOrderSpec.plain.varTypes Try.prog).any (Try.prog.loopsFrom ·)) = true := by kernel_rfl
theorem k17b : (Rows.octetOrderRow.wideKeys == (Try.f9.params.toList ++ Rows.octetOrderSpec.plain.varTypes Try.prog ++ Try.f9.resultTypes.toList).any (Try.prog.wideKeysFrom ·)) = true := by kernel_rfl
theorem k18 : Rows.octetOrderSpec.vars.all (Try.prog.varReadable ·) = true := by kernel_rfl
theorem k19 : Try.f9.resultTypes.all (fun t => Try.prog.readableRec t && decide (t < Try.prog.types.size)) = true := by kernel_rfl
theorem k20 : (Rows.octetOrderRow.ifacesOut == Try.f9.resultTypes.toList.any (Try.prog.ifacesRec ·)) = true := by kernel_rfl
theorem k21 : (Rows.octetOrderRow.loopsOut == Try.f9.resultTypes.toList.any (Try.prog.loopsFrom ·)) = true := by kernel_rfl
theorem k22 : (Rows.octetOrderRow.plainKeys == Try.prog.plainKeys) = true := by have h : Rows.octetOrderRow.plainKeys = true := rfl; rw [h]; exact Joined.p5
theorem k23 : Rows.octetOrderRow.shortTexts.isNone = true := by kernel_rfl
theorem k24b : (Rows.octetOrderRow.lifted == Try.prog.liftsFinal) = true := by have h : Rows.octetOrderRow.lifted = false := rfl; rw [h]; exact Joined.p8
theorem k24c : (Try.prog.make == some Rows.octetOrderRow.make) = true := by have h : Rows.octetOrderRow.make = .cut := rfl; rw [h]; exact Joined.p9
theorem k25a : Rows.octetOrderRow.domain.isEmpty = true := by kernel_rfl
theorem k25 : (Rows.octetOrderRow.kinds == []) = true := by kernel_rfl
theorem k26 : (Rows.octetOrderRow.pinned == Rows.octetOrderRow.pinnedBy) = true := by kernel_rfl
theorem k27 : (Rows.octetOrderRow.veiled == (Try.f9.params.toList ++ Rows.octetOrderSpec.plain.varTypes Try.prog ++ Try.f9.resultTypes.toList).any (Try.prog.veiledRec ·)) = true := by kernel_rfl
theorem k28 : Rows.octetOrderRow.veiledFits Try.prog Try.f9.params.toList (Try.f9.params.toList ++ Rows.octetOrderSpec.plain.varTypes Try.prog ++ Try.f9.resultTypes.toList) = true := by kernel_rfl
theorem facts : joinedFacts Try.prog 9 Try.f9 Rows.octetOrderSpec Rows.octetOrderRow = true := Joined.joined_of k1 Joined.p1 Joined.p2 k4 k5 k6 Joined.p3 k8 Joined.p4 k10 k11 k12 k13 k14 k15 k16 k17 k17b k18 k19 k20 k21 k22 k23 Joined.p6 Joined.p7 k24b k24c k25a k25 k26 k27 k28
theorem named : Try.pinned.checked.prog.funcNamed Rows.octetOrderRow.func = some 9 := by kernel_rfl
theorem inst : Try.f9.isInstance Try.pinned.checked.prog Rows.octetOrderRow.origin Rows.octetOrderRow.targs := of_decide_eq_true (by kernel_rfl)
theorem wrap : Try.f9.isWrapper Try.pinned.checked.prog Rows.octetOrderRow.wrapper Rows.octetOrderRow.mainSum := by unfold Func.isWrapper; first | (rw [if_pos (by decide +kernel)]; kernel_rfl) | (rw [if_neg (by decide +kernel)]; exact ⟨rfl, rfl⟩)
theorem over : Rows.octetOrderRow.holds Try.pinned (OpenSpec.ofChange Rows.octetOrderSpec) :=
  OpenClaim.holds_of_wide 9 Try.f9 rfl rfl rfl rfl rfl rfl rfl ⟨rfl, rfl, rfl, rfl, rfl⟩ rfl rfl rfl rfl rfl named Try.func9 facts inst wrap
    (fun os started H enc _ => lifted os started H enc)
end Go.Proofs.Ytdjpcogkpnemlaa.RowOctetOrder
namespace Go.Proofs.Ytdjpcogkpnemlaa
/-- The row. -/
theorem octetOrder_holds : Rows.OctetOrderSaid := RowOctetOrder.over
#print axioms octetOrder_holds
end Go.Proofs.Ytdjpcogkpnemlaa
