/- OctetNil: for every input the law returns true, and the input reads as it did; no condition. -/
import Derived.Test.YtdjpcogkpnemlaaRows
import Derived.Test.YtdjpcogkpnemlaaJoined
import Derived.Test.YtdjpcogkpnemlaaLawNil
import Derived.Test.YtdjpcogkpnemlaaOpen
import Derived.WalkKit
import Derived.ProofKit
import Derived.OpenShut
import Derived.ShutString
import Derived.ChangeOld
import Derived.Below
import Derived.SizedLaws
import Derived.Carry
namespace Go.Proofs.Ytdjpcogkpnemlaa.RowOctetNil
open Go.ChangeShapes Go.WideShapes Go.ChangeAt Go.RowKit Go.Proofs.Ytdjpcogkpnemlaa.Oct Go.Proofs.Ytdjpcogkpnemlaa.POr Go.Proofs.YtdjpcogkpnemlaaW.PrintWords Go.Proofs.YtdjpcogkpnemlaaW.Op
open Go.ChangeMaps (open_string shut_string)
set_option linter.unusedVariables false
theorem own : ownKnob Try.prog.godebug = none := by kernel_rfl
theorem laidOut : laidOutB Try.prog = true := by kernel_rfl
instance : Inhabited S29 := ⟨z29⟩
theorem opens29 : Opens Try.prog k29 29 Good29 :=
  Opens.struct (fun x : S29 => (x.f0, x.f1)) (fun p => (⟨p.1, p.2⟩ : S29)) (fun _ => rfl) Try.underlying29 (by kernel_rfl)
    (OpensF.cons (good := (fun z : Int => (Lit.int .u64 z).wf = true)) (Opens.int Try.underlying27) rfl (by kernel_rfl) (OpensF.one (good := (fun z : Int => (Lit.int .u64 z).wf = true)) (Opens.int Try.underlying27) rfl (by kernel_rfl))) (fun _ h => h)
instance : Inhabited S48 := ⟨z48⟩
theorem opens48 : Opens Try.prog k48 48 Good48 :=
  Opens.struct (fun x : S48 => (x.f0, x.f1, x.f2, x.f3)) (fun p => (⟨p.1, p.2.1, p.2.2.1, p.2.2.2⟩ : S48)) (fun _ => rfl) Try.underlying48 (by kernel_rfl)
    (OpensF.cons (good := (fun z : Int => (Lit.int .u8 z).wf = true)) (Opens.int Try.underlying5) rfl (by kernel_rfl) (OpensF.cons (good := (fun z : S29 => Good29 z)) opens29 rfl (by kernel_rfl) (OpensF.cons (good := (fun z : ByteArray => z.size ≤ 140737488351232)) (Opens.string Try.underlying9) rfl (by kernel_rfl) (OpensF.one (good := (fun z : Int => (Lit.int .i64 z).wf = true)) (Opens.int Try.underlying3) rfl (by kernel_rfl))))) (fun _ h => h)
set_option maxRecDepth 100000 in
theorem lifted (os : Os) (started : os.Started) (H : Type) (enc : TypeId × Value → H) :
    ReturnsInHanded {} Try.checked os 6 .any (Rows.octetNilSpec.pre6 enc Try.prog Try.f6 Rows.octetNilRow.domain false) (Rows.octetNilSpec.post enc Try.prog Try.f6 false true false false) := by
  refine returnsInHanded_of_change_sized (C := Try.checked) own started (by kernel_rfl) Try.func6
    (ChangeSpec.witness6 (enc := enc) (C := Try.checked) false ⟨#[], #[.agg #[.int .u8 0, .int .u64 0, .int .u64 0, .string ByteArray.empty, .int .i64 0]], []⟩ 8 (by kernel_rfl) (by kernel_rfl) (by kernel_rfl) (by kernel_rfl)) ?_
  intro W base args ds gs before hval0 hW hcnd hsz0 _
  have hsz : (DataW.weightsEach Try.prog (Try.f6.params.toList ++ Rows.octetNilSpec.plain.varTypes Try.prog) (ds ++ gs)).all (· ≤ reachBytes) = true := hsz0
  have hval : ∀ (j : Nat) t v, Try.f6.params[j]? = some t → args[j]? = some v → Value.okWide Try.prog W .any base t v := hval0
  have hW' := hW
  obtain ⟨p, q, hA0, hV, rfl, hfz, hnd⟩ := hW
  have hA : DataW.TrodAll enc Try.prog W 0 (fun _ => true) true Try.f6.params.toList args.toList ds p := hA0
  rw [Try.params6] at hA hval hsz
  obtain ⟨v0, vs0, d0, ds0, p0, q0, hargs, rfl, rfl, h0, r0⟩ := trodAll_cons hA
  obtain ⟨rfl, rfl, rfl⟩ := trodAll_nil r0
  obtain rfl : args = #[v0] := by cases args; simp_all
  obtain ⟨rfl, rfl⟩ := trodVars_none hV
  have k0' := h0
  have lt0 : ∀ x ∈ p0, x.block < W.heap.size := by obtain ⟨m, hm⟩ := h0; exact DataW.trod_lt m _ _ _ hm
  have wt0 := weights_each_le hsz (j := 0) (t := 48) (d := d0) rfl rfl
  obtain ⟨cs0, rfl, z0⟩ := okWide_struct Try.underlying48 (hval 0 48 v0 rfl rfl)
  obtain ⟨fu0, hf0⟩ := h0
  obtain ⟨x0, hK0, g0⟩ := opens48 H enc W fu0 _ _ hf0 wt0
  have e0 := k48_open hK0
  obtain rfl := Array.toList_inj.1 (e0.trans (List.toList_toArray ..).symm)
  clear hA0 hval0 hsz0 hsz
  refine (octnil_row x0 g0 W).mono fun e W' ⟨he, bel⟩ => ?_
  subst he
  exact ⟨_, rfl, _, _, _, [], _, [], hW', trodAll_mk1 (shut_bool Try.underlying4 _), (trodAll_cons_mk (Below.trod laidOut (by kernel_rfl) (of_decide_eq_true (by kernel_rfl)) k0' bel lt0) trodAll_mk0), rfl, bel.frame _, fun h => by cases h⟩
theorem k1 : Rows.octetNilRow.wf (OpenSpec.ofChange Rows.octetNilSpec) = true := by kernel_rfl
theorem k4 : Try.f6.params.all (Try.prog.readableRec ·) = true := by kernel_rfl
theorem k5 : namedTie Try.prog Rows.octetNilRow.named Rows.octetNilSpec.vars = true := by kernel_rfl
theorem k6 : (Rows.octetNilRow.stops == []) = true := by kernel_rfl
theorem k8 : (Rows.octetNilRow.knobs == []) = true := by kernel_rfl
theorem k10 : (Rows.octetNilRow.inPlace == Try.prog.inPlace 6) = true := by kernel_rfl
theorem k11 : (Rows.octetNilRow.unfollowed == Try.prog.unfollowed 6) = true := by kernel_rfl
theorem k12 : (Rows.octetNilRow.recurses == Try.prog.recurses 6) = true := by kernel_rfl
theorem k13 : (Rows.octetNilRow.named == Try.prog.varsNamed 6) = true := by kernel_rfl
theorem k14 : (Rows.octetNilRow.maps == (Try.f6.params.toList ++ Rows.octetNilSpec.plain.varTypes Try.prog).any (Try.prog.mapsRec ·)) = true := by kernel_rfl
theorem k15 : (Rows.octetNilRow.ifaces == (Try.f6.params.toList ++ Rows.octetNilSpec.plain.varTypes Try.prog).any (Try.prog.ifacesRec ·)) = true := by kernel_rfl
theorem k16 : (Rows.octetNilRow.mapsOut == Try.prog.mapsAmong Try.f6.resultTypes.toList) = true := by kernel_rfl
theorem k17 : (Rows.octetNilRow.loops == (Try.f6.params.toList ++ Rows.octetNilSpec.plain.varTypes Try.prog).any (Try.prog.loopsFrom ·)) = true := by kernel_rfl
theorem k17b : (Rows.octetNilRow.wideKeys == (Try.f6.params.toList ++ Rows.octetNilSpec.plain.varTypes Try.prog ++ Try.f6.resultTypes.toList).any (Try.prog.wideKeysFrom ·)) = true := by kernel_rfl
theorem k18 : Rows.octetNilSpec.vars.all (Try.prog.varReadable ·) = true := by kernel_rfl
theorem k19 : Try.f6.resultTypes.all (fun t => Try.prog.readableRec t && decide (t < Try.prog.types.size)) = true := by kernel_rfl
theorem k20 : (Rows.octetNilRow.ifacesOut == Try.f6.resultTypes.toList.any (Try.prog.ifacesRec ·)) = true := by kernel_rfl
theorem k21 : (Rows.octetNilRow.loopsOut == Try.f6.resultTypes.toList.any (Try.prog.loopsFrom ·)) = true := by kernel_rfl
theorem k22 : (Rows.octetNilRow.plainKeys == Try.prog.plainKeys) = true := by have h : Rows.octetNilRow.plainKeys = true := rfl; rw [h]; exact Joined.p5
theorem k23 : Rows.octetNilRow.shortTexts.isNone = true := by kernel_rfl
theorem k24b : (Rows.octetNilRow.lifted == Try.prog.liftsFinal) = true := by have h : Rows.octetNilRow.lifted = false := rfl; rw [h]; exact Joined.p8
theorem k24c : (Try.prog.make == some Rows.octetNilRow.make) = true := by have h : Rows.octetNilRow.make = .cut := rfl; rw [h]; exact Joined.p9
theorem k25a : Rows.octetNilRow.domain.isEmpty = true := by kernel_rfl
theorem k25 : (Rows.octetNilRow.kinds == []) = true := by kernel_rfl
theorem k26 : (Rows.octetNilRow.pinned == Rows.octetNilRow.pinnedBy) = true := by kernel_rfl
theorem k27 : (Rows.octetNilRow.veiled == (Try.f6.params.toList ++ Rows.octetNilSpec.plain.varTypes Try.prog ++ Try.f6.resultTypes.toList).any (Try.prog.veiledRec ·)) = true := by kernel_rfl
theorem k28 : Rows.octetNilRow.veiledFits Try.prog Try.f6.params.toList (Try.f6.params.toList ++ Rows.octetNilSpec.plain.varTypes Try.prog ++ Try.f6.resultTypes.toList) = true := by kernel_rfl
theorem facts : joinedFacts Try.prog 6 Try.f6 Rows.octetNilSpec Rows.octetNilRow = true := Joined.joined_of k1 Joined.p1 Joined.p2 k4 k5 k6 Joined.p3 k8 Joined.p4 k10 k11 k12 k13 k14 k15 k16 k17 k17b k18 k19 k20 k21 k22 k23 Joined.p6 Joined.p7 k24b k24c k25a k25 k26 k27 k28
theorem named : Try.pinned.checked.prog.funcNamed Rows.octetNilRow.func = some 6 := by kernel_rfl
theorem inst : Try.f6.isInstance Try.pinned.checked.prog Rows.octetNilRow.origin Rows.octetNilRow.targs := of_decide_eq_true (by kernel_rfl)
theorem wrap : Try.f6.isWrapper Try.pinned.checked.prog Rows.octetNilRow.wrapper Rows.octetNilRow.mainSum := by unfold Func.isWrapper; first | (rw [if_pos (by decide +kernel)]; kernel_rfl) | (rw [if_neg (by decide +kernel)]; exact ⟨rfl, rfl⟩)
theorem over : Rows.octetNilRow.holds Try.pinned (OpenSpec.ofChange Rows.octetNilSpec) :=
  OpenClaim.holds_of_wide 6 Try.f6 rfl rfl rfl rfl rfl rfl rfl ⟨rfl, rfl, rfl, rfl, rfl⟩ rfl rfl rfl rfl rfl named Try.func6 facts inst wrap
    (fun os started H enc _ => lifted os started H enc)
end Go.Proofs.Ytdjpcogkpnemlaa.RowOctetNil
namespace Go.Proofs.Ytdjpcogkpnemlaa
/-- The row. -/
theorem octetNil_holds : Rows.OctetNilSaid := RowOctetNil.over
#print axioms octetNil_holds
end Go.Proofs.Ytdjpcogkpnemlaa
