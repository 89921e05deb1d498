/- OctetOne: for every input the law returns true, and the input reads as it did; no condition. -/
import Derived.Test.YtdjpcogkpnemlaaRows
import Derived.Test.YtdjpcogkpnemlaaJoined
import Derived.Test.YtdjpcogkpnemlaaLawOne
import Derived.Test.YtdjpcogkpnemlaaOpen
import Derived.WalkKit
import Derived.ProofKit
import Derived.OpenShut
import Derived.ShutString
import Derived.ChangeOld
import Derived.Below
import Derived.SizedLaws
import Derived.Carry
namespace Go.Proofs.Ytdjpcogkpnemlaa.RowOctetOne
open Go.ChangeShapes Go.WideShapes Go.ChangeAt Go.RowKit Go.Proofs.Ytdjpcogkpnemlaa.Oct Go.Proofs.Ytdjpcogkpnemlaa.POr Go.Proofs.YtdjpcogkpnemlaaW.PrintWords Go.Proofs.YtdjpcogkpnemlaaW.Op
open Go.ChangeMaps (open_string shut_string)
set_option linter.unusedVariables false
theorem own : ownKnob Try.prog.godebug = none := by kernel_rfl
theorem laidOut : laidOutB Try.prog = true := by kernel_rfl
set_option maxRecDepth 100000 in
theorem lifted (os : Os) (started : os.Started) (H : Type) (enc : TypeId × Value → H) :
    ReturnsInHanded {} Try.checked os 8 .any (Rows.octetOneSpec.pre6 enc Try.prog Try.f8 Rows.octetOneRow.domain false) (Rows.octetOneSpec.post enc Try.prog Try.f8 false true false false) := by
  refine returnsInHanded_of_change_sized (C := Try.checked) own started (by kernel_rfl) Try.func8
    (ChangeSpec.witness6 (enc := enc) (C := Try.checked) false ⟨#[], #[.string ByteArray.empty, .slice none 0 0], []⟩ 8 (by kernel_rfl) (by kernel_rfl) (by kernel_rfl) (by kernel_rfl)) ?_
  intro W base args ds gs before hval0 hW hcnd hsz0 _
  have hsz : (DataW.weightsEach Try.prog (Try.f8.params.toList ++ Rows.octetOneSpec.plain.varTypes Try.prog) (ds ++ gs)).all (· ≤ reachBytes) = true := hsz0
  have hval : ∀ (j : Nat) t v, Try.f8.params[j]? = some t → args[j]? = some v → Value.okWide Try.prog W .any base t v := hval0
  have hW' := hW
  obtain ⟨p, q, hA0, hV, rfl, hfz, hnd⟩ := hW
  have hA : DataW.TrodAll enc Try.prog W 0 (fun _ => true) true Try.f8.params.toList args.toList ds p := hA0
  rw [Try.params8] at hA hval hsz
  obtain ⟨v0, vs0, d0, ds0, p0, q0, hargs, rfl, rfl, h0, r0⟩ := trodAll_cons hA
  obtain ⟨v1, vs1, d1, ds1, p1, q1, rfl, rfl, rfl, h1, r1⟩ := trodAll_cons r0
  obtain ⟨rfl, rfl, rfl⟩ := trodAll_nil r1
  obtain rfl : args = #[v0, v1] := by cases args; simp_all
  obtain ⟨rfl, rfl⟩ := trodVars_none hV
  have k0' := h0
  have lt0 : ∀ x ∈ p0, x.block < W.heap.size := by obtain ⟨m, hm⟩ := h0; exact DataW.trod_lt m _ _ _ hm
  have wt0 := weights_each_le hsz (j := 0) (t := 9) (d := d0) rfl rfl
  obtain ⟨a0, rfl, rfl, rfl, y0⟩ := open_string Try.underlying9 (hval 0 9 v0 rfl rfl) h0
  have w0 : a0.size ≤ 140737488351232 := by
    have z := wt0 a0.data.toList.length (by simp [DataW.weights])
    rw [Array.length_toList] at z
    exact z
  have k1' := h1
  have lt1 : ∀ x ∈ p1, x.block < W.heap.size := by obtain ⟨m, hm⟩ := h1; exact DataW.trod_lt m _ _ _ hm
  have wt1 := weights_each_le hsz (j := 1) (t := 40) (d := d1) rfl rfl
  obtain ⟨a1, len1, cap1, rfl⟩ := okWide_slice Try.underlying40 (hval 1 40 v1 rfl rfl)
  obtain ⟨fu1, hf1⟩ := h1
  obtain ⟨A1, c1, l1, e1, hl1, hC1, g1, b1⟩ := opens_slice (d := (Kd.int .u8)) (good := (fun z : Int => (Lit.int .u8 z).wf = true)) Try.underlying40 (by kernel_rfl) (Opens.int Try.underlying5) hf1 wt1
  simp [Value.cells] at e1
  obtain ⟨rfl, rfl, rfl⟩ := e1
  clear hA0 hval0 hsz0 hsz
  refine (octone_row W a0 w0 _ _ l1 hC1 hl1 g1 b1).mono fun e W' ⟨he, bel⟩ => ?_
  subst he
  exact ⟨_, rfl, _, _, _, [], _, [], hW', trodAll_mk1 (shut_bool Try.underlying4 _), (trodAll_cons_mk (Below.trod laidOut (by kernel_rfl) (of_decide_eq_true (by kernel_rfl)) k0' bel lt0) (trodAll_cons_mk (Below.trod laidOut (by kernel_rfl) (of_decide_eq_true (by kernel_rfl)) k1' bel lt1) trodAll_mk0)), rfl, bel.frame _, fun h => by cases h⟩
theorem k1 : Rows.octetOneRow.wf (OpenSpec.ofChange Rows.octetOneSpec) = true := by kernel_rfl
theorem k4 : Try.f8.params.all (Try.prog.readableRec ·) = true := by kernel_rfl
theorem k5 : namedTie Try.prog Rows.octetOneRow.named Rows.octetOneSpec.vars = true := by kernel_rfl
theorem k6 : (Rows.octetOneRow.stops == []) = true := by kernel_rfl
theorem k8 : (Rows.octetOneRow.knobs == []) = true := by kernel_rfl
theorem k10 : (Rows.octetOneRow.inPlace == Try.prog.inPlace 8) = true := by kernel_rfl
theorem k11 : (Rows.octetOneRow.unfollowed == Try.prog.unfollowed 8) = true := by kernel_rfl
theorem k12 : (Rows.octetOneRow.recurses == Try.prog.recurses 8) = true := by kernel_rfl
theorem k13 : (Rows.octetOneRow.named == Try.prog.varsNamed 8) = true := by kernel_rfl
theorem k14 : (Rows.octetOneRow.maps == (Try.f8.params.toList ++ Rows.octetOneSpec.plain.varTypes Try.prog).any (Try.prog.mapsRec ·)) = true := by kernel_rfl
theorem k15 : (Rows.octetOneRow.ifaces == (Try.f8.params.toList ++ Rows.octetOneSpec.plain.varTypes Try.prog).any (Try.prog.ifacesRec ·)) = true := by kernel_rfl
theorem k16 : (Rows.octetOneRow.mapsOut == Try.prog.mapsAmong Try.f8.resultTypes.toList) = true := by kernel_rfl
theorem k17 : (Rows.octetOneRow.loops == (Try.f8.params.toList ++ Rows.octetOneSpec.plain.varTypes Try.prog).any (Try.prog.loopsFrom ·)) = true := by kernel_rfl
theorem k17b : (Rows.octetOneRow.wideKeys == (Try.f8.params.toList ++ Rows.octetOneSpec.plain.varTypes Try.prog ++ Try.f8.resultTypes.toList).any (Try.prog.wideKeysFrom ·)) = true := by kernel_rfl
theorem k18 : Rows.octetOneSpec.vars.all (Try.prog.varReadable ·) = true := by kernel_rfl
theorem k19 : Try.f8.resultTypes.all (fun t => Try.prog.readableRec t && decide (t < Try.prog.types.size)) = true := by kernel_rfl
theorem k20 : (Rows.octetOneRow.ifacesOut == Try.f8.resultTypes.toList.any (Try.prog.ifacesRec ·)) = true := by kernel_rfl
theorem k21 : (Rows.octetOneRow.loopsOut == Try.f8.resultTypes.toList.any (Try.prog.loopsFrom ·)) = true := by kernel_rfl
theorem k22 : (Rows.octetOneRow.plainKeys == Try.prog.plainKeys) = true := by have h : Rows.octetOneRow.plainKeys = true := rfl; rw [h]; exact Joined.p5
theorem k23 : Rows.octetOneRow.shortTexts.isNone = true := by kernel_rfl
theorem k24b : (Rows.octetOneRow.lifted == Try.prog.liftsFinal) = true := by have h : Rows.octetOneRow.lifted = false := rfl; rw [h]; exact Joined.p8
theorem k24c : (Try.prog.make == some Rows.octetOneRow.make) = true := by have h : Rows.octetOneRow.make = .cut := rfl; rw [h]; exact Joined.p9
theorem k25a : Rows.octetOneRow.domain.isEmpty = true := by kernel_rfl
theorem k25 : (Rows.octetOneRow.kinds == []) = true := by kernel_rfl
theorem k26 : (Rows.octetOneRow.pinned == Rows.octetOneRow.pinnedBy) = true := by kernel_rfl
theorem k27 : (Rows.octetOneRow.veiled == (Try.f8.params.toList ++ Rows.octetOneSpec.plain.varTypes Try.prog ++ Try.f8.resultTypes.toList).any (Try.prog.veiledRec ·)) = true := by kernel_rfl
theorem k28 : Rows.octetOneRow.veiledFits Try.prog Try.f8.params.toList (Try.f8.params.toList ++ Rows.octetOneSpec.plain.varTypes Try.prog ++ Try.f8.resultTypes.toList) = true := by kernel_rfl
theorem facts : joinedFacts Try.prog 8 Try.f8 Rows.octetOneSpec Rows.octetOneRow = true := Joined.joined_of k1 Joined.p1 Joined.p2 k4 k5 k6 Joined.p3 k8 Joined.p4 k10 k11 k12 k13 k14 k15 k16 k17 k17b k18 k19 k20 k21 k22 k23 Joined.p6 Joined.p7 k24b k24c k25a k25 k26 k27 k28
theorem named : Try.pinned.checked.prog.funcNamed Rows.octetOneRow.func = some 8 := by kernel_rfl
theorem inst : Try.f8.isInstance Try.pinned.checked.prog Rows.octetOneRow.origin Rows.octetOneRow.targs := of_decide_eq_true (by kernel_rfl)
theorem wrap : Try.f8.isWrapper Try.pinned.checked.prog Rows.octetOneRow.wrapper Rows.octetOneRow.mainSum := by unfold Func.isWrapper; first | (rw [if_pos (by decide +kernel)]; kernel_rfl) | (rw [if_neg (by decide +kernel)]; exact ⟨rfl, rfl⟩)
theorem over : Rows.octetOneRow.holds Try.pinned (OpenSpec.ofChange Rows.octetOneSpec) :=
  OpenClaim.holds_of_wide 8 Try.f8 rfl rfl rfl rfl rfl rfl rfl ⟨rfl, rfl, rfl, rfl, rfl⟩ rfl rfl rfl rfl rfl named Try.func8 facts inst wrap
    (fun os started H enc _ => lifted os started H enc)
end Go.Proofs.Ytdjpcogkpnemlaa.RowOctetOne
namespace Go.Proofs.Ytdjpcogkpnemlaa
/-- The row. -/
theorem octetOne_holds : Rows.OctetOneSaid := RowOctetOne.over
#print axioms octetOne_holds
end Go.Proofs.Ytdjpcogkpnemlaa
