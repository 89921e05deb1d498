/- OctetBack: for every input the law returns true, and the input reads as it did; no condition. -/
import Derived.Test.YtdjpcogkpnemlaaRows
import Derived.Test.YtdjpcogkpnemlaaJoined
import Derived.Test.YtdjpcogkpnemlaaLawBack
import Derived.Test.YtdjpcogkpnemlaaOpen
import Derived.WalkKit
import Derived.ProofKit
import Derived.OpenShut
import Derived.ShutString
import Derived.ChangeOld
import Derived.Below
import Derived.SizedLaws
import Derived.Carry
namespace Go.Proofs.Ytdjpcogkpnemlaa.RowOctetBack
open Go.ChangeShapes Go.WideShapes Go.ChangeAt Go.RowKit Go.Proofs.Ytdjpcogkpnemlaa.Oct Go.Proofs.Ytdjpcogkpnemlaa.POr Go.Proofs.YtdjpcogkpnemlaaW.PrintWords Go.Proofs.YtdjpcogkpnemlaaW.Op
open Go.ChangeMaps (open_string shut_string)
set_option linter.unusedVariables false
theorem own : ownKnob Try.prog.godebug = none := by kernel_rfl
theorem laidOut : laidOutB Try.prog = true := by kernel_rfl
instance : Inhabited S29 := ⟨z29⟩
theorem opens29 : Opens Try.prog k29 29 Good29 :=
  Opens.struct (fun x : S29 => (x.f0, x.f1)) (fun p => (⟨p.1, p.2⟩ : S29)) (fun _ => rfl) Try.underlying29 (by kernel_rfl)
    (OpensF.cons (good := (fun z : Int => (Lit.int .u64 z).wf = true)) (Opens.int Try.underlying27) rfl (by kernel_rfl) (OpensF.one (good := (fun z : Int => (Lit.int .u64 z).wf = true)) (Opens.int Try.underlying27) rfl (by kernel_rfl))) (fun _ h => h)
instance : Inhabited S48 := ⟨z48⟩
theorem opens48 : Opens Try.prog k48 48 Good48 :=
  Opens.struct (fun x : S48 => (x.f0, x.f1, x.f2, x.f3)) (fun p => (⟨p.1, p.2.1, p.2.2.1, p.2.2.2⟩ : S48)) (fun _ => rfl) Try.underlying48 (by kernel_rfl)
    (OpensF.cons (good := (fun z : Int => (Lit.int .u8 z).wf = true)) (Opens.int Try.underlying5) rfl (by kernel_rfl) (OpensF.cons (good := (fun z : S29 => Good29 z)) opens29 rfl (by kernel_rfl) (OpensF.cons (good := (fun z : ByteArray => z.size ≤ 140737488351232)) (Opens.string Try.underlying9) rfl (by kernel_rfl) (OpensF.one (good := (fun z : Int => (Lit.int .i64 z).wf = true)) (Opens.int Try.underlying3) rfl (by kernel_rfl))))) (fun _ h => h)
set_option maxRecDepth 100000 in
theorem lifted (os : Os) (started : os.Started) (H : Type) (enc : TypeId × Value → H) :
    ReturnsInHanded {} Try.checked os 7 .any (Rows.octetBackSpec.pre6 enc Try.prog Try.f7 Rows.octetBackRow.domain false) (Rows.octetBackSpec.post enc Try.prog Try.f7 false true false false) := by
  refine returnsInHanded_of_change_sized (C := Try.checked) own started (by kernel_rfl) Try.func7
    (ChangeSpec.witness6 (enc := enc) (C := Try.checked) false ⟨#[], #[.slice none 0 0, .int .i64 0], []⟩ 8 (by kernel_rfl) (by kernel_rfl) (by kernel_rfl) (by kernel_rfl)) ?_
  intro W base args ds gs before hval0 hW hcnd hsz0 _
  have hsz : (DataW.weightsEach Try.prog (Try.f7.params.toList ++ Rows.octetBackSpec.plain.varTypes Try.prog) (ds ++ gs)).all (· ≤ reachBytes) = true := hsz0
  have hval : ∀ (j : Nat) t v, Try.f7.params[j]? = some t → args[j]? = some v → Value.okWide Try.prog W .any base t v := hval0
  have hW' := hW
  obtain ⟨p, q, hA0, hV, rfl, hfz, hnd⟩ := hW
  have hA : DataW.TrodAll enc Try.prog W 0 (fun _ => true) true Try.f7.params.toList args.toList ds p := hA0
  rw [Try.params7] at hA hval hsz
  obtain ⟨v0, vs0, d0, ds0, p0, q0, hargs, rfl, rfl, h0, r0⟩ := trodAll_cons hA
  obtain ⟨v1, vs1, d1, ds1, p1, q1, rfl, rfl, rfl, h1, r1⟩ := trodAll_cons r0
  obtain ⟨rfl, rfl, rfl⟩ := trodAll_nil r1
  obtain rfl : args = #[v0, v1] := by cases args; simp_all
  obtain ⟨rfl, rfl⟩ := trodVars_none hV
  have k0' := h0
  have lt0 : ∀ x ∈ p0, x.block < W.heap.size := by obtain ⟨m, hm⟩ := h0; exact DataW.trod_lt m _ _ _ hm
  have wt0 := weights_each_le hsz (j := 0) (t := 37) (d := d0) rfl rfl
  obtain ⟨a0, len0, cap0, rfl⟩ := okWide_slice Try.underlying37 (hval 0 37 v0 rfl rfl)
  obtain ⟨fu0, hf0⟩ := h0
  obtain ⟨A0, c0, l0, e0, hl0, hC0, g0, b0⟩ := opens_slice (d := k48) (good := (fun z : S48 => Good48 z)) Try.underlying37 (by kernel_rfl) opens48 hf0 wt0
  simp [Value.cells] at e0
  obtain ⟨rfl, rfl, rfl⟩ := e0
  have k1' := h1
  have lt1 : ∀ x ∈ p1, x.block < W.heap.size := by obtain ⟨m, hm⟩ := h1; exact DataW.trod_lt m _ _ _ hm
  have wt1 := weights_each_le hsz (j := 1) (t := 3) (d := d1) rfl rfl
  obtain ⟨a1, rfl, rfl, rfl, w1⟩ := open_int Try.underlying3 (hval 1 3 v1 rfl rfl) h1
  clear hA0 hval0 hsz0 hsz
  refine (octback_row W _ _ l0 hC0 hl0 g0 b0 a1 w1).mono fun e W' ⟨he, bel⟩ => ?_
  subst he
  exact ⟨_, rfl, _, _, _, [], _, [], hW', trodAll_mk1 (shut_bool Try.underlying4 _), (trodAll_cons_mk (Below.trod laidOut (by kernel_rfl) (of_decide_eq_true (by kernel_rfl)) k0' bel lt0) (trodAll_cons_mk (Below.trod laidOut (by kernel_rfl) (of_decide_eq_true (by kernel_rfl)) k1' bel lt1) trodAll_mk0)), rfl, bel.frame _, fun h => by cases h⟩
theorem k1 : Rows.octetBackRow.wf (OpenSpec.ofChange Rows.octetBackSpec) = true := by kernel_rfl
theorem k4 : Try.f7.params.all (Try.prog.readableRec ·) = true := by kernel_rfl
theorem k5 : namedTie Try.prog Rows.octetBackRow.named Rows.octetBackSpec.vars = true := by kernel_rfl
theorem k6 : (Rows.octetBackRow.stops == []) = true := by kernel_rfl
theorem k8 : (Rows.octetBackRow.knobs == []) = true := by kernel_rfl
theorem k10 : (Rows.octetBackRow.inPlace == Try.prog.inPlace 7) = true := by kernel_rfl
theorem k11 : (Rows.octetBackRow.unfollowed == Try.prog.unfollowed 7) = true := by kernel_rfl
theorem k12 : (Rows.octetBackRow.recurses == Try.prog.recurses 7) = true := by kernel_rfl
theorem k13 : (Rows.octetBackRow.named == Try.prog.varsNamed 7) = true := by kernel_rfl
theorem k14 : (Rows.octetBackRow.maps == (Try.f7.params.toList ++ Rows.octetBackSpec.plain.varTypes Try.prog).any (Try.prog.mapsRec ·)) = true := by kernel_rfl
theorem k15 : (Rows.octetBackRow.ifaces == (Try.f7.params.toList ++ Rows.octetBackSpec.plain.varTypes Try.prog).any (Try.prog.ifacesRec ·)) = true := by kernel_rfl
theorem k16 : (Rows.octetBackRow.mapsOut == Try.prog.mapsAmong Try.f7.resultTypes.toList) = true := by kernel_rfl
theorem k17 : (Rows.octetBackRow.loops == (Try.f7.params.toList ++ Rows.octetBackSpec.plain.varTypes Try.prog).any (Try.prog.loopsFrom ·)) = true := by kernel_rfl
theorem k17b : (Rows.octetBackRow.wideKeys == (Try.f7.params.toList ++ Rows.octetBackSpec.plain.varTypes Try.prog ++ Try.f7.resultTypes.toList).any (Try.prog.wideKeysFrom ·)) = true := by kernel_rfl
theorem k18 : Rows.octetBackSpec.vars.all (Try.prog.varReadable ·) = true := by kernel_rfl
theorem k19 : Try.f7.resultTypes.all (fun t => Try.prog.readableRec t && decide (t < Try.prog.types.size)) = true := by kernel_rfl
theorem k20 : (Rows.octetBackRow.ifacesOut == Try.f7.resultTypes.toList.any (Try.prog.ifacesRec ·)) = true := by kernel_rfl
theorem k21 : (Rows.octetBackRow.loopsOut == Try.f7.resultTypes.toList.any (Try.prog.loopsFrom ·)) = true := by kernel_rfl
theorem k22 : (Rows.octetBackRow.plainKeys == Try.prog.plainKeys) = true := by have h : Rows.octetBackRow.plainKeys = true := rfl; rw [h]; exact Joined.p5
theorem k23 : Rows.octetBackRow.shortTexts.isNone = true := by kernel_rfl
theorem k24b : (Rows.octetBackRow.lifted == Try.prog.liftsFinal) = true := by have h : Rows.octetBackRow.lifted = false := rfl; rw [h]; exact Joined.p8
theorem k24c : (Try.prog.make == some Rows.octetBackRow.make) = true := by have h : Rows.octetBackRow.make = .cut := rfl; rw [h]; exact Joined.p9
theorem k25a : Rows.octetBackRow.domain.isEmpty = true := by kernel_rfl
theorem k25 : (Rows.octetBackRow.kinds == []) = true := by kernel_rfl
theorem k26 : (Rows.octetBackRow.pinned == Rows.octetBackRow.pinnedBy) = true := by kernel_rfl
theorem k27 : (Rows.octetBackRow.veiled == (Try.f7.params.toList ++ Rows.octetBackSpec.plain.varTypes Try.prog ++ Try.f7.resultTypes.toList).any (Try.prog.veiledRec ·)) = true := by kernel_rfl
theorem k28 : Rows.octetBackRow.veiledFits Try.prog Try.f7.params.toList (Try.f7.params.toList ++ Rows.octetBackSpec.plain.varTypes Try.prog ++ Try.f7.resultTypes.toList) = true := by kernel_rfl
theorem facts : joinedFacts Try.prog 7 Try.f7 Rows.octetBackSpec Rows.octetBackRow = true := Joined.joined_of k1 Joined.p1 Joined.p2 k4 k5 k6 Joined.p3 k8 Joined.p4 k10 k11 k12 k13 k14 k15 k16 k17 k17b k18 k19 k20 k21 k22 k23 Joined.p6 Joined.p7 k24b k24c k25a k25 k26 k27 k28
theorem named : Try.pinned.checked.prog.funcNamed Rows.octetBackRow.func = some 7 := by kernel_rfl
theorem inst : Try.f7.isInstance Try.pinned.checked.prog Rows.octetBackRow.origin Rows.octetBackRow.targs := of_decide_eq_true (by kernel_rfl)
theorem wrap : Try.f7.isWrapper Try.pinned.checked.prog Rows.octetBackRow.wrapper Rows.octetBackRow.mainSum := by unfold Func.isWrapper; first | (rw [if_pos (by decide +kernel)]; kernel_rfl) | (rw [if_neg (by decide +kernel)]; exact ⟨rfl, rfl⟩)
theorem over : Rows.octetBackRow.holds Try.pinned (OpenSpec.ofChange Rows.octetBackSpec) :=
  OpenClaim.holds_of_wide 7 Try.f7 rfl rfl rfl rfl rfl rfl rfl ⟨rfl, rfl, rfl, rfl, rfl⟩ rfl rfl rfl rfl rfl named Try.func7 facts inst wrap
    (fun os started H enc _ => lifted os started H enc)
end Go.Proofs.Ytdjpcogkpnemlaa.RowOctetBack
namespace Go.Proofs.Ytdjpcogkpnemlaa
/-- The row. -/
theorem octetBack_holds : Rows.OctetBackSaid := RowOctetBack.over
#print axioms octetBack_holds
end Go.Proofs.Ytdjpcogkpnemlaa
