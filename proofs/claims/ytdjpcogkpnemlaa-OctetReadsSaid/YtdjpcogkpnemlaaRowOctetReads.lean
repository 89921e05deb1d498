/- OctetReads: for every input the law returns true, and the input reads as it did; no condition. -/
import Derived.Test.YtdjpcogkpnemlaaRows
import Derived.Test.YtdjpcogkpnemlaaJoined
import Derived.Test.YtdjpcogkpnemlaaLawReads
import Derived.Test.YtdjpcogkpnemlaaOpen
import Derived.WalkKit
import Derived.ProofKit
import Derived.OpenShut
import Derived.ShutString
import Derived.ChangeOld
import Derived.Below
import Derived.SizedLaws
import Derived.Carry
namespace Go.Proofs.Ytdjpcogkpnemlaa.RowOctetReads
open Go.ChangeShapes Go.WideShapes Go.ChangeAt Go.RowKit Go.Proofs.Ytdjpcogkpnemlaa.Oct Go.Proofs.Ytdjpcogkpnemlaa.POr Go.Proofs.YtdjpcogkpnemlaaW.PrintWords Go.Proofs.YtdjpcogkpnemlaaW.Op
open Go.ChangeMaps (open_string shut_string)
set_option linter.unusedVariables false
theorem own : ownKnob Try.prog.godebug = none := by kernel_rfl
theorem laidOut : laidOutB Try.prog = true := by kernel_rfl
instance : Inhabited S29 := ⟨z29⟩
theorem opens29 : Opens Try.prog k29 29 Good29 :=
  Opens.struct (fun x : S29 => (x.f0, x.f1)) (fun p => (⟨p.1, p.2⟩ : S29)) (fun _ => rfl) Try.underlying29 (by kernel_rfl)
    (OpensF.cons (good := (fun z : Int => (Lit.int .u64 z).wf = true)) (Opens.int Try.underlying27) rfl (by kernel_rfl) (OpensF.one (good := (fun z : Int => (Lit.int .u64 z).wf = true)) (Opens.int Try.underlying27) rfl (by kernel_rfl))) (fun _ h => h)
instance : Inhabited S48 := ⟨z48⟩
theorem opens48 : Opens Try.prog k48 48 Good48 :=
  Opens.struct (fun x : S48 => (x.f0, x.f1, x.f2, x.f3)) (fun p => (⟨p.1, p.2.1, p.2.2.1, p.2.2.2⟩ : S48)) (fun _ => rfl) Try.underlying48 (by kernel_rfl)
    (OpensF.cons (good := (fun z : Int => (Lit.int .u8 z).wf = true)) (Opens.int Try.underlying5) rfl (by kernel_rfl) (OpensF.cons (good := (fun z : S29 => Good29 z)) opens29 rfl (by kernel_rfl) (OpensF.cons (good := (fun z : ByteArray => z.size ≤ 140737488351232)) (Opens.string Try.underlying9) rfl (by kernel_rfl) (OpensF.one (good := (fun z : Int => (Lit.int .i64 z).wf = true)) (Opens.int Try.underlying3) rfl (by kernel_rfl))))) (fun _ h => h)
set_option maxRecDepth 100000 in
theorem lifted (os : Os) (started : os.Started) (H : Type) (enc : TypeId × Value → H) :
    ReturnsInHanded {} Try.checked os 5 .any (Rows.octetReadsSpec.pre6 enc Try.prog Try.f5 Rows.octetReadsRow.domain false) (Rows.octetReadsSpec.post enc Try.prog Try.f5 false true false false) := by
  refine returnsInHanded_of_change_sized (C := Try.checked) own started (by kernel_rfl) Try.func5
    (ChangeSpec.witness6 (enc := enc) (C := Try.checked) false ⟨#[], #[.string ByteArray.empty, .slice none 0 0], []⟩ 8 (by kernel_rfl) (by kernel_rfl) (by kernel_rfl) (by kernel_rfl)) ?_
  intro W base args ds gs before hval0 hW hcnd hsz0 _
  have hsz : (DataW.weightsEach Try.prog (Try.f5.params.toList ++ Rows.octetReadsSpec.plain.varTypes Try.prog) (ds ++ gs)).all (· ≤ reachBytes) = true := hsz0
  have hval : ∀ (j : Nat) t v, Try.f5.params[j]? = some t → args[j]? = some v → Value.okWide Try.prog W .any base t v := hval0
  have hW' := hW
  obtain ⟨p, q, hA0, hV, rfl, hfz, hnd⟩ := hW
  have hA : DataW.TrodAll enc Try.prog W 0 (fun _ => true) true Try.f5.params.toList args.toList ds p := hA0
  rw [Try.params5] at hA hval hsz
  obtain ⟨v0, vs0, d0, ds0, p0, q0, hargs, rfl, rfl, h0, r0⟩ := trodAll_cons hA
  obtain ⟨v1, vs1, d1, ds1, p1, q1, rfl, rfl, rfl, h1, r1⟩ := trodAll_cons r0
  obtain ⟨rfl, rfl, rfl⟩ := trodAll_nil r1
  obtain rfl : args = #[v0, v1] := by cases args; simp_all
  obtain ⟨rfl, rfl⟩ := trodVars_none hV
  have k0' := h0
  have lt0 : ∀ x ∈ p0, x.block < W.heap.size := by obtain ⟨m, hm⟩ := h0; exact DataW.trod_lt m _ _ _ hm
  have wt0 := weights_each_le hsz (j := 0) (t := 9) (d := d0) rfl rfl
  obtain ⟨a0, rfl, rfl, rfl, y0⟩ := open_string Try.underlying9 (hval 0 9 v0 rfl rfl) h0
  have w0 : a0.size ≤ 140737488351232 := by
    have z := wt0 a0.data.toList.length (by simp [DataW.weights])
    rw [Array.length_toList] at z
    exact z
  have k1' := h1
  have lt1 : ∀ x ∈ p1, x.block < W.heap.size := by obtain ⟨m, hm⟩ := h1; exact DataW.trod_lt m _ _ _ hm
  have wt1 := weights_each_le hsz (j := 1) (t := 37) (d := d1) rfl rfl
  obtain ⟨a1, len1, cap1, rfl⟩ := okWide_slice Try.underlying37 (hval 1 37 v1 rfl rfl)
  obtain ⟨fu1, hf1⟩ := h1
  obtain ⟨A1, c1, l1, e1, hl1, hC1, g1, b1⟩ := opens_slice (d := k48) (good := (fun z : S48 => Good48 z)) Try.underlying37 (by kernel_rfl) opens48 hf1 wt1
  simp [Value.cells] at e1
  obtain ⟨rfl, rfl, rfl⟩ := e1
  clear hA0 hval0 hsz0 hsz
  refine (octreads_row W a0 w0 _ _ l1 hC1 hl1 g1 b1).mono fun e W' ⟨he, bel⟩ => ?_
  subst he
  exact ⟨_, rfl, _, _, _, [], _, [], hW', trodAll_mk1 (shut_bool Try.underlying4 _), (trodAll_cons_mk (Below.trod laidOut (by kernel_rfl) (of_decide_eq_true (by kernel_rfl)) k0' bel lt0) (trodAll_cons_mk (Below.trod laidOut (by kernel_rfl) (of_decide_eq_true (by kernel_rfl)) k1' bel lt1) trodAll_mk0)), rfl, bel.frame _, fun h => by cases h⟩
theorem k1 : Rows.octetReadsRow.wf (OpenSpec.ofChange Rows.octetReadsSpec) = true := by kernel_rfl
theorem k4 : Try.f5.params.all (Try.prog.readableRec ·) = true := by kernel_rfl
theorem k5 : namedTie Try.prog Rows.octetReadsRow.named Rows.octetReadsSpec.vars = true := by kernel_rfl
theorem k6 : (Rows.octetReadsRow.stops == []) = true := by kernel_rfl
theorem k8 : (Rows.octetReadsRow.knobs == []) = true := by kernel_rfl
theorem k10 : (Rows.octetReadsRow.inPlace == Try.prog.inPlace 5) = true := by kernel_rfl
theorem k11 : (Rows.octetReadsRow.unfollowed == Try.prog.unfollowed 5) = true := by kernel_rfl
theorem k12 : (Rows.octetReadsRow.recurses == Try.prog.recurses 5) = true := by kernel_rfl
theorem k13 : (Rows.octetReadsRow.named == Try.prog.varsNamed 5) = true := by kernel_rfl
theorem k14 : (Rows.octetReadsRow.maps == (Try.f5.params.toList ++ Rows.octetReadsSpec.plain.varTypes Try.prog).any (Try.prog.mapsRec ·)) = true := by kernel_rfl
theorem k15 : (Rows.octetReadsRow.ifaces == (Try.f5.params.toList ++ Rows.octetReadsSpec.plain.varTypes Try.prog).any (Try.prog.ifacesRec ·)) = true := by kernel_rfl
theorem k16 : (Rows.octetReadsRow.mapsOut == Try.prog.mapsAmong Try.f5.resultTypes.toList) = true := by kernel_rfl
theorem k17 : (Rows.octetReadsRow.loops == (Try.f5.params.toList ++ Rows.octetReadsSpec.plain.varTypes Try.prog).any (Try.prog.loopsFrom ·)) = true := by kernel_rfl
theorem k17b : (Rows.octetReadsRow.wideKeys == (Try.f5.params.toList ++ Rows.octetReadsSpec.plain.varTypes Try.prog ++ Try.f5.resultTypes.toList).any (Try.prog.wideKeysFrom ·)) = true := by kernel_rfl
theorem k18 : Rows.octetReadsSpec.vars.all (Try.prog.varReadable ·) = true := by kernel_rfl
theorem k19 : Try.f5.resultTypes.all (fun t => Try.prog.readableRec t && decide (t < Try.prog.types.size)) = true := by kernel_rfl
theorem k20 : (Rows.octetReadsRow.ifacesOut == Try.f5.resultTypes.toList.any (Try.prog.ifacesRec ·)) = true := by kernel_rfl
theorem k21 : (Rows.octetReadsRow.loopsOut == Try.f5.resultTypes.toList.any (Try.prog.loopsFrom ·)) = true := by kernel_rfl
theorem k22 : (Rows.octetReadsRow.plainKeys == Try.prog.plainKeys) = true := by have h : Rows.octetReadsRow.plainKeys = true := rfl; rw [h]; exact Joined.p5
theorem k23 : Rows.octetReadsRow.shortTexts.isNone = true := by kernel_rfl
theorem k24b : (Rows.octetReadsRow.lifted == Try.prog.liftsFinal) = true := by have h : Rows.octetReadsRow.lifted = false := rfl; rw [h]; exact Joined.p8
theorem k24c : (Try.prog.make == some Rows.octetReadsRow.make) = true := by have h : Rows.octetReadsRow.make = .cut := rfl; rw [h]; exact Joined.p9
theorem k25a : Rows.octetReadsRow.domain.isEmpty = true := by kernel_rfl
theorem k25 : (Rows.octetReadsRow.kinds == []) = true := by kernel_rfl
theorem k26 : (Rows.octetReadsRow.pinned == Rows.octetReadsRow.pinnedBy) = true := by kernel_rfl
theorem k27 : (Rows.octetReadsRow.veiled == (Try.f5.params.toList ++ Rows.octetReadsSpec.plain.varTypes Try.prog ++ Try.f5.resultTypes.toList).any (Try.prog.veiledRec ·)) = true := by kernel_rfl
theorem k28 : Rows.octetReadsRow.veiledFits Try.prog Try.f5.params.toList (Try.f5.params.toList ++ Rows.octetReadsSpec.plain.varTypes Try.prog ++ Try.f5.resultTypes.toList) = true := by kernel_rfl
theorem facts : joinedFacts Try.prog 5 Try.f5 Rows.octetReadsSpec Rows.octetReadsRow = true := Joined.joined_of k1 Joined.p1 Joined.p2 k4 k5 k6 Joined.p3 k8 Joined.p4 k10 k11 k12 k13 k14 k15 k16 k17 k17b k18 k19 k20 k21 k22 k23 Joined.p6 Joined.p7 k24b k24c k25a k25 k26 k27 k28
theorem named : Try.pinned.checked.prog.funcNamed Rows.octetReadsRow.func = some 5 := by kernel_rfl
theorem inst : Try.f5.isInstance Try.pinned.checked.prog Rows.octetReadsRow.origin Rows.octetReadsRow.targs := of_decide_eq_true (by kernel_rfl)
theorem wrap : Try.f5.isWrapper Try.pinned.checked.prog Rows.octetReadsRow.wrapper Rows.octetReadsRow.mainSum := by unfold Func.isWrapper; first | (rw [if_pos (by decide +kernel)]; kernel_rfl) | (rw [if_neg (by decide +kernel)]; exact ⟨rfl, rfl⟩)
theorem over : Rows.octetReadsRow.holds Try.pinned (OpenSpec.ofChange Rows.octetReadsSpec) :=
  OpenClaim.holds_of_wide 5 Try.f5 rfl rfl rfl rfl rfl rfl rfl ⟨rfl, rfl, rfl, rfl, rfl⟩ rfl rfl rfl rfl rfl named Try.func5 facts inst wrap
    (fun os started H enc _ => lifted os started H enc)
end Go.Proofs.Ytdjpcogkpnemlaa.RowOctetReads
namespace Go.Proofs.Ytdjpcogkpnemlaa
/-- The row. -/
theorem octetReads_holds : Rows.OctetReadsSaid := RowOctetReads.over
#print axioms octetReads_holds
end Go.Proofs.Ytdjpcogkpnemlaa
