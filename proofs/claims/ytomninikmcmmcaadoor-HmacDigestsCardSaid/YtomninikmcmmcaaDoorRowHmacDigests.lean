/- HmacDigests: for every input the law returns true, and the input reads as it did; under the condition that the listed package-level variables hold what the program's text lays in them, which the card ties. -/
import Derived.Test.YtomninikmcmmcaaDoorRows
import Derived.Test.YtomninikmcmmcaaDoorCards
import Derived.Test.YtomninikmcmmcaaDoorTie
import Derived.Test.YtomninikmcmmcaaDoorLaid
import Derived.Test.YtomninikmcmmcaaDoorMainIs
import Derived.Test.YtomninikmcmmcaaDoorJoined
import Derived.Test.YtomninikmcmmcaaDoorLawDigests
import Derived.Test.YtomninikmcmmcaaDoorOpen
import Derived.WalkKit
import Derived.ProofKit
import Derived.OpenShut
import Derived.ShutString
import Derived.ChangeOld
import Derived.Below
import Derived.SizedLaws
import Derived.Carry
import Derived.SevenTiedAt
import Derived.LaidMore
import Derived.Stop.Joined
import Derived.Lib.LaidTab
namespace Go.Proofs.YtomninikmcmmcaaDoor.RowHmacDigests
open Go.ChangeShapes Go.WideShapes Go.ChangeAt Go.RowKit Go.Proofs.YtomninikmcmmcaaDoor.Sha Go.Proofs.YtomninikmcmmcaaDoorW.PrintWords Go.Proofs.YtomninikmcmmcaaDoorW.Op
open Go.ChangeMaps (open_string shut_string)
set_option linter.unusedVariables false
theorem own : ownKnob Tryd.prog.godebug = none := by kernel_rfl
theorem laidOut : laidOutB Tryd.prog = true := by kernel_rfl
set_option maxRecDepth 100000 in
theorem lifted (os : Os) (started : os.Started) (H : Type) (enc : TypeId × Value → H) :
    ReturnsInHanded {} Tryd.checked os 10 .any (fun w args => (Rows.hmacDigestsSpec.pre enc Tryd.prog Tryd.f10 [] false w args ∧ laidMetH Tryd.prog Rows.hmacDigestsRow.laid w) ∧ sizedMet enc Tryd.prog Tryd.f10 (OpenSpec.ofChange Rows.hmacDigestsSpec) false w args) (Rows.hmacDigestsSpec.post enc Tryd.prog Tryd.f10 false true false false) := by
  refine returnsInHanded_of_change_and (C := Tryd.checked) (X := fun w _ => laidMetH Tryd.prog Rows.hmacDigestsRow.laid w) (fun _ _ _ hh h => h.of_heap hh) own started (by kernel_rfl) Tryd.func10
    (ChangeSpec.witness_shaped (enc := enc) (C := Tryd.checked) (os := os) (X := fun w _ => laidMetH Tryd.prog Rows.hmacDigestsRow.laid w) false (World.doorLaid Tryd.prog 4000 os) #[.string ByteArray.empty, .string ByteArray.empty, .int .i64 0] 8 rfl (World.shaped_of_RefB (by kernel_rfl) (by kernel_rfl)) (by kernel_rfl) (by kernel_rfl) (by kernel_rfl) (Laid.door_met os _)) ?_
  intro W base args ds gs before hval0 hW _ hsz0 hL _
  have hsz : (DataW.weightsEach Tryd.prog (Tryd.f10.params.toList ++ Rows.hmacDigestsSpec.plain.varTypes Tryd.prog) (ds ++ gs)).all (· ≤ reachBytes) = true := hsz0
  have hval : ∀ (j : Nat) t v, Tryd.f10.params[j]? = some t → args[j]? = some v → Value.okWide Tryd.prog W .any base t v := hval0
  have hW' := hW
  obtain ⟨p, q, hA0, hV, rfl, hfz, hnd⟩ := hW
  have hA : DataW.TrodAll enc Tryd.prog W 0 (fun _ => true) true Tryd.f10.params.toList args.toList ds p := hA0
  rw [Tryd.params10] at hA hval hsz
  obtain ⟨v0, vs0, d0, ds0, p0, q0, hargs, rfl, rfl, h0, r0⟩ := trodAll_cons hA
  obtain ⟨v1, vs1, d1, ds1, p1, q1, rfl, rfl, rfl, h1, r1⟩ := trodAll_cons r0
  obtain ⟨v2, vs2, d2, ds2, p2, q2, rfl, rfl, rfl, h2, r2⟩ := trodAll_cons r1
  obtain ⟨rfl, rfl, rfl⟩ := trodAll_nil r2
  obtain rfl : args = #[v0, v1, v2] := by cases args; simp_all
  obtain ⟨rfl, rfl⟩ := trodVars_none hV
  have k0' := h0
  have lt0 : ∀ x ∈ p0, x.block < W.heap.size := by obtain ⟨m, hm⟩ := h0; exact DataW.trod_lt m _ _ _ hm
  have wt0 := weights_each_le hsz (j := 0) (t := 9) (d := d0) rfl rfl
  obtain ⟨a0, rfl, rfl, rfl, y0⟩ := open_string Tryd.underlying9 (hval 0 9 v0 rfl rfl) h0
  have w0 : a0.size ≤ 140737488351232 := by
    have z := wt0 a0.data.toList.length (by simp [DataW.weights])
    rw [Array.length_toList] at z
    exact z
  have k1' := h1
  have lt1 : ∀ x ∈ p1, x.block < W.heap.size := by obtain ⟨m, hm⟩ := h1; exact DataW.trod_lt m _ _ _ hm
  have wt1 := weights_each_le hsz (j := 1) (t := 9) (d := d1) rfl rfl
  obtain ⟨a1, rfl, rfl, rfl, y1⟩ := open_string Tryd.underlying9 (hval 1 9 v1 rfl rfl) h1
  have w1 : a1.size ≤ 140737488351232 := by
    have z := wt1 a1.data.toList.length (by simp [DataW.weights])
    rw [Array.length_toList] at z
    exact z
  have k2' := h2
  have lt2 : ∀ x ∈ p2, x.block < W.heap.size := by obtain ⟨m, hm⟩ := h2; exact DataW.trod_lt m _ _ _ hm
  have wt2 := weights_each_le hsz (j := 2) (t := 3) (d := d2) rfl rfl
  obtain ⟨a2, rfl, rfl, rfl, w2⟩ := open_int Tryd.underlying3 (hval 2 3 v2 rfl rfl) h2
  clear hA0 hval0 hsz0 hsz
  refine (hmacDigests_row a0 w0 a1 w1 a2 w2 W (Laid.tab_of hL)).mono fun e W' ⟨he, bel⟩ => ?_
  subst he
  exact ⟨_, rfl, _, _, _, [], _, [], hW', trodAll_mk1 (shut_bool Tryd.underlying4 _), (trodAll_cons_mk (Below.trod laidOut (by kernel_rfl) (of_decide_eq_true (by kernel_rfl)) k0' bel lt0) (trodAll_cons_mk (Below.trod laidOut (by kernel_rfl) (of_decide_eq_true (by kernel_rfl)) k1' bel lt1) (trodAll_cons_mk (Below.trod laidOut (by kernel_rfl) (of_decide_eq_true (by kernel_rfl)) k2' bel lt2) trodAll_mk0))), rfl, bel.frame _, fun h => by cases h⟩
theorem k1 : Rows.hmacDigestsRow.wf (OpenSpec.ofChange Rows.hmacDigestsSpec) = true := by kernel_rfl
theorem k4 : Tryd.f10.params.all (Tryd.prog.readableRec ·) = true := by kernel_rfl
theorem k5 : namedTie Tryd.prog Rows.hmacDigestsRow.named Rows.hmacDigestsSpec.vars = true := by kernel_rfl
theorem k6 : (Rows.hmacDigestsRow.stops == []) = true := by kernel_rfl
theorem k8 : (Rows.hmacDigestsRow.knobs == []) = true := by kernel_rfl
theorem k10 : (Rows.hmacDigestsRow.inPlace == Tryd.prog.inPlace 10) = true := by kernel_rfl
theorem k11 : (Rows.hmacDigestsRow.unfollowed == Tryd.prog.unfollowed 10) = true := by kernel_rfl
theorem k12 : (Rows.hmacDigestsRow.recurses == Tryd.prog.recurses 10) = true := by kernel_rfl
theorem k13 : (Rows.hmacDigestsRow.named == Tryd.prog.varsNamed 10) = true := by kernel_rfl
theorem k14 : (Rows.hmacDigestsRow.maps == (Tryd.f10.params.toList ++ Rows.hmacDigestsSpec.plain.varTypes Tryd.prog).any (Tryd.prog.mapsRec ·)) = true := by kernel_rfl
theorem k15 : (Rows.hmacDigestsRow.ifaces == (Tryd.f10.params.toList ++ Rows.hmacDigestsSpec.plain.varTypes Tryd.prog).any (Tryd.prog.ifacesRec ·)) = true := by kernel_rfl
theorem k16 : (Rows.hmacDigestsRow.mapsOut == Tryd.prog.mapsAmong Tryd.f10.resultTypes.toList) = true := by kernel_rfl
theorem k17 : (Rows.hmacDigestsRow.loops == (Tryd.f10.params.toList ++ Rows.hmacDigestsSpec.plain.varTypes Tryd.prog).any (Tryd.prog.loopsFrom ·)) = true := by kernel_rfl
theorem k17b : (Rows.hmacDigestsRow.wideKeys == (Tryd.f10.params.toList ++ Rows.hmacDigestsSpec.plain.varTypes Tryd.prog ++ Tryd.f10.resultTypes.toList).any (Tryd.prog.wideKeysFrom ·)) = true := by kernel_rfl
theorem k18 : Rows.hmacDigestsSpec.vars.all (Tryd.prog.varReadable ·) = true := by kernel_rfl
theorem k19 : Tryd.f10.resultTypes.all (fun t => Tryd.prog.readableRec t && decide (t < Tryd.prog.types.size)) = true := by kernel_rfl
theorem k20 : (Rows.hmacDigestsRow.ifacesOut == Tryd.f10.resultTypes.toList.any (Tryd.prog.ifacesRec ·)) = true := by kernel_rfl
theorem k21 : (Rows.hmacDigestsRow.loopsOut == Tryd.f10.resultTypes.toList.any (Tryd.prog.loopsFrom ·)) = true := by kernel_rfl
theorem k22 : (Rows.hmacDigestsRow.plainKeys == Tryd.prog.plainKeys) = true := by have h : Rows.hmacDigestsRow.plainKeys = true := rfl; rw [h]; exact Joined.p5
theorem k23 : Rows.hmacDigestsRow.shortTexts.isNone = true := by kernel_rfl
theorem k24b : (Rows.hmacDigestsRow.lifted == Tryd.prog.liftsFinal) = true := by have h : Rows.hmacDigestsRow.lifted = false := rfl; rw [h]; exact Joined.p8
theorem k24c : (Tryd.prog.make == some Rows.hmacDigestsRow.make) = true := by have h : Rows.hmacDigestsRow.make = .cut := rfl; rw [h]; exact Joined.p9
theorem k25a : Rows.hmacDigestsRow.domain.isEmpty = true := by kernel_rfl
theorem k25 : (Rows.hmacDigestsRow.kinds == []) = true := by kernel_rfl
theorem k26 : (Rows.hmacDigestsRow.pinned == Rows.hmacDigestsRow.pinnedBy) = true := by kernel_rfl
theorem k27 : (Rows.hmacDigestsRow.veiled == (Tryd.f10.params.toList ++ Rows.hmacDigestsSpec.plain.varTypes Tryd.prog ++ Tryd.f10.resultTypes.toList).any (Tryd.prog.veiledRec ·)) = true := by kernel_rfl
theorem k28 : Rows.hmacDigestsRow.veiledFits Tryd.prog Tryd.f10.params.toList (Tryd.f10.params.toList ++ Rows.hmacDigestsSpec.plain.varTypes Tryd.prog ++ Tryd.f10.resultTypes.toList) = true := by kernel_rfl
theorem facts : joinedFacts Tryd.prog 10 Tryd.f10 Rows.hmacDigestsSpec Rows.hmacDigestsRow = true := Joined.joined_of k1 Joined.p1 Joined.p2 k4 k5 k6 Joined.p3 k8 Joined.p4 k10 k11 k12 k13 k14 k15 k16 k17 k17b k18 k19 k20 k21 k22 k23 Joined.p6 Joined.p7 k24b k24c k25a k25 k26 k27 k28
theorem named : Tryd.pinned.checked.prog.funcNamed Rows.hmacDigestsRow.func = some 10 := by kernel_rfl
theorem inst : Tryd.f10.isInstance Tryd.pinned.checked.prog Rows.hmacDigestsRow.origin Rows.hmacDigestsRow.targs := of_decide_eq_true (by kernel_rfl)
theorem wrap : Tryd.f10.isWrapper Tryd.pinned.checked.prog Rows.hmacDigestsRow.wrapper Rows.hmacDigestsRow.mainSum := by unfold Func.isWrapper; first | (rw [if_pos (by decide +kernel)]; kernel_rfl) | (rw [if_neg (by decide +kernel)]; exact ⟨rfl, rfl⟩)
theorem over : Rows.hmacDigestsRow.holds Tryd.pinned (OpenSpec.ofChange Rows.hmacDigestsSpec) :=
  OpenClaim.holds_of_wide 10 Tryd.f10 rfl rfl rfl rfl rfl rfl rfl ⟨rfl, rfl, rfl, rfl, rfl⟩ rfl rfl rfl rfl rfl named Tryd.func10 facts inst wrap
    (fun os started H enc _ => lifted os started H enc)
theorem byText : Rows.hmacDigestsRow.wfByText (OpenSpec.ofChange Rows.hmacDigestsSpec) = true := by kernel_rfl
theorem looks : false = Tryd.pinned.checked.prog.looks [] := by kernel_rfl
theorem goes : false = Rows.hmacDigestsRow.goesBy Tryd.pinned.checked.prog := by kernel_rfl
theorem fname : Tryd.prog.funcNamed "paymaster/paymasterlaw06.HmacDigests" = some 10 := by kernel_rfl
theorem stands : ([9, 9, 3].all fun u => !Tryd.prog.wantsStandIn u) = true := by kernel_rfl
end Go.Proofs.YtomninikmcmmcaaDoor.RowHmacDigests
namespace Go.Proofs.YtomninikmcmmcaaDoor
/-- The tied card. -/
theorem hmacDigests_holds : Rows.HmacDigestsCardSaid :=
  Claim7.holds_tied_plain_at .later [] [.data] true (true, "7abea28027b2b745090f6c7fcc20f3681edb17c49dcc1c0793786ec3fddd6ba8") false
    RowHmacDigests.over (fun _ h => by cases h) RowHmacDigests.byText (fun _ h => by cases h) hmacDigests_row_tie rfl ⟨rfl, rfl⟩ Joined.mainIs rfl
    (fun f fn hf hfn => by
      obtain rfl : f = 10 := Option.some.inj (RowHmacDigests.fname.symm.trans hf) |>.symm
      obtain rfl : fn = Tryd.f10 := (Option.some.inj (Tryd.func10.symm.trans hfn)).symm
      exact ⟨RowHmacDigests.looks, fun j t ht => by
        rw [Tryd.params10] at ht
        have hm : t ∈ [9, 9, 3] := by simpa [or_assoc, or_comm, or_left_comm] using Array.mem_of_getElem? ht
        have hall := RowHmacDigests.stands
        exact (show Tryd.prog.wantsStandIn t = false by simpa using List.all_eq_true.1 hall t hm)⟩)
    RowHmacDigests.goes
#print axioms hmacDigests_holds
end Go.Proofs.YtomninikmcmmcaaDoor
