/- TagSeeds: for every input the law returns true, and the input reads as it did; under the condition that the listed package-level variables hold what the program's text lays in them, which the card ties. -/
import Derived.Test.YtomninikmcmmcaaDoorRows
import Derived.Test.YtomninikmcmmcaaDoorCards
import Derived.Test.YtomninikmcmmcaaDoorTie
import Derived.Test.YtomninikmcmmcaaDoorLw
import Derived.Test.YtomninikmcmmcaaDoorMainIs
import Derived.Test.YtomninikmcmmcaaDoorJoined
import Derived.Test.YtomninikmcmmcaaDoorTeB
import Derived.Test.YtomninikmcmmcaaDoorOpen
import Derived.WalkKit
import Derived.ProofKit
import Derived.OpenShut
import Derived.ShutString
import Derived.ChangeOld
import Derived.Below
import Derived.SizedLaws
import Derived.Carry
import Derived.SevenTiedAt
import Derived.LaidMore
import Derived.Stop.Joined
import Derived.Lib.LaidTab
namespace Go.Proofs.YtomninikmcmmcaaDoor.RowTagSeeds
open Go.ChangeShapes Go.WideShapes Go.ChangeAt Go.RowKit Go.Proofs.YtomninikmcmmcaaDoor.Tag Go.Proofs.YtomninikmcmmcaaDoor.Kds Go.Proofs.YtomninikmcmmcaaDoorW.PrintWords Go.Proofs.YtomninikmcmmcaaDoorW.Op
open Go.ChangeMaps (open_string shut_string)
set_option linter.unusedVariables false
theorem own : ownKnob Tryd.prog.godebug = none := by kernel_rfl
theorem laidOut : laidOutB Tryd.prog = true := by kernel_rfl
set_option maxRecDepth 100000 in
theorem lifted (os : Os) (started : os.Started) (H : Type) (enc : TypeId × Value → H) :
    ReturnsInHanded {} Tryd.checked os 16 .any (fun w args => (Rows.tagSeedsSpec.pre enc Tryd.prog Tryd.f16 [] false w args ∧ laidMetH Tryd.prog Rows.tagSeedsRow.laid w) ∧ sizedMet enc Tryd.prog Tryd.f16 (OpenSpec.ofChange Rows.tagSeedsSpec) false w args) (Rows.tagSeedsSpec.post enc Tryd.prog Tryd.f16 false true false false) := by
  refine returnsInHanded_of_change_and (C := Tryd.checked) (X := fun w _ => laidMetH Tryd.prog Rows.tagSeedsRow.laid w) (fun _ _ _ hh h => h.of_heap hh) own started (by kernel_rfl) Tryd.func16
    (ChangeSpec.witness_shaped (enc := enc) (C := Tryd.checked) (os := os) (X := fun w _ => laidMetH Tryd.prog Rows.tagSeedsRow.laid w) false (World.laidAll Tryd.prog os Rows.tagSeedsRow.laid) #[.string ByteArray.empty, .string ByteArray.empty, .int .u64 0, .int .i64 0] 8 (World.laidAll_os _ _ _) (World.shaped_of_ZipB (by kernel_rfl) (by kernel_rfl)) (by kernel_rfl) (by kernel_rfl) (by kernel_rfl) (LaidW.door_met os _)) ?_
  intro W base args ds gs before hval0 hW _ hsz0 hL _
  have hsz : (DataW.weightsEach Tryd.prog (Tryd.f16.params.toList ++ Rows.tagSeedsSpec.plain.varTypes Tryd.prog) (ds ++ gs)).all (· ≤ reachBytes) = true := hsz0
  have hval : ∀ (j : Nat) t v, Tryd.f16.params[j]? = some t → args[j]? = some v → Value.okWide Tryd.prog W .any base t v := hval0
  have hW' := hW
  obtain ⟨p, q, hA0, hV, rfl, hfz, hnd⟩ := hW
  have hA : DataW.TrodAll enc Tryd.prog W 0 (fun _ => true) true Tryd.f16.params.toList args.toList ds p := hA0
  rw [Tryd.params16] at hA hval hsz
  obtain ⟨v0, vs0, d0, ds0, p0, q0, hargs, rfl, rfl, h0, r0⟩ := trodAll_cons hA
  obtain ⟨v1, vs1, d1, ds1, p1, q1, rfl, rfl, rfl, h1, r1⟩ := trodAll_cons r0
  obtain ⟨v2, vs2, d2, ds2, p2, q2, rfl, rfl, rfl, h2, r2⟩ := trodAll_cons r1
  obtain ⟨v3, vs3, d3, ds3, p3, q3, rfl, rfl, rfl, h3, r3⟩ := trodAll_cons r2
  obtain ⟨rfl, rfl, rfl⟩ := trodAll_nil r3
  obtain rfl : args = #[v0, v1, v2, v3] := by cases args; simp_all
  obtain ⟨rfl, rfl⟩ := trodVars_none hV
  have k0' := h0
  have lt0 : ∀ x ∈ p0, x.block < W.heap.size := by obtain ⟨m, hm⟩ := h0; exact DataW.trod_lt m _ _ _ hm
  have wt0 := weights_each_le hsz (j := 0) (t := 9) (d := d0) rfl rfl
  obtain ⟨a0, rfl, rfl, rfl, y0⟩ := open_string Tryd.underlying9 (hval 0 9 v0 rfl rfl) h0
  have w0 : a0.size ≤ 140737488351232 := by
    have z := wt0 a0.data.toList.length (by simp [DataW.weights])
    rw [Array.length_toList] at z
    exact z
  have k1' := h1
  have lt1 : ∀ x ∈ p1, x.block < W.heap.size := by obtain ⟨m, hm⟩ := h1; exact DataW.trod_lt m _ _ _ hm
  have wt1 := weights_each_le hsz (j := 1) (t := 9) (d := d1) rfl rfl
  obtain ⟨a1, rfl, rfl, rfl, y1⟩ := open_string Tryd.underlying9 (hval 1 9 v1 rfl rfl) h1
  have w1 : a1.size ≤ 140737488351232 := by
    have z := wt1 a1.data.toList.length (by simp [DataW.weights])
    rw [Array.length_toList] at z
    exact z
  have k2' := h2
  have lt2 : ∀ x ∈ p2, x.block < W.heap.size := by obtain ⟨m, hm⟩ := h2; exact DataW.trod_lt m _ _ _ hm
  have wt2 := weights_each_le hsz (j := 2) (t := 35) (d := d2) rfl rfl
  obtain ⟨a2, rfl, rfl, rfl, w2⟩ := open_int Tryd.underlying35 (hval 2 35 v2 rfl rfl) h2
  have k3' := h3
  have lt3 : ∀ x ∈ p3, x.block < W.heap.size := by obtain ⟨m, hm⟩ := h3; exact DataW.trod_lt m _ _ _ hm
  have wt3 := weights_each_le hsz (j := 3) (t := 3) (d := d3) rfl rfl
  obtain ⟨a3, rfl, rfl, rfl, w3⟩ := open_int Tryd.underlying3 (hval 3 3 v3 rfl rfl) h3
  clear hA0 hval0 hsz0 hsz
  refine (tagSeeds_row a0 w0 a1 w1 a2 w2 a3 w3 W (LaidW.tab_of hL)).mono fun e W' ⟨he, bel⟩ => ?_
  subst he
  exact ⟨_, rfl, _, _, _, [], _, [], hW', trodAll_mk1 (shut_bool Tryd.underlying4 _), (trodAll_cons_mk (Below.trod laidOut (by kernel_rfl) (of_decide_eq_true (by kernel_rfl)) k0' bel lt0) (trodAll_cons_mk (Below.trod laidOut (by kernel_rfl) (of_decide_eq_true (by kernel_rfl)) k1' bel lt1) (trodAll_cons_mk (Below.trod laidOut (by kernel_rfl) (of_decide_eq_true (by kernel_rfl)) k2' bel lt2) (trodAll_cons_mk (Below.trod laidOut (by kernel_rfl) (of_decide_eq_true (by kernel_rfl)) k3' bel lt3) trodAll_mk0)))), rfl, bel.frame _, fun h => by cases h⟩
theorem k1 : Rows.tagSeedsRow.wf (OpenSpec.ofChange Rows.tagSeedsSpec) = true := by kernel_rfl
theorem k4 : Tryd.f16.params.all (Tryd.prog.readableRec ·) = true := by kernel_rfl
theorem k5 : namedTie Tryd.prog Rows.tagSeedsRow.named Rows.tagSeedsSpec.vars = true := by kernel_rfl
theorem k6 : (Rows.tagSeedsRow.stops == []) = true := by kernel_rfl
theorem k8 : (Rows.tagSeedsRow.knobs == []) = true := by kernel_rfl
theorem k10 : (Rows.tagSeedsRow.inPlace == Tryd.prog.inPlace 16) = true := by kernel_rfl
theorem k11 : (Rows.tagSeedsRow.unfollowed == Tryd.prog.unfollowed 16) = true := by kernel_rfl
theorem k12 : (Rows.tagSeedsRow.recurses == Tryd.prog.recurses 16) = true := by kernel_rfl
theorem k13 : (Rows.tagSeedsRow.named == Tryd.prog.varsNamed 16) = true := by kernel_rfl
theorem k14 : (Rows.tagSeedsRow.maps == (Tryd.f16.params.toList ++ Rows.tagSeedsSpec.plain.varTypes Tryd.prog).any (Tryd.prog.mapsRec ·)) = true := by kernel_rfl
theorem k15 : (Rows.tagSeedsRow.ifaces == (Tryd.f16.params.toList ++ Rows.tagSeedsSpec.plain.varTypes Tryd.prog).any (Tryd.prog.ifacesRec ·)) = true := by kernel_rfl
theorem k16 : (Rows.tagSeedsRow.mapsOut == Tryd.prog.mapsAmong Tryd.f16.resultTypes.toList) = true := by kernel_rfl
theorem k17 : (Rows.tagSeedsRow.loops == (Tryd.f16.params.toList ++ Rows.tagSeedsSpec.plain.varTypes Tryd.prog).any (Tryd.prog.loopsFrom ·)) = true := by kernel_rfl
theorem k17b : (Rows.tagSeedsRow.wideKeys == (Tryd.f16.params.toList ++ Rows.tagSeedsSpec.plain.varTypes Tryd.prog ++ Tryd.f16.resultTypes.toList).any (Tryd.prog.wideKeysFrom ·)) = true := by kernel_rfl
theorem k18 : Rows.tagSeedsSpec.vars.all (Tryd.prog.varReadable ·) = true := by kernel_rfl
theorem k19 : Tryd.f16.resultTypes.all (fun t => Tryd.prog.readableRec t && decide (t < Tryd.prog.types.size)) = true := by kernel_rfl
theorem k20 : (Rows.tagSeedsRow.ifacesOut == Tryd.f16.resultTypes.toList.any (Tryd.prog.ifacesRec ·)) = true := by kernel_rfl
theorem k21 : (Rows.tagSeedsRow.loopsOut == Tryd.f16.resultTypes.toList.any (Tryd.prog.loopsFrom ·)) = true := by kernel_rfl
theorem k22 : (Rows.tagSeedsRow.plainKeys == Tryd.prog.plainKeys) = true := by have h : Rows.tagSeedsRow.plainKeys = true := rfl; rw [h]; exact Joined.p5
theorem k23 : Rows.tagSeedsRow.shortTexts.isNone = true := by kernel_rfl
theorem k24b : (Rows.tagSeedsRow.lifted == Tryd.prog.liftsFinal) = true := by have h : Rows.tagSeedsRow.lifted = false := rfl; rw [h]; exact Joined.p8
theorem k24c : (Tryd.prog.make == some Rows.tagSeedsRow.make) = true := by have h : Rows.tagSeedsRow.make = .cut := rfl; rw [h]; exact Joined.p9
theorem k25a : Rows.tagSeedsRow.domain.isEmpty = true := by kernel_rfl
theorem k25 : (Rows.tagSeedsRow.kinds == []) = true := by kernel_rfl
theorem k26 : (Rows.tagSeedsRow.pinned == Rows.tagSeedsRow.pinnedBy) = true := by kernel_rfl
theorem k27 : (Rows.tagSeedsRow.veiled == (Tryd.f16.params.toList ++ Rows.tagSeedsSpec.plain.varTypes Tryd.prog ++ Tryd.f16.resultTypes.toList).any (Tryd.prog.veiledRec ·)) = true := by kernel_rfl
theorem k28 : Rows.tagSeedsRow.veiledFits Tryd.prog Tryd.f16.params.toList (Tryd.f16.params.toList ++ Rows.tagSeedsSpec.plain.varTypes Tryd.prog ++ Tryd.f16.resultTypes.toList) = true := by kernel_rfl
theorem facts : joinedFacts Tryd.prog 16 Tryd.f16 Rows.tagSeedsSpec Rows.tagSeedsRow = true := Joined.joined_of k1 Joined.p1 Joined.p2 k4 k5 k6 Joined.p3 k8 Joined.p4 k10 k11 k12 k13 k14 k15 k16 k17 k17b k18 k19 k20 k21 k22 k23 Joined.p6 Joined.p7 k24b k24c k25a k25 k26 k27 k28
theorem named : Tryd.pinned.checked.prog.funcNamed Rows.tagSeedsRow.func = some 16 := by kernel_rfl
theorem inst : Tryd.f16.isInstance Tryd.pinned.checked.prog Rows.tagSeedsRow.origin Rows.tagSeedsRow.targs := of_decide_eq_true (by kernel_rfl)
theorem wrap : Tryd.f16.isWrapper Tryd.pinned.checked.prog Rows.tagSeedsRow.wrapper Rows.tagSeedsRow.mainSum := by unfold Func.isWrapper; first | (rw [if_pos (by decide +kernel)]; kernel_rfl) | (rw [if_neg (by decide +kernel)]; exact ⟨rfl, rfl⟩)
theorem over : Rows.tagSeedsRow.holds Tryd.pinned (OpenSpec.ofChange Rows.tagSeedsSpec) :=
  OpenClaim.holds_of_wide 16 Tryd.f16 rfl rfl rfl rfl rfl rfl rfl ⟨rfl, rfl, rfl, rfl, rfl⟩ rfl rfl rfl rfl rfl named Tryd.func16 facts inst wrap
    (fun os started H enc _ => lifted os started H enc)
theorem byText : Rows.tagSeedsRow.wfByText (OpenSpec.ofChange Rows.tagSeedsSpec) = true := by kernel_rfl
theorem looks : false = Tryd.pinned.checked.prog.looks [] := by kernel_rfl
theorem goes : false = Rows.tagSeedsRow.goesBy Tryd.pinned.checked.prog := by kernel_rfl
theorem fname : Tryd.prog.funcNamed "paymaster/paymasterlaw07.TagSeeds" = some 16 := by kernel_rfl
theorem stands : ([9, 9, 35, 3].all fun u => !Tryd.prog.wantsStandIn u) = true := by kernel_rfl
end Go.Proofs.YtomninikmcmmcaaDoor.RowTagSeeds
namespace Go.Proofs.YtomninikmcmmcaaDoor
/-- The tied card. -/
theorem tagSeeds_holds : Rows.TagSeedsCardSaid :=
  Claim7.holds_tied_plain_at .later [] [.data, .data, .pinned] true (true, "7abea28027b2b745090f6c7fcc20f3681edb17c49dcc1c0793786ec3fddd6ba8") false
    RowTagSeeds.over (fun _ h => by cases h) RowTagSeeds.byText (fun _ h => by cases h) tagSeeds_row_tie rfl ⟨rfl, rfl⟩ Joined.mainIs rfl
    (fun f fn hf hfn => by
      obtain rfl : f = 16 := Option.some.inj (RowTagSeeds.fname.symm.trans hf) |>.symm
      obtain rfl : fn = Tryd.f16 := (Option.some.inj (Tryd.func16.symm.trans hfn)).symm
      exact ⟨RowTagSeeds.looks, fun j t ht => by
        rw [Tryd.params16] at ht
        have hm : t ∈ [9, 9, 35, 3] := by simpa [or_assoc, or_comm, or_left_comm] using Array.mem_of_getElem? ht
        have hall := RowTagSeeds.stands
        exact (show Tryd.prog.wantsStandIn t = false by simpa using List.all_eq_true.1 hall t hm)⟩)
    RowTagSeeds.goes
#print axioms tagSeeds_holds
end Go.Proofs.YtomninikmcmmcaaDoor
