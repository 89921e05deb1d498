/- TagTexts: for every input the law returns true, and the input reads as it did; under the condition that the listed package-level variables hold what the program's text lays in them, which the card ties. -/
import Derived.Test.YtomninikmcmmcaaDoorRows
import Derived.Test.YtomninikmcmmcaaDoorCards
import Derived.Test.YtomninikmcmmcaaDoorTie
import Derived.Test.YtomninikmcmmcaaDoorLw
import Derived.Test.YtomninikmcmmcaaDoorMainIs
import Derived.Test.YtomninikmcmmcaaDoorJoined
import Derived.Test.YtomninikmcmmcaaDoorLawTexts
import Derived.Test.YtomninikmcmmcaaDoorOpen
import Derived.WalkKit
import Derived.ProofKit
import Derived.OpenShut
import Derived.ShutString
import Derived.ChangeOld
import Derived.Below
import Derived.SizedLaws
import Derived.Carry
import Derived.SevenTiedAt
import Derived.LaidMore
import Derived.Stop.Joined
import Derived.Lib.LaidTab
namespace Go.Proofs.YtomninikmcmmcaaDoor.RowTagTexts
open Go.ChangeShapes Go.WideShapes Go.ChangeAt Go.RowKit Go.Proofs.YtomninikmcmmcaaDoor.Tag Go.Proofs.YtomninikmcmmcaaDoor.Kds Go.Proofs.YtomninikmcmmcaaDoorW.PrintWords Go.Proofs.YtomninikmcmmcaaDoorW.Op
open Go.ChangeMaps (open_string shut_string)
set_option linter.unusedVariables false
theorem own : ownKnob Tryd.prog.godebug = none := by kernel_rfl
theorem laidOut : laidOutB Tryd.prog = true := by kernel_rfl
instance : Inhabited S37 := ⟨z37⟩
theorem opens37 : Opens Tryd.prog k37 37 Good37 :=
  Opens.struct (fun x : S37 => (x.f0, x.f1)) (fun p => (⟨p.1, p.2⟩ : S37)) (fun _ => rfl) Tryd.underlying37 (by kernel_rfl)
    (OpensF.cons (good := (fun z : Int => (Lit.int .u64 z).wf = true)) (Opens.int Tryd.underlying35) rfl (by kernel_rfl) (OpensF.one (good := (fun z : Int => (Lit.int .u64 z).wf = true)) (Opens.int Tryd.underlying35) rfl (by kernel_rfl))) (fun _ h => h)
instance : Inhabited S39 := ⟨z39⟩
theorem opens39 : Opens Tryd.prog k39 39 Good39 :=
  Opens.struct (fun x : S39 => (x.f0, x.f1, x.f2, x.f3)) (fun p => (⟨p.1, p.2.1, p.2.2.1, p.2.2.2⟩ : S39)) (fun _ => rfl) Tryd.underlying39 (by kernel_rfl)
    (OpensF.cons (good := (fun z : Bool => True)) (Opens.bool Tryd.underlying4) rfl (by kernel_rfl) (OpensF.cons (good := (fun z : ByteArray => z.size ≤ 140737488351232)) (Opens.string Tryd.underlying9) rfl (by kernel_rfl) (OpensF.cons (good := (fun z : ByteArray => z.size ≤ 140737488351232)) (Opens.string Tryd.underlying9) rfl (by kernel_rfl) (OpensF.one (good := (fun z : S37 => Good37 z)) opens37 rfl (by kernel_rfl))))) (fun _ h => h)
set_option maxRecDepth 100000 in
theorem lifted (os : Os) (started : os.Started) (H : Type) (enc : TypeId × Value → H) :
    ReturnsInHanded {} Tryd.checked os 4 .any (fun w args => (Rows.tagTextsSpec.pre enc Tryd.prog Tryd.f4 [] false w args ∧ laidMetH Tryd.prog Rows.tagTextsRow.laid w) ∧ sizedMet enc Tryd.prog Tryd.f4 (OpenSpec.ofChange Rows.tagTextsSpec) false w args) (Rows.tagTextsSpec.post enc Tryd.prog Tryd.f4 false true false false) := by
  refine returnsInHanded_of_change_and (C := Tryd.checked) (X := fun w _ => laidMetH Tryd.prog Rows.tagTextsRow.laid w) (fun _ _ _ hh h => h.of_heap hh) own started (by kernel_rfl) Tryd.func4
    (ChangeSpec.witness_shaped (enc := enc) (C := Tryd.checked) (os := os) (X := fun w _ => laidMetH Tryd.prog Rows.tagTextsRow.laid w) false (World.laidAll Tryd.prog os Rows.tagTextsRow.laid) #[.agg #[.bool false, .string ByteArray.empty, .string ByteArray.empty, .int .u64 0, .int .u64 0], .string ByteArray.empty, .int .i64 0] 8 (World.laidAll_os _ _ _) (World.shaped_of_ZipB (by kernel_rfl) (by kernel_rfl)) (by kernel_rfl) (by kernel_rfl) (by kernel_rfl) (LaidU.door_met os _)) ?_
  intro W base args ds gs before hval0 hW _ hsz0 hL _
  have hsz : (DataW.weightsEach Tryd.prog (Tryd.f4.params.toList ++ Rows.tagTextsSpec.plain.varTypes Tryd.prog) (ds ++ gs)).all (· ≤ reachBytes) = true := hsz0
  have hval : ∀ (j : Nat) t v, Tryd.f4.params[j]? = some t → args[j]? = some v → Value.okWide Tryd.prog W .any base t v := hval0
  have hW' := hW
  obtain ⟨p, q, hA0, hV, rfl, hfz, hnd⟩ := hW
  have hA : DataW.TrodAll enc Tryd.prog W 0 (fun _ => true) true Tryd.f4.params.toList args.toList ds p := hA0
  rw [Tryd.params4] at hA hval hsz
  obtain ⟨v0, vs0, d0, ds0, p0, q0, hargs, rfl, rfl, h0, r0⟩ := trodAll_cons hA
  obtain ⟨v1, vs1, d1, ds1, p1, q1, rfl, rfl, rfl, h1, r1⟩ := trodAll_cons r0
  obtain ⟨v2, vs2, d2, ds2, p2, q2, rfl, rfl, rfl, h2, r2⟩ := trodAll_cons r1
  obtain ⟨rfl, rfl, rfl⟩ := trodAll_nil r2
  obtain rfl : args = #[v0, v1, v2] := by cases args; simp_all
  obtain ⟨rfl, rfl⟩ := trodVars_none hV
  have k0' := h0
  have lt0 : ∀ x ∈ p0, x.block < W.heap.size := by obtain ⟨m, hm⟩ := h0; exact DataW.trod_lt m _ _ _ hm
  have wt0 := weights_each_le hsz (j := 0) (t := 39) (d := d0) rfl rfl
  obtain ⟨cs0, rfl, z0⟩ := okWide_struct Tryd.underlying39 (hval 0 39 v0 rfl rfl)
  obtain ⟨fu0, hf0⟩ := h0
  obtain ⟨x0, hK0, g0⟩ := opens39 H enc W fu0 _ _ hf0 wt0
  have e0 := k39_open hK0
  obtain rfl := Array.toList_inj.1 (e0.trans (List.toList_toArray ..).symm)
  have k1' := h1
  have lt1 : ∀ x ∈ p1, x.block < W.heap.size := by obtain ⟨m, hm⟩ := h1; exact DataW.trod_lt m _ _ _ hm
  have wt1 := weights_each_le hsz (j := 1) (t := 9) (d := d1) rfl rfl
  obtain ⟨a1, rfl, rfl, rfl, y1⟩ := open_string Tryd.underlying9 (hval 1 9 v1 rfl rfl) h1
  have w1 : a1.size ≤ 140737488351232 := by
    have z := wt1 a1.data.toList.length (by simp [DataW.weights])
    rw [Array.length_toList] at z
    exact z
  have k2' := h2
  have lt2 : ∀ x ∈ p2, x.block < W.heap.size := by obtain ⟨m, hm⟩ := h2; exact DataW.trod_lt m _ _ _ hm
  have wt2 := weights_each_le hsz (j := 2) (t := 3) (d := d2) rfl rfl
  obtain ⟨a2, rfl, rfl, rfl, w2⟩ := open_int Tryd.underlying3 (hval 2 3 v2 rfl rfl) h2
  clear hA0 hval0 hsz0 hsz
  refine (tagTexts_row x0 g0 a1 w1 a2 w2 W (LaidU.tab_of hL)).mono fun e W' ⟨he, bel⟩ => ?_
  subst he
  exact ⟨_, rfl, _, _, _, [], _, [], hW', trodAll_mk1 (shut_bool Tryd.underlying4 _), (trodAll_cons_mk (Below.trod laidOut (by kernel_rfl) (of_decide_eq_true (by kernel_rfl)) k0' bel lt0) (trodAll_cons_mk (Below.trod laidOut (by kernel_rfl) (of_decide_eq_true (by kernel_rfl)) k1' bel lt1) (trodAll_cons_mk (Below.trod laidOut (by kernel_rfl) (of_decide_eq_true (by kernel_rfl)) k2' bel lt2) trodAll_mk0))), rfl, bel.frame _, fun h => by cases h⟩
theorem k1 : Rows.tagTextsRow.wf (OpenSpec.ofChange Rows.tagTextsSpec) = true := by kernel_rfl
theorem k4 : Tryd.f4.params.all (Tryd.prog.readableRec ·) = true := by kernel_rfl
theorem k5 : namedTie Tryd.prog Rows.tagTextsRow.named Rows.tagTextsSpec.vars = true := by kernel_rfl
theorem k6 : (Rows.tagTextsRow.stops == []) = true := by kernel_rfl
theorem k8 : (Rows.tagTextsRow.knobs == []) = true := by kernel_rfl
theorem k10 : (Rows.tagTextsRow.inPlace == Tryd.prog.inPlace 4) = true := by kernel_rfl
theorem k11 : (Rows.tagTextsRow.unfollowed == Tryd.prog.unfollowed 4) = true := by kernel_rfl
theorem k12 : (Rows.tagTextsRow.recurses == Tryd.prog.recurses 4) = true := by kernel_rfl
theorem k13 : (Rows.tagTextsRow.named == Tryd.prog.varsNamed 4) = true := by kernel_rfl
theorem k14 : (Rows.tagTextsRow.maps == (Tryd.f4.params.toList ++ Rows.tagTextsSpec.plain.varTypes Tryd.prog).any (Tryd.prog.mapsRec ·)) = true := by kernel_rfl
theorem k15 : (Rows.tagTextsRow.ifaces == (Tryd.f4.params.toList ++ Rows.tagTextsSpec.plain.varTypes Tryd.prog).any (Tryd.prog.ifacesRec ·)) = true := by kernel_rfl
theorem k16 : (Rows.tagTextsRow.mapsOut == Tryd.prog.mapsAmong Tryd.f4.resultTypes.toList) = true := by kernel_rfl
theorem k17 : (Rows.tagTextsRow.loops == (Tryd.f4.params.toList ++ Rows.tagTextsSpec.plain.varTypes Tryd.prog).any (Tryd.prog.loopsFrom ·)) = true := by kernel_rfl
theorem k17b : (Rows.tagTextsRow.wideKeys == (Tryd.f4.params.toList ++ Rows.tagTextsSpec.plain.varTypes Tryd.prog ++ Tryd.f4.resultTypes.toList).any (Tryd.prog.wideKeysFrom ·)) = true := by kernel_rfl
theorem k18 : Rows.tagTextsSpec.vars.all (Tryd.prog.varReadable ·) = true := by kernel_rfl
theorem k19 : Tryd.f4.resultTypes.all (fun t => Tryd.prog.readableRec t && decide (t < Tryd.prog.types.size)) = true := by kernel_rfl
theorem k20 : (Rows.tagTextsRow.ifacesOut == Tryd.f4.resultTypes.toList.any (Tryd.prog.ifacesRec ·)) = true := by kernel_rfl
theorem k21 : (Rows.tagTextsRow.loopsOut == Tryd.f4.resultTypes.toList.any (Tryd.prog.loopsFrom ·)) = true := by kernel_rfl
theorem k22 : (Rows.tagTextsRow.plainKeys == Tryd.prog.plainKeys) = true := by have h : Rows.tagTextsRow.plainKeys = true := rfl; rw [h]; exact Joined.p5
theorem k23 : Rows.tagTextsRow.shortTexts.isNone = true := by kernel_rfl
theorem k24b : (Rows.tagTextsRow.lifted == Tryd.prog.liftsFinal) = true := by have h : Rows.tagTextsRow.lifted = false := rfl; rw [h]; exact Joined.p8
theorem k24c : (Tryd.prog.make == some Rows.tagTextsRow.make) = true := by have h : Rows.tagTextsRow.make = .cut := rfl; rw [h]; exact Joined.p9
theorem k25a : Rows.tagTextsRow.domain.isEmpty = true := by kernel_rfl
theorem k25 : (Rows.tagTextsRow.kinds == []) = true := by kernel_rfl
theorem k26 : (Rows.tagTextsRow.pinned == Rows.tagTextsRow.pinnedBy) = true := by kernel_rfl
theorem k27 : (Rows.tagTextsRow.veiled == (Tryd.f4.params.toList ++ Rows.tagTextsSpec.plain.varTypes Tryd.prog ++ Tryd.f4.resultTypes.toList).any (Tryd.prog.veiledRec ·)) = true := by kernel_rfl
theorem k28 : Rows.tagTextsRow.veiledFits Tryd.prog Tryd.f4.params.toList (Tryd.f4.params.toList ++ Rows.tagTextsSpec.plain.varTypes Tryd.prog ++ Tryd.f4.resultTypes.toList) = true := by kernel_rfl
theorem facts : joinedFacts Tryd.prog 4 Tryd.f4 Rows.tagTextsSpec Rows.tagTextsRow = true := Joined.joined_of k1 Joined.p1 Joined.p2 k4 k5 k6 Joined.p3 k8 Joined.p4 k10 k11 k12 k13 k14 k15 k16 k17 k17b k18 k19 k20 k21 k22 k23 Joined.p6 Joined.p7 k24b k24c k25a k25 k26 k27 k28
theorem named : Tryd.pinned.checked.prog.funcNamed Rows.tagTextsRow.func = some 4 := by kernel_rfl
theorem inst : Tryd.f4.isInstance Tryd.pinned.checked.prog Rows.tagTextsRow.origin Rows.tagTextsRow.targs := of_decide_eq_true (by kernel_rfl)
theorem wrap : Tryd.f4.isWrapper Tryd.pinned.checked.prog Rows.tagTextsRow.wrapper Rows.tagTextsRow.mainSum := by unfold Func.isWrapper; first | (rw [if_pos (by decide +kernel)]; kernel_rfl) | (rw [if_neg (by decide +kernel)]; exact ⟨rfl, rfl⟩)
theorem over : Rows.tagTextsRow.holds Tryd.pinned (OpenSpec.ofChange Rows.tagTextsSpec) :=
  OpenClaim.holds_of_wide 4 Tryd.f4 rfl rfl rfl rfl rfl rfl rfl ⟨rfl, rfl, rfl, rfl, rfl⟩ rfl rfl rfl rfl rfl named Tryd.func4 facts inst wrap
    (fun os started H enc _ => lifted os started H enc)
theorem byText : Rows.tagTextsRow.wfByText (OpenSpec.ofChange Rows.tagTextsSpec) = true := by kernel_rfl
theorem looks : false = Tryd.pinned.checked.prog.looks [] := by kernel_rfl
theorem goes : false = Rows.tagTextsRow.goesBy Tryd.pinned.checked.prog := by kernel_rfl
theorem fname : Tryd.prog.funcNamed "paymaster/paymasterlaw07.TagTexts" = some 4 := by kernel_rfl
theorem stands : ([39, 9, 3].all fun u => !Tryd.prog.wantsStandIn u) = true := by kernel_rfl
end Go.Proofs.YtomninikmcmmcaaDoor.RowTagTexts
namespace Go.Proofs.YtomninikmcmmcaaDoor
/-- The tied card. -/
theorem tagTexts_holds : Rows.TagTextsCardSaid :=
  Claim7.holds_tied_plain_at .later [] [.data, .pinned] true (true, "7abea28027b2b745090f6c7fcc20f3681edb17c49dcc1c0793786ec3fddd6ba8") false
    RowTagTexts.over (fun _ h => by cases h) RowTagTexts.byText (fun _ h => by cases h) tagTexts_row_tie rfl ⟨rfl, rfl⟩ Joined.mainIs rfl
    (fun f fn hf hfn => by
      obtain rfl : f = 4 := Option.some.inj (RowTagTexts.fname.symm.trans hf) |>.symm
      obtain rfl : fn = Tryd.f4 := (Option.some.inj (Tryd.func4.symm.trans hfn)).symm
      exact ⟨RowTagTexts.looks, fun j t ht => by
        rw [Tryd.params4] at ht
        have hm : t ∈ [39, 9, 3] := by simpa [or_assoc, or_comm, or_left_comm] using Array.mem_of_getElem? ht
        have hall := RowTagTexts.stands
        exact (show Tryd.prog.wantsStandIn t = false by simpa using List.all_eq_true.1 hall t hm)⟩)
    RowTagTexts.goes
#print axioms tagTexts_holds
end Go.Proofs.YtomninikmcmmcaaDoor
