/- TagBack: for every input the law returns true, and the input reads as it did; under the condition that the listed package-level variables hold what the program's text lays in them, which the card ties. -/
import Derived.Test.YtomninikmcmmcaaDoorRows
import Derived.Test.YtomninikmcmmcaaDoorCards
import Derived.Test.YtomninikmcmmcaaDoorTie
import Derived.Test.YtomninikmcmmcaaDoorLw
import Derived.Test.YtomninikmcmmcaaDoorMainIs
import Derived.Test.YtomninikmcmmcaaDoorJoined
import Derived.Test.YtomninikmcmmcaaDoorTxB
import Derived.Test.YtomninikmcmmcaaDoorOpen
import Derived.WalkKit
import Derived.ProofKit
import Derived.OpenShut
import Derived.ShutString
import Derived.ChangeOld
import Derived.Below
import Derived.SizedLaws
import Derived.Carry
import Derived.SevenTiedAt
import Derived.LaidMore
import Derived.Stop.Joined
import Derived.Lib.LaidTab
namespace Go.Proofs.YtomninikmcmmcaaDoor.RowTagBack
open Go.ChangeShapes Go.WideShapes Go.ChangeAt Go.RowKit Go.Proofs.YtomninikmcmmcaaDoor.Tag Go.Proofs.YtomninikmcmmcaaDoor.Kds Go.Proofs.YtomninikmcmmcaaDoorW.PrintWords Go.Proofs.YtomninikmcmmcaaDoorW.Op
open Go.ChangeMaps (open_string shut_string)
set_option linter.unusedVariables false
theorem own : ownKnob Tryd.prog.godebug = none := by kernel_rfl
theorem laidOut : laidOutB Tryd.prog = true := by kernel_rfl
instance : Inhabited S37 := ⟨z37⟩
theorem opens37 : Opens Tryd.prog k37 37 Good37 :=
  Opens.struct (fun x : S37 => (x.f0, x.f1)) (fun p => (⟨p.1, p.2⟩ : S37)) (fun _ => rfl) Tryd.underlying37 (by kernel_rfl)
    (OpensF.cons (good := (fun z : Int => (Lit.int .u64 z).wf = true)) (Opens.int Tryd.underlying35) rfl (by kernel_rfl) (OpensF.one (good := (fun z : Int => (Lit.int .u64 z).wf = true)) (Opens.int Tryd.underlying35) rfl (by kernel_rfl))) (fun _ h => h)
instance : Inhabited S39 := ⟨z39⟩
theorem opens39 : Opens Tryd.prog k39 39 Good39 :=
  Opens.struct (fun x : S39 => (x.f0, x.f1, x.f2, x.f3)) (fun p => (⟨p.1, p.2.1, p.2.2.1, p.2.2.2⟩ : S39)) (fun _ => rfl) Tryd.underlying39 (by kernel_rfl)
    (OpensF.cons (good := (fun z : Bool => True)) (Opens.bool Tryd.underlying4) rfl (by kernel_rfl) (OpensF.cons (good := (fun z : ByteArray => z.size ≤ 140737488351232)) (Opens.string Tryd.underlying9) rfl (by kernel_rfl) (OpensF.cons (good := (fun z : ByteArray => z.size ≤ 140737488351232)) (Opens.string Tryd.underlying9) rfl (by kernel_rfl) (OpensF.one (good := (fun z : S37 => Good37 z)) opens37 rfl (by kernel_rfl))))) (fun _ h => h)
set_option maxRecDepth 100000 in
theorem lifted (os : Os) (started : os.Started) (H : Type) (enc : TypeId × Value → H) :
    ReturnsInHanded {} Tryd.checked os 13 .any (fun w args => (Rows.tagBackSpec.pre enc Tryd.prog Tryd.f13 [] false w args ∧ laidMetH Tryd.prog Rows.tagBackRow.laid w) ∧ sizedMet enc Tryd.prog Tryd.f13 (OpenSpec.ofChange Rows.tagBackSpec) false w args) (Rows.tagBackSpec.post enc Tryd.prog Tryd.f13 false true false false) := by
  refine returnsInHanded_of_change_and (C := Tryd.checked) (X := fun w _ => laidMetH Tryd.prog Rows.tagBackRow.laid w) (fun _ _ _ hh h => h.of_heap hh) own started (by kernel_rfl) Tryd.func13
    (ChangeSpec.witness_shaped (enc := enc) (C := Tryd.checked) (os := os) (X := fun w _ => laidMetH Tryd.prog Rows.tagBackRow.laid w) false (World.laidAll Tryd.prog os Rows.tagBackRow.laid) #[.agg #[.bool false, .string ByteArray.empty, .string ByteArray.empty, .int .u64 0, .int .u64 0], .string ByteArray.empty] 8 (World.laidAll_os _ _ _) (World.shaped_of_ZipB (by kernel_rfl) (by kernel_rfl)) (by kernel_rfl) (by kernel_rfl) (by kernel_rfl) (LaidW.door_met os _)) ?_
  intro W base args ds gs before hval0 hW _ hsz0 hL _
  have hsz : (DataW.weightsEach Tryd.prog (Tryd.f13.params.toList ++ Rows.tagBackSpec.plain.varTypes Tryd.prog) (ds ++ gs)).all (· ≤ reachBytes) = true := hsz0
  have hval : ∀ (j : Nat) t v, Tryd.f13.params[j]? = some t → args[j]? = some v → Value.okWide Tryd.prog W .any base t v := hval0
  have hW' := hW
  obtain ⟨p, q, hA0, hV, rfl, hfz, hnd⟩ := hW
  have hA : DataW.TrodAll enc Tryd.prog W 0 (fun _ => true) true Tryd.f13.params.toList args.toList ds p := hA0
  rw [Tryd.params13] at hA hval hsz
  obtain ⟨v0, vs0, d0, ds0, p0, q0, hargs, rfl, rfl, h0, r0⟩ := trodAll_cons hA
  obtain ⟨v1, vs1, d1, ds1, p1, q1, rfl, rfl, rfl, h1, r1⟩ := trodAll_cons r0
  obtain ⟨rfl, rfl, rfl⟩ := trodAll_nil r1
  obtain rfl : args = #[v0, v1] := by cases args; simp_all
  obtain ⟨rfl, rfl⟩ := trodVars_none hV
  have k0' := h0
  have lt0 : ∀ x ∈ p0, x.block < W.heap.size := by obtain ⟨m, hm⟩ := h0; exact DataW.trod_lt m _ _ _ hm
  have wt0 := weights_each_le hsz (j := 0) (t := 39) (d := d0) rfl rfl
  obtain ⟨cs0, rfl, z0⟩ := okWide_struct Tryd.underlying39 (hval 0 39 v0 rfl rfl)
  obtain ⟨fu0, hf0⟩ := h0
  obtain ⟨x0, hK0, g0⟩ := opens39 H enc W fu0 _ _ hf0 wt0
  have e0 := k39_open hK0
  obtain rfl := Array.toList_inj.1 (e0.trans (List.toList_toArray ..).symm)
  have k1' := h1
  have lt1 : ∀ x ∈ p1, x.block < W.heap.size := by obtain ⟨m, hm⟩ := h1; exact DataW.trod_lt m _ _ _ hm
  have wt1 := weights_each_le hsz (j := 1) (t := 9) (d := d1) rfl rfl
  obtain ⟨a1, rfl, rfl, rfl, y1⟩ := open_string Tryd.underlying9 (hval 1 9 v1 rfl rfl) h1
  have w1 : a1.size ≤ 140737488351232 := by
    have z := wt1 a1.data.toList.length (by simp [DataW.weights])
    rw [Array.length_toList] at z
    exact z
  clear hA0 hval0 hsz0 hsz
  refine (tagBack_row x0 g0 a1 w1 W (LaidW.tab_of hL)).mono fun e W' ⟨he, bel⟩ => ?_
  subst he
  exact ⟨_, rfl, _, _, _, [], _, [], hW', trodAll_mk1 (shut_bool Tryd.underlying4 _), (trodAll_cons_mk (Below.trod laidOut (by kernel_rfl) (of_decide_eq_true (by kernel_rfl)) k0' bel lt0) (trodAll_cons_mk (Below.trod laidOut (by kernel_rfl) (of_decide_eq_true (by kernel_rfl)) k1' bel lt1) trodAll_mk0)), rfl, bel.frame _, fun h => by cases h⟩
theorem k1 : Rows.tagBackRow.wf (OpenSpec.ofChange Rows.tagBackSpec) = true := by kernel_rfl
theorem k4 : Tryd.f13.params.all (Tryd.prog.readableRec ·) = true := by kernel_rfl
theorem k5 : namedTie Tryd.prog Rows.tagBackRow.named Rows.tagBackSpec.vars = true := by kernel_rfl
theorem k6 : (Rows.tagBackRow.stops == []) = true := by kernel_rfl
theorem k8 : (Rows.tagBackRow.knobs == []) = true := by kernel_rfl
theorem k10 : (Rows.tagBackRow.inPlace == Tryd.prog.inPlace 13) = true := by kernel_rfl
theorem k11 : (Rows.tagBackRow.unfollowed == Tryd.prog.unfollowed 13) = true := by kernel_rfl
theorem k12 : (Rows.tagBackRow.recurses == Tryd.prog.recurses 13) = true := by kernel_rfl
theorem k13 : (Rows.tagBackRow.named == Tryd.prog.varsNamed 13) = true := by kernel_rfl
theorem k14 : (Rows.tagBackRow.maps == (Tryd.f13.params.toList ++ Rows.tagBackSpec.plain.varTypes Tryd.prog).any (Tryd.prog.mapsRec ·)) = true := by kernel_rfl
theorem k15 : (Rows.tagBackRow.ifaces == (Tryd.f13.params.toList ++ Rows.tagBackSpec.plain.varTypes Tryd.prog).any (Tryd.prog.ifacesRec ·)) = true := by kernel_rfl
theorem k16 : (Rows.tagBackRow.mapsOut == Tryd.prog.mapsAmong Tryd.f13.resultTypes.toList) = true := by kernel_rfl
theorem k17 : (Rows.tagBackRow.loops == (Tryd.f13.params.toList ++ Rows.tagBackSpec.plain.varTypes Tryd.prog).any (Tryd.prog.loopsFrom ·)) = true := by kernel_rfl
theorem k17b : (Rows.tagBackRow.wideKeys == (Tryd.f13.params.toList ++ Rows.tagBackSpec.plain.varTypes Tryd.prog ++ Tryd.f13.resultTypes.toList).any (Tryd.prog.wideKeysFrom ·)) = true := by kernel_rfl
theorem k18 : Rows.tagBackSpec.vars.all (Tryd.prog.varReadable ·) = true := by kernel_rfl
theorem k19 : Tryd.f13.resultTypes.all (fun t => Tryd.prog.readableRec t && decide (t < Tryd.prog.types.size)) = true := by kernel_rfl
theorem k20 : (Rows.tagBackRow.ifacesOut == Tryd.f13.resultTypes.toList.any (Tryd.prog.ifacesRec ·)) = true := by kernel_rfl
theorem k21 : (Rows.tagBackRow.loopsOut == Tryd.f13.resultTypes.toList.any (Tryd.prog.loopsFrom ·)) = true := by kernel_rfl
theorem k22 : (Rows.tagBackRow.plainKeys == Tryd.prog.plainKeys) = true := by have h : Rows.tagBackRow.plainKeys = true := rfl; rw [h]; exact Joined.p5
theorem k23 : Rows.tagBackRow.shortTexts.isNone = true := by kernel_rfl
theorem k24b : (Rows.tagBackRow.lifted == Tryd.prog.liftsFinal) = true := by have h : Rows.tagBackRow.lifted = false := rfl; rw [h]; exact Joined.p8
theorem k24c : (Tryd.prog.make == some Rows.tagBackRow.make) = true := by have h : Rows.tagBackRow.make = .cut := rfl; rw [h]; exact Joined.p9
theorem k25a : Rows.tagBackRow.domain.isEmpty = true := by kernel_rfl
theorem k25 : (Rows.tagBackRow.kinds == []) = true := by kernel_rfl
theorem k26 : (Rows.tagBackRow.pinned == Rows.tagBackRow.pinnedBy) = true := by kernel_rfl
theorem k27 : (Rows.tagBackRow.veiled == (Tryd.f13.params.toList ++ Rows.tagBackSpec.plain.varTypes Tryd.prog ++ Tryd.f13.resultTypes.toList).any (Tryd.prog.veiledRec ·)) = true := by kernel_rfl
theorem k28 : Rows.tagBackRow.veiledFits Tryd.prog Tryd.f13.params.toList (Tryd.f13.params.toList ++ Rows.tagBackSpec.plain.varTypes Tryd.prog ++ Tryd.f13.resultTypes.toList) = true := by kernel_rfl
theorem facts : joinedFacts Tryd.prog 13 Tryd.f13 Rows.tagBackSpec Rows.tagBackRow = true := Joined.joined_of k1 Joined.p1 Joined.p2 k4 k5 k6 Joined.p3 k8 Joined.p4 k10 k11 k12 k13 k14 k15 k16 k17 k17b k18 k19 k20 k21 k22 k23 Joined.p6 Joined.p7 k24b k24c k25a k25 k26 k27 k28
theorem named : Tryd.pinned.checked.prog.funcNamed Rows.tagBackRow.func = some 13 := by kernel_rfl
theorem inst : Tryd.f13.isInstance Tryd.pinned.checked.prog Rows.tagBackRow.origin Rows.tagBackRow.targs := of_decide_eq_true (by kernel_rfl)
theorem wrap : Tryd.f13.isWrapper Tryd.pinned.checked.prog Rows.tagBackRow.wrapper Rows.tagBackRow.mainSum := by unfold Func.isWrapper; first | (rw [if_pos (by decide +kernel)]; kernel_rfl) | (rw [if_neg (by decide +kernel)]; exact ⟨rfl, rfl⟩)
theorem over : Rows.tagBackRow.holds Tryd.pinned (OpenSpec.ofChange Rows.tagBackSpec) :=
  OpenClaim.holds_of_wide 13 Tryd.f13 rfl rfl rfl rfl rfl rfl rfl ⟨rfl, rfl, rfl, rfl, rfl⟩ rfl rfl rfl rfl rfl named Tryd.func13 facts inst wrap
    (fun os started H enc _ => lifted os started H enc)
theorem byText : Rows.tagBackRow.wfByText (OpenSpec.ofChange Rows.tagBackSpec) = true := by kernel_rfl
theorem looks : false = Tryd.pinned.checked.prog.looks [] := by kernel_rfl
theorem goes : false = Rows.tagBackRow.goesBy Tryd.pinned.checked.prog := by kernel_rfl
theorem fname : Tryd.prog.funcNamed "paymaster/paymasterlaw07.TagBack" = some 13 := by kernel_rfl
theorem stands : ([39, 9].all fun u => !Tryd.prog.wantsStandIn u) = true := by kernel_rfl
end Go.Proofs.YtomninikmcmmcaaDoor.RowTagBack
namespace Go.Proofs.YtomninikmcmmcaaDoor
/-- The tied card. -/
theorem tagBack_holds : Rows.TagBackCardSaid :=
  Claim7.holds_tied_plain_at .later [] [.data, .data, .pinned] true (true, "7abea28027b2b745090f6c7fcc20f3681edb17c49dcc1c0793786ec3fddd6ba8") false
    RowTagBack.over (fun _ h => by cases h) RowTagBack.byText (fun _ h => by cases h) tagBack_row_tie rfl ⟨rfl, rfl⟩ Joined.mainIs rfl
    (fun f fn hf hfn => by
      obtain rfl : f = 13 := Option.some.inj (RowTagBack.fname.symm.trans hf) |>.symm
      obtain rfl : fn = Tryd.f13 := (Option.some.inj (Tryd.func13.symm.trans hfn)).symm
      exact ⟨RowTagBack.looks, fun j t ht => by
        rw [Tryd.params13] at ht
        have hm : t ∈ [39, 9] := by simpa [or_assoc, or_comm, or_left_comm] using Array.mem_of_getElem? ht
        have hall := RowTagBack.stands
        exact (show Tryd.prog.wantsStandIn t = false by simpa using List.all_eq_true.1 hall t hm)⟩)
    RowTagBack.goes
#print axioms tagBack_holds
end Go.Proofs.YtomninikmcmmcaaDoor
