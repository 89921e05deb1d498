/- BlockRounds: for every input the law returns true, and the input reads as it did; under the condition that the listed package-level variables hold what the program's text lays in them, which the card ties. -/
import Derived.Test.YtobgcjfelegpkaaDoorRows
import Derived.Test.YtobgcjfelegpkaaDoorCards
import Derived.Test.YtobgcjfelegpkaaDoorTie
import Derived.Test.YtobgcjfelegpkaaDoorLaidA
import Derived.Test.YtobgcjfelegpkaaDoorMainIs
import Derived.Test.YtobgcjfelegpkaaDoorJoined
import Derived.Test.YtobgcjfelegpkaaDoorLawRounds
import Derived.WalkKit
import Derived.ProofKit
import Derived.OpenShut
import Derived.ShutString
import Derived.ChangeOld
import Derived.Below
import Derived.SizedLaws
import Derived.Carry
import Derived.SevenTiedAt
import Derived.LaidMore
import Derived.Stop.Joined
import Derived.Lib.LaidTab
namespace Go.Proofs.YtobgcjfelegpkaaDoor.RowBlockRounds
open Go.ChangeShapes Go.WideShapes Go.ChangeAt Go.RowKit Go.Proofs.YtobgcjfelegpkaaDoor.Blk Go.Proofs.YtobgcjfelegpkaaDoorW.PrintWords Go.Proofs.YtobgcjfelegpkaaDoorW.Op
open Go.ChangeMaps (open_string shut_string)
set_option linter.unusedVariables false
theorem own : ownKnob Tryd.prog.godebug = none := by kernel_rfl
theorem laidOut : laidOutB Tryd.prog = true := by kernel_rfl
set_option maxRecDepth 100000 in
theorem lifted (os : Os) (started : os.Started) (H : Type) (enc : TypeId × Value → H) :
    ReturnsInHanded {} Tryd.checked os 3 .any (fun w args => (Rows.blockRoundsSpec.pre enc Tryd.prog Tryd.f3 [] false w args ∧ laidMetH Tryd.prog Rows.blockRoundsRow.laid w) ∧ sizedMet enc Tryd.prog Tryd.f3 (OpenSpec.ofChange Rows.blockRoundsSpec) false w args) (Rows.blockRoundsSpec.post enc Tryd.prog Tryd.f3 false true false false) := by
  refine returnsInHanded_of_change_and (C := Tryd.checked) (X := fun w _ => laidMetH Tryd.prog Rows.blockRoundsRow.laid w) (fun _ _ _ hh h => h.of_heap hh) own started (by kernel_rfl) Tryd.func3
    (ChangeSpec.witness_shaped (enc := enc) (C := Tryd.checked) (os := os) (X := fun w _ => laidMetH Tryd.prog Rows.blockRoundsRow.laid w) false (World.doorLaid Tryd.prog 4000 os) #[.agg #[.int .u32 0, .int .u32 0, .int .u32 0, .int .u32 0, .int .u32 0, .int .u32 0, .int .u32 0, .int .u32 0], .int .i64 0, .int .u32 0] 8 rfl (World.shaped_of_RefB (by kernel_rfl) (by kernel_rfl)) (by kernel_rfl) (by kernel_rfl) (by kernel_rfl) (Laid.door_met os _)) ?_
  intro W base args ds gs before hval0 hW _ hsz0 hL _
  have hsz : (DataW.weightsEach Tryd.prog (Tryd.f3.params.toList ++ Rows.blockRoundsSpec.plain.varTypes Tryd.prog) (ds ++ gs)).all (· ≤ reachBytes) = true := hsz0
  have hval : ∀ (j : Nat) t v, Tryd.f3.params[j]? = some t → args[j]? = some v → Value.okWide Tryd.prog W .any base t v := hval0
  have hW' := hW
  obtain ⟨p, q, hA0, hV, rfl, hfz, hnd⟩ := hW
  have hA : DataW.TrodAll enc Tryd.prog W 0 (fun _ => true) true Tryd.f3.params.toList args.toList ds p := hA0
  rw [Tryd.params3] at hA hval hsz
  obtain ⟨v0, vs0, d0, ds0, p0, q0, hargs, rfl, rfl, h0, r0⟩ := trodAll_cons hA
  obtain ⟨v1, vs1, d1, ds1, p1, q1, rfl, rfl, rfl, h1, r1⟩ := trodAll_cons r0
  obtain ⟨v2, vs2, d2, ds2, p2, q2, rfl, rfl, rfl, h2, r2⟩ := trodAll_cons r1
  obtain ⟨rfl, rfl, rfl⟩ := trodAll_nil r2
  obtain rfl : args = #[v0, v1, v2] := by cases args; simp_all
  obtain ⟨rfl, rfl⟩ := trodVars_none hV
  have k0' := h0
  have lt0 : ∀ x ∈ p0, x.block < W.heap.size := by obtain ⟨m, hm⟩ := h0; exact DataW.trod_lt m _ _ _ hm
  have wt0 := weights_each_le hsz (j := 0) (t := 24) (d := d0) rfl rfl
  obtain ⟨a0, rfl⟩ := Laid.open_state24 (enc := enc) (hval 0 24 v0 rfl rfl) h0
  have k1' := h1
  have lt1 : ∀ x ∈ p1, x.block < W.heap.size := by obtain ⟨m, hm⟩ := h1; exact DataW.trod_lt m _ _ _ hm
  have wt1 := weights_each_le hsz (j := 1) (t := 3) (d := d1) rfl rfl
  obtain ⟨a1, rfl, rfl, rfl, w1⟩ := open_int Tryd.underlying3 (hval 1 3 v1 rfl rfl) h1
  have k2' := h2
  have lt2 : ∀ x ∈ p2, x.block < W.heap.size := by obtain ⟨m, hm⟩ := h2; exact DataW.trod_lt m _ _ _ hm
  have wt2 := weights_each_le hsz (j := 2) (t := 22) (d := d2) rfl rfl
  obtain ⟨a2, rfl, rfl, rfl, w2⟩ := open_int Tryd.underlying22 (hval 2 22 v2 rfl rfl) h2
  clear hA0 hval0 hsz0 hsz
  refine (rounds_row a0 a1 w1 a2 w2 W (Laid.tab_of hL)).mono fun e W' ⟨he, bel⟩ => ?_
  subst he
  exact ⟨_, rfl, _, _, _, [], _, [], hW', trodAll_mk1 (shut_bool Tryd.underlying4 _), (trodAll_cons_mk (Below.trod laidOut (by kernel_rfl) (of_decide_eq_true (by kernel_rfl)) k0' bel lt0) (trodAll_cons_mk (Below.trod laidOut (by kernel_rfl) (of_decide_eq_true (by kernel_rfl)) k1' bel lt1) (trodAll_cons_mk (Below.trod laidOut (by kernel_rfl) (of_decide_eq_true (by kernel_rfl)) k2' bel lt2) trodAll_mk0))), rfl, bel.frame _, fun h => by cases h⟩
theorem k1 : Rows.blockRoundsRow.wf (OpenSpec.ofChange Rows.blockRoundsSpec) = true := by kernel_rfl
theorem k4 : Tryd.f3.params.all (Tryd.prog.readableRec ·) = true := by kernel_rfl
theorem k5 : namedTie Tryd.prog Rows.blockRoundsRow.named Rows.blockRoundsSpec.vars = true := by kernel_rfl
theorem k6 : (Rows.blockRoundsRow.stops == []) = true := by kernel_rfl
theorem k8 : (Rows.blockRoundsRow.knobs == []) = true := by kernel_rfl
theorem k10 : (Rows.blockRoundsRow.inPlace == Tryd.prog.inPlace 3) = true := by kernel_rfl
theorem k11 : (Rows.blockRoundsRow.unfollowed == Tryd.prog.unfollowed 3) = true := by kernel_rfl
theorem k12 : (Rows.blockRoundsRow.recurses == Tryd.prog.recurses 3) = true := by kernel_rfl
theorem k13 : (Rows.blockRoundsRow.named == Tryd.prog.varsNamed 3) = true := by kernel_rfl
theorem k14 : (Rows.blockRoundsRow.maps == (Tryd.f3.params.toList ++ Rows.blockRoundsSpec.plain.varTypes Tryd.prog).any (Tryd.prog.mapsRec ·)) = true := by kernel_rfl
theorem k15 : (Rows.blockRoundsRow.ifaces == (Tryd.f3.params.toList ++ Rows.blockRoundsSpec.plain.varTypes Tryd.prog).any (Tryd.prog.ifacesRec ·)) = true := by kernel_rfl
theorem k16 : (Rows.blockRoundsRow.mapsOut == Tryd.prog.mapsAmong Tryd.f3.resultTypes.toList) = true := by kernel_rfl
theorem k17 : (Rows.blockRoundsRow.loops == (Tryd.f3.params.toList ++ Rows.blockRoundsSpec.plain.varTypes Tryd.prog).any (Tryd.prog.loopsFrom ·)) = true := by kernel_rfl
theorem k17b : (Rows.blockRoundsRow.wideKeys == (Tryd.f3.params.toList ++ Rows.blockRoundsSpec.plain.varTypes Tryd.prog ++ Tryd.f3.resultTypes.toList).any (Tryd.prog.wideKeysFrom ·)) = true := by kernel_rfl
theorem k18 : Rows.blockRoundsSpec.vars.all (Tryd.prog.varReadable ·) = true := by kernel_rfl
theorem k19 : Tryd.f3.resultTypes.all (fun t => Tryd.prog.readableRec t && decide (t < Tryd.prog.types.size)) = true := by kernel_rfl
theorem k20 : (Rows.blockRoundsRow.ifacesOut == Tryd.f3.resultTypes.toList.any (Tryd.prog.ifacesRec ·)) = true := by kernel_rfl
theorem k21 : (Rows.blockRoundsRow.loopsOut == Tryd.f3.resultTypes.toList.any (Tryd.prog.loopsFrom ·)) = true := by kernel_rfl
theorem k22 : (Rows.blockRoundsRow.plainKeys == Tryd.prog.plainKeys) = true := by have h : Rows.blockRoundsRow.plainKeys = true := rfl; rw [h]; exact Joined.p5
theorem k23 : Rows.blockRoundsRow.shortTexts.isNone = true := by kernel_rfl
theorem k24b : (Rows.blockRoundsRow.lifted == Tryd.prog.liftsFinal) = true := by have h : Rows.blockRoundsRow.lifted = false := rfl; rw [h]; exact Joined.p8
theorem k24c : (Tryd.prog.make == some Rows.blockRoundsRow.make) = true := by have h : Rows.blockRoundsRow.make = .cut := rfl; rw [h]; exact Joined.p9
theorem k25a : Rows.blockRoundsRow.domain.isEmpty = true := by kernel_rfl
theorem k25 : (Rows.blockRoundsRow.kinds == []) = true := by kernel_rfl
theorem k26 : (Rows.blockRoundsRow.pinned == Rows.blockRoundsRow.pinnedBy) = true := by kernel_rfl
theorem k27 : (Rows.blockRoundsRow.veiled == (Tryd.f3.params.toList ++ Rows.blockRoundsSpec.plain.varTypes Tryd.prog ++ Tryd.f3.resultTypes.toList).any (Tryd.prog.veiledRec ·)) = true := by kernel_rfl
theorem k28 : Rows.blockRoundsRow.veiledFits Tryd.prog Tryd.f3.params.toList (Tryd.f3.params.toList ++ Rows.blockRoundsSpec.plain.varTypes Tryd.prog ++ Tryd.f3.resultTypes.toList) = true := by kernel_rfl
theorem facts : joinedFacts Tryd.prog 3 Tryd.f3 Rows.blockRoundsSpec Rows.blockRoundsRow = true := Joined.joined_of k1 Joined.p1 Joined.p2 k4 k5 k6 Joined.p3 k8 Joined.p4 k10 k11 k12 k13 k14 k15 k16 k17 k17b k18 k19 k20 k21 k22 k23 Joined.p6 Joined.p7 k24b k24c k25a k25 k26 k27 k28
theorem named : Tryd.pinned.checked.prog.funcNamed Rows.blockRoundsRow.func = some 3 := by kernel_rfl
theorem inst : Tryd.f3.isInstance Tryd.pinned.checked.prog Rows.blockRoundsRow.origin Rows.blockRoundsRow.targs := of_decide_eq_true (by kernel_rfl)
theorem wrap : Tryd.f3.isWrapper Tryd.pinned.checked.prog Rows.blockRoundsRow.wrapper Rows.blockRoundsRow.mainSum := by unfold Func.isWrapper; first | (rw [if_pos (by decide +kernel)]; kernel_rfl) | (rw [if_neg (by decide +kernel)]; exact ⟨rfl, rfl⟩)
theorem over : Rows.blockRoundsRow.holds Tryd.pinned (OpenSpec.ofChange Rows.blockRoundsSpec) :=
  OpenClaim.holds_of_wide 3 Tryd.f3 rfl rfl rfl rfl rfl rfl rfl ⟨rfl, rfl, rfl, rfl, rfl⟩ rfl rfl rfl rfl rfl named Tryd.func3 facts inst wrap
    (fun os started H enc _ => lifted os started H enc)
theorem byText : Rows.blockRoundsRow.wfByText (OpenSpec.ofChange Rows.blockRoundsSpec) = true := by kernel_rfl
theorem looks : false = Tryd.pinned.checked.prog.looks [] := by kernel_rfl
theorem goes : false = Rows.blockRoundsRow.goesBy Tryd.pinned.checked.prog := by kernel_rfl
theorem fname : Tryd.prog.funcNamed "paymaster/paymasterlaw04.BlockRounds" = some 3 := by kernel_rfl
theorem stands : ([24, 3, 22].all fun u => !Tryd.prog.wantsStandIn u) = true := by kernel_rfl
end Go.Proofs.YtobgcjfelegpkaaDoor.RowBlockRounds
namespace Go.Proofs.YtobgcjfelegpkaaDoor
/-- The tied card. -/
theorem blockRounds_holds : Rows.BlockRoundsCardSaid :=
  Claim7.holds_tied_plain_at .later [] [.data] true (true, "9d164c48e5212571350473851ff744ae1dd98c8b496bb95ff743244017e0d20a") false
    RowBlockRounds.over (fun _ h => by cases h) RowBlockRounds.byText (fun _ h => by cases h) blockRounds_row_tie rfl ⟨rfl, rfl⟩ Joined.mainIs rfl
    (fun f fn hf hfn => by
      obtain rfl : f = 3 := Option.some.inj (RowBlockRounds.fname.symm.trans hf) |>.symm
      obtain rfl : fn = Tryd.f3 := (Option.some.inj (Tryd.func3.symm.trans hfn)).symm
      exact ⟨RowBlockRounds.looks, fun j t ht => by
        rw [Tryd.params3] at ht
        have hm : t ∈ [24, 3, 22] := by simpa [or_assoc, or_comm, or_left_comm] using Array.mem_of_getElem? ht
        have hall := RowBlockRounds.stands
        exact (show Tryd.prog.wantsStandIn t = false by simpa using List.all_eq_true.1 hall t hm)⟩)
    RowBlockRounds.goes
#print axioms blockRounds_holds
end Go.Proofs.YtobgcjfelegpkaaDoor
