/- The walk of the law BlockNext: whatever the state and the text, it answers true. -/
import Derived.Test.YtobgcjfelegpkaaDoorQuick
import Derived.Test.YtobgcjfelegpkaaDoorLaidA
import Derived.Test.YtobgcjfelegpkaaDoorTl
import Derived.Test.YtobgcjfelegpkaaDoorRel
import Derived.Deep.DeepCutAuto
namespace Go.Proofs.YtobgcjfelegpkaaDoor.Blk
open Go.RowKit Go.Proofs.YtobgcjfelegpkaaDoor.PBw Go.Proofs.YtobgcjfelegpkaaDoor.GivA Go.Proofs.YtobgcjfelegpkaaDoorW.PrintWords Go.Proofs.YtobgcjfelegpkaaDoorW.PrintLast Go.Proofs.YtobgcjfelegpkaaDoorW.PrintMore Go.Proofs.Sp Go.Proofs.YtobgcjfelegpkaaDoor.Pure
set_option linter.unusedVariables false
set_option linter.unusedSimpArgs false
attribute [local go_sem high] EqA.eqSt EqA.eqAr
theorem next_long (s : St) (text : ByteArray) (h : 200 < text.size) (hm : text.size ≤ 140737488351232) (w : World) :
    Calls Tryd.prog 4 #[stv s, .string text] w fun e w' => e = .returned (.bool true) ∧ Below w.heap.size w w' := by
  have h1 : 200 < (text.size : Int) := by omega
  unfold stv
  go_enter Tryd.func4, Tryd.ntmps4
  go_wp2_with fail
  go_ret
  exact ⟨rfl, below_alloc (Below.refl _ _) _⟩
/-- What block.Next and the document's Next make of a text: the same state and error. -/
structure Both (s : St) (text : ByteArray) (n : St) (er : Int) : Prop where
  next : ∀ w : World, Tab w → Calls Tryd.prog 30 #[stv s, .string text] w fun e w' => e = .returned (.tuple #[stv n, .int .i64 er]) ∧ Below w.heap.size w w'
  ref : ∀ (w : World) (BT oT cT : Nat), 64 ≤ cT → BT < w.heap.size → (∀ (t : Nat), t < 64 → w.cell? ⟨BT, oT + t, none⟩ = some (.int .u32 (wd (kws t)))) →
    Calls Tryd.prog 31 #[stv s, .string text, .slice (some ⟨BT, oT, none⟩) 64 cT] w fun e w' => e = .returned (.tuple #[stv n, .int .i64 er]) ∧ Below w.heap.size w w'
  quick : er = 0 → ∀ (w : World) (BT oT cT : Nat), 64 ≤ cT → BT < w.heap.size → (∀ (t : Nat), t < 64 → w.cell? ⟨BT, oT + t, none⟩ = some (.int .u32 (wd (kws t)))) →
    Calls Tryd.prog 33 #[stv s, .string text, .slice (some ⟨BT, oT, none⟩) 64 cT] w fun e w' => e = .returned (stv n) ∧ Below w.heap.size w w'
theorem both_of (s : St) (text : ByteArray) : ∃ n er, Both s text n er ∧ (er = 0 ∨ er = 2) := by
  by_cases h : text.size = 64
  · exact ⟨next s text.data.toList, 0, ⟨fun w hT => next_calls s text h w hT, fun w BT oT cT a b c => refnext_calls s text h w BT oT cT a b c, fun _ w BT oT cT a b c => quick_calls s text h w BT oT cT a b c⟩, .inl rfl⟩
  · exact ⟨zeroSt, 2, ⟨fun w hT => next_none s text h w, fun w BT oT cT a b c => refnext_none s text h w _ cT, fun h0 => absurd h0 (by decide)⟩, .inr rfl⟩
/-- The table as a slice, wherever it lies. -/
def Tb (v : Value) (w : World) : Prop := ∃ B o c, v = .slice (some ⟨B, o, none⟩) 64 c ∧ 64 ≤ c ∧ B < w.heap.size ∧ ∀ t : Nat, t < 64 → w.cell? ⟨B, o + t, none⟩ = some (.int .u32 (wd (kws t)))
theorem Tb.later {v : Value} {w w' : World} (h : Tb v w) (hb : Below w.heap.size w w') : Tb v w' := by
  obtain ⟨B, o, c, h1, h2, h3, h4⟩ := h
  refine ⟨B, o, c, h1, h2, Nat.lt_of_lt_of_le h3 hb.size, fun t ht => ?_⟩
  rw [hb.cell h3]
  exact h4 t ht
def R4 (s n : St) (er : Int) (text : ByteArray) : Nat → Value → World → Prop
  | 0, v, _ => v = stv s
  | 1, v, _ => v = .string text
  | 2, v, w => Tb v w
  | 3, v, _ => v = .tuple #[stv n, .int .i64 er]
  | 4, v, _ => v = .tuple #[stv n, .int .i64 er]
  | 5, v, _ => v = stv n
  | 6, v, _ => v = .int .i64 er
  | _, _, _ => True
theorem R4_later (s n : St) (er : Int) (text : ByteArray) : ∀ i v w w', R4 s n er text i v w → Below w.heap.size w w' → R4 s n er text i v w' := by
  intro i v w w' h hb
  match i with
  | 2 => exact Tb.later h hb
  | 0 | 1 | 3 | 4 | 5 | 6 | _ + 7 => exact h
def R5 (s n : St) (text : ByteArray) : Nat → Value → World → Prop
  | 0, v, _ => v = .int .i64 0
  | 1, v, _ => v = .bool true
  | 2, v, _ => v = .bool true
  | 3, v, _ => v = stv s
  | 4, v, _ => v = .string text
  | 5, v, w => Tb v w
  | 6, v, _ => v = stv n
  | 7, v, _ => v = stv n
  | 8, v, _ => v = .bool false
  | _, _, _ => True
theorem R5_later (s n : St) (text : ByteArray) : ∀ i v w w', R5 s n text i v w → Below w.heap.size w w' → R5 s n text i v w' := by
  intro i v w w' h hb
  match i with
  | 5 => exact Tb.later h hb
  | 0 | 1 | 2 | 3 | 4 | 6 | 7 | 8 | _ + 9 => exact h
def R6 : Nat → Value → World → Prop
  | 0, v, _ => v = .int .i64 2
  | 1, v, _ => v = .bool false
  | 2, v, _ => v = .bool false
  | _, v, _ => v = undef
theorem R6_later : ∀ i v w w', R6 i v w → Below w.heap.size w w' → R6 i v w' := by
  intro i v w w' h hb
  match i with
  | 0 | 1 | 2 | _ + 3 => exact h
open Rel in
set_option maxHeartbeats 4000000 in
set_option maxRecDepth 100000 in
theorem nextlaw_law (s : St) (text : ByteArray) (h : text.size ≤ 200) (w : World) (hT : Tab w) :
    Calls Tryd.prog 4 #[stv s, .string text] w fun e w' => e = .returned (.bool true) ∧ Below w.heap.size w w' := by
  obtain ⟨n, er, HB, her⟩ := both_of s text
  have HT := Aside0.mk hT
  have h1 : (text.size : Int) ≤ 200 := by omega
  have HN := Aside0.mk HB.next
  have HR := Aside0.mk HB.ref
  have HQ := Aside0.mk HB.quick
  have HE := Aside0.mk her
  clear hT h HB her
  unfold stv at HN HR HQ
  unfold stv
  go_enter Tryd.func4, Tryd.ntmps4
  go_wp2_with fail
  have T0 := HT.out.keep (below_alloc (Below.refl _ w) (.cells (stc s) 24))
  refine (HN.out _ T0).mono ?_
  rintro e w1 ⟨rfl, hb1⟩
  have g0 := blk_below (blk_new w (.cells (stc s) 24)) hb1
  have hx : Below w.heap.size w w1 := ((below_alloc (Below.refl _ w) (.cells (stc s) 24)).trans (hb1.mono (below_alloc (Below.refl _ w) (.cells (stc s) 24)).size))
  have c0 := stcT_cell g0
  have G0 := Aside0.mk g0
  have HX := Aside0.mk hx
  clear hb1 T0 g0 hx
  go_wp2_with fail
  have G2 := Aside0.mk (show (w1.alloc (.cells (stc n) 24)).heap[w.heap.size]? = some (.cells (stc s) 24 (0, 0)) from blk_alloc G0.out _)
  have N2 := Aside0.mk (show (w1.alloc (.cells (stc n) 24)).heap[w1.heap.size]? = some (.cells (stc n) 24 (0, 0)) from blk_new w1 _)
  have X2 := Aside0.mk (show Below w.heap.size w (w1.alloc (.cells (stc n) 24)) from below_alloc HX.out _)
  have e2 : (w1.alloc (.cells #[.int .u32 (wd n.a), .int .u32 (wd n.b), .int .u32 (wd n.c), .int .u32 (wd n.d), .int .u32 (wd n.e), .int .u32 (wd n.f), .int .u32 (wd n.g), .int .u32 (wd n.h)] 24)) = w1.alloc (.cells (stc n) 24) := rfl
  rw [e2]
  generalize w1.alloc (.cells (stc n) 24) = w2 at *
  clear e2 c0
  go_cut [7, 8] (fun s7 s8 wc => ∃ B7 : Nat, s7 = .pointer (some ⟨B7, 0, none⟩) ∧ s8 = .int .i64 er ∧ wc.heap[B7]? = some (.cells (stc n) 23 (0, 0)) ∧ Below w2.heap.size w2 wc)
  case first =>
    have cS : ∀ w', Below w2.heap.size w2 w' → ∀ j, w'.cell? ⟨w.heap.size, j, none⟩ = #[Value.int .u32 (wd s.a), .int .u32 (wd s.b), .int .u32 (wd s.c), .int .u32 (wd s.d), .int .u32 (wd s.e), .int .u32 (wd s.f), .int .u32 (wd s.g), .int .u32 (wd s.h)][j]? := fun w' hw => stcT_cell (blk_below G2.out hw)
    have CS := Aside0.mk cS
    clear cS
    refine Rel.region_rel [7] (fun _ => .cells #[.int .u32 0, .int .u32 0, .int .u32 0, .int .u32 0, .int .u32 0, .int .u32 0, .int .u32 0, .int .u32 0] 23) (R4 s n er text) 8 [6] (by kernel_rfl) (by kernel_rfl) (by decide) (fun i hi v c a w h => by obtain rfl := List.mem_singleton.1 hi; exact h) (R4_later s n er text) ?_ ?_ ?_
    · intro i hi
      obtain rfl := List.mem_singleton.1 hi
      intro a w K hK
      unfold wpOp
      simp at hK
      go_simp
      exact .inl hK
    · simp only [List.take_succ_cons, List.take_zero]
      refine ⟨?_, ?_, ?_, ?_, ?_, ?_, ?_, ?_, trivial⟩
      · refine Rel.Upon.of [] (by kernel_rfl) ?_
        intro vals z hb hN hd
        simp only [Rel.rp]
        have c := CS.out z hb
        go_wp2_with fail
        exact ⟨Below.refl _ _, rfl⟩
      · refine Rel.Upon.of [] (by kernel_rfl) ?_
        intro vals z hb hN hd
        simp only [Rel.rp]
        go_wp2_with fail
        exact ⟨Below.refl _ _, rfl⟩
      · refine Rel.Upon.of [] (by kernel_rfl) ?_
        intro vals z hb hN hd
        simp only [Rel.rp]
        go_wp2_with fail
        refine (constants_calls z).mono ?_
        rintro e z2 ⟨B, o, c, rfl, hc, hB, hk, hb2⟩
        go_wp2_with fail
        exact ⟨B, o, c, rfl, hc, hB, hk⟩
      · refine Rel.Upon.of [0, 1, 2] (by kernel_rfl) ?_
        intro vals z hb hN hd
        simp only [Rel.ra] at hd
        obtain ⟨d0, d1, d2⟩ := hd
        replace d0 : vals 0 = stv s := d0
        replace d1 : vals 1 = .string text := d1
        replace d2 : Tb (vals 2) z := d2
        obtain ⟨B, o, c, e2, hc, hB, hk⟩ := d2
        simp only [Rel.rp, d0, d1, e2, stv]
        go_wp2_with fail
        refine (HR.out z B o c hc hB hk).mono ?_
        rintro e z2 ⟨rfl, hb2⟩
        go_wp2_with fail
        rfl
      · refine Rel.Upon.of [3] (by kernel_rfl) ?_
        intro vals z hb hN hd
        simp only [Rel.ra] at hd
        replace hd : vals 3 = .tuple #[stv n, .int .i64 er] := hd
        simp only [Rel.rp, hd, stv]
        go_wp2_with fail
        exact ⟨Below.refl _ _, rfl⟩
      · refine Rel.Upon.of [4] (by kernel_rfl) ?_
        intro vals z hb hN hd
        simp only [Rel.ra] at hd
        replace hd : vals 4 = .tuple #[stv n, .int .i64 er] := hd
        simp only [Rel.rp, hd, stv]
        go_wp2_with fail
        exact ⟨Below.refl _ _, rfl⟩
      · refine Rel.UponF.of [4] (by kernel_rfl) ?_
        intro vals z hb hN hd
        simp only [Rel.ra] at hd
        replace hd : vals 4 = .tuple #[stv n, .int .i64 er] := hd
        simp only [Rel.rp, hd, stv]
        refine ⟨.int .i64 er, .inl ⟨by rfl, fun w' => ?_⟩, rfl⟩
        go_simp
      · exact trivial
    · intro vals z hb hN hrel _
      have d0 : vals 0 = stv s := hrel 0 (by decide)
      have d1 : vals 1 = .string text := hrel 1 (by decide)
      have d3 : vals 3 = .tuple #[stv n, .int .i64 er] := hrel 3 (by decide)
      have d4 : vals 4 = .tuple #[stv n, .int .i64 er] := hrel 4 (by decide)
      have d5 : vals 5 = stv n := hrel 5 (by decide)
      have d6 : vals 6 = .int .i64 er := hrel 6 (by decide)
      obtain ⟨B7, d7, hB7, c7⟩ : ∃ A, vals 7 = .pointer (some ⟨A, 0, none⟩) ∧ w2.heap.size ≤ A ∧ z.heap[A]? = some (.cells #[.int .u32 0, .int .u32 0, .int .u32 0, .int .u32 0, .int .u32 0, .int .u32 0, .int .u32 0, .int .u32 0] 23) := hrel 7 (by decide)
      simp only [List.drop_succ_cons, List.drop_zero]
      rw [show List.range 8 = [0, 1, 2, 3, 4, 5, 6, 7] from rfl]
      generalize e2 : vals 2 = v2
      simp only [Rel.rp, d0, d1, d3, d4, d5, d6, d7, e2, stv]
      have cB : ∀ j, z.cell? ⟨B7, j, none⟩ = #[Value.int .u32 0, .int .u32 0, .int .u32 0, .int .u32 0, .int .u32 0, .int .u32 0, .int .u32 0, .int .u32 0][j]? := fun j => blk_cell c7 j
      have fB : ∀ j, z.frozen? ⟨B7, j, none⟩ = false := fun j => blk_frozen c7 j
      have C7 := Aside0.mk c7
      have ZB := Aside0.mk hb
      clear c7 hb hrel
      go_wp2_with fail
      go_meet
      have q : (put8V z B7 n).heap[B7]? = some (.cells (stc n) 23 (0, 0)) := put8V_self n C7.out
      have q2 : Below w2.heap.size w2 (put8V z B7 n) := put8V_below n ZB.out hB7
      exact ⟨B7, rfl, rfl, q, q2⟩
  case rest =>
    obtain ⟨B7, rfl, rfl, h7, hbc⟩ := hcut
    have hX : Below w.heap.size w wc := X2.out.trans (hbc.mono X2.out.size)
    have C7 := Aside0.mk h7
    have C0 := Aside0.mk (blk_below G2.out hbc)
    have C5 := Aside0.mk (blk_below N2.out hbc)
    have XC := Aside0.mk hX
    clear h7 hbc hX G2 N2 X2
    rcases HE.out with rfl | rfl
    · go_upto_region 5 with fail
      refine Rel.region_rel [] (fun _ => .cells #[] 0 (0, 0)) (R5 s n text) 9 [] (by kernel_rfl) (by kernel_rfl) (by decide) (fun i hi => by cases hi) (R5_later s n text) (fun i hi => by cases hi) ?_ ?_
      · simp only [List.take_succ_cons, List.take_zero]
        refine ⟨?_, ?_, ?_, ?_, ?_, ?_, ?_, ?_, ?_, trivial⟩
        · refine Rel.Upon.of [] (by kernel_rfl) ?_
          intro vals z hb hN hd
          simp only [Rel.rp, stv]
          go_wp2_with fail
          exact ⟨Below.refl _ _, rfl⟩
        · refine Rel.Upon.of [0] (by kernel_rfl) ?_
          intro vals z hb hN hd
          simp only [Rel.ra] at hd
          have d0 := hd
          replace d0 : vals 0 = .int .i64 0 := d0
          simp only [Rel.rp, d0, stv]
          go_wp2_with fail
          exact ⟨Below.refl _ _, rfl⟩
        · refine Rel.Upon.of [1] (by kernel_rfl) ?_
          intro vals z hb hN hd
          simp only [Rel.ra] at hd
          have d1 := hd
          replace d1 : vals 1 = .bool true := d1
          simp only [Rel.rp, d1, stv]
          go_wp2_with fail
          exact ⟨Below.refl _ _, rfl⟩
        · refine Rel.Upon.of [2] (by kernel_rfl) ?_
          intro vals z hb hN hd
          simp only [Rel.ra] at hd
          have d2 := hd
          replace d2 : vals 2 = .bool true := d2
          have c : ∀ j, z.cell? ⟨w.heap.size, j, none⟩ = #[Value.int .u32 (wd s.a), .int .u32 (wd s.b), .int .u32 (wd s.c), .int .u32 (wd s.d), .int .u32 (wd s.e), .int .u32 (wd s.f), .int .u32 (wd s.g), .int .u32 (wd s.h)][j]? := stcT_cell (blk_below C0.out hb)
          simp only [Rel.rp, d2, stv]
          go_wp2_with fail
          exact ⟨Below.refl _ _, rfl⟩
        · refine Rel.Upon.of [2] (by kernel_rfl) ?_
          intro vals z hb hN hd
          simp only [Rel.ra] at hd
          have d2 := hd
          replace d2 : vals 2 = .bool true := d2
          simp only [Rel.rp, d2, stv]
          go_wp2_with fail
          exact ⟨Below.refl _ _, rfl⟩
        · refine Rel.Upon.of [2] (by kernel_rfl) ?_
          intro vals z hb hN hd
          simp only [Rel.ra] at hd
          have d2 := hd
          replace d2 : vals 2 = .bool true := d2
          simp only [Rel.rp, d2]
          go_wp2_with fail
          refine (table_calls z).mono ?_
          rintro e z2 ⟨B, o, c, rfl, hc, hB, hk, hb2⟩
          go_wp2_with fail
          exact ⟨B, o, c, rfl, hc, hB, hk⟩
        · refine Rel.Upon.of [2, 3, 4, 5] (by kernel_rfl) ?_
          intro vals z hb hN hd
          simp only [Rel.ra] at hd
          obtain ⟨d2, d3, d4, d5⟩ := hd
          replace d2 : vals 2 = .bool true := d2
          replace d3 : vals 3 = stv s := d3
          replace d4 : vals 4 = .string text := d4
          replace d5 : Tb (vals 5) z := d5
          obtain ⟨B, o, c, e5, hc, hB, hk⟩ := d5
          simp only [Rel.rp, d2, d3, d4, e5, stv]
          go_wp2_with fail
          refine (HQ.out (by simp) z B o c hc hB hk).mono ?_
          rintro e z2 ⟨rfl, hb2⟩
          go_wp2_with fail
          rfl
        · refine Rel.Upon.of [2] (by kernel_rfl) ?_
          intro vals z hb hN hd
          simp only [Rel.ra] at hd
          have d2 := hd
          replace d2 : vals 2 = .bool true := d2
          have c : ∀ j, z.cell? ⟨B7, j, none⟩ = #[Value.int .u32 (wd n.a), .int .u32 (wd n.b), .int .u32 (wd n.c), .int .u32 (wd n.d), .int .u32 (wd n.e), .int .u32 (wd n.f), .int .u32 (wd n.g), .int .u32 (wd n.h)][j]? := stcT_cell (blk_below C7.out hb)
          simp only [Rel.rp, d2, stv]
          go_wp2_with fail
          exact ⟨Below.refl _ _, rfl⟩
        · refine Rel.Upon.of [2, 6, 7] (by kernel_rfl) ?_
          intro vals z hb hN hd
          simp only [Rel.ra] at hd
          obtain ⟨d2, d6, d7⟩ := hd
          replace d2 : vals 2 = .bool true := d2
          replace d6 : vals 6 = stv n := d6
          replace d7 : vals 7 = stv n := d7
          simp only [Rel.rp, d2, d6, d7, stv]
          go_wp2_with fail
          exact ⟨Below.refl _ _, rfl⟩
      · intro vals z hb hN hrel _
        have d0 : vals 0 = .int .i64 0 := hrel 0 (by decide)
        have d1 : vals 1 = .bool true := hrel 1 (by decide)
        have d2 : vals 2 = .bool true := hrel 2 (by decide)
        have d3 : vals 3 = stv s := hrel 3 (by decide)
        have d4 : vals 4 = .string text := hrel 4 (by decide)
        generalize e5 : vals 5 = v5
        have d6 : vals 6 = stv n := hrel 6 (by decide)
        have d7 : vals 7 = stv n := hrel 7 (by decide)
        have d8 : vals 8 = .bool false := hrel 8 (by decide)
        simp only [List.drop_succ_cons, List.drop_zero]
        rw [show List.range 9 = [0, 1, 2, 3, 4, 5, 6, 7, 8] from rfl]
        simp only [Rel.rp, d0, d1, d2, d3, d4, e5, d6, d7, d8, stv]
        have c7 : ∀ j, z.cell? ⟨B7, j, none⟩ = #[Value.int .u32 (wd n.a), .int .u32 (wd n.b), .int .u32 (wd n.c), .int .u32 (wd n.d), .int .u32 (wd n.e), .int .u32 (wd n.f), .int .u32 (wd n.g), .int .u32 (wd n.h)][j]? := stcT_cell (blk_below C7.out hb)
        have c5 : ∀ j, z.cell? ⟨w1.heap.size, j, none⟩ = #[Value.int .u32 (wd n.a), .int .u32 (wd n.b), .int .u32 (wd n.c), .int .u32 (wd n.d), .int .u32 (wd n.e), .int .u32 (wd n.f), .int .u32 (wd n.g), .int .u32 (wd n.h)][j]? := stcT_cell (blk_below C5.out hb)
        have ZX : Below w.heap.size w z := XC.out.trans (hb.mono XC.out.size)
        clear hrel hb
        go_wp2_with fail
        go_ret
        exact ⟨rfl, ZX⟩
    · go_upto_region 5 with fail
      refine Rel.region_rel [] (fun _ => .cells #[] 0 (0, 0)) R6 9 [] (by kernel_rfl) (by kernel_rfl) (by decide) (fun i hi => by cases hi) R6_later (fun i hi => by cases hi) ?_ ?_
      · simp only [List.take_succ_cons, List.take_zero]
        refine ⟨?_, ?_, ?_, ?_, ?_, ?_, ?_, ?_, ?_, trivial⟩
        · refine Rel.Upon.of [] (by kernel_rfl) ?_
          intro vals z hb hN hd
          simp only [Rel.rp, stv]
          go_wp2_with fail
          exact ⟨Below.refl _ _, rfl⟩
        · refine Rel.Upon.of [0] (by kernel_rfl) ?_
          intro vals z hb hN hd
          simp only [Rel.ra] at hd
          have d0 := hd
          replace d0 : vals 0 = .int .i64 2 := d0
          simp only [Rel.rp, d0, stv]
          go_wp2_with fail
          exact ⟨Below.refl _ _, rfl⟩
        · refine Rel.Upon.of [1] (by kernel_rfl) ?_
          intro vals z hb hN hd
          simp only [Rel.ra] at hd
          have d1 := hd
          replace d1 : vals 1 = .bool false := d1
          simp only [Rel.rp, d1, stv]
          go_wp2_with fail
          exact ⟨Below.refl _ _, rfl⟩
        · refine Rel.Upon.of [2] (by kernel_rfl) ?_
          intro vals z hb hN hd
          simp only [Rel.ra] at hd
          have d2 := hd
          replace d2 : vals 2 = .bool false := d2
          simp only [Rel.rp, d2, stv]
          go_wp2_with fail
          exact ⟨Below.refl _ _, rfl⟩
        · refine Rel.Upon.of [2] (by kernel_rfl) ?_
          intro vals z hb hN hd
          simp only [Rel.ra] at hd
          have d2 := hd
          replace d2 : vals 2 = .bool false := d2
          simp only [Rel.rp, d2, stv]
          go_wp2_with fail
          exact ⟨Below.refl _ _, rfl⟩
        · refine Rel.Upon.of [2] (by kernel_rfl) ?_
          intro vals z hb hN hd
          simp only [Rel.ra] at hd
          have d2 := hd
          replace d2 : vals 2 = .bool false := d2
          simp only [Rel.rp, d2, stv]
          go_wp2_with fail
          exact ⟨Below.refl _ _, rfl⟩
        · refine Rel.Upon.of [2, 3, 4, 5] (by kernel_rfl) ?_
          intro vals z hb hN hd
          simp only [Rel.ra] at hd
          obtain ⟨d2, d3, d4, d5⟩ := hd
          replace d2 : vals 2 = .bool false := d2
          replace d3 : vals 3 = undef := d3
          replace d4 : vals 4 = undef := d4
          replace d5 : vals 5 = undef := d5
          simp only [Rel.rp, d2, d3, d4, d5, stv]
          go_wp2_with fail
          exact ⟨Below.refl _ _, rfl⟩
        · refine Rel.Upon.of [2] (by kernel_rfl) ?_
          intro vals z hb hN hd
          simp only [Rel.ra] at hd
          have d2 := hd
          replace d2 : vals 2 = .bool false := d2
          simp only [Rel.rp, d2, stv]
          go_wp2_with fail
          exact ⟨Below.refl _ _, rfl⟩
        · refine Rel.Upon.of [2, 6, 7] (by kernel_rfl) ?_
          intro vals z hb hN hd
          simp only [Rel.ra] at hd
          obtain ⟨d2, d6, d7⟩ := hd
          replace d2 : vals 2 = .bool false := d2
          replace d6 : vals 6 = undef := d6
          replace d7 : vals 7 = undef := d7
          simp only [Rel.rp, d2, d6, d7, stv]
          go_wp2_with fail
          exact ⟨Below.refl _ _, rfl⟩
      · intro vals z hb hN hrel _
        have d0 : vals 0 = .int .i64 2 := hrel 0 (by decide)
        have d1 : vals 1 = .bool false := hrel 1 (by decide)
        have d2 : vals 2 = .bool false := hrel 2 (by decide)
        have d3 : vals 3 = undef := hrel 3 (by decide)
        have d4 : vals 4 = undef := hrel 4 (by decide)
        have d5 : vals 5 = undef := hrel 5 (by decide)
        have d6 : vals 6 = undef := hrel 6 (by decide)
        have d7 : vals 7 = undef := hrel 7 (by decide)
        have d8 : vals 8 = undef := hrel 8 (by decide)
        simp only [List.drop_succ_cons, List.drop_zero]
        rw [show List.range 9 = [0, 1, 2, 3, 4, 5, 6, 7, 8] from rfl]
        simp only [Rel.rp, d0, d1, d2, d3, d4, d5, d6, d7, d8, stv]
        have c7 : ∀ j, z.cell? ⟨B7, j, none⟩ = #[Value.int .u32 (wd n.a), .int .u32 (wd n.b), .int .u32 (wd n.c), .int .u32 (wd n.d), .int .u32 (wd n.e), .int .u32 (wd n.f), .int .u32 (wd n.g), .int .u32 (wd n.h)][j]? := stcT_cell (blk_below C7.out hb)
        have c5 : ∀ j, z.cell? ⟨w1.heap.size, j, none⟩ = #[Value.int .u32 (wd n.a), .int .u32 (wd n.b), .int .u32 (wd n.c), .int .u32 (wd n.d), .int .u32 (wd n.e), .int .u32 (wd n.f), .int .u32 (wd n.g), .int .u32 (wd n.h)][j]? := stcT_cell (blk_below C5.out hb)
        have ZX : Below w.heap.size w z := XC.out.trans (hb.mono XC.out.size)
        clear hrel hb
        go_wp2_with fail
        go_ret
        exact ⟨rfl, ZX⟩
theorem next_row (s : St) (text : ByteArray) (hm : text.size ≤ 140737488351232) (w : World) (hT : Tab w) :
    Calls Tryd.prog 4 #[stv s, .string text] w fun e w' => e = .returned (.bool true) ∧ Below w.heap.size w w' := by
  by_cases h : text.size ≤ 200
  · exact nextlaw_law s text h w hT
  · exact next_long s text (by omega) hm w
end Go.Proofs.YtobgcjfelegpkaaDoor.Blk
