/- Whether a rune may be an Id's (strings.ContainsRune at every rune). -/
import Derived.Test.YtomninikmcmmcaaDoorIdA
import Derived.Test.YtomninikmcmmcaaDoorWWords
import Derived.WalkKit
import Derived.Scope
import Derived.Laws.Runes
import Derived.Deep.LoopGhost
import Derived.Test.YtomninikmcmmcaaDoorRel
namespace Go.Proofs.YtomninikmcmmcaaDoor.Ids
open Go Go.RowKit Go.Proofs.YtomninikmcmmcaaDoorW.PrintWords
set_option linter.unusedVariables false
set_option linter.unusedSimpArgs false

def v6_1 (x0 x1 : UInt8) : Nat → Value
  | 0 => .string ⟨#[46, 95, 45]⟩
  | 1 => .int .i64 1
  | 2 => .int .u8 95
  | 3 => .string ⟨#[x0, x1]⟩
  | 4 => .int .i64 1
  | 5 => .int .u8 (x1.toNat : Int)
  | 6 => .bool true
  | _ => .bool false
def v7_1 (x0 x1 : UInt8) : Nat → Value
  | 0 => .string ⟨#[46, 95, 45]⟩
  | 1 => .int .i64 1
  | 2 => .int .i64 2
  | 3 => .string ⟨#[45]⟩
  | 4 => .string ⟨#[x0, x1]⟩
  | 5 => .int .i64 1
  | 6 => .int .u8 (x1.toNat : Int)
  | 7 => .int .i64 (-1)
  | 8 => .int .i64 (-1)
  | _ => .bool false

def v6_2 (x0 x1 x2 : UInt8) : Nat → Value
  | 0 => .string ⟨#[46, 95, 45]⟩
  | 1 => .int .i64 2
  | 2 => .int .u8 45
  | 3 => .string ⟨#[x0, x1, x2]⟩
  | 4 => .int .i64 2
  | 5 => .int .u8 (x2.toNat : Int)
  | 6 => .bool true
  | _ => .bool false
def v7_2 (x0 x1 x2 : UInt8) : Nat → Value
  | 0 => .string ⟨#[46, 95, 45]⟩
  | 1 => .int .i64 2
  | 2 => .int .i64 3
  | 3 => .string ⟨#[]⟩
  | 4 => .string ⟨#[x0, x1, x2]⟩
  | 5 => .int .i64 2
  | 6 => .int .u8 (x2.toNat : Int)
  | 7 => .int .i64 (-1)
  | 8 => .int .i64 (-1)
  | _ => .bool false

theorem ba2 (E : ByteArray) (h : E.size = 2) : ∃ x0 x1, E = ⟨#[x0, x1]⟩ := by
  obtain ⟨⟨l⟩⟩ := E
  match l, h with
  | [a, b], _ => exact ⟨a, b, rfl⟩
theorem ba3 (E : ByteArray) (h : E.size = 3) : ∃ x0 x1 x2, E = ⟨#[x0, x1, x2]⟩ := by
  obtain ⟨⟨l⟩⟩ := E
  match l, h with
  | [a, b, c], _ => exact ⟨a, b, c, rfl⟩
theorem ba4 (E : ByteArray) (h : E.size = 4) : ∃ x0 x1 x2 x3, E = ⟨#[x0, x1, x2, x3]⟩ := by
  obtain ⟨⟨l⟩⟩ := E
  match l, h with
  | [a, b, c, d], _ => exact ⟨a, b, c, d, rfl⟩
theorem ib45 (x : UInt8) (h : 128 ≤ x.toNat) : Lib.indexByte [45] x = -1 := by
  have : (45 == x) = false := by
    rw [beq_eq_false_iff_ne]
    rintro rfl
    revert h
    decide
  simp [Lib.indexByte, this]

set_option maxHeartbeats 4000000 in
set_option maxRecDepth 100000 in
theorem index_high (c : Int) (h0 : 128 ≤ c) (h1 : c ≤ 2147483647) (h3 : c ≠ 65533) (w : World) :
    Calls Tryd.prog 106 #[.string ⟨#[46, 95, 45]⟩, .int .i32 c] w fun e w' => e = .returned (.int .i64 (-1)) ∧ Below w.heap.size w w' := by
  have HV := Aside0.mk (fun w => Tryd.validRune_h c w)
  have h4 : (c == 65533) = false := by rw [beq_eq_false_iff_ne]; exact h3
  have h5 : ¬ c < 128 := by omega
  go_enter Tryd.func106, Tryd.ntmps106
  go_wp2_with fail
  refine (HV.out _).mono ?_
  rintro e w1 ⟨rfl, rfl⟩
  cases hv : Lib.validRune c
  · go_wp2_with fail
    go_ret
    exact ⟨rfl, Below.refl _ _⟩
  · go_wp2_with fail
    have hval : Utf8.valid c = true := by
      revert hv
      unfold Lib.validRune Utf8.valid
      simp
      try omega
    obtain ⟨e1, e2, e3⟩ := encode_facts c hval h0
    obtain ⟨E, hE⟩ : ∃ E, Utf8.encode c = E := ⟨_, rfl⟩
    rw [hE] at e1 e2 e3
    refine wp_scope_straight ?_
    clear hval hv h4 h5 h0 h1 h3 HV
    rcases (show E.size = 2 ∨ E.size = 3 ∨ E.size = 4 by omega) with hz | hz | hz
    · obtain ⟨x0, x1, rfl⟩ := ba2 E hz
      have hx : 128 ≤ x1.toNat := e3 (by show (1 : Nat) < 2; decide)
      have hxl : x1.toNat < 256 := x1.toNat_lt
      clear e1 e2 e3 hz
      have hsz : (⟨#[x0, x1]⟩ : ByteArray).size = 2 := rfl
      go_wp2_with fail
      go_loopg [9] 1 (fun k v wr => k = 1 ∧ v = .int .i64 1 ∧ Below w1.heap.size w1 wr)
      case atStart => exact ⟨rfl, rfl, Below.refl _ _⟩
      case round =>
        obtain ⟨hk, rfl, hbw⟩ := hrel
        go_wp2_with fail
        have HI := Aside0.mk (fun w => Tryd.indexByte_h ⟨#[45]⟩ (x1.toNat : Int) w)
        rw [show Lib.indexByte (⟨#[45]⟩ : ByteArray).data.toList ((x1.toNat : Int)).toNat.toUInt8 = -1 from by rw [Int.toNat_natCast]; rw [show x1.toNat.toUInt8 = x1 from by simp]; exact ib45 _ hx] at HI
        refine wp_scope_straight ?_
        go_wp2_with fail
        refine Rel.region_rel [] (fun _ => .cells #[] 0 (0, 0)) (fun j v _ => v = v6_1 x0 x1 j) 7 [] (by kernel_rfl) (by kernel_rfl) (by decide) (fun i hi => by cases hi) (fun _ _ _ _ h _ => h) (fun i hi => by cases hi) ?_ ?_
        · simp only [List.take_succ_cons, List.take_zero]
          refine ⟨?_, ?_, ?_, ?_, ?_, ?_, ?_, trivial⟩
          · refine Rel.Upon.of [] (by kernel_rfl) ?_
            intro vals z hb hN hd
            simp only [Rel.rp]
            go_wp2_with fail
            exact ⟨Below.refl _ _, rfl⟩
          · refine Rel.Upon.of [] (by kernel_rfl) ?_
            intro vals z hb hN hd
            simp only [Rel.rp]
            go_wp2_with fail
            exact ⟨Below.refl _ _, rfl⟩
          · refine Rel.Upon.of [0, 1] (by kernel_rfl) ?_
            intro vals z hb hN hd
            simp only [Rel.ra] at hd
            obtain ⟨d0, d1⟩ := hd
            replace d0 : vals 0 = .string ⟨#[46, 95, 45]⟩ := d0
            replace d1 : vals 1 = .int .i64 1 := d1
            simp only [Rel.rp, d0, d1]
            go_wp2_with fail
            exact ⟨Below.refl _ _, rfl⟩
          · refine Rel.Upon.of [] (by kernel_rfl) ?_
            intro vals z hb hN hd
            simp only [Rel.rp]
            go_wp2_with fail
            exact ⟨Below.refl _ _, rfl⟩
          · refine Rel.Upon.of [] (by kernel_rfl) ?_
            intro vals z hb hN hd
            simp only [Rel.rp]
            go_wp2_with fail
            exact ⟨Below.refl _ _, rfl⟩
          · refine Rel.Upon.of [3, 4] (by kernel_rfl) ?_
            intro vals z hb hN hd
            simp only [Rel.ra] at hd
            obtain ⟨d3, d4⟩ := hd
            replace d3 : vals 3 = .string ⟨#[x0, x1]⟩ := d3
            replace d4 : vals 4 = .int .i64 1 := d4
            simp only [Rel.rp, d3, d4]
            go_wp2_with fail
            exact ⟨Below.refl _ _, rfl⟩
          · refine Rel.Upon.of [2, 5] (by kernel_rfl) ?_
            intro vals z hb hN hd
            simp only [Rel.ra] at hd
            obtain ⟨d2, d5⟩ := hd
            replace d2 : vals 2 = .int .u8 95 := d2
            replace d5 : vals 5 = .int .u8 (x1.toNat : Int) := d5
            have hne : ((95 : Int) != (x1.toNat : Int)) = true := by rw [bne_iff_ne]; omega
            simp only [Rel.rp, d2, d5]
            go_wp2_with fail
            exact ⟨Below.refl _ _, rfl⟩
        · intro vals wf hb hN hrel _
          have d0 : vals 0 = .string ⟨#[46, 95, 45]⟩ := hrel 0 (by decide)
          have d1 : vals 1 = .int .i64 1 := hrel 1 (by decide)
          have d2 : vals 2 = .int .u8 95 := hrel 2 (by decide)
          have d3 : vals 3 = .string ⟨#[x0, x1]⟩ := hrel 3 (by decide)
          have d4 : vals 4 = .int .i64 1 := hrel 4 (by decide)
          have d5 : vals 5 = .int .u8 (x1.toNat : Int) := hrel 5 (by decide)
          have d6 : vals 6 = .bool true := hrel 6 (by decide)
          simp only [List.drop_succ_cons, List.drop_zero]
          rw [show List.range 7 = [0, 1, 2, 3, 4, 5, 6] from rfl]
          simp only [Rel.rp, d0, d1, d2, d3, d4, d5, d6]
          clear hrel hN
          have hb6 := hbw.trans (hb.mono hbw.size)
          clear hb hbw
          go_wp2_with fail
          refine Rel.region_rel [] (fun _ => .cells #[] 0 (0, 0)) (fun j v _ => v = v7_1 x0 x1 j) 9 [] (by kernel_rfl) (by kernel_rfl) (by decide) (fun i hi => by cases hi) (fun _ _ _ _ h _ => h) (fun i hi => by cases hi) ?_ ?_
          · simp only [List.take_succ_cons, List.take_zero]
            refine ⟨?_, ?_, ?_, ?_, ?_, ?_, ?_, ?_, ?_, trivial⟩
            · refine Rel.Upon.of [] (by kernel_rfl) ?_
              intro vals z hb hN hd
              simp only [Rel.rp]
              go_wp2_with fail
              exact ⟨Below.refl _ _, rfl⟩
            · refine Rel.Upon.of [] (by kernel_rfl) ?_
              intro vals z hb hN hd
              simp only [Rel.rp]
              go_wp2_with fail
              exact ⟨Below.refl _ _, rfl⟩
            · refine Rel.Upon.of [1] (by kernel_rfl) ?_
              intro vals z hb hN hd
              simp only [Rel.ra] at hd
              have d1 := hd
              replace d1 : vals 1 = .int .i64 1 := d1
              simp only [Rel.rp, d1]
              go_wp2_with fail
              exact ⟨Below.refl _ _, rfl⟩
            · refine Rel.Upon.of [0, 2] (by kernel_rfl) ?_
              intro vals z hb hN hd
              simp only [Rel.ra] at hd
              obtain ⟨d0, d2⟩ := hd
              replace d0 : vals 0 = .string ⟨#[46, 95, 45]⟩ := d0
              replace d2 : vals 2 = .int .i64 2 := d2
              simp only [Rel.rp, d0, d2]
              go_wp2_with fail
              exact ⟨Below.refl _ _, rfl⟩
            · refine Rel.Upon.of [] (by kernel_rfl) ?_
              intro vals z hb hN hd
              simp only [Rel.rp]
              go_wp2_with fail
              exact ⟨Below.refl _ _, rfl⟩
            · refine Rel.Upon.of [] (by kernel_rfl) ?_
              intro vals z hb hN hd
              simp only [Rel.rp]
              go_wp2_with fail
              exact ⟨Below.refl _ _, rfl⟩
            · refine Rel.Upon.of [4, 5] (by kernel_rfl) ?_
              intro vals z hb hN hd
              simp only [Rel.ra] at hd
              obtain ⟨d4, d5⟩ := hd
              replace d4 : vals 4 = .string ⟨#[x0, x1]⟩ := d4
              replace d5 : vals 5 = .int .i64 1 := d5
              simp only [Rel.rp, d4, d5]
              go_wp2_with fail
              exact ⟨Below.refl _ _, rfl⟩
            · refine Rel.Upon.of [3, 6] (by kernel_rfl) ?_
              intro vals z hb hN hd
              simp only [Rel.ra] at hd
              obtain ⟨d3, d6⟩ := hd
              replace d3 : vals 3 = .string ⟨#[45]⟩ := d3
              replace d6 : vals 6 = .int .u8 (x1.toNat : Int) := d6
              simp only [Rel.rp, d3, d6]
              go_wp2_with fail
              refine (HI.out _).mono ?_; rintro e z1 ⟨rfl, rfl⟩
              go_wp2_with fail
              exact ⟨Below.refl _ _, rfl⟩
            · refine Rel.Upon.of [7] (by kernel_rfl) ?_
              intro vals z hb hN hd
              simp only [Rel.ra] at hd
              have d7 := hd
              replace d7 : vals 7 = .int .i64 (-1) := d7
              simp only [Rel.rp, d7]
              go_wp2_with fail
              exact ⟨Below.refl _ _, rfl⟩
          · intro vals wf hb hN hrel _
            have d0 : vals 0 = .string ⟨#[46, 95, 45]⟩ := hrel 0 (by decide)
            have d1 : vals 1 = .int .i64 1 := hrel 1 (by decide)
            have d2 : vals 2 = .int .i64 2 := hrel 2 (by decide)
            have d3 : vals 3 = .string ⟨#[45]⟩ := hrel 3 (by decide)
            have d4 : vals 4 = .string ⟨#[x0, x1]⟩ := hrel 4 (by decide)
            have d5 : vals 5 = .int .i64 1 := hrel 5 (by decide)
            have d6 : vals 6 = .int .u8 (x1.toNat : Int) := hrel 6 (by decide)
            have d7 : vals 7 = .int .i64 (-1) := hrel 7 (by decide)
            have d8 : vals 8 = .int .i64 (-1) := hrel 8 (by decide)
            simp only [List.drop_succ_cons, List.drop_zero]
            rw [show List.range 9 = [0, 1, 2, 3, 4, 5, 6, 7, 8] from rfl]
            simp only [Rel.rp, d0, d1, d2, d3, d4, d5, d6, d7, d8]
            clear hrel hN
            have hb7 := hb6.trans (hb.mono hb6.size)
            clear hb hb6
            go_wp2_with fail
            unfold Exit.noGoto Exit.inBlock
            go_ret
            exact ⟨rfl, hb7⟩
    · obtain ⟨x0, x1, x2, rfl⟩ := ba3 E hz
      have hx : 128 ≤ x2.toNat := e3 (by show (2 : Nat) < 3; decide)
      have hxl : x2.toNat < 256 := x2.toNat_lt
      clear e1 e2 e3 hz
      have hsz : (⟨#[x0, x1, x2]⟩ : ByteArray).size = 3 := rfl
      go_wp2_with fail
      go_loopg [9] 1 (fun k v wr => k = 1 ∧ v = .int .i64 2 ∧ Below w1.heap.size w1 wr)
      case atStart => exact ⟨rfl, rfl, Below.refl _ _⟩
      case round =>
        obtain ⟨hk, rfl, hbw⟩ := hrel
        go_wp2_with fail
        have HI := Aside0.mk (fun w => Tryd.indexByte_h ⟨#[]⟩ (x2.toNat : Int) w)
        rw [show Lib.indexByte (⟨#[]⟩ : ByteArray).data.toList ((x2.toNat : Int)).toNat.toUInt8 = -1 from by rw [Int.toNat_natCast]; rfl] at HI
        refine wp_scope_straight ?_
        go_wp2_with fail
        refine Rel.region_rel [] (fun _ => .cells #[] 0 (0, 0)) (fun j v _ => v = v6_2 x0 x1 x2 j) 7 [] (by kernel_rfl) (by kernel_rfl) (by decide) (fun i hi => by cases hi) (fun _ _ _ _ h _ => h) (fun i hi => by cases hi) ?_ ?_
        · simp only [List.take_succ_cons, List.take_zero]
          refine ⟨?_, ?_, ?_, ?_, ?_, ?_, ?_, trivial⟩
          · refine Rel.Upon.of [] (by kernel_rfl) ?_
            intro vals z hb hN hd
            simp only [Rel.rp]
            go_wp2_with fail
            exact ⟨Below.refl _ _, rfl⟩
          · refine Rel.Upon.of [] (by kernel_rfl) ?_
            intro vals z hb hN hd
            simp only [Rel.rp]
            go_wp2_with fail
            exact ⟨Below.refl _ _, rfl⟩
          · refine Rel.Upon.of [0, 1] (by kernel_rfl) ?_
            intro vals z hb hN hd
            simp only [Rel.ra] at hd
            obtain ⟨d0, d1⟩ := hd
            replace d0 : vals 0 = .string ⟨#[46, 95, 45]⟩ := d0
            replace d1 : vals 1 = .int .i64 2 := d1
            simp only [Rel.rp, d0, d1]
            go_wp2_with fail
            exact ⟨Below.refl _ _, rfl⟩
          · refine Rel.Upon.of [] (by kernel_rfl) ?_
            intro vals z hb hN hd
            simp only [Rel.rp]
            go_wp2_with fail
            exact ⟨Below.refl _ _, rfl⟩
          · refine Rel.Upon.of [] (by kernel_rfl) ?_
            intro vals z hb hN hd
            simp only [Rel.rp]
            go_wp2_with fail
            exact ⟨Below.refl _ _, rfl⟩
          · refine Rel.Upon.of [3, 4] (by kernel_rfl) ?_
            intro vals z hb hN hd
            simp only [Rel.ra] at hd
            obtain ⟨d3, d4⟩ := hd
            replace d3 : vals 3 = .string ⟨#[x0, x1, x2]⟩ := d3
            replace d4 : vals 4 = .int .i64 2 := d4
            simp only [Rel.rp, d3, d4]
            go_wp2_with fail
            exact ⟨Below.refl _ _, rfl⟩
          · refine Rel.Upon.of [2, 5] (by kernel_rfl) ?_
            intro vals z hb hN hd
            simp only [Rel.ra] at hd
            obtain ⟨d2, d5⟩ := hd
            replace d2 : vals 2 = .int .u8 45 := d2
            replace d5 : vals 5 = .int .u8 (x2.toNat : Int) := d5
            have hne : ((45 : Int) != (x2.toNat : Int)) = true := by rw [bne_iff_ne]; omega
            simp only [Rel.rp, d2, d5]
            go_wp2_with fail
            exact ⟨Below.refl _ _, rfl⟩
        · intro vals wf hb hN hrel _
          have d0 : vals 0 = .string ⟨#[46, 95, 45]⟩ := hrel 0 (by decide)
          have d1 : vals 1 = .int .i64 2 := hrel 1 (by decide)
          have d2 : vals 2 = .int .u8 45 := hrel 2 (by decide)
          have d3 : vals 3 = .string ⟨#[x0, x1, x2]⟩ := hrel 3 (by decide)
          have d4 : vals 4 = .int .i64 2 := hrel 4 (by decide)
          have d5 : vals 5 = .int .u8 (x2.toNat : Int) := hrel 5 (by decide)
          have d6 : vals 6 = .bool true := hrel 6 (by decide)
          simp only [List.drop_succ_cons, List.drop_zero]
          rw [show List.range 7 = [0, 1, 2, 3, 4, 5, 6] from rfl]
          simp only [Rel.rp, d0, d1, d2, d3, d4, d5, d6]
          clear hrel hN
          have hb6 := hbw.trans (hb.mono hbw.size)
          clear hb hbw
          go_wp2_with fail
          refine Rel.region_rel [] (fun _ => .cells #[] 0 (0, 0)) (fun j v _ => v = v7_2 x0 x1 x2 j) 9 [] (by kernel_rfl) (by kernel_rfl) (by decide) (fun i hi => by cases hi) (fun _ _ _ _ h _ => h) (fun i hi => by cases hi) ?_ ?_
          · simp only [List.take_succ_cons, List.take_zero]
            refine ⟨?_, ?_, ?_, ?_, ?_, ?_, ?_, ?_, ?_, trivial⟩
            · refine Rel.Upon.of [] (by kernel_rfl) ?_
              intro vals z hb hN hd
              simp only [Rel.rp]
              go_wp2_with fail
              exact ⟨Below.refl _ _, rfl⟩
            · refine Rel.Upon.of [] (by kernel_rfl) ?_
              intro vals z hb hN hd
              simp only [Rel.rp]
              go_wp2_with fail
              exact ⟨Below.refl _ _, rfl⟩
            · refine Rel.Upon.of [1] (by kernel_rfl) ?_
              intro vals z hb hN hd
              simp only [Rel.ra] at hd
              have d1 := hd
              replace d1 : vals 1 = .int .i64 2 := d1
              simp only [Rel.rp, d1]
              go_wp2_with fail
              exact ⟨Below.refl _ _, rfl⟩
            · refine Rel.Upon.of [0, 2] (by kernel_rfl) ?_
              intro vals z hb hN hd
              simp only [Rel.ra] at hd
              obtain ⟨d0, d2⟩ := hd
              replace d0 : vals 0 = .string ⟨#[46, 95, 45]⟩ := d0
              replace d2 : vals 2 = .int .i64 3 := d2
              simp only [Rel.rp, d0, d2]
              go_wp2_with fail
              exact ⟨Below.refl _ _, rfl⟩
            · refine Rel.Upon.of [] (by kernel_rfl) ?_
              intro vals z hb hN hd
              simp only [Rel.rp]
              go_wp2_with fail
              exact ⟨Below.refl _ _, rfl⟩
            · refine Rel.Upon.of [] (by kernel_rfl) ?_
              intro vals z hb hN hd
              simp only [Rel.rp]
              go_wp2_with fail
              exact ⟨Below.refl _ _, rfl⟩
            · refine Rel.Upon.of [4, 5] (by kernel_rfl) ?_
              intro vals z hb hN hd
              simp only [Rel.ra] at hd
              obtain ⟨d4, d5⟩ := hd
              replace d4 : vals 4 = .string ⟨#[x0, x1, x2]⟩ := d4
              replace d5 : vals 5 = .int .i64 2 := d5
              simp only [Rel.rp, d4, d5]
              go_wp2_with fail
              exact ⟨Below.refl _ _, rfl⟩
            · refine Rel.Upon.of [3, 6] (by kernel_rfl) ?_
              intro vals z hb hN hd
              simp only [Rel.ra] at hd
              obtain ⟨d3, d6⟩ := hd
              replace d3 : vals 3 = .string ⟨#[]⟩ := d3
              replace d6 : vals 6 = .int .u8 (x2.toNat : Int) := d6
              simp only [Rel.rp, d3, d6]
              go_wp2_with fail
              refine (HI.out _).mono ?_; rintro e z1 ⟨rfl, rfl⟩
              go_wp2_with fail
              exact ⟨Below.refl _ _, rfl⟩
            · refine Rel.Upon.of [7] (by kernel_rfl) ?_
              intro vals z hb hN hd
              simp only [Rel.ra] at hd
              have d7 := hd
              replace d7 : vals 7 = .int .i64 (-1) := d7
              simp only [Rel.rp, d7]
              go_wp2_with fail
              exact ⟨Below.refl _ _, rfl⟩
          · intro vals wf hb hN hrel _
            have d0 : vals 0 = .string ⟨#[46, 95, 45]⟩ := hrel 0 (by decide)
            have d1 : vals 1 = .int .i64 2 := hrel 1 (by decide)
            have d2 : vals 2 = .int .i64 3 := hrel 2 (by decide)
            have d3 : vals 3 = .string ⟨#[]⟩ := hrel 3 (by decide)
            have d4 : vals 4 = .string ⟨#[x0, x1, x2]⟩ := hrel 4 (by decide)
            have d5 : vals 5 = .int .i64 2 := hrel 5 (by decide)
            have d6 : vals 6 = .int .u8 (x2.toNat : Int) := hrel 6 (by decide)
            have d7 : vals 7 = .int .i64 (-1) := hrel 7 (by decide)
            have d8 : vals 8 = .int .i64 (-1) := hrel 8 (by decide)
            simp only [List.drop_succ_cons, List.drop_zero]
            rw [show List.range 9 = [0, 1, 2, 3, 4, 5, 6, 7, 8] from rfl]
            simp only [Rel.rp, d0, d1, d2, d3, d4, d5, d6, d7, d8]
            clear hrel hN
            have hb7 := hb6.trans (hb.mono hb6.size)
            clear hb hb6
            go_wp2_with fail
            unfold Exit.noGoto Exit.inBlock
            go_ret
            exact ⟨rfl, hb7⟩
    · obtain ⟨x0, x1, x2, x3, rfl⟩ := ba4 E hz
      have hx : 128 ≤ x3.toNat := e3 (by show (3 : Nat) < 4; decide)
      have hxl : x3.toNat < 256 := x3.toNat_lt
      clear e1 e2 e3 hz
      have hsz : (⟨#[x0, x1, x2, x3]⟩ : ByteArray).size = 4 := rfl
      go_wp2_with fail
      go_loopg [9] 1 (fun k v wr => k = 1 ∧ v = .int .i64 3 ∧ Below w1.heap.size w1 wr)
      case atStart => exact ⟨rfl, rfl, Below.refl _ _⟩
      case round =>
        obtain ⟨hk, rfl, hbw⟩ := hrel
        go_wp2_with fail
        unfold Exit.noGoto Exit.inBlock
        go_ret
        exact ⟨rfl, hbw⟩
end Go.Proofs.YtomninikmcmmcaaDoor.Ids

