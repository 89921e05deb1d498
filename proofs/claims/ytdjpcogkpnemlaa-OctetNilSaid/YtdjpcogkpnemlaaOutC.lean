/- The law's write of a thing. -/
import Derived.Test.YtdjpcogkpnemlaaOutB
namespace Go.Proofs.Ytdjpcogkpnemlaa.Oct
open Go.RowKit Go.Proofs.YtdjpcogkpnemlaaW.PrintWords
set_option linter.unusedVariables false
set_option linter.unusedSimpArgs false
/-- A thing's bytes. -/
def thingEnc (kind hi lo : Nat) (s : ByteArray) : ByteArray :=
  if kind % 5 = 0 then ⟨#[UInt8.ofNat lo]⟩ else if kind % 5 = 1 then wideEnc 0 lo else if kind % 5 = 2 then wideEnc hi lo else if kind % 5 = 3 then ⟨#[flagB (lo % 2 == 1)]⟩ else textEnc s
def thV (kind hi lo : Nat) (s : ByteArray) (most : Int) : Value := .agg #[.int .u8 kind, .int .u64 hi, .int .u64 lo, .string s, .int .i64 most]
set_option maxHeartbeats 4000000 in
set_option maxRecDepth 100000 in
theorem write_gen (p : Value) (Y : World → Prop) (kind hi lo : Nat) (hk : kind < 256) (s : ByteArray) (most : Int) (w : World)
    (h0 : kind % 5 = 0 → ∀ z, Below w.heap.size w z → Calls Try.prog 44 #[p, .int .u8 ((lo : Int) % 256)] z fun e w' => e = .returned (.tuple #[]) ∧ Y w')
    (h1 : kind % 5 = 1 → ∀ z, Below w.heap.size w z → Calls Try.prog 42 #[p, .int .u64 lo] z fun e w' => e = .returned (.tuple #[]) ∧ Y w')
    (h2 : kind % 5 = 2 → ∀ z, Below w.heap.size w z → Calls Try.prog 45 #[p, .agg #[.int .u64 hi, .int .u64 lo]] z fun e w' => e = .returned (.tuple #[]) ∧ Y w')
    (h3 : kind % 5 = 3 → ∀ z, Below w.heap.size w z → Calls Try.prog 46 #[p, .bool (decide ((lo : Int) % 2 = 1))] z fun e w' => e = .returned (.tuple #[]) ∧ Y w')
    (h4 : kind % 5 = 4 → ∀ z, Below w.heap.size w z → Calls Try.prog 16 #[p, .string s] z fun e w' => e = .returned (.tuple #[]) ∧ Y w') :
    Calls Try.prog 18 #[p, thV kind hi lo s most] w fun e w' => e = .returned (.tuple #[]) ∧ Y w' := by
  have gA := blk_new w (.cells #[.int .u8 kind, .int .u64 hi, .int .u64 lo, .string s, .int .i64 most] 48)
  have hb0 : Below w.heap.size w (w.alloc (.cells #[.int .u8 kind, .int .u64 hi, .int .u64 lo, .string s, .int .i64 most] 48)) := (Below.refl _ _).alloc (Nat.le_refl _) _
  have H0 := Aside0.mk (fun h => h0 h _ hb0)
  have H1 := Aside0.mk (fun h => h1 h _ hb0)
  have H2 := Aside0.mk (fun h => h2 h _ hb0)
  have H3 := Aside0.mk (fun h => h3 h _ hb0)
  have H4 := Aside0.mk (fun h => h4 h _ hb0)
  clear h0 h1 h2 h3 h4 hb0 gA
  unfold thV
  have hcase : (kind : Int) % 5 = 0 ∨ (kind : Int) % 5 = 1 ∨ (kind : Int) % 5 = 2 ∨ (kind : Int) % 5 = 3 ∨ (kind : Int) % 5 = 4 := by omega
  rcases hcase with hc | hc | hc | hc | hc
  · have H := Aside0.mk (H0.out (by omega))
    clear H0 H1 H2 H3 H4
    go_enter Try.func18, Try.ntmps18
    go_wp2_with fail
    refine H.out.mono ?_
    rintro e w2 ⟨rfl, h1⟩
    go_wp2_with fail
    first | exact bodyPost_end (results_none rfl _ _ _) rfl ⟨rfl, h1⟩ | exact bodyPost_ret (results_none rfl _ _ _) rfl ⟨rfl, h1⟩
  · have H := Aside0.mk (H1.out (by omega))
    clear H0 H1 H2 H3 H4
    go_enter Try.func18, Try.ntmps18
    go_wp2_with fail
    refine H.out.mono ?_
    rintro e w2 ⟨rfl, h1⟩
    go_wp2_with fail
    first | exact bodyPost_end (results_none rfl _ _ _) rfl ⟨rfl, h1⟩ | exact bodyPost_ret (results_none rfl _ _ _) rfl ⟨rfl, h1⟩
  · have H := Aside0.mk (H2.out (by omega))
    clear H0 H1 H2 H3 H4
    go_enter Try.func18, Try.ntmps18
    go_wp2_with fail
    refine H.out.mono ?_
    rintro e w2 ⟨rfl, h1⟩
    go_wp2_with fail
    first | exact bodyPost_end (results_none rfl _ _ _) rfl ⟨rfl, h1⟩ | exact bodyPost_ret (results_none rfl _ _ _) rfl ⟨rfl, h1⟩
  · have H := Aside0.mk (H3.out (by omega))
    clear H0 H1 H2 H3 H4
    go_enter Try.func18, Try.ntmps18
    go_wp2_with fail
    refine H.out.mono ?_
    rintro e w2 ⟨rfl, h1⟩
    go_wp2_with fail
    first | exact bodyPost_end (results_none rfl _ _ _) rfl ⟨rfl, h1⟩ | exact bodyPost_ret (results_none rfl _ _ _) rfl ⟨rfl, h1⟩
  · have H := Aside0.mk (H4.out (by omega))
    clear H0 H1 H2 H3 H4
    go_enter Try.func18, Try.ntmps18
    go_wp2_with fail
    refine H.out.mono ?_
    rintro e w2 ⟨rfl, h1⟩
    go_wp2_with fail
    first | exact bodyPost_end (results_none rfl _ _ _) rfl ⟨rfl, h1⟩ | exact bodyPost_ret (results_none rfl _ _ _) rfl ⟨rfl, h1⟩
end Go.Proofs.Ytdjpcogkpnemlaa.Oct
