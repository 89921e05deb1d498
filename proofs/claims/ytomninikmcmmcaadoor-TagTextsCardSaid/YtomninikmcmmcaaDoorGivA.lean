/- The table of the rounds' constants in memory, and what block.Constant answers while it lies there. -/
import Derived.Test.YtomninikmcmmcaaDoorProg
import Derived.Test.YtomninikmcmmcaaDoorWMore
import Derived.Test.YtomninikmcmmcaaDoorSpA
import Derived.WalkKit
import Derived.KernelRfl
import Derived.Below
import Derived.Lib.LaidTab
namespace Go.Proofs.YtomninikmcmmcaaDoor.GivA
open Go.RowKit
set_option linter.unusedVariables false
set_option linter.unusedSimpArgs false

def kTab : List Int := [1116352408, 1899447441, 3049323471, 3921009573, 961987163, 1508970993, 2453635748, 2870763221, 3624381080, 310598401, 607225278, 1426881987, 1925078388, 2162078206, 2614888103, 3248222580, 3835390401, 4022224774, 264347078, 604807628, 770255983, 1249150122, 1555081692, 1996064986, 2554220882, 2821834349, 2952996808, 3210313671, 3336571891, 3584528711, 113926993, 338241895, 666307205, 773529912, 1294757372, 1396182291, 1695183700, 1986661051, 2177026350, 2456956037, 2730485921, 2820302411, 3259730800, 3345764771, 3516065817, 3600352804, 4094571909, 275423344, 430227734, 506948616, 659060556, 883997877, 958139571, 1322822218, 1537002063, 1747873779, 1955562222, 2024104815, 2227730452, 2361852424, 2428436474, 2756734187, 3204031479, 3329325298]
/-- The table lies in memory. -/
def Tab (w : World) : Prop := ∀ k : Nat, k < 64 → w.cell? ⟨3, k, none⟩ = some (.int .u32 (kTab.getD k 0))
theorem Tab.keep {w W : World} (h : Tab w) (hb : Below w.heap.size w W) : Tab W := fun k hk => by
  have hc := h k hk
  exact (hb.cell (World.block_lt_of_cell? w _ hc)).trans hc
def kAt (a : Int) : Int := if a < 0 then 0 else if a ≥ 64 then 0 else kTab.getD a.toNat 0
def block_Constant.f (a0 : Int) : Option Int := some (kAt a0)
set_option maxHeartbeats 400000 in
theorem constant_same (a0 : Int) (w : World) (hT : Tab w) :
    Calls Tryd.prog 125 #[.int .i64 a0] w fun e w' => e = .returned (.int .u32 (kAt a0)) ∧ w = w' := by
  by_cases h0 : a0 < 0
  · have e : kAt a0 = 0 := by unfold kAt; rw [if_pos h0]
    rw [e]
    clear e hT
    go_enter Tryd.func125, Tryd.ntmps125
    go_wp2
    go_ret
    exact ⟨rfl, rfl⟩
  · by_cases h1 : a0 ≥ 64
    · have e : kAt a0 = 0 := by unfold kAt; rw [if_neg h0, if_pos h1]
      rw [e]
      clear e hT
      go_enter Tryd.func125, Tryd.ntmps125
      go_wp2
      go_ret
      exact ⟨rfl, rfl⟩
    · obtain ⟨n, rfl⟩ := Int.eq_ofNat_of_zero_le (show 0 ≤ a0 by omega)
      have hn : n < 64 := by omega
      have hc := hT n hn
      have e : kAt (n : Int) = kTab.getD n 0 := by unfold kAt; rw [if_neg h0, if_neg h1, Int.toNat_natCast]
      rw [e]
      clear e hT
      generalize kTab.getD n 0 = v at hc ⊢
      go_enter Tryd.func125, Tryd.ntmps125
      go_wp2
      go_ret
      exact ⟨rfl, rfl⟩
theorem block_Constant.calls (a0 : Int) (r : Int) (w : World) (hT : Tab w) (h : block_Constant.f a0 = some r) :
    Calls Tryd.prog 125 #[.int .i64 a0] w fun e w' => e = .returned (.int .u32 r) ∧ Below w.heap.size w w' := by
  obtain rfl := Option.some.inj h
  refine (constant_same a0 w hT).mono ?_
  rintro e w' ⟨rfl, rfl⟩
  exact ⟨rfl, Below.refl _ _⟩
end Go.Proofs.YtomninikmcmmcaaDoor.GivA
