/- Digests and macs as given functions, in the print's own form. -/
import Derived.Test.YtomninikmcmmcaaDoorHm
import Derived.Test.YtomninikmcmmcaaDoorRs
namespace Go.Proofs.YtomninikmcmmcaaDoor.GivH
open Go Go.RowKit Go.Proofs.YtomninikmcmmcaaDoor.Sha Go.Proofs.YtomninikmcmmcaaDoor.GivA
def big (s : ByteArray) : Bool := decide (s.size ≤ 1073741824)
def sha_Sum.f (a0 : ByteArray) : Option ByteArray := if big a0 = true then some (sha a0) else none
theorem sha_Sum.calls (a0 : ByteArray) (r : ByteArray) (w : World) (hT : Tab w) (h : sha_Sum.f a0 = some r) :
    Calls Tryd.prog 49 #[.string a0] w fun e w' => e = .returned (.string r) ∧ Below w.heap.size w w' := by
  unfold sha_Sum.f big at h
  split at h
  · rename_i hc
    obtain rfl := Option.some.inj h
    exact shasum_calls a0 w hT (by have := of_decide_eq_true hc; omega)
  · cases h
def paymasterref05_Sum.f (a0 : ByteArray) : Option ByteArray := if big a0 = true then some (sha a0) else none
theorem paymasterref05_Sum.calls (a0 : ByteArray) (r : ByteArray) (w : World) (h : paymasterref05_Sum.f a0 = some r) :
    Calls Tryd.prog 77 #[.string a0] w fun e w' => e = .returned (.string r) ∧ Below w.heap.size w w' := by
  unfold paymasterref05_Sum.f big at h
  split at h
  · rename_i hc
    obtain rfl := Option.some.inj h
    exact refsum_calls a0 w (by have := of_decide_eq_true hc; omega)
  · cases h
def hmac_Sum.f (a0 a1 : ByteArray) : Option ByteArray := if big a0 = true then (if big a1 = true then some (mac a0 a1) else none) else none
theorem hmac_Sum.calls (a0 a1 : ByteArray) (r : ByteArray) (w : World) (hT : Tab w) (h : hmac_Sum.f a0 a1 = some r) :
    Calls Tryd.prog 34 #[.string a0, .string a1] w fun e w' => e = .returned (.string r) ∧ Below w.heap.size w w' := by
  unfold hmac_Sum.f big at h
  split at h
  · rename_i hc
    split at h
    · rename_i hd
      obtain rfl := Option.some.inj h
      exact mac_calls a0 a1 w hT (by have := of_decide_eq_true hc; omega) (by have := of_decide_eq_true hd; omega)
    · cases h
  · cases h
def hmac_Block.f (a0 : ByteArray) : Option ByteArray := if big a0 = true then some (kBlock a0) else none
theorem hmac_Block.calls (a0 : ByteArray) (r : ByteArray) (w : World) (hT : Tab w) (h : hmac_Block.f a0 = some r) :
    Calls Tryd.prog 35 #[.string a0] w fun e w' => e = .returned (.string r) ∧ Below w.heap.size w w' := by
  unfold hmac_Block.f big at h
  split at h
  · rename_i hc
    obtain rfl := Option.some.inj h
    exact kblock_calls a0 w hT (by have := of_decide_eq_true hc; omega)
  · cases h
end Go.Proofs.YtomninikmcmmcaaDoor.GivH
