/- The chapter's example evaluated by the kernel: an evaluator that forces each word to a number, equal to the specification. -/
import Derived.Test.YtobgcjfelegpkaaDoorBlk
namespace Go.Proofs.YtobgcjfelegpkaaDoor.Blk
open Go.Proofs.Sp Go.Proofs.YtobgcjfelegpkaaDoor.GivA
def forceN {α : Type} (n : Nat) (f : Nat → α) : α := Nat.rec (motive := fun _ => α) (f 0) (fun m _ => f (m + 1)) n
theorem forceN_eq {α : Type} (n : Nat) (f : Nat → α) : forceN n f = f n := by cases n <;> rfl
def forceW {α : Type} (x : W32) (f : W32 → α) : α := forceN x.toNat (fun n => f (BitVec.ofNat 32 n))
theorem forceW_eq {α : Type} (x : W32) (f : W32 → α) : forceW x f = f x := by unfold forceW; rw [forceN_eq, BitVec.ofNat_toNat, BitVec.setWidth_eq]
def schedF {α : Type} (b : List UInt8) : Nat → List W32 → (List W32 → α) → α
  | 0, l, k => k l
  | t + 1, l, k => forceW (nextWord b l) fun x => schedF b t (l ++ [x]) k
theorem schedF_eq {α : Type} (b : List UInt8) (k : List W32 → α) : ∀ (n t : Nat), schedF b n (sched b t) k = k (sched b (t + n))
  | 0, t => rfl
  | n + 1, t => by
    have e : t + (n + 1) = t + 1 + n := by omega
    rw [schedF, forceW_eq, e, ← schedF_eq b k n (t + 1)]
    rfl
def forceSt {α : Type} (s : St) (f : St → α) : α :=
  forceW s.a fun a => forceW s.b fun b => forceW s.c fun c => forceW s.d fun d => forceW s.e fun e => forceW s.f fun x => forceW s.g fun g => forceW s.h fun h => f ⟨a, b, c, d, e, x, g, h⟩
theorem forceSt_eq {α : Type} (s : St) (f : St → α) : forceSt s f = f s := by unfold forceSt; simp only [forceW_eq]
def runF {α : Type} (w : List W32) : Nat → Nat → St → (St → α) → α
  | 0, _, s, k => k s
  | n + 1, t, s, k => forceSt (rnd s (kws t) (w.getD t 0)) fun s' => runF w n (t + 1) s' k
theorem runF_eq {α : Type} (w : List W32) (s : St) (k : St → α) : ∀ (n t : Nat), runF w n t (runs w s t) k = k (runs w s (t + n))
  | 0, t => rfl
  | n + 1, t => by
    have e : t + (n + 1) = t + 1 + n := by omega
    rw [runF, forceSt_eq, e, ← runF_eq w s k n (t + 1)]
    rfl
def nextF {α : Type} (b : List UInt8) (s : St) (k : St → α) : α := schedF b 64 [] fun w => runF w 64 0 s fun r => forceSt (addSt r s) k
theorem nextF_eq {α : Type} (b : List UInt8) (s : St) (k : St → α) : nextF b s k = k (next s b) := by
  unfold nextF
  rw [show ([] : List W32) = sched b 0 from rfl, schedF_eq, show runF (sched b (0 + 64)) 64 0 s = runF (sched b (0 + 64)) 64 0 (runs (sched b (0 + 64)) s 0) from rfl, runF_eq, forceSt_eq, Nat.zero_add]
  rfl
def abcBytes : List UInt8 := [97, 98, 99, 128] ++ List.replicate 59 0 ++ [24]
def abcSt : St := ⟨0xba7816bf, 0x8f01cfea, 0x414140de, 0x5dae2223, 0xb00361a3, 0x96177a9c, 0xb410ff61, 0xf20015ad⟩
set_option maxRecDepth 1000000 in
theorem next_abc : next st0 abcBytes = abcSt := by
  have h : nextF abcBytes st0 (fun r => decide (r = abcSt)) = true := by decide +kernel
  rw [nextF_eq] at h
  exact of_decide_eq_true h
end Go.Proofs.YtobgcjfelegpkaaDoor.Blk
