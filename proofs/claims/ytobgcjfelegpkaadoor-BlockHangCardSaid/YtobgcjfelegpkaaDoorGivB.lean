/- block.Round, Unround, Next and the reference's Turned as given functions for the print. -/
import Derived.Test.YtobgcjfelegpkaaDoorBlk
namespace Go.Proofs.YtobgcjfelegpkaaDoor.GivB
open Go.RowKit Go.Proofs.YtobgcjfelegpkaaDoor.PBw Go.Proofs.YtobgcjfelegpkaaDoor.GivA Go.Proofs.YtobgcjfelegpkaaDoorW.PrintWords Go.Proofs.YtobgcjfelegpkaaDoorW.PrintLast Go.Proofs.YtobgcjfelegpkaaDoorW.PrintMore Go.Proofs.Sp Go.Proofs.YtobgcjfelegpkaaDoor.Pure Go.Proofs.YtobgcjfelegpkaaDoor.Blk
set_option linter.unusedVariables false
set_option maxRecDepth 20000

def toW (a : Int) : W32 := BitVec.ofInt 32 a
def inW (a : Int) : Bool := decide (0 ≤ a) && decide (a < 4294967296)
theorem wd_toW {a : Int} (h : inW a = true) : wd (toW a) = a := by
  unfold inW at h
  simp only [Bool.and_eq_true, decide_eq_true_eq] at h
  unfold wd toW
  rw [BitVec.toNat_ofInt]
  omega
theorem inW_wd (x : W32) : inW (wd x) = true := by
  unfold inW wd
  have := x.isLt
  simp only [Bool.and_eq_true, decide_eq_true_eq]
  omega
theorem toW_wd (x : W32) : toW (wd x) = x := by
  unfold toW wd
  simp
def stIn (a0 : Int) (a1 : Int) (a2 : Int) (a3 : Int) (a4 : Int) (a5 : Int) (a6 : Int) (a7 : Int) : Option St := if (inW a0 && inW a1 && inW a2 && inW a3 && inW a4 && inW a5 && inW a6 && inW a7) = true then some ⟨toW a0, toW a1, toW a2, toW a3, toW a4, toW a5, toW a6, toW a7⟩ else none
theorem stIn_some {a0 a1 a2 a3 a4 a5 a6 a7 : Int} {s : St} (h : stIn a0 a1 a2 a3 a4 a5 a6 a7 = some s) : a0 = wd s.a ∧ a1 = wd s.b ∧ a2 = wd s.c ∧ a3 = wd s.d ∧ a4 = wd s.e ∧ a5 = wd s.f ∧ a6 = wd s.g ∧ a7 = wd s.h := by
  unfold stIn at h
  by_cases hc : (inW a0 && inW a1 && inW a2 && inW a3 && inW a4 && inW a5 && inW a6 && inW a7) = true
  · rw [if_pos hc] at h
    obtain rfl := Option.some.inj h
    simp only [Bool.and_eq_true] at hc
    obtain ⟨⟨⟨⟨⟨⟨⟨h0, h1⟩, h2⟩, h3⟩, h4⟩, h5⟩, h6⟩, h7⟩ := hc
    exact ⟨(wd_toW h0).symm, (wd_toW h1).symm, (wd_toW h2).symm, (wd_toW h3).symm, (wd_toW h4).symm, (wd_toW h5).symm, (wd_toW h6).symm, (wd_toW h7).symm⟩
  · rw [if_neg hc] at h; cases h
theorem stIn_wd (s : St) : stIn (wd s.a) (wd s.b) (wd s.c) (wd s.d) (wd s.e) (wd s.f) (wd s.g) (wd s.h) = some s := by
  unfold stIn
  simp only [inW_wd, toW_wd, Bool.and_true, if_true]
def wIn (a : Int) : Option W32 := if inW a = true then some (toW a) else none
theorem wIn_some {a : Int} {x : W32} (h : wIn a = some x) : a = wd x := by
  unfold wIn at h
  by_cases hc : inW a = true
  · rw [if_pos hc] at h; obtain rfl := Option.some.inj h; exact (wd_toW hc).symm
  · rw [if_neg hc] at h; cases h
theorem wIn_wd (x : W32) : wIn (wd x) = some x := by unfold wIn; rw [if_pos (inW_wd x), toW_wd]
def tup (s : St) : Int × Int × Int × Int × Int × Int × Int × Int := (wd s.a, wd s.b, wd s.c, wd s.d, wd s.e, wd s.f, wd s.g, wd s.h)
theorem tup_stv {s : St} {r1 r2 r3 r4 r5 r6 r7 r8 : Int} (h : tup s = (r1, r2, r3, r4, r5, r6, r7, r8)) : stv s = (.agg #[.int .u32 r1, .int .u32 r2, .int .u32 r3, .int .u32 r4, .int .u32 r5, .int .u32 r6, .int .u32 r7, .int .u32 r8] : Value) := by
  unfold tup at h
  simp only [Prod.mk.injEq] at h
  obtain ⟨rfl, rfl, rfl, rfl, rfl, rfl, rfl, rfl⟩ := h
  rfl

def block_Round.f (a0_0 : Int) (a0_1 : Int) (a0_2 : Int) (a0_3 : Int) (a0_4 : Int) (a0_5 : Int) (a0_6 : Int) (a0_7 : Int) (a1 a2 : Int) : Option (Int × Int × Int × Int × Int × Int × Int × Int) := (stIn a0_0 a0_1 a0_2 a0_3 a0_4 a0_5 a0_6 a0_7).bind fun s => (wIn a2).bind fun x => some (tup (rnd s (kw a1) x))
theorem block_Round.calls (a0_0 : Int) (a0_1 : Int) (a0_2 : Int) (a0_3 : Int) (a0_4 : Int) (a0_5 : Int) (a0_6 : Int) (a0_7 : Int) (a1 a2 : Int) (r1 : Int) (r2 : Int) (r3 : Int) (r4 : Int) (r5 : Int) (r6 : Int) (r7 : Int) (r8 : Int) (w : World) (hT : Tab w) (h : block_Round.f a0_0 a0_1 a0_2 a0_3 a0_4 a0_5 a0_6 a0_7 a1 a2 = some (r1, r2, r3, r4, r5, r6, r7, r8)) :
    Calls Tryd.prog 23 #[.agg #[.int .u32 a0_0, .int .u32 a0_1, .int .u32 a0_2, .int .u32 a0_3, .int .u32 a0_4, .int .u32 a0_5, .int .u32 a0_6, .int .u32 a0_7], .int .i64 a1, .int .u32 a2] w fun e w' => e = .returned (.agg #[.int .u32 r1, .int .u32 r2, .int .u32 r3, .int .u32 r4, .int .u32 r5, .int .u32 r6, .int .u32 r7, .int .u32 r8]) ∧ Below w.heap.size w w' := by
  unfold block_Round.f at h
  obtain ⟨s, hs, h_1⟩ := Option.bind_eq_some_iff.1 h
  clear h
  obtain ⟨x, hx, h_2⟩ := Option.bind_eq_some_iff.1 h_1
  clear h_1
  obtain ⟨rfl, rfl, rfl, rfl, rfl, rfl, rfl, rfl⟩ := stIn_some hs
  obtain rfl := wIn_some hx
  refine (round_calls s a1 x w hT).mono ?_
  rintro e w' ⟨rfl, hB⟩
  exact ⟨congrArg Ending.returned (tup_stv (Option.some.inj h_2)), hB⟩
def block_Unround.f (a0_0 : Int) (a0_1 : Int) (a0_2 : Int) (a0_3 : Int) (a0_4 : Int) (a0_5 : Int) (a0_6 : Int) (a0_7 : Int) (a1 a2 : Int) : Option (Int × Int × Int × Int × Int × Int × Int × Int) := (stIn a0_0 a0_1 a0_2 a0_3 a0_4 a0_5 a0_6 a0_7).bind fun s => (wIn a2).bind fun x => some (tup (unrnd s (kw a1) x))
theorem block_Unround.calls (a0_0 : Int) (a0_1 : Int) (a0_2 : Int) (a0_3 : Int) (a0_4 : Int) (a0_5 : Int) (a0_6 : Int) (a0_7 : Int) (a1 a2 : Int) (r1 : Int) (r2 : Int) (r3 : Int) (r4 : Int) (r5 : Int) (r6 : Int) (r7 : Int) (r8 : Int) (w : World) (hT : Tab w) (h : block_Unround.f a0_0 a0_1 a0_2 a0_3 a0_4 a0_5 a0_6 a0_7 a1 a2 = some (r1, r2, r3, r4, r5, r6, r7, r8)) :
    Calls Tryd.prog 24 #[.agg #[.int .u32 a0_0, .int .u32 a0_1, .int .u32 a0_2, .int .u32 a0_3, .int .u32 a0_4, .int .u32 a0_5, .int .u32 a0_6, .int .u32 a0_7], .int .i64 a1, .int .u32 a2] w fun e w' => e = .returned (.agg #[.int .u32 r1, .int .u32 r2, .int .u32 r3, .int .u32 r4, .int .u32 r5, .int .u32 r6, .int .u32 r7, .int .u32 r8]) ∧ Below w.heap.size w w' := by
  unfold block_Unround.f at h
  obtain ⟨s, hs, h_1⟩ := Option.bind_eq_some_iff.1 h
  clear h
  obtain ⟨x, hx, h_2⟩ := Option.bind_eq_some_iff.1 h_1
  clear h_1
  obtain ⟨rfl, rfl, rfl, rfl, rfl, rfl, rfl, rfl⟩ := stIn_some hs
  obtain rfl := wIn_some hx
  refine (unround_calls s a1 x w hT).mono ?_
  rintro e w' ⟨rfl, hB⟩
  exact ⟨congrArg Ending.returned (tup_stv (Option.some.inj h_2)), hB⟩
def paymasterref04_Turned.f (a0_0 : Int) (a0_1 : Int) (a0_2 : Int) (a0_3 : Int) (a0_4 : Int) (a0_5 : Int) (a0_6 : Int) (a0_7 : Int) (a1 a2 : Int) : Option (Int × Int × Int × Int × Int × Int × Int × Int) := (stIn a0_0 a0_1 a0_2 a0_3 a0_4 a0_5 a0_6 a0_7).bind fun s => (wIn a1).bind fun k => (wIn a2).bind fun x => some (tup (rnd s k x))
theorem paymasterref04_Turned.calls (a0_0 : Int) (a0_1 : Int) (a0_2 : Int) (a0_3 : Int) (a0_4 : Int) (a0_5 : Int) (a0_6 : Int) (a0_7 : Int) (a1 a2 : Int) (r1 : Int) (r2 : Int) (r3 : Int) (r4 : Int) (r5 : Int) (r6 : Int) (r7 : Int) (r8 : Int) (w : World) (h : paymasterref04_Turned.f a0_0 a0_1 a0_2 a0_3 a0_4 a0_5 a0_6 a0_7 a1 a2 = some (r1, r2, r3, r4, r5, r6, r7, r8)) :
    Calls Tryd.prog 80 #[.agg #[.int .u32 a0_0, .int .u32 a0_1, .int .u32 a0_2, .int .u32 a0_3, .int .u32 a0_4, .int .u32 a0_5, .int .u32 a0_6, .int .u32 a0_7], .int .u32 a1, .int .u32 a2] w fun e w' => e = .returned (.agg #[.int .u32 r1, .int .u32 r2, .int .u32 r3, .int .u32 r4, .int .u32 r5, .int .u32 r6, .int .u32 r7, .int .u32 r8]) ∧ Below w.heap.size w w' := by
  unfold paymasterref04_Turned.f at h
  obtain ⟨s, hs, h_1⟩ := Option.bind_eq_some_iff.1 h
  clear h
  obtain ⟨k, hk, h_2⟩ := Option.bind_eq_some_iff.1 h_1
  clear h_1
  obtain ⟨x, hx, h_3⟩ := Option.bind_eq_some_iff.1 h_2
  clear h_2
  obtain ⟨rfl, rfl, rfl, rfl, rfl, rfl, rfl, rfl⟩ := stIn_some hs
  obtain rfl := wIn_some hk
  obtain rfl := wIn_some hx
  refine (turned_calls s k x w).mono ?_
  rintro e w' ⟨rfl, hB⟩
  exact ⟨congrArg Ending.returned (tup_stv (Option.some.inj h_3)), hB⟩
def nextOr (s : St) (b : ByteArray) : St × Int := if b.size = 64 then (next s b.data.toList, 0) else (zeroSt, 2)
def tup9 (o : St × Int) : Int × Int × Int × Int × Int × Int × Int × Int × Int := (wd o.1.a, wd o.1.b, wd o.1.c, wd o.1.d, wd o.1.e, wd o.1.f, wd o.1.g, wd o.1.h, o.2)
def block_Next.f (a0_0 : Int) (a0_1 : Int) (a0_2 : Int) (a0_3 : Int) (a0_4 : Int) (a0_5 : Int) (a0_6 : Int) (a0_7 : Int) (a1 : ByteArray) : Option (Int × Int × Int × Int × Int × Int × Int × Int × Int) := (stIn a0_0 a0_1 a0_2 a0_3 a0_4 a0_5 a0_6 a0_7).bind fun s => some (tup9 (nextOr s a1))
theorem block_Next.calls (a0_0 : Int) (a0_1 : Int) (a0_2 : Int) (a0_3 : Int) (a0_4 : Int) (a0_5 : Int) (a0_6 : Int) (a0_7 : Int) (a1 : ByteArray) (r1 : Int) (r2 : Int) (r3 : Int) (r4 : Int) (r5 : Int) (r6 : Int) (r7 : Int) (r8 : Int) (r9 : Int) (w : World) (hT : Tab w) (h : block_Next.f a0_0 a0_1 a0_2 a0_3 a0_4 a0_5 a0_6 a0_7 a1 = some (r1, r2, r3, r4, r5, r6, r7, r8, r9)) :
    Calls Tryd.prog 30 #[.agg #[.int .u32 a0_0, .int .u32 a0_1, .int .u32 a0_2, .int .u32 a0_3, .int .u32 a0_4, .int .u32 a0_5, .int .u32 a0_6, .int .u32 a0_7], .string a1] w fun e w' => e = .returned (.tuple #[.agg #[.int .u32 r1, .int .u32 r2, .int .u32 r3, .int .u32 r4, .int .u32 r5, .int .u32 r6, .int .u32 r7, .int .u32 r8], .int .i64 r9]) ∧ Below w.heap.size w w' := by
  unfold block_Next.f at h
  obtain ⟨s, hs, h_1⟩ := Option.bind_eq_some_iff.1 h
  clear h
  obtain ⟨rfl, rfl, rfl, rfl, rfl, rfl, rfl, rfl⟩ := stIn_some hs
  have h' := Option.some.inj h_1
  clear h_1 hs
  by_cases h64 : a1.size = 64
  · have e : nextOr s a1 = (next s a1.data.toList, 0) := if_pos h64
    rw [e] at h'
    refine (next_calls s a1 h64 w hT).mono ?_
    rintro e w' ⟨rfl, hB⟩
    refine ⟨?_, hB⟩
    generalize next s a1.data.toList = n at h' ⊢
    simp only [tup9, Prod.mk.injEq] at h'
    obtain ⟨rfl, rfl, rfl, rfl, rfl, rfl, rfl, rfl, rfl⟩ := h'
    rfl
  · have e : nextOr s a1 = (zeroSt, 2) := if_neg h64
    rw [e] at h'
    refine (next_none s a1 h64 w).mono ?_
    rintro e w' ⟨rfl, hB⟩
    refine ⟨?_, hB⟩
    generalize zeroSt = n at h' ⊢
    simp only [tup9, Prod.mk.injEq] at h'
    obtain ⟨rfl, rfl, rfl, rfl, rfl, rfl, rfl, rfl, rfl⟩ := h'
    rfl
end Go.Proofs.YtobgcjfelegpkaaDoor.GivB
