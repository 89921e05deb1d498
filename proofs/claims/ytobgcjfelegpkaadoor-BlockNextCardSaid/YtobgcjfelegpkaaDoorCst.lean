/- Texts of this session, put together: Primes, Const. -/
import Derived.Test.YtobgcjfelegpkaaDoorPBwC
import Derived.Test.YtobgcjfelegpkaaDoorRootsA
import Derived.Test.YtobgcjfelegpkaaDoorRootsB
import Derived.Test.YtobgcjfelegpkaaDoorGivA
section
/- The first 64 primes, as the document's own function tells them: evaluated by the kernel. -/
namespace Go.Proofs.YtobgcjfelegpkaaDoor.Pure
open Go.Proofs.YtobgcjfelegpkaaDoor.PBw
set_option maxRecDepth 1000000
theorem prime_0 : paymasterref04_Prime.f 8000 0 = some 2 := by decide +kernel
theorem prime_1 : paymasterref04_Prime.f 8000 1 = some 3 := by decide +kernel
theorem prime_2 : paymasterref04_Prime.f 8000 2 = some 5 := by decide +kernel
theorem prime_3 : paymasterref04_Prime.f 8000 3 = some 7 := by decide +kernel
theorem prime_4 : paymasterref04_Prime.f 8000 4 = some 11 := by decide +kernel
theorem prime_5 : paymasterref04_Prime.f 8000 5 = some 13 := by decide +kernel
theorem prime_6 : paymasterref04_Prime.f 8000 6 = some 17 := by decide +kernel
theorem prime_7 : paymasterref04_Prime.f 8000 7 = some 19 := by decide +kernel
theorem prime_8 : paymasterref04_Prime.f 8000 8 = some 23 := by decide +kernel
theorem prime_9 : paymasterref04_Prime.f 8000 9 = some 29 := by decide +kernel
theorem prime_10 : paymasterref04_Prime.f 8000 10 = some 31 := by decide +kernel
theorem prime_11 : paymasterref04_Prime.f 8000 11 = some 37 := by decide +kernel
theorem prime_12 : paymasterref04_Prime.f 8000 12 = some 41 := by decide +kernel
theorem prime_13 : paymasterref04_Prime.f 8000 13 = some 43 := by decide +kernel
theorem prime_14 : paymasterref04_Prime.f 8000 14 = some 47 := by decide +kernel
theorem prime_15 : paymasterref04_Prime.f 8000 15 = some 53 := by decide +kernel
theorem prime_16 : paymasterref04_Prime.f 8000 16 = some 59 := by decide +kernel
theorem prime_17 : paymasterref04_Prime.f 8000 17 = some 61 := by decide +kernel
theorem prime_18 : paymasterref04_Prime.f 8000 18 = some 67 := by decide +kernel
theorem prime_19 : paymasterref04_Prime.f 8000 19 = some 71 := by decide +kernel
theorem prime_20 : paymasterref04_Prime.f 8000 20 = some 73 := by decide +kernel
theorem prime_21 : paymasterref04_Prime.f 8000 21 = some 79 := by decide +kernel
theorem prime_22 : paymasterref04_Prime.f 8000 22 = some 83 := by decide +kernel
theorem prime_23 : paymasterref04_Prime.f 8000 23 = some 89 := by decide +kernel
theorem prime_24 : paymasterref04_Prime.f 8000 24 = some 97 := by decide +kernel
theorem prime_25 : paymasterref04_Prime.f 8000 25 = some 101 := by decide +kernel
theorem prime_26 : paymasterref04_Prime.f 8000 26 = some 103 := by decide +kernel
theorem prime_27 : paymasterref04_Prime.f 8000 27 = some 107 := by decide +kernel
theorem prime_28 : paymasterref04_Prime.f 8000 28 = some 109 := by decide +kernel
theorem prime_29 : paymasterref04_Prime.f 8000 29 = some 113 := by decide +kernel
theorem prime_30 : paymasterref04_Prime.f 8000 30 = some 127 := by decide +kernel
theorem prime_31 : paymasterref04_Prime.f 8000 31 = some 131 := by decide +kernel
theorem prime_32 : paymasterref04_Prime.f 8000 32 = some 137 := by decide +kernel
theorem prime_33 : paymasterref04_Prime.f 8000 33 = some 139 := by decide +kernel
theorem prime_34 : paymasterref04_Prime.f 8000 34 = some 149 := by decide +kernel
theorem prime_35 : paymasterref04_Prime.f 8000 35 = some 151 := by decide +kernel
theorem prime_36 : paymasterref04_Prime.f 8000 36 = some 157 := by decide +kernel
theorem prime_37 : paymasterref04_Prime.f 8000 37 = some 163 := by decide +kernel
theorem prime_38 : paymasterref04_Prime.f 8000 38 = some 167 := by decide +kernel
theorem prime_39 : paymasterref04_Prime.f 8000 39 = some 173 := by decide +kernel
theorem prime_40 : paymasterref04_Prime.f 8000 40 = some 179 := by decide +kernel
theorem prime_41 : paymasterref04_Prime.f 8000 41 = some 181 := by decide +kernel
theorem prime_42 : paymasterref04_Prime.f 8000 42 = some 191 := by decide +kernel
theorem prime_43 : paymasterref04_Prime.f 8000 43 = some 193 := by decide +kernel
theorem prime_44 : paymasterref04_Prime.f 8000 44 = some 197 := by decide +kernel
theorem prime_45 : paymasterref04_Prime.f 8000 45 = some 199 := by decide +kernel
theorem prime_46 : paymasterref04_Prime.f 8000 46 = some 211 := by decide +kernel
theorem prime_47 : paymasterref04_Prime.f 8000 47 = some 223 := by decide +kernel
theorem prime_48 : paymasterref04_Prime.f 8000 48 = some 227 := by decide +kernel
theorem prime_49 : paymasterref04_Prime.f 8000 49 = some 229 := by decide +kernel
theorem prime_50 : paymasterref04_Prime.f 8000 50 = some 233 := by decide +kernel
theorem prime_51 : paymasterref04_Prime.f 8000 51 = some 239 := by decide +kernel
theorem prime_52 : paymasterref04_Prime.f 8000 52 = some 241 := by decide +kernel
theorem prime_53 : paymasterref04_Prime.f 8000 53 = some 251 := by decide +kernel
theorem prime_54 : paymasterref04_Prime.f 8000 54 = some 257 := by decide +kernel
theorem prime_55 : paymasterref04_Prime.f 8000 55 = some 263 := by decide +kernel
theorem prime_56 : paymasterref04_Prime.f 8000 56 = some 269 := by decide +kernel
theorem prime_57 : paymasterref04_Prime.f 8000 57 = some 271 := by decide +kernel
theorem prime_58 : paymasterref04_Prime.f 8000 58 = some 277 := by decide +kernel
theorem prime_59 : paymasterref04_Prime.f 8000 59 = some 281 := by decide +kernel
theorem prime_60 : paymasterref04_Prime.f 8000 60 = some 283 := by decide +kernel
theorem prime_61 : paymasterref04_Prime.f 8000 61 = some 293 := by decide +kernel
theorem prime_62 : paymasterref04_Prime.f 8000 62 = some 307 := by decide +kernel
theorem prime_63 : paymasterref04_Prime.f 8000 63 = some 311 := by decide +kernel
end Go.Proofs.YtobgcjfelegpkaaDoor.Pure
end
section
/- The rounds' constants and the first state, as the document tells them, are the program's own. -/
namespace Go.Proofs.YtobgcjfelegpkaaDoor.Pure
open Go.RowKit Go.Proofs.YtobgcjfelegpkaaDoor.PBw Go.Proofs.YtobgcjfelegpkaaDoor.GivA Go.Proofs.YtobgcjfelegpkaaDoorW.PrintWords
set_option linter.unusedVariables false
theorem const_of {a p v : Int} (h0 : 0 ≤ a) (h1 : a ≤ 63) (hp : paymasterref04_Prime.f 8000 a = some p) (hr : paymasterref04_root.f 300 p 3 = some v) : paymasterref04_Constant.f 8001 a = some v := by
  unfold paymasterref04_Constant.f
  rw [if_neg (by omega)]
  simp only [paymasterref04_Constant.j0]
  have h2 : decide (a > 63) = false := by simp; omega
  rw [h2, if_neg (by decide), hp, Option.bind_some, at_rounds (paymasterref04_root.mono p 3) (by decide) hr, Option.bind_some]
theorem const_0 : paymasterref04_Constant.f 8001 0 = some 1116352408 := const_of (by decide) (by decide) prime_0 root_3_2
theorem const_1 : paymasterref04_Constant.f 8001 1 = some 1899447441 := const_of (by decide) (by decide) prime_1 root_3_3
theorem const_2 : paymasterref04_Constant.f 8001 2 = some 3049323471 := const_of (by decide) (by decide) prime_2 root_3_5
theorem const_3 : paymasterref04_Constant.f 8001 3 = some 3921009573 := const_of (by decide) (by decide) prime_3 root_3_7
theorem const_4 : paymasterref04_Constant.f 8001 4 = some 961987163 := const_of (by decide) (by decide) prime_4 root_3_11
theorem const_5 : paymasterref04_Constant.f 8001 5 = some 1508970993 := const_of (by decide) (by decide) prime_5 root_3_13
theorem const_6 : paymasterref04_Constant.f 8001 6 = some 2453635748 := const_of (by decide) (by decide) prime_6 root_3_17
theorem const_7 : paymasterref04_Constant.f 8001 7 = some 2870763221 := const_of (by decide) (by decide) prime_7 root_3_19
theorem const_8 : paymasterref04_Constant.f 8001 8 = some 3624381080 := const_of (by decide) (by decide) prime_8 root_3_23
theorem const_9 : paymasterref04_Constant.f 8001 9 = some 310598401 := const_of (by decide) (by decide) prime_9 root_3_29
theorem const_10 : paymasterref04_Constant.f 8001 10 = some 607225278 := const_of (by decide) (by decide) prime_10 root_3_31
theorem const_11 : paymasterref04_Constant.f 8001 11 = some 1426881987 := const_of (by decide) (by decide) prime_11 root_3_37
theorem const_12 : paymasterref04_Constant.f 8001 12 = some 1925078388 := const_of (by decide) (by decide) prime_12 root_3_41
theorem const_13 : paymasterref04_Constant.f 8001 13 = some 2162078206 := const_of (by decide) (by decide) prime_13 root_3_43
theorem const_14 : paymasterref04_Constant.f 8001 14 = some 2614888103 := const_of (by decide) (by decide) prime_14 root_3_47
theorem const_15 : paymasterref04_Constant.f 8001 15 = some 3248222580 := const_of (by decide) (by decide) prime_15 root_3_53
theorem const_16 : paymasterref04_Constant.f 8001 16 = some 3835390401 := const_of (by decide) (by decide) prime_16 root_3_59
theorem const_17 : paymasterref04_Constant.f 8001 17 = some 4022224774 := const_of (by decide) (by decide) prime_17 root_3_61
theorem const_18 : paymasterref04_Constant.f 8001 18 = some 264347078 := const_of (by decide) (by decide) prime_18 root_3_67
theorem const_19 : paymasterref04_Constant.f 8001 19 = some 604807628 := const_of (by decide) (by decide) prime_19 root_3_71
theorem const_20 : paymasterref04_Constant.f 8001 20 = some 770255983 := const_of (by decide) (by decide) prime_20 root_3_73
theorem const_21 : paymasterref04_Constant.f 8001 21 = some 1249150122 := const_of (by decide) (by decide) prime_21 root_3_79
theorem const_22 : paymasterref04_Constant.f 8001 22 = some 1555081692 := const_of (by decide) (by decide) prime_22 root_3_83
theorem const_23 : paymasterref04_Constant.f 8001 23 = some 1996064986 := const_of (by decide) (by decide) prime_23 root_3_89
theorem const_24 : paymasterref04_Constant.f 8001 24 = some 2554220882 := const_of (by decide) (by decide) prime_24 root_3_97
theorem const_25 : paymasterref04_Constant.f 8001 25 = some 2821834349 := const_of (by decide) (by decide) prime_25 root_3_101
theorem const_26 : paymasterref04_Constant.f 8001 26 = some 2952996808 := const_of (by decide) (by decide) prime_26 root_3_103
theorem const_27 : paymasterref04_Constant.f 8001 27 = some 3210313671 := const_of (by decide) (by decide) prime_27 root_3_107
theorem const_28 : paymasterref04_Constant.f 8001 28 = some 3336571891 := const_of (by decide) (by decide) prime_28 root_3_109
theorem const_29 : paymasterref04_Constant.f 8001 29 = some 3584528711 := const_of (by decide) (by decide) prime_29 root_3_113
theorem const_30 : paymasterref04_Constant.f 8001 30 = some 113926993 := const_of (by decide) (by decide) prime_30 root_3_127
theorem const_31 : paymasterref04_Constant.f 8001 31 = some 338241895 := const_of (by decide) (by decide) prime_31 root_3_131
theorem const_32 : paymasterref04_Constant.f 8001 32 = some 666307205 := const_of (by decide) (by decide) prime_32 root_3_137
theorem const_33 : paymasterref04_Constant.f 8001 33 = some 773529912 := const_of (by decide) (by decide) prime_33 root_3_139
theorem const_34 : paymasterref04_Constant.f 8001 34 = some 1294757372 := const_of (by decide) (by decide) prime_34 root_3_149
theorem const_35 : paymasterref04_Constant.f 8001 35 = some 1396182291 := const_of (by decide) (by decide) prime_35 root_3_151
theorem const_36 : paymasterref04_Constant.f 8001 36 = some 1695183700 := const_of (by decide) (by decide) prime_36 root_3_157
theorem const_37 : paymasterref04_Constant.f 8001 37 = some 1986661051 := const_of (by decide) (by decide) prime_37 root_3_163
theorem const_38 : paymasterref04_Constant.f 8001 38 = some 2177026350 := const_of (by decide) (by decide) prime_38 root_3_167
theorem const_39 : paymasterref04_Constant.f 8001 39 = some 2456956037 := const_of (by decide) (by decide) prime_39 root_3_173
theorem const_40 : paymasterref04_Constant.f 8001 40 = some 2730485921 := const_of (by decide) (by decide) prime_40 root_3_179
theorem const_41 : paymasterref04_Constant.f 8001 41 = some 2820302411 := const_of (by decide) (by decide) prime_41 root_3_181
theorem const_42 : paymasterref04_Constant.f 8001 42 = some 3259730800 := const_of (by decide) (by decide) prime_42 root_3_191
theorem const_43 : paymasterref04_Constant.f 8001 43 = some 3345764771 := const_of (by decide) (by decide) prime_43 root_3_193
theorem const_44 : paymasterref04_Constant.f 8001 44 = some 3516065817 := const_of (by decide) (by decide) prime_44 root_3_197
theorem const_45 : paymasterref04_Constant.f 8001 45 = some 3600352804 := const_of (by decide) (by decide) prime_45 root_3_199
theorem const_46 : paymasterref04_Constant.f 8001 46 = some 4094571909 := const_of (by decide) (by decide) prime_46 root_3_211
theorem const_47 : paymasterref04_Constant.f 8001 47 = some 275423344 := const_of (by decide) (by decide) prime_47 root_3_223
theorem const_48 : paymasterref04_Constant.f 8001 48 = some 430227734 := const_of (by decide) (by decide) prime_48 root_3_227
theorem const_49 : paymasterref04_Constant.f 8001 49 = some 506948616 := const_of (by decide) (by decide) prime_49 root_3_229
theorem const_50 : paymasterref04_Constant.f 8001 50 = some 659060556 := const_of (by decide) (by decide) prime_50 root_3_233
theorem const_51 : paymasterref04_Constant.f 8001 51 = some 883997877 := const_of (by decide) (by decide) prime_51 root_3_239
theorem const_52 : paymasterref04_Constant.f 8001 52 = some 958139571 := const_of (by decide) (by decide) prime_52 root_3_241
theorem const_53 : paymasterref04_Constant.f 8001 53 = some 1322822218 := const_of (by decide) (by decide) prime_53 root_3_251
theorem const_54 : paymasterref04_Constant.f 8001 54 = some 1537002063 := const_of (by decide) (by decide) prime_54 root_3_257
theorem const_55 : paymasterref04_Constant.f 8001 55 = some 1747873779 := const_of (by decide) (by decide) prime_55 root_3_263
theorem const_56 : paymasterref04_Constant.f 8001 56 = some 1955562222 := const_of (by decide) (by decide) prime_56 root_3_269
theorem const_57 : paymasterref04_Constant.f 8001 57 = some 2024104815 := const_of (by decide) (by decide) prime_57 root_3_271
theorem const_58 : paymasterref04_Constant.f 8001 58 = some 2227730452 := const_of (by decide) (by decide) prime_58 root_3_277
theorem const_59 : paymasterref04_Constant.f 8001 59 = some 2361852424 := const_of (by decide) (by decide) prime_59 root_3_281
theorem const_60 : paymasterref04_Constant.f 8001 60 = some 2428436474 := const_of (by decide) (by decide) prime_60 root_3_283
theorem const_61 : paymasterref04_Constant.f 8001 61 = some 2756734187 := const_of (by decide) (by decide) prime_61 root_3_293
theorem const_62 : paymasterref04_Constant.f 8001 62 = some 3204031479 := const_of (by decide) (by decide) prime_62 root_3_307
theorem const_63 : paymasterref04_Constant.f 8001 63 = some 3329325298 := const_of (by decide) (by decide) prime_63 root_3_311
theorem const_in : ∀ k : Nat, k < 64 → paymasterref04_Constant.f 8001 (k : Int) = some (kTab.getD k 0)
  | 0, _ => const_0
  | 1, _ => const_1
  | 2, _ => const_2
  | 3, _ => const_3
  | 4, _ => const_4
  | 5, _ => const_5
  | 6, _ => const_6
  | 7, _ => const_7
  | 8, _ => const_8
  | 9, _ => const_9
  | 10, _ => const_10
  | 11, _ => const_11
  | 12, _ => const_12
  | 13, _ => const_13
  | 14, _ => const_14
  | 15, _ => const_15
  | 16, _ => const_16
  | 17, _ => const_17
  | 18, _ => const_18
  | 19, _ => const_19
  | 20, _ => const_20
  | 21, _ => const_21
  | 22, _ => const_22
  | 23, _ => const_23
  | 24, _ => const_24
  | 25, _ => const_25
  | 26, _ => const_26
  | 27, _ => const_27
  | 28, _ => const_28
  | 29, _ => const_29
  | 30, _ => const_30
  | 31, _ => const_31
  | 32, _ => const_32
  | 33, _ => const_33
  | 34, _ => const_34
  | 35, _ => const_35
  | 36, _ => const_36
  | 37, _ => const_37
  | 38, _ => const_38
  | 39, _ => const_39
  | 40, _ => const_40
  | 41, _ => const_41
  | 42, _ => const_42
  | 43, _ => const_43
  | 44, _ => const_44
  | 45, _ => const_45
  | 46, _ => const_46
  | 47, _ => const_47
  | 48, _ => const_48
  | 49, _ => const_49
  | 50, _ => const_50
  | 51, _ => const_51
  | 52, _ => const_52
  | 53, _ => const_53
  | 54, _ => const_54
  | 55, _ => const_55
  | 56, _ => const_56
  | 57, _ => const_57
  | 58, _ => const_58
  | 59, _ => const_59
  | 60, _ => const_60
  | 61, _ => const_61
  | 62, _ => const_62
  | 63, _ => const_63
  | n + 64, h => absurd h (by omega)
theorem const_out (a : Int) (h : a < 0 ∨ a > 63) : paymasterref04_Constant.f 8001 a = some 0 := by
  unfold paymasterref04_Constant.f
  by_cases h0 : a < 0
  · rw [if_pos h0]; simp only [paymasterref04_Constant.j0, if_true]
  · rw [if_neg h0]
    have h2 : decide (a > 63) = true := by simp; omega
    rw [h2]; simp only [paymasterref04_Constant.j0, if_true]
theorem const_ref (a : Int) : paymasterref04_Constant.f 8001 a = some (kAt a) := by
  unfold kAt
  by_cases h0 : a < 0
  · rw [if_pos h0, const_out a (.inl h0)]
  · rw [if_neg h0]
    by_cases h1 : a ≥ 64
    · rw [if_pos h1, const_out a (.inr (by omega))]
    · rw [if_neg h1]
      have h := const_in a.toNat (by omega)
      rw [Int.toNat_of_nonneg (by omega)] at h
      exact h
end Go.Proofs.YtobgcjfelegpkaaDoor.Pure
end
