/- Texts of this session, put together: Root3, Root4, Root5. -/
import Derived.Test.YtobgcjfelegpkaaDoorPBwC
section
/- Roots of primes, as the document's own function takes them: evaluated by the kernel. -/
namespace Go.Proofs.YtobgcjfelegpkaaDoor.Pure
open Go.Proofs.YtobgcjfelegpkaaDoor.PBw
set_option maxRecDepth 1000000
theorem root_3_157 : paymasterref04_root.f 300 157 3 = some 1695183700 := by decide +kernel
theorem root_3_163 : paymasterref04_root.f 300 163 3 = some 1986661051 := by decide +kernel
theorem root_3_167 : paymasterref04_root.f 300 167 3 = some 2177026350 := by decide +kernel
theorem root_3_173 : paymasterref04_root.f 300 173 3 = some 2456956037 := by decide +kernel
theorem root_3_179 : paymasterref04_root.f 300 179 3 = some 2730485921 := by decide +kernel
theorem root_3_181 : paymasterref04_root.f 300 181 3 = some 2820302411 := by decide +kernel
theorem root_3_191 : paymasterref04_root.f 300 191 3 = some 3259730800 := by decide +kernel
theorem root_3_193 : paymasterref04_root.f 300 193 3 = some 3345764771 := by decide +kernel
theorem root_3_197 : paymasterref04_root.f 300 197 3 = some 3516065817 := by decide +kernel
theorem root_3_199 : paymasterref04_root.f 300 199 3 = some 3600352804 := by decide +kernel
theorem root_3_211 : paymasterref04_root.f 300 211 3 = some 4094571909 := by decide +kernel
theorem root_3_223 : paymasterref04_root.f 300 223 3 = some 275423344 := by decide +kernel
end Go.Proofs.YtobgcjfelegpkaaDoor.Pure
end
section
/- Roots of primes, as the document's own function takes them: evaluated by the kernel. -/
namespace Go.Proofs.YtobgcjfelegpkaaDoor.Pure
open Go.Proofs.YtobgcjfelegpkaaDoor.PBw
set_option maxRecDepth 1000000
theorem root_3_227 : paymasterref04_root.f 300 227 3 = some 430227734 := by decide +kernel
theorem root_3_229 : paymasterref04_root.f 300 229 3 = some 506948616 := by decide +kernel
theorem root_3_233 : paymasterref04_root.f 300 233 3 = some 659060556 := by decide +kernel
theorem root_3_239 : paymasterref04_root.f 300 239 3 = some 883997877 := by decide +kernel
theorem root_3_241 : paymasterref04_root.f 300 241 3 = some 958139571 := by decide +kernel
theorem root_3_251 : paymasterref04_root.f 300 251 3 = some 1322822218 := by decide +kernel
theorem root_3_257 : paymasterref04_root.f 300 257 3 = some 1537002063 := by decide +kernel
theorem root_3_263 : paymasterref04_root.f 300 263 3 = some 1747873779 := by decide +kernel
theorem root_3_269 : paymasterref04_root.f 300 269 3 = some 1955562222 := by decide +kernel
theorem root_3_271 : paymasterref04_root.f 300 271 3 = some 2024104815 := by decide +kernel
theorem root_3_277 : paymasterref04_root.f 300 277 3 = some 2227730452 := by decide +kernel
theorem root_3_281 : paymasterref04_root.f 300 281 3 = some 2361852424 := by decide +kernel
end Go.Proofs.YtobgcjfelegpkaaDoor.Pure
end
section
/- Roots of primes, as the document's own function takes them: evaluated by the kernel. -/
namespace Go.Proofs.YtobgcjfelegpkaaDoor.Pure
open Go.Proofs.YtobgcjfelegpkaaDoor.PBw
set_option maxRecDepth 1000000
theorem root_3_283 : paymasterref04_root.f 300 283 3 = some 2428436474 := by decide +kernel
theorem root_3_293 : paymasterref04_root.f 300 293 3 = some 2756734187 := by decide +kernel
theorem root_3_307 : paymasterref04_root.f 300 307 3 = some 3204031479 := by decide +kernel
theorem root_3_311 : paymasterref04_root.f 300 311 3 = some 3329325298 := by decide +kernel
theorem root_2_2 : paymasterref04_root.f 300 2 2 = some 1779033703 := by decide +kernel
theorem root_2_3 : paymasterref04_root.f 300 3 2 = some 3144134277 := by decide +kernel
theorem root_2_5 : paymasterref04_root.f 300 5 2 = some 1013904242 := by decide +kernel
theorem root_2_7 : paymasterref04_root.f 300 7 2 = some 2773480762 := by decide +kernel
theorem root_2_11 : paymasterref04_root.f 300 11 2 = some 1359893119 := by decide +kernel
theorem root_2_13 : paymasterref04_root.f 300 13 2 = some 2600822924 := by decide +kernel
theorem root_2_17 : paymasterref04_root.f 300 17 2 = some 528734635 := by decide +kernel
theorem root_2_19 : paymasterref04_root.f 300 19 2 = some 1541459225 := by decide +kernel
end Go.Proofs.YtobgcjfelegpkaaDoor.Pure
end
