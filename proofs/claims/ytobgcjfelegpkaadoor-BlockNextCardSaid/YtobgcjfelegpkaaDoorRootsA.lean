/- Texts of this session, put together: Root0, Root1, Root2. -/
import Derived.Test.YtobgcjfelegpkaaDoorPBwC
section
/- Roots of primes, as the document's own function takes them: evaluated by the kernel. -/
namespace Go.Proofs.YtobgcjfelegpkaaDoor.Pure
open Go.Proofs.YtobgcjfelegpkaaDoor.PBw
set_option maxRecDepth 1000000
theorem root_3_2 : paymasterref04_root.f 300 2 3 = some 1116352408 := by decide +kernel
theorem root_3_3 : paymasterref04_root.f 300 3 3 = some 1899447441 := by decide +kernel
theorem root_3_5 : paymasterref04_root.f 300 5 3 = some 3049323471 := by decide +kernel
theorem root_3_7 : paymasterref04_root.f 300 7 3 = some 3921009573 := by decide +kernel
theorem root_3_11 : paymasterref04_root.f 300 11 3 = some 961987163 := by decide +kernel
theorem root_3_13 : paymasterref04_root.f 300 13 3 = some 1508970993 := by decide +kernel
theorem root_3_17 : paymasterref04_root.f 300 17 3 = some 2453635748 := by decide +kernel
theorem root_3_19 : paymasterref04_root.f 300 19 3 = some 2870763221 := by decide +kernel
theorem root_3_23 : paymasterref04_root.f 300 23 3 = some 3624381080 := by decide +kernel
theorem root_3_29 : paymasterref04_root.f 300 29 3 = some 310598401 := by decide +kernel
theorem root_3_31 : paymasterref04_root.f 300 31 3 = some 607225278 := by decide +kernel
theorem root_3_37 : paymasterref04_root.f 300 37 3 = some 1426881987 := by decide +kernel
end Go.Proofs.YtobgcjfelegpkaaDoor.Pure
end
section
/- Roots of primes, as the document's own function takes them: evaluated by the kernel. -/
namespace Go.Proofs.YtobgcjfelegpkaaDoor.Pure
open Go.Proofs.YtobgcjfelegpkaaDoor.PBw
set_option maxRecDepth 1000000
theorem root_3_41 : paymasterref04_root.f 300 41 3 = some 1925078388 := by decide +kernel
theorem root_3_43 : paymasterref04_root.f 300 43 3 = some 2162078206 := by decide +kernel
theorem root_3_47 : paymasterref04_root.f 300 47 3 = some 2614888103 := by decide +kernel
theorem root_3_53 : paymasterref04_root.f 300 53 3 = some 3248222580 := by decide +kernel
theorem root_3_59 : paymasterref04_root.f 300 59 3 = some 3835390401 := by decide +kernel
theorem root_3_61 : paymasterref04_root.f 300 61 3 = some 4022224774 := by decide +kernel
theorem root_3_67 : paymasterref04_root.f 300 67 3 = some 264347078 := by decide +kernel
theorem root_3_71 : paymasterref04_root.f 300 71 3 = some 604807628 := by decide +kernel
theorem root_3_73 : paymasterref04_root.f 300 73 3 = some 770255983 := by decide +kernel
theorem root_3_79 : paymasterref04_root.f 300 79 3 = some 1249150122 := by decide +kernel
theorem root_3_83 : paymasterref04_root.f 300 83 3 = some 1555081692 := by decide +kernel
theorem root_3_89 : paymasterref04_root.f 300 89 3 = some 1996064986 := by decide +kernel
end Go.Proofs.YtobgcjfelegpkaaDoor.Pure
end
section
/- Roots of primes, as the document's own function takes them: evaluated by the kernel. -/
namespace Go.Proofs.YtobgcjfelegpkaaDoor.Pure
open Go.Proofs.YtobgcjfelegpkaaDoor.PBw
set_option maxRecDepth 1000000
theorem root_3_97 : paymasterref04_root.f 300 97 3 = some 2554220882 := by decide +kernel
theorem root_3_101 : paymasterref04_root.f 300 101 3 = some 2821834349 := by decide +kernel
theorem root_3_103 : paymasterref04_root.f 300 103 3 = some 2952996808 := by decide +kernel
theorem root_3_107 : paymasterref04_root.f 300 107 3 = some 3210313671 := by decide +kernel
theorem root_3_109 : paymasterref04_root.f 300 109 3 = some 3336571891 := by decide +kernel
theorem root_3_113 : paymasterref04_root.f 300 113 3 = some 3584528711 := by decide +kernel
theorem root_3_127 : paymasterref04_root.f 300 127 3 = some 113926993 := by decide +kernel
theorem root_3_131 : paymasterref04_root.f 300 131 3 = some 338241895 := by decide +kernel
theorem root_3_137 : paymasterref04_root.f 300 137 3 = some 666307205 := by decide +kernel
theorem root_3_139 : paymasterref04_root.f 300 139 3 = some 773529912 := by decide +kernel
theorem root_3_149 : paymasterref04_root.f 300 149 3 = some 1294757372 := by decide +kernel
theorem root_3_151 : paymasterref04_root.f 300 151 3 = some 1396182291 := by decide +kernel
end Go.Proofs.YtobgcjfelegpkaaDoor.Pure
end
