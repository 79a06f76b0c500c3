/- The test of triangles over shape 3, by the kernel. No program in sight. -/
import Derived.Test.YtanagdlikoinaaaTriF
namespace Go.Proofs.Ytanagdlikoinaaa
namespace Jor

set_option maxRecDepth 1000000 in
theorem triK3 : chk (shp 3) 3 tst3 = true := by decide +kernel

end Jor
end Go.Proofs.Ytanagdlikoinaaa
