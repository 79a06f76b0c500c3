/- The test of triangles over shape 4, by the kernel. No program in sight. -/
import Derived.Test.YtanagdlikoinaaaTriF
namespace Go.Proofs.Ytanagdlikoinaaa
namespace Jor

set_option maxRecDepth 1000000 in
theorem triK4 : chk (shp 4) 3 tst4 = true := by decide +kernel

end Jor
end Go.Proofs.Ytanagdlikoinaaa
