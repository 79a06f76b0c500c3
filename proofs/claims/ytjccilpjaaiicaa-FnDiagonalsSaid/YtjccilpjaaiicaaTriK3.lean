/- The test of triangles over shape 3, by the kernel. No program in sight. -/
import Derived.Test.YtjccilpjaaiicaaJ6
namespace Go.Proofs.Ytjccilpjaaiicaa
namespace Jor

set_option maxRecDepth 1000000 in
theorem triK3 : chk (shp 3) 3 tst3 = true := by decide +kernel

end Jor
end Go.Proofs.Ytjccilpjaaiicaa
