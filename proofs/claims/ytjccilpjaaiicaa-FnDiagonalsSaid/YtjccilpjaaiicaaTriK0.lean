/- The test of triangles over shape 0, by the kernel. No program in sight. -/
import Derived.Test.YtjccilpjaaiicaaJ6
namespace Go.Proofs.Ytjccilpjaaiicaa
namespace Jor

set_option maxRecDepth 1000000 in
theorem triK0 : chk (shp 0) 3 tst0 = true := by decide +kernel

end Jor
end Go.Proofs.Ytjccilpjaaiicaa
