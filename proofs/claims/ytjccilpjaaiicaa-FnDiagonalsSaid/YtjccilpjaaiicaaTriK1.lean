/- The test of triangles over shape 1, by the kernel. No program in sight. -/
import Derived.Test.YtjccilpjaaiicaaJ6
namespace Go.Proofs.Ytjccilpjaaiicaa
namespace Jor

set_option maxRecDepth 1000000 in
theorem triK1 : chk (shp 1) 3 tst1 = true := by decide +kernel

end Jor
end Go.Proofs.Ytjccilpjaaiicaa
