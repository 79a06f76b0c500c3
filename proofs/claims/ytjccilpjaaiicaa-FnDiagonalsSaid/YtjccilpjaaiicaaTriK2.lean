/- The test of triangles over shape 2, by the kernel. No program in sight. -/
import Derived.Test.YtjccilpjaaiicaaJ6
namespace Go.Proofs.Ytjccilpjaaiicaa
namespace Jor

set_option maxRecDepth 1000000 in
theorem triK2 : chk (shp 2) 3 tst2 = true := by decide +kernel

end Jor
end Go.Proofs.Ytjccilpjaaiicaa
