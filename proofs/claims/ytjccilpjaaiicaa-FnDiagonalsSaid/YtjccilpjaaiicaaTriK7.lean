/- The test of triangles over shape 7, by the kernel. No program in sight. -/
import Derived.Test.YtjccilpjaaiicaaJ6
namespace Go.Proofs.Ytjccilpjaaiicaa
namespace Jor

set_option maxRecDepth 1000000 in
theorem triK7 : chk (shp 7) 3 tst7 = true := by decide +kernel

end Jor
end Go.Proofs.Ytjccilpjaaiicaa
