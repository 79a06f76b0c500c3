/- The test of triangles over shape 6, by the kernel. No program in sight. -/
import Derived.Test.YtjccilpjaaiicaaJ6
namespace Go.Proofs.Ytjccilpjaaiicaa
namespace Jor

set_option maxRecDepth 1000000 in
theorem triK6 : chk (shp 6) 3 tst6 = true := by decide +kernel

end Jor
end Go.Proofs.Ytjccilpjaaiicaa
