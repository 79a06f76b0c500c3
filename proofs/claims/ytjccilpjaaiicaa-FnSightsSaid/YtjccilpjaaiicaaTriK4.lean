/- The test of triangles over shape 4, by the kernel. No program in sight. -/
import Derived.Test.YtjccilpjaaiicaaTriF
namespace Go.Proofs.Ytjccilpjaaiicaa
namespace Jor

set_option maxRecDepth 1000000 in
theorem triK4 : chk (shp 4) 3 tst4 = true := by decide +kernel

end Jor
end Go.Proofs.Ytjccilpjaaiicaa
