/- The test of triangles over shape 4, out of its parts. No program in sight. -/
import Derived.Test.YtjccilpjaaiicaaTriK4a
import Derived.Test.YtjccilpjaaiicaaTriK4b
import Derived.Test.YtjccilpjaaiicaaTriK4c
namespace Go.Proofs.Ytjccilpjaaiicaa
namespace Jor

theorem triK4 : chk (shp 4) 3 tst4 = true := chk_split _ _ _ _ (chk_split _ _ _ _ triK4c1 triK4b1) triK4a1

end Jor
end Go.Proofs.Ytjccilpjaaiicaa
