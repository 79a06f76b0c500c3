/- The test of triangles over shape 5, a part, by the kernel. No program in sight. -/
import Derived.Test.YtjccilpjaaiicaaJ6
namespace Go.Proofs.Ytjccilpjaaiicaa
namespace Jor

set_option maxRecDepth 1000000 in
theorem triK5g1 : chk [(3, 5), (5, 5), (5, 2), (0, 2)] 3 (fun t => tst5 ((0, 0) :: (7, 0) :: (7, 7) :: (1, 7) :: (1, 3) :: (3, 3) :: t)) = true := by decide +kernel

end Jor
end Go.Proofs.Ytjccilpjaaiicaa
