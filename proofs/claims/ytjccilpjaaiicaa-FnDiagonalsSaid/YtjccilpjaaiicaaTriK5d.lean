/- The test of triangles over shape 5, a part, by the kernel. No program in sight. -/
import Derived.Test.YtjccilpjaaiicaaJ6
namespace Go.Proofs.Ytjccilpjaaiicaa
namespace Jor

set_option maxRecDepth 1000000 in
theorem triK5d1 : (((dsp 3).drop 1).drop 4).all (fun d => chk [(7, 7), (1, 7), (1, 3), (3, 3), (3, 5), (5, 5), (5, 2), (0, 2)] (3 - d.2.2) fun t => tst5 ((0, 0) :: (((7, 0) : Int × Int).1 + d.1, ((7, 0) : Int × Int).2 + d.2.1) :: t)) = true := by decide +kernel

end Jor
end Go.Proofs.Ytjccilpjaaiicaa
