/- The test of triangles over shape 5, out of its parts. No program in sight. -/
import Derived.Test.YtjccilpjaaiicaaTriK5a
import Derived.Test.YtjccilpjaaiicaaTriK5b
import Derived.Test.YtjccilpjaaiicaaTriK5c
import Derived.Test.YtjccilpjaaiicaaTriK5d
import Derived.Test.YtjccilpjaaiicaaTriK5e
import Derived.Test.YtjccilpjaaiicaaTriK5f
import Derived.Test.YtjccilpjaaiicaaTriK5g
import Derived.Test.YtjccilpjaaiicaaTriK5h
import Derived.Test.YtjccilpjaaiicaaTriK5i
namespace Go.Proofs.Ytjccilpjaaiicaa
namespace Jor

theorem triK5 : chk (shp 5) 3 tst5 = true :=
  chk_split _ _ _ _ (chk_split _ _ _ _ (chk_split _ _ _ _ (chk_split _ _ _ _ (chk_split _ _ _ _ (chk_split _ _ _ _ triK5g1 triK5h1) triK5i1) triK5f1) triK5e1) (all_parts 4 _ _ triK5c1 triK5d1)) (all_parts 4 _ _ triK5a1 (all_parts 4 _ _ triK5b1 triK5b2))

end Jor
end Go.Proofs.Ytjccilpjaaiicaa
