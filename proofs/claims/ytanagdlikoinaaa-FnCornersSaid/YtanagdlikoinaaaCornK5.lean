/- The corners' test over shape 5, out of its parts. No program in sight. -/
import Derived.Test.YtanagdlikoinaaaCornK5a
import Derived.Test.YtanagdlikoinaaaCornK5b
import Derived.Test.YtanagdlikoinaaaCornK5c
import Derived.Test.YtanagdlikoinaaaCornK5d
import Derived.Test.YtanagdlikoinaaaCornK5e
import Derived.Test.YtanagdlikoinaaaCornK5f
import Derived.Test.YtanagdlikoinaaaCornK5g
import Derived.Test.YtanagdlikoinaaaCornK5h
import Derived.Test.YtanagdlikoinaaaCornK5i
namespace Go.Proofs.Ytanagdlikoinaaa

theorem cornK5 : chk (shp 5) 3 cornT = true :=
  chk_split _ _ _ _ (chk_split _ _ _ _ (chk_split _ _ _ _ (chk_split _ _ _ _ (chk_split _ _ _ _ (chk_split _ _ _ _ cornK5g1 cornK5h1) cornK5i1) cornK5f1) cornK5e1) (all_parts 4 _ _ cornK5c1 cornK5d1)) (all_parts 4 _ _ cornK5a1 (all_parts 4 _ _ cornK5b1 cornK5b2))

end Go.Proofs.Ytanagdlikoinaaa
