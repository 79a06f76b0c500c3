/- The corners' test over shape 4, out of its parts. No program in sight. -/
import Derived.Test.YtanagdlikoinaaaCornK4a
import Derived.Test.YtanagdlikoinaaaCornK4b
import Derived.Test.YtanagdlikoinaaaCornK4c
namespace Go.Proofs.Ytanagdlikoinaaa

theorem cornK4 : chk (shp 4) 3 cornT = true := chk_split _ _ _ _ (chk_split _ _ _ _ cornK4c1 cornK4b1) cornK4a1

end Go.Proofs.Ytanagdlikoinaaa
