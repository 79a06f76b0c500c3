/- The corners' test over shape 4, a part, by the kernel. No program in sight. -/
import Derived.Test.YtanagdlikoinaaaCorn
namespace Go.Proofs.Ytanagdlikoinaaa

set_option maxRecDepth 1000000 in
theorem cornK4c1 : chk [(10, 5), (8, 1), (5, 5), (2, 1), (0, 5)] 3 (fun t => cornT ((0, 0) :: (10, 0) :: t)) = true := by decide +kernel

end Go.Proofs.Ytanagdlikoinaaa
