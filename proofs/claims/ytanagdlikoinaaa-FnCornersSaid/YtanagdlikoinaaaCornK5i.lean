/- The corners' test over shape 5, a part, by the kernel. No program in sight. -/
import Derived.Test.YtanagdlikoinaaaCorn
namespace Go.Proofs.Ytanagdlikoinaaa

set_option maxRecDepth 1000000 in
theorem cornK5i1 : ((dsp 3).drop 1).all (fun d => chk [(3, 3), (3, 5), (5, 5), (5, 2), (0, 2)] (3 - d.2.2) fun t => cornT ((0, 0) :: (7, 0) :: (7, 7) :: (1, 7) :: (((1, 3) : Int × Int).1 + d.1, ((1, 3) : Int × Int).2 + d.2.1) :: t)) = true := by decide +kernel

end Go.Proofs.Ytanagdlikoinaaa
