/- The corners' test over shape 4, a part, by the kernel. No program in sight. -/
import Derived.Test.YtanagdlikoinaaaCorn
namespace Go.Proofs.Ytanagdlikoinaaa

set_option maxRecDepth 1000000 in
theorem cornK4b1 : ((dsp 3).drop 1).all (fun d => chk [(10, 5), (8, 1), (5, 5), (2, 1), (0, 5)] (3 - d.2.2) fun t => cornT ((0, 0) :: (((10, 0) : Int × Int).1 + d.1, ((10, 0) : Int × Int).2 + d.2.1) :: t)) = true := by decide +kernel

end Go.Proofs.Ytanagdlikoinaaa
