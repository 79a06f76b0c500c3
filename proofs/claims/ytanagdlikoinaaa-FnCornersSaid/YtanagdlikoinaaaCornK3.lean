/- The corners' test over shape 3, by the kernel. No program in sight. -/
import Derived.Test.YtanagdlikoinaaaCorn
namespace Go.Proofs.Ytanagdlikoinaaa

set_option maxRecDepth 1000000 in
theorem cornK3 : chk (shp 3) 3 cornT = true := by decide +kernel

end Go.Proofs.Ytanagdlikoinaaa
