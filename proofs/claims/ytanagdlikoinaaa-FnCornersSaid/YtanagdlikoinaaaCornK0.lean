/- The corners' test over shape 0, by the kernel. No program in sight. -/
import Derived.Test.YtanagdlikoinaaaCorn
namespace Go.Proofs.Ytanagdlikoinaaa

set_option maxRecDepth 1000000 in
theorem cornK0 : chk (shp 0) 3 cornT = true := by decide +kernel

end Go.Proofs.Ytanagdlikoinaaa
