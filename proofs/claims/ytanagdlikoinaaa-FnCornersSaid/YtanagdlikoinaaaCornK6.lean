/- The corners' test over shape 6, by the kernel. No program in sight. -/
import Derived.Test.YtanagdlikoinaaaCorn
namespace Go.Proofs.Ytanagdlikoinaaa

set_option maxRecDepth 1000000 in
theorem cornK6 : chk (shp 6) 3 cornT = true := by decide +kernel

end Go.Proofs.Ytanagdlikoinaaa
