/- The corners' test over shape 1, by the kernel. No program in sight. -/
import Derived.Test.YtanagdlikoinaaaCorn
namespace Go.Proofs.Ytanagdlikoinaaa

set_option maxRecDepth 1000000 in
theorem cornK1 : chk (shp 1) 3 cornT = true := by decide +kernel

end Go.Proofs.Ytanagdlikoinaaa
