/- The corners' test over shape 2, by the kernel. No program in sight. -/
import Derived.Test.YtanagdlikoinaaaCorn
namespace Go.Proofs.Ytanagdlikoinaaa

set_option maxRecDepth 1000000 in
theorem cornK2 : chk (shp 2) 3 cornT = true := by decide +kernel

end Go.Proofs.Ytanagdlikoinaaa
