/-
  Contracts: the reference's functions of points that ask first whether the points are valid.
-/
import Derived.Test.YtnomiefjefopbaaPts
import Derived.Test.YtnomiefjefopbaaNear
namespace Go.Proofs.Ytnomiefjefopbaa
open Go.RowKit

end Go.Proofs.Ytnomiefjefopbaa
