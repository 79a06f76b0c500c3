/-
  Contract: the reference's Sees.
-/
import Derived.Test.YtjccilpjaaiicaaSeesS
import Derived.Test.YtjccilpjaaiicaaSeesP
import Derived.Test.YtjccilpjaaiicaaJ6
namespace Go.Proofs.Ytjccilpjaaiicaa
open Go.RowKit

end Go.Proofs.Ytjccilpjaaiicaa
