/-
  Contracts: the reference's IsDiagonal, DoDiagonalsCross; the program's DoDiagonalsCross.
-/
import Derived.Test.YtjccilpjaaiicaaSDiag
import Derived.Test.YtjccilpjaaiicaaJ3
namespace Go.Proofs.Ytjccilpjaaiicaa
open Go.RowKit

end Go.Proofs.Ytjccilpjaaiicaa
