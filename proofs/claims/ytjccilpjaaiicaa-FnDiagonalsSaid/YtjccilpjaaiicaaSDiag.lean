/-
  Contracts: diagonals (the reference's l09Diagonal, IsDiagonal).
-/
import Derived.Test.YtjccilpjaaiicaaDiagP
import Derived.Test.YtjccilpjaaiicaaSSees
namespace Go.Proofs.Ytjccilpjaaiicaa
open Go.RowKit

theorem nat_ne_cast (i k : Nat) : ((i : Int) != (k : Int)) = !(i == k) := by rw [bne, nat_eq_cast]



end Go.Proofs.Ytjccilpjaaiicaa
