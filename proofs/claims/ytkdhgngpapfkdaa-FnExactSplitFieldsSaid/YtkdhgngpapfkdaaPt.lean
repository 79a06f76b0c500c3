/-
  Contracts: the functions of single points, of the reference and of the program.
-/
import Derived.Test.YtkdhgngpapfkdaaProg
import Derived.Test.YtkdhgngpapfkdaaGeo
import Derived.WalkKit
import Derived.WalkSpells
import Derived.WalkLawsBesides
namespace Go.Proofs.Ytkdhgngpapfkdaa
open Go.RowKit

theorem ret_bool {a b : Bool} (h : a = b) : Ending.returned (.bool a) = .returned (.bool b) := by rw [h]
theorem ret_int {k : IntKind} {a b : Int} (h : a = b) : Ending.returned (.int k a) = .returned (.int k b) := by rw [h]

end Go.Proofs.Ytkdhgngpapfkdaa
