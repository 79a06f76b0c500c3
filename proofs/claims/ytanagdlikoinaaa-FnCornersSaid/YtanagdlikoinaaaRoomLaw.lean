/-
  What the laws over rooms share: a value that reads as the room l; the copy's and the comparison's contracts in these words.
-/
import Derived.Test.YtanagdlikoinaaaMark
namespace Go.Proofs.Ytanagdlikoinaaa
open Go.RowKit

def IsRoom (l : List (Int × Int)) (v : Value) (w : World) : Prop := ∃ A c, v = .agg #[.slice A l.length c] ∧ RPts w A l

theorem IsRoom_stable (l : List (Int × Int)) : Stable (IsRoom l) := by
  rintro v w w' ⟨A, c, rfl, h⟩ hx
  exact ⟨A, c, rfl, h.ext hx⟩

end Go.Proofs.Ytanagdlikoinaaa
