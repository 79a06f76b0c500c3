/-
  Contracts: where a point lies in a polygon; PlaceIn, IsIn.
-/
import Derived.Test.YtkdhgngpapfkdaaDoorPlaceL
import Derived.Test.YtkdhgngpapfkdaaDoorCor
namespace Go.Proofs.YtkdhgngpapfkdaaDoor
open Go.RowKit

/-- PlaceIn, as both texts give it -/
def placeInV (l : List (Int × Int)) (px py : Int) : Int := if pok px py = true then (if roomB l = true then placeV l px py else 0) else 0

theorem place_fine {l : List (Int × Int)} {px py : Int} (hr : roomB l = true) (hq : pok px py = true) : placeV l px py = holdsV l px py + 1 :=
  place_holds (roomB_fine hr).1.small (within_more (within_of_pok hq) (by omega))
theorem holdsV_bd (l : List (Int × Int)) (px py : Int) : holdsV l px py = -1 ∨ holdsV l px py = 0 ∨ holdsV l px py = 1 := by
  unfold holdsV
  split
  · exact .inr (.inl rfl)
  · cases parTo (crS l px py) l.length
    · exact .inl rfl
    · exact .inr (.inr rfl)

/-- IsIn, as both texts give it -/
def isInV (l : List (Int × Int)) (px py : Int) : Bool := placeInV l px py != 0

end Go.Proofs.YtkdhgngpapfkdaaDoor
