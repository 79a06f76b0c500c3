/-
  Contracts: one wall of a room.
-/
import Derived.Test.YtanagdlikoinaaaCor
namespace Go.Proofs.Ytanagdlikoinaaa
open Go.RowKit

/-- one wall's cells -/
def wallA (l : List (Int × Int)) (k : Nat) : Array Value := #[.int .i64 (gx l k), .int .i64 (gy l k), .int .i64 (gx l (nx l k)), .int .i64 (gy l (nx l k))]
/-- WallOf, as both texts give it -/
def WallOfV (l : List (Int × Int)) (k : Int) : Value := .agg (if hasC l k = true then wallA l k.toNat else #[.int .i64 0, .int .i64 0, .int .i64 0, .int .i64 0])

end Go.Proofs.Ytanagdlikoinaaa
