/-
  Contracts: walls compared; WallOf with its four numbers.
-/
import Derived.Test.YtmccffmkfdcmmaaWallOf
namespace Go.Proofs.Ytmccffmkfdcmmaa
open Go.RowKit

theorem eqPoint_same (a b : Int) (w : World) :
    Calls Try.prog 64 #[.agg #[.int .i64 a, .int .i64 b], .agg #[.int .i64 a, .int .i64 b]] w fun e w' => e = .returned (.bool true) ∧ Ext w w' :=
  (eqPoint_any a b a b w).mono fun e w' ⟨h, hx⟩ => ⟨by rw [h]; simp [samePt], hx⟩

def wA (l : List (Int × Int)) (k : Int) : Int := if hasC l k = true then gx l k.toNat else 0
def wB (l : List (Int × Int)) (k : Int) : Int := if hasC l k = true then gy l k.toNat else 0
def wC (l : List (Int × Int)) (k : Int) : Int := if hasC l k = true then gx l (nx l k.toNat) else 0
def wD (l : List (Int × Int)) (k : Int) : Int := if hasC l k = true then gy l (nx l k.toNat) else 0
theorem WallOfV_eq (l : List (Int × Int)) (k : Int) : WallOfV l k = .agg #[.int .i64 (wA l k), .int .i64 (wB l k), .int .i64 (wC l k), .int .i64 (wD l k)] := by
  unfold WallOfV wA wB wC wD
  cases hasC l k <;> rfl

end Go.Proofs.Ytmccffmkfdcmmaa
