/-
  Plain geometry of points with whole coordinates, in the walk's own arithmetic (64 bits). No program in sight.
-/
import Derived.Test.YtpiblmnhlgffdaaBase
namespace Go.Proofs.Ytpiblmnhlgffdaa
open Go.RowKit

def inB (x lo hi : Int) : Bool := decide (lo ≤ x) && decide (x ≤ hi)
def pok (x y : Int) : Bool := inB x (-40) 40 && inB y (-40) 40
def turnW (ax ay bx by_ cx cy : Int) : Int := wrap64 (wrap64 (wrap64 (bx - ax) * wrap64 (cy - ay)) - wrap64 (wrap64 (by_ - ay) * wrap64 (cx - ax)))
def sqW (ax ay bx by_ : Int) : Int := wrap64 (wrap64 (wrap64 (ax - bx) * wrap64 (ax - bx)) + wrap64 (wrap64 (ay - by_) * wrap64 (ay - by_)))
def onW (px py ax ay bx by_ : Int) : Bool := decide (turnW ax ay bx by_ px py = 0) && (inB px (min ax bx) (max ax bx) && inB py (min ay by_) (max ay by_))
end Go.Proofs.Ytpiblmnhlgffdaa
