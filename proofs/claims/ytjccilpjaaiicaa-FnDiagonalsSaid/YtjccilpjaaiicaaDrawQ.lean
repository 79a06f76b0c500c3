/-
  Contract: the draw of a room and a point.
-/
import Derived.Test.YtjccilpjaaiicaaDrawS
namespace Go.Proofs.Ytjccilpjaaiicaa
open Go.RowKit

/-- a point near the origin -/
def NearV (v : Value) (_ : World) : Prop := ∃ x y : Int, ((-2 ≤ x ∧ x ≤ 6) ∧ (-2 ≤ y ∧ y ≤ 6)) ∧ v = .agg #[.int .i64 x, .int .i64 y]
theorem nearV_st (R : World → World → Prop) : StableT R NearV := fun _ _ _ h _ => h
theorem PtC.only {g : Nat} {a b : World} {k : Nat} {x y : Int} (h : PtC a k x y) (ho : Only g a b) (hk : k ≠ g) : PtC b k x y := (ho.block k (heap_lt h) hk).trans h

end Go.Proofs.Ytjccilpjaaiicaa
