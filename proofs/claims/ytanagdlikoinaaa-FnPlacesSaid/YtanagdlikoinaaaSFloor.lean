/-
  Contract: the reference's FloorPoints.
-/
import Derived.Test.YtanagdlikoinaaaFloor
import Derived.Test.YtanagdlikoinaaaJ3
namespace Go.Proofs.Ytanagdlikoinaaa
open Go.RowKit

theorem Two.grown {w w' : World} {b : Nat} {T : TypeId} {x y : Int} {row : Option Nat} (h : Two w b T x y) (hg : w.grownBy w' row) (hr : row ≠ some b) : Two w' b T x y := (hg.block b (heap_lt h) (fun e => hr e.symm)).trans h
theorem Two.set0 {w : World} {b : Nat} {T : TypeId} {x y : Int} (h : Two w b T x y) (x' : Int) : Two (w.setCell ⟨b, 0, none⟩ (.int .i64 x')) b T x' y := by
  unfold Two at *
  simp [World.setCell, Array.getElem?_modify, h]
theorem Two.set1 {w : World} {b : Nat} {T : TypeId} {x y : Int} (h : Two w b T x y) (y' : Int) : Two (w.setCell ⟨b, 1, none⟩ (.int .i64 y')) b T x y' := by
  unfold Two at *
  simp [World.setCell, Array.getElem?_modify, h]

end Go.Proofs.Ytanagdlikoinaaa
