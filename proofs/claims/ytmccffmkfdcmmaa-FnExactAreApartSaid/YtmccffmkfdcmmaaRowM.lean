/-
  A value that is a new slice of the numbers (points) V, its block not below lo. No program in sight.
-/
import Derived.Test.YtmccffmkfdcmmaaInts
import Derived.Test.YtmccffmkfdcmmaaFlow
namespace Go.Proofs.Ytmccffmkfdcmmaa
open Go.RowKit

def RowI (lo : Nat) (T : TypeId) (V : List Int) (v : Value) (w : World) : Prop := ∃ A c, v = .slice A V.length c ∧ OwnI w lo w.heap.size T A V
theorem RowI_stable (lo : Nat) (T : TypeId) (V : List Int) : Stable (RowI lo T V) := by
  rintro v w w' ⟨A, c, rfl, h⟩ hx
  exact ⟨A, c, rfl, (h.ext hx).more (Nat.le_refl _) hx.size⟩
def RowS (lo : Nat) (T : TypeId) (V : List (Int × Int)) (v : Value) (w : World) : Prop := ∃ A c, v = .slice A V.length c ∧ OwnS w lo w.heap.size T A V
theorem RowS_stable (lo : Nat) (T : TypeId) (V : List (Int × Int)) : Stable (RowS lo T V) := by
  rintro v w w' ⟨A, c, rfl, h⟩ hx
  exact ⟨A, c, rfl, (h.ext hx).more (Nat.le_refl _) hx.size⟩

end Go.Proofs.Ytmccffmkfdcmmaa
