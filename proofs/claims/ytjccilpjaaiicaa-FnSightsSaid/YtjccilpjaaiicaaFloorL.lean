/-
  The points of a floor, row by row. No program in sight.
-/
import Derived.Test.YtjccilpjaaiicaaJ4
namespace Go.Proofs.Ytjccilpjaaiicaa
open Go.RowKit

/-- the least and the greatest coordinates of the first k points and of the first one -/
def loX (l : List (Int × Int)) : Nat → Int
  | 0 => gx l 0
  | k + 1 => if gx l k < loX l k then gx l k else loX l k
def loY (l : List (Int × Int)) : Nat → Int
  | 0 => gy l 0
  | k + 1 => if gy l k < loY l k then gy l k else loY l k
def hiX (l : List (Int × Int)) : Nat → Int
  | 0 => gx l 0
  | k + 1 => if hiX l k < gx l k then gx l k else hiX l k
def hiY (l : List (Int × Int)) : Nat → Int
  | 0 => gy l 0
  | k + 1 => if hiY l k < gy l k then gy l k else hiY l k
theorem loX_succ (l : List (Int × Int)) (k : Nat) : loX l (k + 1) = if gx l k < loX l k then gx l k else loX l k := rfl
theorem loY_succ (l : List (Int × Int)) (k : Nat) : loY l (k + 1) = if gy l k < loY l k then gy l k else loY l k := rfl
theorem hiX_succ (l : List (Int × Int)) (k : Nat) : hiX l (k + 1) = if hiX l k < gx l k then gx l k else hiX l k := rfl
theorem hiY_succ (l : List (Int × Int)) (k : Nat) : hiY l (k + 1) = if hiY l k < gy l k then gy l k else hiY l k := rfl
theorem loX_min (l : List (Int × Int)) (k : Nat) : loX l (k + 1) = min (loX l k) (gx l k) := by rw [loX_succ]; split <;> omega
theorem loY_min (l : List (Int × Int)) (k : Nat) : loY l (k + 1) = min (loY l k) (gy l k) := by rw [loY_succ]; split <;> omega
theorem hiX_max (l : List (Int × Int)) (k : Nat) : hiX l (k + 1) = max (hiX l k) (gx l k) := by rw [hiX_succ]; split <;> omega
theorem hiY_max (l : List (Int × Int)) (k : Nat) : hiY l (k + 1) = max (hiY l k) (gy l k) := by rw [hiY_succ]; split <;> omega

theorem box_bd {l : List (Int × Int)} (hf : Fine l) (h0 : 0 < l.length) : ∀ k, k ≤ l.length → (-40 ≤ loX l k ∧ loX l k ≤ 40) ∧ (-40 ≤ loY l k ∧ loY l k ≤ 40) ∧ (-40 ≤ hiX l k ∧ hiX l k ≤ 40) ∧ (-40 ≤ hiY l k ∧ hiY l k ≤ 40) ∧ loX l k ≤ hiX l k ∧ loY l k ≤ hiY l k
  | 0, _ => by
    obtain ⟨⟨a, b⟩, c, d⟩ := hf.bd h0
    unfold loX loY hiX hiY
    omega
  | k + 1, hk => by
    obtain ⟨⟨a, b⟩, c, d⟩ := hf.bd (show k < l.length by omega)
    have ih := box_bd hf h0 k (by omega)
    rw [loX_min, loY_min, hiX_max, hiY_max]
    omega

theorem box_in {l : List (Int × Int)} : ∀ n k, k < n → (loX l n ≤ gx l k ∧ gx l k ≤ hiX l n) ∧ (loY l n ≤ gy l k ∧ gy l k ≤ hiY l n)
  | 0, k, h => by omega
  | n + 1, k, h => by
    rw [loX_min, loY_min, hiX_max, hiY_max]
    by_cases e : k = n
    · subst e; omega
    · have := box_in (l := l) n k (by omega)
      omega

/-- the points of a row from x on, n of them, that lie in l -/
def rowL (l : List (Int × Int)) (y x : Int) : Nat → List (Int × Int)
  | 0 => []
  | n + 1 => if (placeV l (x + n) y != 0) = true then rowL l y x n ++ [(x + n, y)] else rowL l y x n
theorem rowL_succ (l : List (Int × Int)) (y x : Int) (n : Nat) : rowL l y x (n + 1) = if (placeV l (x + n) y != 0) = true then rowL l y x n ++ [(x + n, y)] else rowL l y x n := rfl
theorem rowL_le (l : List (Int × Int)) (y x : Int) : ∀ n, (rowL l y x n).length ≤ n
  | 0 => Nat.le_refl _
  | n + 1 => by
    have := rowL_le l y x n
    rw [rowL_succ]
    split
    · rw [List.length_append]; simp; omega
    · omega
/-- the points of n rows -/
def rowsL (l : List (Int × Int)) (y x : Int) (m : Nat) : Nat → List (Int × Int)
  | 0 => []
  | n + 1 => rowsL l y x m n ++ rowL l (y + n) x m
theorem rowsL_succ (l : List (Int × Int)) (y x : Int) (m n : Nat) : rowsL l y x m (n + 1) = rowsL l y x m n ++ rowL l (y + n) x m := rfl
theorem rowsL_le (l : List (Int × Int)) (y x : Int) (m : Nat) : ∀ n, (rowsL l y x m n).length ≤ n * m
  | 0 => by simp [rowsL]
  | n + 1 => by
    have h1 := rowsL_le l y x m n
    have h2 := rowL_le l (y + n) x m
    rw [rowsL_succ, List.length_append, Nat.add_mul]
    omega
/-- the floor's points -/
def floorL (l : List (Int × Int)) : List (Int × Int) :=
  rowsL l (loY l l.length) (loX l l.length) (hiX l l.length - loX l l.length + 1).toNat (hiY l l.length - loY l l.length + 1).toNat
/-- FloorPoints, as both texts give it -/
def floorV (l : List (Int × Int)) : List (Int × Int) := if roomB l = true then floorL l else []
theorem floorL_le {l : List (Int × Int)} (hf : Fine l) (h0 : 0 < l.length) : (floorL l).length ≤ 6561 := by
  obtain ⟨⟨a1, a2⟩, ⟨b1, b2⟩, ⟨c1, c2⟩, ⟨d1, d2⟩, e1, e2⟩ := box_bd hf h0 l.length (Nat.le_refl _)
  have h := rowsL_le l (loY l l.length) (loX l l.length) (hiX l l.length - loX l l.length + 1).toNat (hiY l l.length - loY l l.length + 1).toNat
  have h2 : (hiY l l.length - loY l l.length + 1).toNat * (hiX l l.length - loX l l.length + 1).toNat ≤ 81 * 81 := Nat.mul_le_mul (by omega) (by omega)
  unfold floorL
  omega
theorem floorV_le (l : List (Int × Int)) : (floorV l).length ≤ 1048576 := by
  unfold floorV
  split
  · rename_i h
    obtain ⟨hf, h3⟩ := roomB_fine h
    have := floorL_le hf (by omega)
    omega
  · simp

end Go.Proofs.Ytjccilpjaaiicaa
