/-
  Contracts: twice the area of a polygon, in the program and in the reference.
-/
import Derived.Test.YtnomiefjefopbaaWalls
import Derived.Test.YtnomiefjefopbaaPts
namespace Go.Proofs.Ytnomiefjefopbaa
open Go.RowKit

/-- the first k terms of twice the area -/
def areaTo (l : List (Int × Int)) : Nat → Int
  | 0 => 0
  | k + 1 => areaTo l k + (gx l k * gy l (nx l k) - gy l k * gx l (nx l k))
theorem areaTo_succ (l : List (Int × Int)) (k : Nat) : areaTo l (k + 1) = areaTo l k + (gx l k * gy l (nx l k) - gy l k * gx l (nx l k)) := rfl
/-- twice the area of a polygon, with a sign -/
def areaZ (l : List (Int × Int)) : Int := areaTo l l.length

/-- all points are valid, and there are at most ten -/
def Fine (l : List (Int × Int)) : Prop := allok l = true ∧ l.length ≤ 10

theorem Fine.pok {l : List (Int × Int)} (h : Fine l) {k : Nat} (hk : k < l.length) : pok (gx l k) (gy l k) = true := by
  have := List.all_eq_true.1 h.1 l[k] (List.getElem_mem hk)
  unfold gx gy
  rw [List.getD_eq_getElem?_getD, List.getElem?_eq_getElem hk]
  exact this

theorem Fine.bd {l : List (Int × Int)} (h : Fine l) {k : Nat} (hk : k < l.length) : (-40 ≤ gx l k ∧ gx l k ≤ 40) ∧ (-40 ≤ gy l k ∧ gy l k ≤ 40) := (pok_iff _ _).1 (h.pok hk)

theorem nx_lt {l : List (Int × Int)} {k : Nat} (h : k < l.length) : nx l k < l.length := Nat.mod_lt _ (by omega)

theorem Fine.prod {l : List (Int × Int)} (h : Fine l) {k j : Nat} (hk : k < l.length) (hj : j < l.length) : (-1600 ≤ gx l k * gy l j ∧ gx l k * gy l j ≤ 1600) ∧ (-1600 ≤ gy l k * gx l j ∧ gy l k * gx l j ≤ 1600) := by
  obtain ⟨⟨a1, a2⟩, a3, a4⟩ := h.bd hk
  obtain ⟨⟨b1, b2⟩, b3, b4⟩ := h.bd hj
  exact ⟨mul_bd _ _ 40 40 a1 a2 b3 b4, mul_bd _ _ 40 40 a3 a4 b1 b2⟩

theorem areaTo_bd {l : List (Int × Int)} (h : Fine l) : ∀ k, k ≤ l.length → -(3200 * (k : Int)) ≤ areaTo l k ∧ areaTo l k ≤ 3200 * (k : Int)
  | 0, _ => by simp [areaTo]
  | k + 1, hk => by
    have ih := areaTo_bd h k (by omega)
    have hp := h.prod (k := k) (j := nx l k) (by omega) (nx_lt (by omega))
    unfold areaTo
    omega

end Go.Proofs.Ytnomiefjefopbaa
