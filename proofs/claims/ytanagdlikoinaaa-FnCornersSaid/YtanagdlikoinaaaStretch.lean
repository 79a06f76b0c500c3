/-
  Contracts: the corners from one to another one (the program's stretch, the reference's l09Part).
-/
import Derived.Test.YtanagdlikoinaaaSStart
namespace Go.Proofs.Ytanagdlikoinaaa
open Go.RowKit

/-- how far corner k is behind corner i -/
def gap (n i k : Nat) : Nat := if i ≤ k then k - i else k + n - i
theorem gap_lt {n i k : Nat} (hi : i < n) (hk : k < n) : gap n i k < n := by
  unfold gap
  split <;> omega
theorem mod_two {a n : Nat} (h : a < 2 * n) : a % n = if a < n then a else a - n := by
  split
  · rename_i h1; exact Nat.mod_eq_of_lt h1
  · rename_i h1
    rw [Nat.mod_eq_sub_mod (by omega), Nat.mod_eq_of_lt (by omega)]
theorem gap_end {n i k : Nat} (hi : i < n) (hk : k < n) : (i + gap n i k) % n = k := by
  have h := gap_lt hi hk
  rw [mod_two (by omega)]
  unfold gap at *
  by_cases e : i ≤ k
  · rw [if_pos e, if_pos (by omega)]; omega
  · rw [if_neg e, if_neg (by omega)]; omega
theorem gap_at {n i j : Nat} (hi : i < n) (hj : j < n) : gap n i ((i + j) % n) = j := by
  rw [mod_two (by omega)]
  unfold gap
  by_cases e : i + j < n
  · rw [if_pos e, if_pos (by omega)]; omega
  · rw [if_neg e, if_neg (by omega)]; omega
theorem gap_ne {n i k j : Nat} (hi : i < n) (hk : k < n) (hj : j < gap n i k) : (i + j) % n ≠ k := by
  have h := gap_lt hi hk
  rw [mod_two (by omega)]
  unfold gap at *
  split <;> split at hj <;> omega
theorem mod_step (n i j : Nat) : ((i + j) % n + 1) % n = (i + (j + 1)) % n := by
  rw [Nat.mod_add_mod, Nat.add_assoc]
/-- the corners from i to k -/
def stL (l : List (Int × Int)) (i k : Nat) : List (Int × Int) := rotL l i (gap l.length i k + 1)
theorem stL_length (l : List (Int × Int)) (i k : Nat) : (stL l i k).length = gap l.length i k + 1 := rotL_length _ _ _

/-- a row of one point, in a block of its own -/
theorem ownsRow_one (w : World) (x y : Int) : (w.alloc (.cells #[.int .i64 x, .int .i64 y] 38)).ownsRow w.heap.size 38 2 (.slice (some ⟨w.heap.size, 0, none⟩) 1 1) 1 [.int .i64 x, .int .i64 y] :=
  ⟨rfl, .inr ⟨w.heap.size, 1, #[.int .i64 x, .int .i64 y], rfl, Nat.le_refl _, heap_alloc_new w _, Nat.le_refl _, by unfold maxLen; omega, rfl, rfl⟩⟩

end Go.Proofs.Ytanagdlikoinaaa
