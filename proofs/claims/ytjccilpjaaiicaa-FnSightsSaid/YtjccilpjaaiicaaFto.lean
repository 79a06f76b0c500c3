/-
  Whether a point is one of a row's. No program in sight.
-/
import Derived.Test.YtjccilpjaaiicaaJ5
namespace Go.Proofs.Ytjccilpjaaiicaa

/-- one of the first k points of f is (x, y) -/
def fto (f : List (Int × Int)) (x y : Int) : Nat → Bool
  | 0 => false
  | k + 1 => fto f x y k || (gx f k == x && gy f k == y)
theorem fto_succ (f : List (Int × Int)) (x y : Int) (k : Nat) : fto f x y (k + 1) = (fto f x y k || (gx f k == x && gy f k == y)) := rfl
theorem fto_iff {f : List (Int × Int)} {x y : Int} : ∀ k, fto f x y k = true ↔ ∃ i, i < k ∧ gx f i = x ∧ gy f i = y
  | 0 => by
    constructor
    · intro h; cases h
    · rintro ⟨i, hi, _⟩; omega
  | k + 1 => by
    rw [fto_succ, Bool.or_eq_true, fto_iff k, Bool.and_eq_true, beq_iff_eq, beq_iff_eq]
    constructor
    · rintro (⟨i, hi, h⟩ | h)
      · exact ⟨i, by omega, h⟩
      · exact ⟨k, by omega, h⟩
    · rintro ⟨i, hi, h⟩
      by_cases e : i = k
      · subst e; exact .inr h
      · exact .inl ⟨i, by omega, h⟩
theorem fto_mem (f : List (Int × Int)) (x y : Int) : fto f x y f.length = decide ((x, y) ∈ f) := by
  rw [Bool.eq_iff_iff, fto_iff, decide_eq_true_eq]
  constructor
  · rintro ⟨i, hi, h1, h2⟩
    have := g_mem hi
    rw [h1, h2] at this
    exact this
  · intro h
    obtain ⟨k, hk, h1, h2⟩ := mem_g h
    exact ⟨k, hk, h1, h2⟩

end Go.Proofs.Ytjccilpjaaiicaa
