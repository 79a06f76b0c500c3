/-
  Which points are on a floor. No program in sight.
-/
import Derived.Test.YtjccilpjaaiicaaJ5
import Derived.Test.YtjccilpjaaiicaaJ4
namespace Go.Proofs.Ytjccilpjaaiicaa
open Go.RowKit

theorem row_mem {l : List (Int × Int)} {y x : Int} {p : Int × Int} : ∀ n : Nat, p ∈ rowL l y x n ↔ (x ≤ p.1 ∧ p.1 < x + n) ∧ p.2 = y ∧ (placeV l p.1 p.2 != 0) = true
  | 0 => by
    constructor
    · intro h; cases h
    · intro h; omega
  | n + 1 => by
    have ih := row_mem (l := l) (y := y) (x := x) (p := p) n
    rw [rowL_succ]
    split
    · rename_i hv
      rw [List.mem_append, ih, List.mem_singleton]
      constructor
      · rintro (⟨h1, h2, h3⟩ | rfl)
        · exact ⟨by omega, h2, h3⟩
        · exact ⟨⟨by show x ≤ x + (n : Int); omega, by show x + (n : Int) < x + ((n + 1 : Nat) : Int); omega⟩, rfl, hv⟩
      · rintro ⟨h1, h2, h3⟩
        by_cases e : p.1 = x + n
        · exact .inr (Prod.ext e h2)
        · exact .inl ⟨by omega, h2, h3⟩
    · rename_i hv
      rw [ih]
      constructor
      · rintro ⟨h1, h2, h3⟩; exact ⟨by omega, h2, h3⟩
      · rintro ⟨h1, h2, h3⟩
        refine ⟨?_, h2, h3⟩
        by_cases e : p.1 = x + n
        · rw [e, h2] at h3; exact absurd h3 hv
        · omega
theorem rows_mem {l : List (Int × Int)} {y x : Int} {m : Nat} {p : Int × Int} : ∀ n : Nat, p ∈ rowsL l y x m n ↔ (x ≤ p.1 ∧ p.1 < x + m) ∧ (y ≤ p.2 ∧ p.2 < y + n) ∧ (placeV l p.1 p.2 != 0) = true
  | 0 => by
    constructor
    · intro h; cases h
    · intro h; omega
  | n + 1 => by
    have ih := rows_mem (l := l) (y := y) (x := x) (m := m) (p := p) n
    rw [rowsL_succ, List.mem_append, ih, row_mem]
    constructor
    · rintro (⟨h1, h2, h3⟩ | ⟨h1, h2, h3⟩)
      · exact ⟨h1, by omega, h3⟩
      · exact ⟨h1, by omega, h3⟩
    · rintro ⟨h1, h2, h3⟩
      by_cases e : p.2 = y + n
      · exact .inr ⟨h1, e, h3⟩
      · exact .inl ⟨h1, by omega, h3⟩
/-- the floor's points: just the points in the room's box that are not outside -/
theorem floor_mem {l : List (Int × Int)} {p : Int × Int} : p ∈ floorL l ↔ (loX l l.length ≤ p.1 ∧ p.1 ≤ hiX l l.length) ∧ (loY l l.length ≤ p.2 ∧ p.2 ≤ hiY l l.length) ∧ (placeV l p.1 p.2 != 0) = true := by
  unfold floorL
  rw [rows_mem]
  constructor
  · rintro ⟨h1, h2, h3⟩; exact ⟨by omega, by omega, h3⟩
  · rintro ⟨h1, h2, h3⟩; exact ⟨by omega, by omega, h3⟩
/-- the floor's points are points of the map -/
theorem floor_pok {l : List (Int × Int)} (hr : roomB l = true) : ∀ p, p ∈ floorL l → pok p.1 p.2 = true := by
  obtain ⟨hf, h3⟩ := roomB_fine hr
  have hb := box_bd hf (show 0 < l.length by omega) l.length (Nat.le_refl _)
  intro p hp
  have := floor_mem.1 hp
  rw [pok_iff]
  omega

end Go.Proofs.Ytjccilpjaaiicaa
