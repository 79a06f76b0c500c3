/-
  Contracts: WallAt.
-/
import Derived.Test.YtkdhgngpapfkdaaDoorPlace
import Derived.Test.YtkdhgngpapfkdaaDoorWallOf
namespace Go.Proofs.YtkdhgngpapfkdaaDoor
open Go.RowKit

/-- the first wall of l from k on, of d, that p lies on -/
def firstOn (l : List (Int × Int)) (px py : Int) : Nat → Nat → Int
  | _, 0 => -1
  | k, d + 1 => if onE l px py k = true then (k : Int) else firstOn l px py (k + 1) d
/-- WallAt, as both texts give it -/
def wallAtV (l : List (Int × Int)) (px py : Int) : Int := if pok px py = true then (if roomB l = true then firstOn l px py 0 l.length else -1) else -1

theorem firstOn_at (l : List (Int × Int)) (px py : Int) : ∀ d k m, k ≤ m → m < k + d → (∀ j, k ≤ j → j < m → onE l px py j = false) → onE l px py m = true → firstOn l px py k d = (m : Int)
  | 0, k, m, h1, h2, _, _ => by omega
  | d + 1, k, m, h1, h2, h3, h4 => by
    unfold firstOn
    by_cases e : k = m
    · subst e; rw [if_pos h4]
    · rw [if_neg (by rw [h3 k (Nat.le_refl _) (by omega)]; decide)]
      exact firstOn_at l px py d (k + 1) m (by omega) (by omega) (fun j a b => h3 j (by omega) b) h4
theorem firstOn_no (l : List (Int × Int)) (px py : Int) : ∀ d k, (∀ j, k ≤ j → j < k + d → onE l px py j = false) → firstOn l px py k d = -1
  | 0, _, _ => rfl
  | d + 1, k, h => by
    unfold firstOn
    rw [if_neg (by rw [h k (Nat.le_refl _) (by omega)]; decide)]
    exact firstOn_no l px py d (k + 1) (fun j a b => h j (by omega) (by omega))

theorem wallAt_on {l : List (Int × Int)} {px py : Int} {m : Nat} (hr : roomB l = true) (hq : pok px py = true) (hm : m < l.length) (h : ∀ j, j < m → onE l px py j = false) (h4 : onE l px py m = true) : wallAtV l px py = m := by
  unfold wallAtV
  rw [if_pos hq, if_pos hr]
  exact firstOn_at l px py l.length 0 m (by omega) (by omega) (fun j _ b => h j b) h4
theorem wallAt_no {l : List (Int × Int)} {px py : Int} (hr : roomB l = true) (hq : pok px py = true) (h : ∀ j, j < l.length → onE l px py j = false) : wallAtV l px py = -1 := by
  unfold wallAtV
  rw [if_pos hq, if_pos hr]
  exact firstOn_no l px py l.length 0 (fun j _ b => h j (by omega))
theorem wallAt_not {l : List (Int × Int)} {px py : Int} (h : placeInV l px py ≠ 1) : wallAtV l px py = -1 := by
  unfold placeInV at h
  unfold wallAtV
  by_cases hq : pok px py = true
  · rw [if_pos hq] at h ⊢
    by_cases hr : roomB l = true
    · rw [if_pos hr] at h ⊢
      refine firstOn_no l px py l.length 0 (fun j _ b => ?_)
      cases ho : onE l px py j with
      | false => rfl
      | true => exact absurd (placeV_on (by omega) ho) h
    · rw [if_neg hr]
  · rw [if_neg hq]
theorem placeIn_one {l : List (Int × Int)} {px py : Int} (h : placeInV l px py = 1) : roomB l = true ∧ pok px py = true := by
  unfold placeInV at h
  by_cases hq : pok px py = true
  · rw [if_pos hq] at h
    by_cases hr : roomB l = true
    · exact ⟨hr, hq⟩
    · rw [if_neg hr] at h; cases h
  · rw [if_neg hq] at h; cases h

/-- the ends of a valid room's wall differ -/
theorem room_wok {l : List (Int × Int)} (hr : roomB l = true) {k : Nat} (hk : k < l.length) : wok (gx l k) (gy l k) (gx l (nx l k)) (gy l (nx l k)) = true := by
  have hf := (roomB_fine hr).1
  have h1 := hf.pok hk
  have h2 := hf.pok (nx_lt hk)
  have ht : ¬ tn l k = 0 := by
    intro h0
    have := roomB_row hk (rowI_turn h0)
    rw [hr] at this
    cases this
  unfold wok pok2 neB
  rw [h1, h2]
  simp only [Bool.and_self, Bool.true_and, Bool.not_eq_true', Bool.and_eq_false_iff, beq_eq_false_iff_ne]
  refine Classical.byContradiction fun hc => ht ?_
  have e1 : gx l (nx l k) = gx l k := by omega
  have e2 : gy l (nx l k) = gy l k := by omega
  unfold tn turnW
  rw [e1, e2, Int.sub_self, Int.sub_self]
  have z : wrap64 0 = 0 := w64 0 (by omega) (by omega)
  rw [z, Int.zero_mul, Int.zero_mul, z, Int.sub_self, z]

theorem onWall_room {l : List (Int × Int)} {px py : Int} (hr : roomB l = true) (hq : pok px py = true) {k : Nat} (hk : k < l.length) : onWallV (gx l k) (gy l k) (gx l (nx l k)) (gy l (nx l k)) px py = onE l px py k := by
  have hf := (roomB_fine hr).1
  unfold onWallV BetV pok3
  rw [room_wok hr hk, hq, hf.pok hk, hf.pok (nx_lt hk)]
  rfl

end Go.Proofs.YtkdhgngpapfkdaaDoor
