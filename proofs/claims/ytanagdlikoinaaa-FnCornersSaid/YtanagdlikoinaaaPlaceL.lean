/-
  Where a point lies in a polygon, in the words of both texts, and that the two agree where coordinates are small. No program in sight.
-/
import Derived.Test.YtanagdlikoinaaaRoom
namespace Go.Proofs.Ytanagdlikoinaaa
open Go.RowKit

/-- p lies on wall k -/
def onE (l : List (Int × Int)) (px py : Int) (k : Nat) : Bool := onW px py (gx l k) (gy l k) (gx l ((k + 1) % l.length)) (gy l ((k + 1) % l.length))
/-- the turn of wall k to p -/
def turnE (l : List (Int × Int)) (px py : Int) (k : Nat) : Int := turnW (gx l k) (gy l k) (gx l ((k + 1) % l.length)) (gy l ((k + 1) % l.length)) px py
/-- the way from p to the side crosses wall k: the program's words -/
def crI (l : List (Int × Int)) (px py : Int) (k : Nat) : Bool :=
  (decide (py < gy l k) != decide (py < gy l ((k + 1) % l.length))) && (decide (0 < turnE l px py k) == decide (gy l k < gy l ((k + 1) % l.length)))
/-- the reference's words -/
def crS (l : List (Int × Int)) (px py : Int) (k : Nat) : Bool :=
  ((decide (gy l k ≤ py) && decide (py < gy l ((k + 1) % l.length))) && decide (0 < turnE l px py k)) || ((decide (gy l ((k + 1) % l.length) ≤ py) && decide (py < gy l k)) && decide (turnE l px py k < 0))
/-- how often, odd or even, by the first k walls -/
def parTo (f : Nat → Bool) : Nat → Bool
  | 0 => false
  | k + 1 => if f k = true then !parTo f k else parTo f k
theorem parTo_succ (f : Nat → Bool) (k : Nat) : parTo f (k + 1) = if f k = true then !parTo f k else parTo f k := rfl
theorem parTo_congr (f g : Nat → Bool) : ∀ n, (∀ k, k < n → f k = g k) → parTo f n = parTo g n
  | 0, _ => rfl
  | n + 1, h => by
    rw [parTo_succ, parTo_succ, h n (by omega), parTo_congr f g n (fun k hk => h k (by omega))]
def sg (b : Bool) : Int := if b = true then 1 else -1
theorem sg_not (b : Bool) : sg (!b) = -sg b := by cases b <;> rfl
theorem sg_bd (b : Bool) : -1 ≤ sg b ∧ sg b ≤ 1 := by cases b <;> decide
/-- place, as the program gives it -/
def placeV (l : List (Int × Int)) (px py : Int) : Int := if (List.range l.length).any (onE l px py) = true then 1 else if parTo (crI l px py) l.length = true then 2 else 0
/-- the reference's l05Holds -/
def holdsV (l : List (Int × Int)) (px py : Int) : Int := if (List.range l.length).any (onE l px py) = true then 0 else sg (parTo (crS l px py) l.length)

theorem any_on {l : List (Int × Int)} {px py : Int} {k : Nat} (hk : k < l.length) (h : onE l px py k = true) : (List.range l.length).any (onE l px py) = true :=
  List.any_eq_true.2 ⟨k, List.mem_range.2 hk, h⟩
theorem any_off {l : List (Int × Int)} {px py : Int} (h : ∀ k, k < l.length → onE l px py k = false) : (List.range l.length).any (onE l px py) = false := by
  rw [List.any_eq_false]
  intro k hk
  simp [h k (List.mem_range.1 hk)]
theorem placeV_on {l : List (Int × Int)} {px py : Int} {k : Nat} (hk : k < l.length) (h : onE l px py k = true) : placeV l px py = 1 := by simp [placeV, any_on hk h]
theorem holdsV_on {l : List (Int × Int)} {px py : Int} {k : Nat} (hk : k < l.length) (h : onE l px py k = true) : holdsV l px py = 0 := by simp [holdsV, any_on hk h]
theorem placeV_off {l : List (Int × Int)} {px py : Int} (h : ∀ k, k < l.length → onE l px py k = false) : placeV l px py = if parTo (crI l px py) l.length = true then 2 else 0 := by
  simp [placeV, any_off h]
theorem holdsV_off {l : List (Int × Int)} {px py : Int} (h : ∀ k, k < l.length → onE l px py k = false) : holdsV l px py = sg (parTo (crS l px py) l.length) := by
  simp [holdsV, any_off h]

/-- a point on the line through a and b whose row lies between theirs lies between them -/
theorem on_of_line {ax ay bx by_ px py : Int} (ht : turnZ ax ay bx by_ px py = 0) (h : (ay ≤ py ∧ py < by_) ∨ (by_ ≤ py ∧ py < ay)) : min ax bx ≤ px ∧ px ≤ max ax bx := by
  have e : (bx - ax) * (py - ay) = (by_ - ay) * (px - ax) := by unfold turnZ at ht; omega
  rcases h with ⟨h1, h2⟩ | ⟨h1, h2⟩
  · have hD : 0 < by_ - ay := by omega
    rcases Int.le_total ax bx with hx | hx
    · rw [Int.min_eq_left hx, Int.max_eq_right hx]
      constructor
      · apply Int.le_of_not_gt; intro hlt
        have a1 := Int.mul_nonneg (show 0 ≤ bx - ax by omega) (show 0 ≤ py - ay by omega)
        have a2 := Int.mul_pos hD (show 0 < ax - px by omega)
        have a3 : (by_ - ay) * (ax - px) = -((by_ - ay) * (px - ax)) := by rw [← Int.mul_neg]; congr 1; omega
        omega
      · apply Int.le_of_not_gt; intro hlt
        have a1 := Int.mul_nonneg (show 0 ≤ bx - ax by omega) (show 0 ≤ by_ - py by omega)
        have a2 := Int.mul_pos hD (show 0 < px - bx by omega)
        have a3 : (bx - ax) * (by_ - py) = (bx - ax) * (by_ - ay) - (bx - ax) * (py - ay) := by rw [← Int.mul_sub]; congr 1; omega
        have a4 : (by_ - ay) * (px - bx) = (by_ - ay) * (px - ax) - (by_ - ay) * (bx - ax) := by rw [← Int.mul_sub]; congr 1; omega
        have a5 := Int.mul_comm (bx - ax) (by_ - ay)
        omega
    · rw [Int.min_eq_right hx, Int.max_eq_left hx]
      constructor
      · apply Int.le_of_not_gt; intro hlt
        have a1 := Int.mul_nonneg (show 0 ≤ ax - bx by omega) (show 0 ≤ by_ - py by omega)
        have a2 := Int.mul_pos hD (show 0 < bx - px by omega)
        have a3 : (ax - bx) * (by_ - py) = -((bx - ax) * (by_ - ay) - (bx - ax) * (py - ay)) := by rw [← Int.mul_sub, ← Int.neg_mul]; congr 1 <;> omega
        have a4 : (by_ - ay) * (bx - px) = (by_ - ay) * (bx - ax) - (by_ - ay) * (px - ax) := by rw [← Int.mul_sub]; congr 1; omega
        have a5 := Int.mul_comm (bx - ax) (by_ - ay)
        omega
      · apply Int.le_of_not_gt; intro hlt
        have a1 := Int.mul_nonneg (show 0 ≤ ax - bx by omega) (show 0 ≤ py - ay by omega)
        have a2 := Int.mul_pos hD (show 0 < px - ax by omega)
        have a3 : (ax - bx) * (py - ay) = -((bx - ax) * (py - ay)) := by rw [← Int.neg_mul]; congr 1; omega
        omega
  · have hD : 0 < ay - by_ := by omega
    have e' : (bx - ax) * (ay - py) = (ay - by_) * (px - ax) := by
      have b1 : (bx - ax) * (ay - py) = -((bx - ax) * (py - ay)) := by rw [← Int.mul_neg]; congr 1; omega
      have b2 : (ay - by_) * (px - ax) = -((by_ - ay) * (px - ax)) := by rw [← Int.neg_mul]; congr 1; omega
      omega
    rcases Int.le_total ax bx with hx | hx
    · rw [Int.min_eq_left hx, Int.max_eq_right hx]
      constructor
      · apply Int.le_of_not_gt; intro hlt
        have a1 := Int.mul_nonneg (show 0 ≤ bx - ax by omega) (show 0 ≤ ay - py by omega)
        have a2 := Int.mul_pos hD (show 0 < ax - px by omega)
        have a3 : (ay - by_) * (ax - px) = -((ay - by_) * (px - ax)) := by rw [← Int.mul_neg]; congr 1; omega
        omega
      · apply Int.le_of_not_gt; intro hlt
        have a1 := Int.mul_nonneg (show 0 ≤ bx - ax by omega) (show 0 ≤ py - by_ by omega)
        have a2 := Int.mul_pos hD (show 0 < px - bx by omega)
        have a3 : (bx - ax) * (py - by_) = (bx - ax) * (ay - by_) - (bx - ax) * (ay - py) := by rw [← Int.mul_sub]; congr 1; omega
        have a4 : (ay - by_) * (px - bx) = (ay - by_) * (px - ax) - (ay - by_) * (bx - ax) := by rw [← Int.mul_sub]; congr 1; omega
        have a5 := Int.mul_comm (bx - ax) (ay - by_)
        omega
    · rw [Int.min_eq_right hx, Int.max_eq_left hx]
      constructor
      · apply Int.le_of_not_gt; intro hlt
        have a1 := Int.mul_nonneg (show 0 ≤ ax - bx by omega) (show 0 ≤ py - by_ by omega)
        have a2 := Int.mul_pos hD (show 0 < bx - px by omega)
        have a3 : (ax - bx) * (py - by_) = -((bx - ax) * (ay - by_) - (bx - ax) * (ay - py)) := by rw [← Int.mul_sub, ← Int.neg_mul]; congr 1 <;> omega
        have a4 : (ay - by_) * (bx - px) = (ay - by_) * (bx - ax) - (ay - by_) * (px - ax) := by rw [← Int.mul_sub]; congr 1; omega
        have a5 := Int.mul_comm (bx - ax) (ay - by_)
        omega
      · apply Int.le_of_not_gt; intro hlt
        have a1 := Int.mul_nonneg (show 0 ≤ ax - bx by omega) (show 0 ≤ ay - py by omega)
        have a2 := Int.mul_pos hD (show 0 < px - ax by omega)
        have a3 : (ax - bx) * (ay - py) = -((bx - ax) * (ay - py)) := by rw [← Int.neg_mul]; congr 1; omega
        omega

/-- all points lie within M -/
def Small (M : Int) (l : List (Int × Int)) : Prop := ∀ k, k < l.length → within M (gx l k) (gy l k)

theorem cr_eq {l : List (Int × Int)} {px py : Int} {k : Nat} (hs : Small 1000000 l) (hq : within 1000000 px py) (hk : k < l.length) (ho : onE l px py k = false) : crI l px py k = crS l px py k := by
  have hm : (k + 1) % l.length < l.length := Nat.mod_lt _ (by omega)
  have ht : turnE l px py k = turnZ (gx l k) (gy l k) (gx l ((k + 1) % l.length)) (gy l ((k + 1) % l.length)) px py := turnW_eq (hs k hk) (hs _ hm) hq
  have hne : (gy l k ≤ py ∧ py < gy l ((k + 1) % l.length)) ∨ (gy l ((k + 1) % l.length) ≤ py ∧ py < gy l k) → turnE l px py k ≠ 0 := by
    intro h h0
    have hin := on_of_line (ht ▸ h0) h
    unfold onE at ho
    have : onW px py (gx l k) (gy l k) (gx l ((k + 1) % l.length)) (gy l ((k + 1) % l.length)) = true := by
      unfold onW inB
      have h0' : turnW (gx l k) (gy l k) (gx l ((k + 1) % l.length)) (gy l ((k + 1) % l.length)) px py = 0 := h0
      simp only [Bool.and_eq_true, decide_eq_true_eq]
      refine ⟨h0', hin, ?_⟩
      omega
    rw [this] at ho
    cases ho
  unfold crI crS
  generalize turnE l px py k = t at hne
  generalize gy l k = a at hne
  generalize gy l ((k + 1) % l.length) = b at hne
  rw [Bool.eq_iff_iff]
  simp only [Bool.and_eq_true, Bool.or_eq_true, bne_iff_ne, ne_eq, beq_iff_eq, decide_eq_decide, decide_eq_true_eq]
  by_cases h1 : py < a <;> by_cases h2 : py < b <;> simp [h1, h2] <;> omega

theorem place_holds {l : List (Int × Int)} {px py : Int} (hs : Small 1000000 l) (hq : within 1000000 px py) : placeV l px py = holdsV l px py + 1 := by
  unfold placeV holdsV
  cases h : (List.range l.length).any (onE l px py)
  · have ho : ∀ k, k < l.length → onE l px py k = false := fun k hk => by
      have := List.any_eq_false.1 h k (List.mem_range.2 hk)
      simpa using this
    rw [parTo_congr (crI l px py) (crS l px py) l.length (fun k hk => cr_eq hs hq hk (ho k hk))]
    cases parTo (crS l px py) l.length <;> rfl
  · rfl

theorem Fine.small {l : List (Int × Int)} (h : Fine l) : Small 1000000 l := fun k hk => within_more (within_of_pok (h.pok hk)) (by omega)

end Go.Proofs.Ytanagdlikoinaaa
