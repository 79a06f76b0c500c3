/-
  Plain geometry of points with whole coordinates, in the walk's own arithmetic (64 bits). No program in sight.
-/
import Derived.Test.YtnomiefjefopbaaBase
namespace Go.Proofs.Ytnomiefjefopbaa
open Go.RowKit

def inB (x lo hi : Int) : Bool := decide (lo ≤ x) && decide (x ≤ hi)
def pok (x y : Int) : Bool := inB x (-40) 40 && inB y (-40) 40
def turnW (ax ay bx by_ cx cy : Int) : Int := wrap64 (wrap64 (wrap64 (bx - ax) * wrap64 (cy - ay)) - wrap64 (wrap64 (by_ - ay) * wrap64 (cx - ax)))
def sqW (ax ay bx by_ : Int) : Int := wrap64 (wrap64 (wrap64 (ax - bx) * wrap64 (ax - bx)) + wrap64 (wrap64 (ay - by_) * wrap64 (ay - by_)))
def onW (px py ax ay bx by_ : Int) : Bool := decide (turnW ax ay bx by_ px py = 0) && (inB px (min ax bx) (max ax bx) && inB py (min ay by_) (max ay by_))
def sqS (ax ay bx by_ : Int) : Int := wrap64 (wrap64 (wrap64 (bx - ax) * wrap64 (bx - ax)) + wrap64 (wrap64 (by_ - ay) * wrap64 (by_ - ay)))
def pok2 (ax ay bx by_ : Int) : Bool := pok ax ay && pok bx by_
def pok3 (ax ay bx by_ cx cy : Int) : Bool := pok ax ay && (pok bx by_ && pok cx cy)

theorem w64 (x : Int) (h1 : -9223372036854775808 ≤ x) (h2 : x < 9223372036854775808) : wrap64 x = x := by
  unfold wrap64
  omega

theorem mul_bd (a b A B : Int) (h1 : -A ≤ a) (h2 : a ≤ A) (h3 : -B ≤ b) (h4 : b ≤ B) : -(A * B) ≤ a * b ∧ a * b ≤ A * B := by
  have hA : (0 : Int) ≤ A := by omega
  have hB : (0 : Int) ≤ B := by omega
  have h : (a * b).natAbs ≤ (A * B).natAbs := by
    rw [Int.natAbs_mul, Int.natAbs_mul]
    exact Nat.mul_le_mul (by omega) (by omega)
  have hAB : 0 ≤ A * B := Int.mul_nonneg hA hB
  omega

theorem pok_iff (x y : Int) : pok x y = true ↔ (-40 ≤ x ∧ x ≤ 40) ∧ (-40 ≤ y ∧ y ≤ 40) := by
  simp [pok, inB]

/-- points of which both coordinates lie within M -/
def within (M x y : Int) : Prop := (-M ≤ x ∧ x ≤ M) ∧ (-M ≤ y ∧ y ≤ M)
theorem within_of_pok {x y : Int} (h : pok x y = true) : within 40 x y := (pok_iff x y).1 h

def turnZ (ax ay bx by_ cx cy : Int) : Int := (bx - ax) * (cy - ay) - (by_ - ay) * (cx - ax)
def sqZ (ax ay bx by_ : Int) : Int := (ax - bx) * (ax - bx) + (ay - by_) * (ay - by_)

theorem turnW_eq {ax ay bx by_ cx cy : Int} (h1 : within 1000000 ax ay) (h2 : within 1000000 bx by_) (h3 : within 1000000 cx cy) : turnW ax ay bx by_ cx cy = turnZ ax ay bx by_ cx cy := by
  obtain ⟨⟨a1, a2⟩, a3, a4⟩ := h1
  obtain ⟨⟨b1, b2⟩, b3, b4⟩ := h2
  obtain ⟨⟨c1, c2⟩, c3, c4⟩ := h3
  have m1 := mul_bd (bx - ax) (cy - ay) 2000000 2000000 (by omega) (by omega) (by omega) (by omega)
  have m2 := mul_bd (by_ - ay) (cx - ax) 2000000 2000000 (by omega) (by omega) (by omega) (by omega)
  unfold turnW turnZ
  rw [w64 (bx - ax) (by omega) (by omega), w64 (cy - ay) (by omega) (by omega), w64 (by_ - ay) (by omega) (by omega), w64 (cx - ax) (by omega) (by omega)]
  generalize (bx - ax) * (cy - ay) = p at *
  generalize (by_ - ay) * (cx - ax) = q at *
  rw [w64 p (by omega) (by omega), w64 q (by omega) (by omega), w64 (p - q) (by omega) (by omega)]

theorem sqW_eq {ax ay bx by_ : Int} (h1 : within 1000000 ax ay) (h2 : within 1000000 bx by_) : sqW ax ay bx by_ = sqZ ax ay bx by_ := by
  obtain ⟨⟨a1, a2⟩, a3, a4⟩ := h1
  obtain ⟨⟨b1, b2⟩, b3, b4⟩ := h2
  have m1 := mul_bd (ax - bx) (ax - bx) 2000000 2000000 (by omega) (by omega) (by omega) (by omega)
  have m2 := mul_bd (ay - by_) (ay - by_) 2000000 2000000 (by omega) (by omega) (by omega) (by omega)
  unfold sqW sqZ
  rw [w64 (ax - bx) (by omega) (by omega), w64 (ay - by_) (by omega) (by omega)]
  generalize (ax - bx) * (ax - bx) = p at *
  generalize (ay - by_) * (ay - by_) = q at *
  rw [w64 p (by omega) (by omega), w64 q (by omega) (by omega), w64 (p + q) (by omega) (by omega)]

theorem sqS_sqW (ax ay bx by_ : Int) : sqS ax ay bx by_ = sqW bx by_ ax ay := rfl

theorem sqZ_comm (ax ay bx by_ : Int) : sqZ ax ay bx by_ = sqZ bx by_ ax ay := by
  unfold sqZ
  have e1 : ax - bx = -(bx - ax) := by omega
  have e2 : ay - by_ = -(by_ - ay) := by omega
  rw [e1, e2, Int.neg_mul_neg, Int.neg_mul_neg]

theorem within_more {M N x y : Int} (h : within M x y) (hm : M ≤ N) : within N x y := by
  unfold within at *
  omega

theorem sqS_eq {ax ay bx by_ : Int} (h : pok2 ax ay bx by_ = true) : sqS ax ay bx by_ = sqW ax ay bx by_ := by
  unfold pok2 at h
  rw [Bool.and_eq_true] at h
  have h1 := within_more (within_of_pok h.1) (N := 1000000) (by omega)
  have h2 := within_more (within_of_pok h.2) (N := 1000000) (by omega)
  rw [sqS_sqW, sqW_eq h2 h1, sqW_eq h1 h2, sqZ_comm]

/-- SquareOf, as both texts give it -/
def SqV (ax ay bx by_ : Int) : Int := if pok2 ax ay bx by_ = true then sqW ax ay bx by_ else -1
/-- TurnOf, as both texts give it -/
def TurnV (ax ay bx by_ cx cy : Int) : Int := if pok3 ax ay bx by_ cx cy = true then turnW ax ay bx by_ cx cy else 0
/-- IsBetween, as both texts give it -/
def BetV (ax ay bx by_ cx cy : Int) : Bool := pok3 ax ay bx by_ cx cy && onW ax ay bx by_ cx cy
/-- IsNearer, as both texts give it -/
def nearW (ax ay bx by_ cx cy : Int) : Bool := (pok3 ax ay bx by_ cx cy && decide (sqW ax ay bx by_ < sqW ax ay cx cy))
def neB (a b c d : Int) : Bool := !(a == c && b == d)
/-- WallOk, as both texts give it -/
def wok (a b c d : Int) : Bool := pok2 a b c d && neB a b c d
/-- LengthSquare, as both texts give it -/
def LenV (a b c d : Int) : Int := if wok a b c d = true then sqW a b c d else -1

theorem SqV_spec (ax ay bx by_ : Int) : (if pok2 ax ay bx by_ = true then sqS ax ay bx by_ else -1) = SqV ax ay bx by_ := by
  unfold SqV
  split
  · rename_i h; exact sqS_eq h
  · rfl

theorem LenV_spec (a b c d : Int) : (if wok a b c d = true then sqS a b c d else -1) = LenV a b c d := by
  unfold LenV
  split
  · rename_i h
    unfold wok at h
    rw [Bool.and_eq_true] at h
    exact sqS_eq h.1
  · rfl

end Go.Proofs.Ytnomiefjefopbaa
