/-
  What any wall counts over a box, and a polygon. No program in sight.
-/
import Derived.Test.YtanagdlikoinaaaJ4
namespace Go.Proofs.Ytanagdlikoinaaa
namespace Jor

theorem cR_swap (p a b : P) : cR p b a = - cR p a b := by
  unfold cR
  rw [tu_swap a b p]
  (repeat' split) <;> omega
theorem cL_swap (p a b : P) : cL p b a = - cL p a b := by
  unfold cL
  rw [tu_swap a b p]
  (repeat' split) <;> omega
theorem cc_swap (M : Int) (a b p : P) : cc M b a p = - cc M a b p := by
  unfold cc
  rw [cR_swap (hm M p) (hm M a), cL_swap (hm M p) (hm M a)]
  omega
theorem sm_neg (f : Nat → Int) : ∀ n, sm (fun i => - f i) n = - sm f n
  | 0 => rfl
  | n + 1 => by rw [sm, sm, sm_neg f n]; omega
theorem row_swap (M : Int) (a b : P) (x0 : Int) (N : Nat) (y : Int) : row M b a x0 N y = - row M a b x0 N y := by
  unfold row
  rw [← sm_neg]
  exact sm_congr _ _ N fun j _ => cc_swap M a b _
/-- the sum over the box -/
def box (M : Int) (x0 y0 : Int) (N H : Nat) (a b : P) : Int := sm (fun k => row M a b x0 N (y0 + (k : Nat))) H
theorem box_swap (M : Int) (x0 y0 : Int) (N H : Nat) (a b : P) : box M x0 y0 N H b a = - box M x0 y0 N H a b := by
  unfold box
  rw [← sm_neg]
  exact sm_congr _ _ H fun j _ => row_swap M a b x0 N _

section
variable {M : Int} {a b p : P} (hM : 0 < M) (na : Nr M a p) (nb : Nr M b p) (hab : a.2 = b.2) (hx : b.1 < a.1)
include hM na nb hab hx
theorem cc_level : cc M a b p = if p.2 = a.2 ∧ b.1 ≤ p.1 ∧ p.1 < a.1 then 1 else 0 := by
  have k1 := hm_lt na.1 na.2
  have k2 := hm_lt nb.1 nb.2
  have k3 := hm_lt na.2 na.1
  have k4 := hm_lt nb.2 nb.1
  have k5 := hm_neg hM a b p
  have k6 := hm_pos hM a b p
  have k7 : p.2 = a.2 → tu a b p = 0 := fun h => by
    unfold tu
    rw [h, hab]
    grind
  unfold cc cR cL
  (repeat' split) <;> omega
end

section
variable {M : Int} {a b : P} {x0 y0 : Int} {N H : Nat} (hM : 0 < M) (hN : (N : Int) ≤ M) (ha : x0 ≤ a.1 ∧ a.1 < x0 + N) (hb : x0 ≤ b.1 ∧ b.1 < x0 + N) (ya : y0 ≤ a.2 ∧ a.2 < y0 + H) (yb : y0 ≤ b.2 ∧ b.2 < y0 + H)
include hM hN ha hb ya yb
theorem box_level (hab : a.2 = b.2) (hx : b.1 < a.1) : box M x0 y0 N H a b = a.1 - b.1 := by
  obtain ⟨d, hd⟩ : ∃ d : Nat, a.2 = y0 + d := ⟨(a.2 - y0).toNat, by omega⟩
  unfold box
  rw [sm_one (d := d) H (by omega) ?_]
  · unfold row
    rw [sm_congr _ (fun j => (if x0 + (j : Nat) < a.1 then 1 else 0) - (if x0 + (j : Nat) < b.1 then 1 else 0)) N ?_, sm_sub, cnt_lt x0 a.1 N (by omega) (by omega), cnt_lt x0 b.1 N (by omega) (by omega)]
    · omega
    · intro j hj
      rw [cc_level hM (nr_col hN ha hj _) (nr_col hN hb hj _) hab hx]
      simp only
      (repeat' split) <;> omega
  · intro k hk hne
    unfold row
    rw [sm_congr _ (fun _ => 0) N ?_, sm_zero]
    intro j hj
    rw [cc_level hM (nr_col hN ha hj _) (nr_col hN hb hj _) hab hx, if_neg]
    simp only
    omega
theorem box_any (hne : a ≠ b) : box M x0 y0 N H a b = (b.2 - a.2) * (a.1 + b.1 + 1 - 2 * x0) + (a.1 - b.1) := by
  rcases Int.lt_trichotomy a.2 b.2 with h | h | h
  · exact rise hM hN ha hb h ya.1 yb.2
  · have e : (b.2 - a.2) * (a.1 + b.1 + 1 - 2 * x0) = 0 := by rw [h, Int.sub_self, Int.zero_mul]
    rw [e]
    rcases Int.lt_trichotomy a.1 b.1 with g | g | g
    · rw [box_swap, box_level hM hN hb ha yb ya h.symm g]
      omega
    · exact absurd (Prod.ext g h) hne
    · rw [box_level hM hN ha hb ya yb h g]
      omega
  · rw [box_swap]
    have := rise hM hN hb ha h yb.1 ya.2
    unfold box
    rw [this]
    grind
end

end Jor
end Go.Proofs.Ytanagdlikoinaaa
