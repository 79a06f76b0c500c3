/-
  What a wall counts over a box. No program in sight.
-/
import Derived.Test.YtanagdlikoinaaaJordL
namespace Go.Proofs.Ytanagdlikoinaaa
namespace Jor

theorem tu_row (a b : P) (x y : Int) : tu a b (x, y) = (b.1 - a.1) * (y - a.2) + (b.2 - a.2) * a.1 - (b.2 - a.2) * x := by
  unfold tu
  grind
theorem tu_mirror (a b : P) (x y : Int) : tu a b (x, a.2 + b.2 - y) = - tu a b (a.1 + b.1 - x, y) := by
  unfold tu
  grind
/-- a row between the ends of a rising wall, and its mirror -/
theorem row_pair {a b : P} {y x0 : Int} {N : Nat} (hab : a.2 < b.2) (h1 : a.2 < y) (h2 : y < b.2) (ha : x0 ≤ a.1 ∧ a.1 < x0 + N) (hb : x0 ≤ b.1 ∧ b.1 < x0 + N) :
    sm (fun j => if 0 < tu a b (x0 + (j : Nat), y) then 1 else 0) N + sm (fun j => if 0 ≤ tu a b (x0 + (j : Nat), a.2 + b.2 - y) then 1 else 0) N = a.1 + b.1 + 1 - 2 * x0 := by
  obtain ⟨c, hc⟩ := cut (k := (b.1 - a.1) * (y - a.2) + (b.2 - a.2) * a.1) (d := b.2 - a.2) (by omega)
  have hc' : ∀ x, 0 < tu a b (x, y) ↔ x < c := fun x => by rw [tu_row]; exact hc x
  have e1 : sm (fun j => if 0 < tu a b (x0 + (j : Nat), y) then (1 : Int) else 0) N = sm (fun j => if x0 + (j : Nat) < c then 1 else 0) N := sm_congr _ _ N fun i _ => by simp only [hc']
  have e2 : sm (fun j => if 0 ≤ tu a b (x0 + (j : Nat), a.2 + b.2 - y) then (1 : Int) else 0) N = sm (fun j => if x0 + (j : Nat) < a.1 + b.1 - c + 1 then 1 else 0) N := sm_congr _ _ N fun i _ => by
    have h := hc' (a.1 + b.1 - (x0 + (i : Nat)))
    rw [tu_mirror]
    by_cases q : x0 + (i : Nat) < a.1 + b.1 - c + 1
    · rw [if_pos q, if_pos (by omega)]
    · rw [if_neg q, if_neg (by omega)]
  have m1 : ¬ 0 < tu a b (max a.1 b.1, y) := by
    unfold tu
    simp only
    rcases Int.le_total a.1 b.1 with g | g
    · rw [Int.max_eq_right g]
      have := Int.mul_nonneg (show 0 ≤ b.1 - a.1 by omega) (show 0 ≤ b.2 - y by omega)
      have e : (b.1 - a.1) * (y - a.2) - (b.2 - a.2) * (b.1 - a.1) = - ((b.1 - a.1) * (b.2 - y)) := by grind
      omega
    · rw [Int.max_eq_left g]
      have := Int.mul_nonneg (show 0 ≤ a.1 - b.1 by omega) (show 0 ≤ y - a.2 by omega)
      have e : (b.1 - a.1) * (y - a.2) - (b.2 - a.2) * (a.1 - a.1) = - ((a.1 - b.1) * (y - a.2)) := by grind
      omega
  have m2 : 0 < tu a b (min a.1 b.1 - 1, y) := by
    unfold tu
    simp only
    rcases Int.le_total a.1 b.1 with g | g
    · rw [Int.min_eq_left g]
      have := Int.mul_nonneg (show 0 ≤ b.1 - a.1 by omega) (show 0 ≤ y - a.2 by omega)
      have e : (b.1 - a.1) * (y - a.2) - (b.2 - a.2) * (a.1 - 1 - a.1) = (b.1 - a.1) * (y - a.2) + (b.2 - a.2) := by grind
      omega
    · rw [Int.min_eq_right g]
      have := Int.mul_nonneg (show 0 ≤ a.1 - b.1 by omega) (show 0 ≤ b.2 - y by omega)
      have e : (b.1 - a.1) * (y - a.2) - (b.2 - a.2) * (b.1 - 1 - a.1) = (a.1 - b.1) * (b.2 - y) + (b.2 - a.2) := by grind
      omega
  rw [hc'] at m1 m2
  rw [e1, e2, cnt_lt x0 c N (by omega) (by omega), cnt_lt x0 (a.1 + b.1 - c + 1) N (by omega) (by omega)]
  omega

theorem sm_rev (f : Nat → Int) : ∀ n, sm (fun i => f (n - 1 - i)) n = sm f n
  | 0 => rfl
  | n + 1 => by
    have h := sm_split (fun i => f (n + 1 - 1 - i)) 1 n
    rw [Nat.add_comm 1 n] at h
    rw [h, sm]
    have e : sm (fun i => f (n + 1 - 1 - (1 + i))) n = sm (fun i => f (n - 1 - i)) n := sm_congr _ _ n fun i _ => by
      show f (n + 1 - 1 - (1 + i)) = f (n - 1 - i)
      congr 1
      omega
    rw [e, sm_rev f n, sm, sm]
    simp only [Nat.add_sub_cancel, Nat.sub_zero]
    omega
theorem sm_const (c : Int) : ∀ n : Nat, sm (fun _ => c) n = n * c
  | 0 => by simp [sm]
  | n + 1 => by
    rw [sm, sm_const c n]
    grind

/-- what a wall counts at a place -/
def cc (M : Int) (a b : P) (p : P) : Int := cR (hm M p) (hm M a) (hm M b) + cL (hm M p) (hm M a) (hm M b)
/-- a row of the box -/
def row (M : Int) (a b : P) (x0 : Int) (N : Nat) (y : Int) : Int := sm (fun j => cc M a b (x0 + (j : Nat), y)) N
section
variable {M : Int} (hM : 0 < M) {a b p : P} (na : Nr M a p) (nb : Nr M b p) (hab : a.2 < b.2)
include hM na nb hab
omit hab in
theorem cc_mid (h1 : a.2 < p.2) (h2 : p.2 < b.2) : cc M a b p = (if 0 < tu a b p then 1 else 0) + (if 0 ≤ tu a b p then 1 else 0) := by
  have k1 := hm_lt na.1 na.2
  have k2 := hm_lt nb.1 nb.2
  have k3 := hm_lt na.2 na.1
  have k4 := hm_lt nb.2 nb.1
  have k5 := hm_neg hM a b p
  have k6 := hm_pos hM a b p
  unfold cc cR cL
  (repeat' split) <;> omega
theorem cc_low (h1 : p.2 = a.2) : cc M a b p = (if p.1 < a.1 then 1 else 0) + (if p.1 < a.1 then 1 else 0) := by
  have k1 := hm_lt na.1 na.2
  have k2 := hm_lt nb.1 nb.2
  have k3 := hm_lt na.2 na.1
  have k4 := hm_lt nb.2 nb.1
  have k5 := hm_neg hM a b p
  have k6 := hm_pos hM a b p
  have e : tu a b p = (a.1 - p.1) * (b.2 - a.2) := by unfold tu; rw [h1]; grind
  have k7 : 0 < tu a b p ↔ p.1 < a.1 := by
    rw [e]
    exact ⟨fun h => by have := pos_of_mul (show 0 < b.2 - a.2 by omega) h; omega, fun h => Int.mul_pos (by omega) (by omega)⟩
  have k8 : tu a b p < 0 ↔ a.1 < p.1 := by
    rw [e]
    exact ⟨fun h => by have := neg_of_mul (show 0 < b.2 - a.2 by omega) h; omega, fun h => mul_neg' (by omega) (by omega)⟩
  unfold cc cR cL
  (repeat' split) <;> omega
theorem cc_high (h1 : p.2 = b.2) : cc M a b p = (if p.1 = b.1 then 1 else 0) := by
  have k1 := hm_lt na.1 na.2
  have k2 := hm_lt nb.1 nb.2
  have k3 := hm_lt na.2 na.1
  have k4 := hm_lt nb.2 nb.1
  have k5 := hm_neg hM a b p
  have k6 := hm_pos hM a b p
  have e : tu a b p = (b.1 - p.1) * (b.2 - a.2) := by unfold tu; rw [h1]; grind
  have k7 : 0 < tu a b p ↔ p.1 < b.1 := by
    rw [e]
    exact ⟨fun h => by have := pos_of_mul (show 0 < b.2 - a.2 by omega) h; omega, fun h => Int.mul_pos (by omega) (by omega)⟩
  have k8 : tu a b p < 0 ↔ b.1 < p.1 := by
    rw [e]
    exact ⟨fun h => by have := neg_of_mul (show 0 < b.2 - a.2 by omega) h; omega, fun h => mul_neg' (by omega) (by omega)⟩
  unfold cc cR cL
  (repeat' split) <;> omega
omit hM in
theorem cc_out (h1 : p.2 < a.2 ∨ b.2 < p.2) : cc M a b p = 0 := by
  have k1 := hm_lt na.1 na.2
  have k2 := hm_lt nb.1 nb.2
  have k3 := hm_lt na.2 na.1
  have k4 := hm_lt nb.2 nb.1
  unfold cc cR cL
  (repeat' split) <;> omega
end

end Jor
end Go.Proofs.Ytanagdlikoinaaa
