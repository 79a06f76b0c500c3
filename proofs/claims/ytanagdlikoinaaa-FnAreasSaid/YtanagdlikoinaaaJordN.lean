/-
  What a rising wall counts over a box. No program in sight.
-/
import Derived.Test.YtanagdlikoinaaaJordM
namespace Go.Proofs.Ytanagdlikoinaaa
namespace Jor

section
variable {M : Int} {a b : P} {x0 : Int} {N : Nat} (hM : 0 < M) (hN : (N : Int) ≤ M) (ha : x0 ≤ a.1 ∧ a.1 < x0 + N) (hb : x0 ≤ b.1 ∧ b.1 < x0 + N) (hab : a.2 < b.2)
include hN ha in
theorem nr_col {j : Nat} (hj : j < N) (y : Int) : Nr M a (x0 + (j : Nat), y) := by
  unfold Nr
  simp only
  omega
include hM hN ha hb hab
omit hM in
theorem row_out {y : Int} (h : y < a.2 ∨ b.2 < y) : row M a b x0 N y = 0 := by
  unfold row
  rw [sm_congr _ (fun _ => 0) N fun j hj => cc_out (nr_col hN ha hj y) (nr_col hN hb hj y) hab h, sm_zero]
theorem row_low : row M a b x0 N a.2 = 2 * (a.1 - x0) := by
  unfold row
  rw [sm_congr _ _ N fun j hj => cc_low hM (nr_col hN ha hj a.2) (nr_col hN hb hj a.2) hab rfl, sm_add]
  simp only
  rw [cnt_lt x0 a.1 N (by omega) (by omega)]
  omega
theorem row_high : row M a b x0 N b.2 = 1 := by
  unfold row
  obtain ⟨d, hd⟩ : ∃ d : Nat, b.1 = x0 + d := ⟨(b.1 - x0).toNat, by omega⟩
  rw [sm_congr _ _ N fun j hj => cc_high hM (nr_col hN ha hj b.2) (nr_col hN hb hj b.2) hab rfl]
  simp only
  rw [sm_one (d := d) N (by omega) ?_, if_pos (by omega)]
  intro i hi hne
  rw [if_neg (by omega)]
omit hab in
theorem row_mid {y : Int} (h1 : a.2 < y) (h2 : y < b.2) : row M a b x0 N y = sm (fun j => if 0 < tu a b (x0 + (j : Nat), y) then 1 else 0) N + sm (fun j => if 0 ≤ tu a b (x0 + (j : Nat), y) then 1 else 0) N := by
  unfold row
  rw [← sm_add]
  exact sm_congr _ _ N fun j hj => cc_mid hM (nr_col hN ha hj y) (nr_col hN hb hj y) h1 h2
theorem rows_mid (D : Nat) (hD : b.2 = a.2 + D + 1) : sm (fun i => row M a b x0 N (a.2 + 1 + (i : Nat))) D = D * (a.1 + b.1 + 1 - 2 * x0) := by
  rw [sm_congr _ _ D fun i hi => row_mid hM hN ha hb (y := a.2 + 1 + (i : Nat)) (by omega) (by omega), sm_add]
  rw [← sm_rev (fun i => sm (fun j => if 0 ≤ tu a b (x0 + (j : Nat), a.2 + 1 + (i : Nat)) then (1 : Int) else 0) N) D, ← sm_add, ← sm_const (a.1 + b.1 + 1 - 2 * x0) D]
  refine sm_congr _ _ D fun i hi => ?_
  have h := row_pair (y := a.2 + 1 + (i : Nat)) hab (by omega) (by omega) ha hb
  have e : a.2 + 1 + ((D - 1 - i : Nat) : Int) = a.2 + b.2 - (a.2 + 1 + (i : Nat)) := by omega
  show _ + sm (fun j => if 0 ≤ tu a b (x0 + (j : Nat), a.2 + 1 + ((D - 1 - i : Nat) : Int)) then (1 : Int) else 0) N = _
  rw [e]
  exact h
/-- a rising wall's sum over the box -/
theorem rise {y0 : Int} {H : Nat} (hy : y0 ≤ a.2) (hy2 : b.2 < y0 + H) : sm (fun k => row M a b x0 N (y0 + (k : Nat))) H = (b.2 - a.2) * (a.1 + b.1 + 1 - 2 * x0) + (a.1 - b.1) := by
  obtain ⟨A, hA⟩ : ∃ A : Nat, a.2 = y0 + A := ⟨(a.2 - y0).toNat, by omega⟩
  obtain ⟨D, hD⟩ : ∃ D : Nat, b.2 = a.2 + D + 1 := ⟨(b.2 - a.2 - 1).toNat, by omega⟩
  obtain ⟨C, hC⟩ : ∃ C : Nat, H = A + (1 + (D + (1 + C))) := ⟨H - A - D - 2, by omega⟩
  subst hC
  have z1 : sm (fun k => row M a b x0 N (y0 + (k : Nat))) A = 0 := by
    rw [sm_congr _ (fun _ => 0) A fun k hk => row_out hN ha hb hab (.inl (by omega)), sm_zero]
  have z2 : sm (fun k => row M a b x0 N (y0 + ((A + (1 + (D + (1 + k))) : Nat) : Int))) C = 0 := by
    rw [sm_congr _ (fun _ => 0) C fun k hk => row_out hN ha hb hab (.inr (by omega)), sm_zero]
  have z3 : sm (fun k => row M a b x0 N (y0 + ((A + (1 + k) : Nat) : Int))) D = D * (a.1 + b.1 + 1 - 2 * x0) := by
    rw [← rows_mid hM hN ha hb hab D hD]
    exact sm_congr _ _ D fun k hk => by rw [show y0 + ((A + (1 + k) : Nat) : Int) = a.2 + 1 + (k : Nat) by omega]
  have z4 : row M a b x0 N (y0 + ((A + 0 : Nat) : Int)) = 2 * (a.1 - x0) := by
    rw [show y0 + ((A + 0 : Nat) : Int) = a.2 by omega]
    exact row_low hM hN ha hb hab
  have z5 : row M a b x0 N (y0 + ((A + (1 + (D + 0)) : Nat) : Int)) = 1 := by
    rw [show y0 + ((A + (1 + (D + 0)) : Nat) : Int) = b.2 by omega]
    exact row_high hM hN ha hb hab
  rw [sm_split, sm_split, sm_split, sm_split, z1, z2, z3]
  simp only [sm]
  rw [z4, z5]
  have e : b.2 - a.2 = (D : Int) + 1 := by omega
  rw [e]
  grind
end

end Jor
end Go.Proofs.Ytanagdlikoinaaa
