/-
  A room is a simple polygon. No program in sight.
-/
import Derived.Test.YtanagdlikoinaaaJ3
import Derived.Test.YtanagdlikoinaaaJ4
namespace Go.Proofs.Ytanagdlikoinaaa
namespace Jor

theorem room_z {l : List (Int × Int)} (hr : roomB l = true) : (3 ≤ l.length ∧ l.length ≤ 10) ∧ (∀ i, i < l.length → tz l i ≠ 0) ∧ (∀ i k, i < l.length → k < l.length → askI l i k = true → meetZ l i k = false) ∧ 0 < areaZ l := by
  have h1 := ((roomB_iff l).1 hr).1
  have h2 : badB l = false := by
    cases hb : badB l
    · rfl
    · rw [bad_room hb] at hr
      cases hr
  unfold badB at h2
  rw [Bool.or_eq_false_iff, decide_eq_false_iff_not, List.any_eq_false] at h2
  obtain ⟨h2, h3⟩ := h2
  have h4 : ∀ i, i < l.length → tz l i ≠ 0 ∧ ∀ k, k < l.length → askI l i k = true → meetZ l i k = false := by
    intro i hi
    have h := h2 i (List.mem_range.2 hi)
    rw [Bool.not_eq_true, Bool.or_eq_false_iff, decide_eq_false_iff_not, List.any_eq_false] at h
    refine ⟨h.1, fun k hk ha => ?_⟩
    have q := h.2 k (List.mem_range.2 hk)
    rw [ha, Bool.true_and, Bool.not_eq_true] at q
    exact q
  exact ⟨h1, fun i hi => (h4 i hi).1, fun i k hi hk => (h4 i hi).2 k hk, by omega⟩

/-- walls that are no neighbours -/
def ApartZ (a b c d : P) : Prop := crossZ a b c d = false ∧ onZB a c d = false ∧ onZB b c d = false ∧ onZB c a b = false ∧ onZB d a b = false
theorem ApartZ.symm {a b c d : P} (h : ApartZ a b c d) : ApartZ c d a b := by
  obtain ⟨h1, h2, h3, h4, h5⟩ := h
  refine ⟨?_, h4, h5, h2, h3⟩
  unfold crossZ at *
  rw [Bool.and_comm]
  exact h1
theorem room_apart {l : List (Int × Int)} (hr : roomB l = true) {i k : Nat} (hi : i < l.length) (hk : k < l.length) (h1 : k ≠ i) (h2 : nx l.length i ≠ k) (h3 : nx l.length k ≠ i) : ApartZ (pt l i) (pt l (nx l.length i)) (pt l k) (pt l (nx l.length k)) := by
  have hz := (room_z hr).2.2.1
  have main : ∀ i k, i < l.length → k < l.length → i < k → nx l.length i ≠ k → nx l.length k ≠ i → ApartZ (pt l i) (pt l (nx l.length i)) (pt l k) (pt l (nx l.length k)) := by
    intro i k hi hk hik h2 h3
    have ha : askI l i k = true := by
      unfold askI
      rw [nx_val hi] at h2
      rw [Bool.and_eq_true, decide_eq_true_eq, Bool.not_eq_true', beq_eq_false_iff_ne]
      refine ⟨?_, h3⟩
      split at h2 <;> omega
    have hm := hz i k hi hk ha
    unfold meetZ at hm
    simp only [Bool.or_eq_false_iff] at hm
    exact hm
  rcases Nat.lt_or_gt_of_ne h1 with h | h
  · exact (main k i hk hi h h3 h2).symm
  · exact main i k hi hk h h2 h3

theorem between {d s u t : Int} (hd : 0 < d) (h0 : 0 ≤ s) (h1 : s ≤ d) (h : d * u = t * s) : min 0 t ≤ u ∧ u ≤ max 0 t := by
  rcases Int.le_total 0 t with ht | ht
  · have e1 := Int.mul_nonneg ht h0
    have e2 := Int.mul_le_mul_of_nonneg_left h1 ht
    rw [Int.mul_comm t d] at e2
    have k1 : 0 ≤ u := Int.le_of_mul_le_mul_left (a := d) (by rw [Int.mul_zero]; omega) hd
    have k2 : u ≤ t := Int.le_of_mul_le_mul_left (a := d) (by omega) hd
    omega
  · have e1 := Int.mul_nonneg (show 0 ≤ -t by omega) h0
    have e2 := Int.mul_le_mul_of_nonneg_left h1 (show 0 ≤ -t by omega)
    rw [Int.neg_mul] at e1
    rw [Int.neg_mul, Int.neg_mul, Int.mul_comm t d] at e2
    have k1 : u ≤ 0 := Int.le_of_mul_le_mul_left (a := d) (by rw [Int.mul_zero]; omega) hd
    have k2 : t ≤ u := Int.le_of_mul_le_mul_left (a := d) (by omega) hd
    omega
/-- near: less than M apart from left to right -/
def Nr (M : Int) (a p : P) : Prop := a.1 - p.1 < M ∧ p.1 - a.1 < M
theorem off_hm {M : Int} (hM : 0 < M) {a b p : P} (n1 : Nr M a p) (n2 : Nr M b p) (h : onZB p a b = false) : Off (hm M p) (hm M a) (hm M b) := by
  intro hh h0
  have ht : tu a b p = 0 := by
    have k1 := hm_neg hM a b p
    have k2 := hm_pos hM a b p
    omega
  rw [hm_lt n1.1 n1.2, hm_lt n2.2 n2.1, hm_lt n2.1 n2.2, hm_lt n1.2 n1.1] at hh
  have hon : onZB p a b = true := by
    unfold onZB inB
    have ht' : turnZ a.1 a.2 b.1 b.2 p.1 p.2 = 0 := ht
    rw [ht']
    simp only [decide_true, Bool.true_and, Bool.and_eq_true, decide_eq_true_eq]
    unfold tu at ht
    by_cases hy : a.2 = b.2
    · omega
    · rcases Int.lt_or_gt_of_ne hy with g | g
      · have := between (d := b.2 - a.2) (s := p.2 - a.2) (u := p.1 - a.1) (t := b.1 - a.1) (by omega) (by omega) (by omega) (by omega)
        omega
      · have := between (d := a.2 - b.2) (s := p.2 - b.2) (u := p.1 - b.1) (t := a.1 - b.1) (by omega) (by omega) (by omega) (by grind)
        omega
  rw [h] at hon
  cases hon

end Jor
end Go.Proofs.Ytanagdlikoinaaa
