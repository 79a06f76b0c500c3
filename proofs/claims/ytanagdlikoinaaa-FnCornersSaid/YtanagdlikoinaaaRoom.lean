/-
  What a valid room is, in plain words of both texts, and that the two agree. No program in sight.
-/
import Derived.Test.YtanagdlikoinaaaJ2
namespace Go.Proofs.Ytanagdlikoinaaa
open Go.RowKit

/-- walls i and k of l meet -/
def mt (l : List (Int × Int)) (i k : Nat) : Bool := meetV (gx l i) (gy l i) (gx l (nx l i)) (gy l (nx l i)) (gx l k) (gy l k) (gx l (nx l k)) (gy l (nx l k))
/-- the turn at the corner behind i -/
def tn (l : List (Int × Int)) (i : Nat) : Int := turnW (gx l i) (gy l i) (gx l (nx l i)) (gy l (nx l i)) (gx l ((i + 2) % l.length)) (gy l ((i + 2) % l.length))
/-- walls i and k are asked by the program -/
def askI (l : List (Int × Int)) (i k : Nat) : Bool := decide (i + 2 ≤ k) && !((k + 1) % l.length == i)
/-- walls i and k are asked by the reference -/
def askS (l : List (Int × Int)) (i k : Nat) : Bool := !(k == i || ((k + 1) % l.length == i || (i + 1) % l.length == k))
def rowI (l : List (Int × Int)) (i : Nat) : Bool := !decide (tn l i = 0) && (List.range l.length).all fun k => !(askI l i k && mt l i k)
def rowS (l : List (Int × Int)) (i : Nat) : Bool := !decide (tn l i = 0) && (List.range l.length).all fun k => !(askS l i k && mt l i k)
def sizeB (l : List (Int × Int)) : Bool := decide (3 ≤ l.length) && decide (l.length ≤ 10)
/-- RoomOk, as both texts give it -/
def roomB (l : List (Int × Int)) : Bool := sizeB l && (allok l && ((List.range l.length).all (rowI l) && decide (0 < areaZ l)))

theorem side_comm (ax ay bx by_ cx cy dx dy : Int) : crossB ax ay bx by_ cx cy dx dy = crossB cx cy dx dy ax ay bx by_ := by
  unfold crossB
  rw [Bool.and_comm]

theorem meet_comm (ax ay bx by_ cx cy dx dy : Int) : meetV ax ay bx by_ cx cy dx dy = meetV cx cy dx dy ax ay bx by_ := by
  unfold meetV
  rw [side_comm]
  cases wok ax ay bx by_ <;> cases wok cx cy dx dy <;> cases onW ax ay cx cy dx dy <;> cases onW bx by_ cx cy dx dy <;> cases onW cx cy ax ay bx by_ <;> cases onW dx dy ax ay bx by_ <;> simp

theorem mt_comm (l : List (Int × Int)) (i k : Nat) : mt l i k = mt l k i := meet_comm _ _ _ _ _ _ _ _

theorem askS_of_askI {l : List (Int × Int)} {i k : Nat} (hi : i < l.length) (hk : k < l.length) (h : askI l i k = true) : askS l i k = true := by
  unfold askI at h
  simp only [Bool.and_eq_true, decide_eq_true_eq, Bool.not_eq_true', beq_eq_false_iff_ne] at h
  unfold askS
  simp only [Bool.not_eq_true', Bool.or_eq_false_iff, beq_eq_false_iff_ne]
  refine ⟨by omega, h.2, ?_⟩
  rw [Nat.mod_eq_of_lt (by omega)]
  omega

theorem askI_of_askS {l : List (Int × Int)} {i k : Nat} (hi : i < l.length) (hk : k < l.length) (h : askS l i k = true) : askI l i k = true ∨ askI l k i = true := by
  unfold askS at h
  simp only [Bool.not_eq_true', Bool.or_eq_false_iff, beq_eq_false_iff_ne] at h
  obtain ⟨h1, h2, h3⟩ := h
  unfold askI
  simp only [Bool.and_eq_true, decide_eq_true_eq, Bool.not_eq_true', beq_eq_false_iff_ne]
  rcases Nat.lt_or_ge i k with hlt | hge
  · left
    refine ⟨?_, h2⟩
    rcases Nat.lt_or_ge (i + 1) l.length with h4 | h4
    · rw [Nat.mod_eq_of_lt h4] at h3; omega
    · omega
  · right
    refine ⟨?_, h3⟩
    rcases Nat.lt_or_ge (k + 1) l.length with h4 | h4
    · rw [Nat.mod_eq_of_lt h4] at h2; omega
    · omega

theorem rows_eq (l : List (Int × Int)) : (List.range l.length).all (rowS l) = (List.range l.length).all (rowI l) := by
  rw [Bool.eq_iff_iff, List.all_eq_true, List.all_eq_true]
  simp only [List.mem_range]
  unfold rowS rowI
  constructor
  · intro h i hi
    have := h i hi
    rw [Bool.and_eq_true] at this ⊢
    refine ⟨this.1, ?_⟩
    rw [List.all_eq_true] at this ⊢
    intro k hk
    have h2 := this.2 k hk
    rw [List.mem_range] at hk
    cases ha : askI l i k with
    | false => simp
    | true => rw [askS_of_askI hi hk ha] at h2; exact h2
  · intro h i hi
    have := h i hi
    rw [Bool.and_eq_true] at this ⊢
    refine ⟨this.1, ?_⟩
    rw [List.all_eq_true] at this ⊢
    intro k hk
    have h2 := this.2 k hk
    rw [List.mem_range] at hk
    cases ha : askS l i k with
    | false => simp
    | true =>
      rcases askI_of_askS hi hk ha with h3 | h3
      · rw [h3] at h2; exact h2
      · have := h k hk
        rw [Bool.and_eq_true, List.all_eq_true] at this
        have h4 := this.2 i (List.mem_range.2 hi)
        rw [h3, mt_comm] at h4
        exact h4

theorem roomB_spec (l : List (Int × Int)) : (sizeB l && (allok l && ((List.range l.length).all (rowS l) && decide (0 < areaZ l)))) = roomB l := by
  rw [rows_eq]; rfl

theorem roomB_row {l : List (Int × Int)} {i : Nat} (hi : i < l.length) (h : rowI l i = false) : roomB l = false := by
  have : (List.range l.length).all (rowI l) = false := by
    rw [List.all_eq_false]
    exact ⟨i, List.mem_range.2 hi, by simp [h]⟩
  unfold roomB
  rw [this]
  simp

theorem rowI_turn {l : List (Int × Int)} {i : Nat} (h : tn l i = 0) : rowI l i = false := by simp [rowI, h]

theorem rowI_meet {l : List (Int × Int)} {i k : Nat} (hk : k < l.length) (ha : askI l i k = true) (h : mt l i k = true) : rowI l i = false := by
  have : ((List.range l.length).all fun k => !(askI l i k && mt l i k)) = false := by
    rw [List.all_eq_false]
    exact ⟨k, List.mem_range.2 hk, by simp [h, ha]⟩
  unfold rowI
  rw [this]
  simp

theorem rowI_all {l : List (Int × Int)} {i : Nat} (ht : ¬ tn l i = 0) (h : ∀ k, k < l.length → askI l i k = true → mt l i k = false) : rowI l i = true := by
  unfold rowI
  rw [Bool.and_eq_true, List.all_eq_true]
  refine ⟨by simp [ht], fun k hk => ?_⟩
  rw [List.mem_range] at hk
  cases ha : askI l i k with
  | false => simp
  | true => simp [h k hk ha]

theorem rowS_turn {l : List (Int × Int)} {i : Nat} (h : tn l i = 0) : rowS l i = false := by simp [rowS, h]

theorem rowS_meet {l : List (Int × Int)} {i k : Nat} (hk : k < l.length) (ha : askS l i k = true) (h : mt l i k = true) : rowS l i = false := by
  have : ((List.range l.length).all fun k => !(askS l i k && mt l i k)) = false := by
    rw [List.all_eq_false]
    exact ⟨k, List.mem_range.2 hk, by simp [h, ha]⟩
  unfold rowS
  rw [this]
  simp

theorem rowS_all {l : List (Int × Int)} {i : Nat} (ht : ¬ tn l i = 0) (h : ∀ k, k < l.length → askS l i k = true → mt l i k = false) : rowS l i = true := by
  unfold rowS
  rw [Bool.and_eq_true, List.all_eq_true]
  refine ⟨by simp [ht], fun k hk => ?_⟩
  rw [List.mem_range] at hk
  cases ha : askS l i k with
  | false => simp
  | true => simp [h k hk ha]

theorem roomB_rowS {l : List (Int × Int)} {i : Nat} (hi : i < l.length) (h : rowS l i = false) : roomB l = false := by
  have : (List.range l.length).all (rowS l) = false := by
    rw [List.all_eq_false]
    exact ⟨i, List.mem_range.2 hi, by simp [h]⟩
  rw [← roomB_spec, this]
  simp

theorem roomB_end {l : List (Int × Int)} (h1 : sizeB l = true) (h2 : allok l = true) (h3 : ∀ i, i < l.length → rowI l i = true) : roomB l = decide (0 < areaZ l) := by
  unfold roomB
  have : (List.range l.length).all (rowI l) = true := by
    rw [List.all_eq_true]
    intro i hi
    exact h3 i (List.mem_range.1 hi)
  rw [h1, h2, this]
  simp

theorem roomB_endS {l : List (Int × Int)} (h1 : sizeB l = true) (h2 : allok l = true) (h3 : ∀ i, i < l.length → rowS l i = true) : roomB l = decide (0 < areaZ l) := by
  rw [← roomB_spec]
  have : (List.range l.length).all (rowS l) = true := by
    rw [List.all_eq_true]
    intro i hi
    exact h3 i (List.mem_range.1 hi)
  rw [h1, h2, this]
  simp

theorem roomB_fine {l : List (Int × Int)} (h : roomB l = true) : Fine l ∧ 3 ≤ l.length := by
  unfold roomB sizeB at h
  simp only [Bool.and_eq_true, decide_eq_true_eq] at h
  exact ⟨⟨h.2.1, h.1.2⟩, h.1.1⟩

end Go.Proofs.Ytanagdlikoinaaa
