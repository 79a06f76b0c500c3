/-
  What a triangle counts at a point pushed to the right or to the left. No program in sight.
-/
import Derived.Test.YtanagdlikoinaaaJordO
namespace Go.Proofs.Ytanagdlikoinaaa
namespace Jor

theorem sgm (a x : Int) : (0 < a → (0 < x → 0 < a * x) ∧ (x < 0 → a * x < 0) ∧ (x = 0 → a * x = 0)) ∧ (a < 0 → (0 < x → a * x < 0) ∧ (x < 0 → 0 < a * x) ∧ (x = 0 → a * x = 0)) ∧ (a = 0 → a * x = 0) := by
  refine ⟨fun h => ⟨fun g => Int.mul_pos h g, fun g => ?_, fun g => by rw [g, Int.mul_zero]⟩, fun h => ⟨fun g => mul_neg' h g, fun g => ?_, fun g => by rw [g, Int.mul_zero]⟩, fun h => by rw [h, Int.zero_mul]⟩
  · rw [Int.mul_comm]; exact mul_neg' g h
  · have := Int.mul_pos (show 0 < -a by omega) (show 0 < -x by omega)
    rw [Int.neg_mul, Int.mul_neg, Int.neg_neg] at this
    exact this

/-- a wall's count by the heights of its ends over the point, and the side -/
def rr (α β z : Int) : Int := if α ≤ 0 ∧ 0 < β ∧ 0 < z then 1 else if β ≤ 0 ∧ 0 < α ∧ z < 0 then -1 else 0
def ll (α β z : Int) : Int := if α < 0 ∧ 0 ≤ β ∧ 0 ≤ z then 1 else if β < 0 ∧ 0 ≤ α ∧ z ≤ 0 then -1 else 0
theorem cR_rr (p a b : P) : cR p a b = rr (a.2 - p.2) (b.2 - p.2) (tu a b p) := by
  unfold cR rr
  (repeat' split) <;> omega
theorem cL_ll (p a b : P) : cL p a b = ll (a.2 - p.2) (b.2 - p.2) (tu a b p) := by
  unfold cL ll
  (repeat' split) <;> omega
def sg3 (x : Int) : Int := if 0 < x then 1 else if x < 0 then -1 else 0
theorem sg3_cases (x : Int) : (sg3 x = 1 ∧ 0 < x) ∨ (sg3 x = -1 ∧ x < 0) ∨ (sg3 x = 0 ∧ x = 0) := by
  unfold sg3
  (repeat' split) <;> omega
theorem rr_sg (α β z : Int) : rr α β z = rr (sg3 α) (sg3 β) (sg3 z) := by
  rcases sg3_cases α with ⟨e1, h1⟩ | ⟨e1, h1⟩ | ⟨e1, h1⟩ <;> rcases sg3_cases β with ⟨e2, h2⟩ | ⟨e2, h2⟩ | ⟨e2, h2⟩ <;> rcases sg3_cases z with ⟨e3, h3⟩ | ⟨e3, h3⟩ | ⟨e3, h3⟩ <;> (rw [e1, e2, e3]; unfold rr; (repeat' split) <;> omega)
theorem ll_sg (α β z : Int) : ll α β z = ll (sg3 α) (sg3 β) (sg3 z) := by
  rcases sg3_cases α with ⟨e1, h1⟩ | ⟨e1, h1⟩ | ⟨e1, h1⟩ <;> rcases sg3_cases β with ⟨e2, h2⟩ | ⟨e2, h2⟩ | ⟨e2, h2⟩ <;> rcases sg3_cases z with ⟨e3, h3⟩ | ⟨e3, h3⟩ | ⟨e3, h3⟩ <;> (rw [e1, e2, e3]; unfold ll; (repeat' split) <;> omega)
theorem sg3_mul (a x : Int) : sg3 (a * x) = sg3 a * sg3 x := by
  have h := sgm a x
  have e := sg3_cases (a * x)
  generalize a * x = p at *
  rcases sg3_cases a with ⟨e1, h1⟩ | ⟨e1, h1⟩ | ⟨e1, h1⟩ <;> rcases sg3_cases x with ⟨e2, h2⟩ | ⟨e2, h2⟩ | ⟨e2, h2⟩ <;> (rw [e1, e2]; omega)
/-- the same in signs alone -/
def CoreP (a b c x y z : Int) : Prop :=
  (rr a b z + rr b c x + rr c a y = 0 ∨ (rr a b z + rr b c x + rr c a y = 1 ∧ 0 ≤ x ∧ 0 ≤ y ∧ 0 ≤ z)) ∧ (ll a b z + ll b c x + ll c a y = 0 ∨ (ll a b z + ll b c x + ll c a y = 1 ∧ 0 ≤ x ∧ 0 ≤ y ∧ 0 ≤ z)) ∧
    (0 < x → 0 < y → 0 < z → rr a b z + rr b c x + rr c a y = 1 ∧ ll a b z + ll b c x + ll c a y = 1) ∧
    (0 < x → 0 < y → z = 0 → (a < 0 ∧ 0 < b ∧ rr a b z + rr b c x + rr c a y = 0 ∧ ll a b z + ll b c x + ll c a y = 1) ∨ (b < 0 ∧ 0 < a ∧ rr a b z + rr b c x + rr c a y = 1 ∧ ll a b z + ll b c x + ll c a y = 0))
def HypP (a b c x y z : Int) : Prop := ¬ (a = 0 ∧ b = 0) ∧ ¬ (b = 0 ∧ c = 0) ∧ ¬ (c = 0 ∧ a = 0) ∧ (0 < x ∨ 0 < y ∨ 0 < z) ∧ ¬ (0 ≤ a * x ∧ 0 ≤ b * y ∧ 0 ≤ c * z ∧ (0 < a * x ∨ 0 < b * y ∨ 0 < c * z)) ∧ ¬ (a * x ≤ 0 ∧ b * y ≤ 0 ∧ c * z ≤ 0 ∧ (a * x < 0 ∨ b * y < 0 ∨ c * z < 0))
instance (a b c x y z : Int) : Decidable (CoreP a b c x y z) := by unfold CoreP; infer_instance
instance (a b c x y z : Int) : Decidable (HypP a b c x y z) := by unfold HypP; infer_instance
def S3 : List Int := [1, -1, 0]
theorem core_all : (S3.all fun a => S3.all fun b => S3.all fun c => S3.all fun x => S3.all fun y => S3.all fun z => decide (HypP a b c x y z → CoreP a b c x y z)) = true := by decide +kernel
theorem sg3_mem (x : Int) : sg3 x ∈ S3 := by
  unfold S3
  rcases sg3_cases x with ⟨e, _⟩ | ⟨e, _⟩ | ⟨e, _⟩ <;> simp [e]
theorem core {α β γ x y z : Int} (h : α * x + β * y + γ * z = 0) (hs : 0 < x + y + z) (n1 : α ≠ β) (n2 : β ≠ γ) (n3 : γ ≠ α) :
    (rr α β z + rr β γ x + rr γ α y = 0 ∨ (rr α β z + rr β γ x + rr γ α y = 1 ∧ 0 ≤ x ∧ 0 ≤ y ∧ 0 ≤ z)) ∧ (ll α β z + ll β γ x + ll γ α y = 0 ∨ (ll α β z + ll β γ x + ll γ α y = 1 ∧ 0 ≤ x ∧ 0 ≤ y ∧ 0 ≤ z)) ∧
    (0 < x → 0 < y → 0 < z → rr α β z + rr β γ x + rr γ α y = 1 ∧ ll α β z + ll β γ x + ll γ α y = 1) ∧
    (0 < x → 0 < y → z = 0 → (α < 0 ∧ 0 < β ∧ rr α β z + rr β γ x + rr γ α y = 0 ∧ ll α β z + ll β γ x + ll γ α y = 1) ∨ (β < 0 ∧ 0 < α ∧ rr α β z + rr β γ x + rr γ α y = 1 ∧ ll α β z + ll β γ x + ll γ α y = 0)) := by
  have hA := core_all
  simp only [List.all_eq_true, decide_eq_true_eq] at hA
  have hC := hA _ (sg3_mem α) _ (sg3_mem β) _ (sg3_mem γ) _ (sg3_mem x) _ (sg3_mem y) _ (sg3_mem z)
  have c1 := sg3_cases α
  have c2 := sg3_cases β
  have c3 := sg3_cases γ
  have c4 := sg3_cases x
  have c5 := sg3_cases y
  have c6 := sg3_cases z
  have hH : HypP (sg3 α) (sg3 β) (sg3 γ) (sg3 x) (sg3 y) (sg3 z) := by
    unfold HypP
    rw [← sg3_mul, ← sg3_mul, ← sg3_mul]
    have d1 := sg3_cases (α * x)
    have d2 := sg3_cases (β * y)
    have d3 := sg3_cases (γ * z)
    generalize α * x = px at *
    generalize β * y = py at *
    generalize γ * z = pz at *
    clear hC hA
    refine ⟨by omega, by omega, by omega, by omega, by omega, by omega⟩
  have hK := hC hH
  unfold CoreP at hK
  rw [← rr_sg, ← rr_sg, ← rr_sg, ← ll_sg, ← ll_sg, ← ll_sg] at hK
  clear hC hA hH h
  generalize rr α β z + rr β γ x + rr γ α y = R at *
  generalize ll α β z + ll β γ x + ll γ α y = Lq at *
  obtain ⟨k1, k2, k3, k4⟩ := hK
  refine ⟨by clear k2 k3 k4; omega, by clear k1 k3 k4; omega, by clear k1 k2 k4; omega, by clear k1 k2 k3; omega⟩

/-! ## A triangle -/
def tR (p a b c : P) : Int := cR p a b + cR p b c + cR p c a
def tL (p a b c : P) : Int := cL p a b + cL p b c + cL p c a
/-- p lies in the closed triangle -/
def In (p a b c : P) : Prop := 0 ≤ tu a b p ∧ 0 ≤ tu b c p ∧ 0 ≤ tu c a p
theorem bary0 (p a b c : P) : (a.2 - p.2) * tu b c p + (b.2 - p.2) * tu c a p + (c.2 - p.2) * tu a b p = 0 := by unfold tu; grind
theorem bary1 (p a b c : P) : tu b c p + tu c a p + tu a b p = tu a b c := by unfold tu; grind
section
variable {p a b c : P} (ht : 0 < tu a b c) (n1 : a.2 ≠ b.2) (n2 : b.2 ≠ c.2) (n3 : c.2 ≠ a.2)
include ht n1 n2 n3
theorem tri_core : (tR p a b c = 0 ∨ (tR p a b c = 1 ∧ In p a b c)) ∧ (tL p a b c = 0 ∨ (tL p a b c = 1 ∧ In p a b c)) ∧
    (0 < tu b c p → 0 < tu c a p → 0 < tu a b p → tR p a b c = 1 ∧ tL p a b c = 1) ∧
    (0 < tu b c p → 0 < tu c a p → tu a b p = 0 → (a.2 < p.2 ∧ p.2 < b.2 ∧ tR p a b c = 0 ∧ tL p a b c = 1) ∨ (b.2 < p.2 ∧ p.2 < a.2 ∧ tR p a b c = 1 ∧ tL p a b c = 0)) := by
  have h := core (bary0 p a b c) (by rw [bary1]; exact ht) (by omega) (by omega) (by omega)
  rw [← cR_rr, ← cR_rr, ← cR_rr, ← cL_ll, ← cL_ll, ← cL_ll] at h
  unfold tR tL In
  obtain ⟨k1, k2, k3, k4⟩ := h
  refine ⟨by clear k2 k3 k4; omega, by clear k1 k3 k4; omega, k3, fun g1 g2 g3 => ?_⟩
  have := k4 g1 g2 g3
  clear k1 k2 k3 k4
  omega
theorem tR_nn : 0 ≤ tR p a b c := by have := (tri_core (p := p) ht n1 n2 n3).1; omega
theorem tL_nn : 0 ≤ tL p a b c := by have := (tri_core (p := p) ht n1 n2 n3).2.1; omega
/-- at the three corners together -/
theorem tri_corners : (tR a a b c + tL a a b c) + (tR b a b c + tL b a b c) + (tR c a b c + tL c a b c) = 1 := by
  have e1 : tu b c a = tu a b c := tu_rot a b c
  have e2 : tu c a b = tu a b c := by rw [tu_rot, tu_rot]
  have q : ∀ x y z : P, 0 < tu y z x → cR x y z + cL x y z = (if y.2 ≤ x.2 ∧ x.2 < z.2 then 1 else 0) + (if y.2 < x.2 ∧ x.2 ≤ z.2 then 1 else 0) := fun x y z h => by
    unfold cR cL
    have r : ¬ tu y z x < 0 := by omega
    have r2 : ¬ tu y z x ≤ 0 := by omega
    have r3 : 0 ≤ tu y z x := by omega
    simp only [h, r, r2, r3, and_true, and_false, if_false]
  have q1 := q a b c (by rw [e1]; exact ht)
  have q2 := q b c a (by rw [e2]; exact ht)
  have q3 := q c a b ht
  have f1 := cR_on (tu_fst a b)
  have f2 := cR_on (tu_snd a b)
  have f3 := cR_on (tu_fst b c)
  have f4 := cR_on (tu_snd b c)
  have f5 := cR_on (tu_fst c a)
  have f6 := cR_on (tu_snd c a)
  have g1 := cL_fst n1
  have g2 := cL_snd (a := a) (b := b)
  have g3 := cL_fst n2
  have g4 := cL_snd (a := b) (b := c)
  have g5 := cL_fst n3
  have g6 := cL_snd (a := c) (b := a)
  unfold tR tL
  rw [f1, f2, f3, f4, f5, f6, g1, g2, g3, g4, g5, g6]
  clear f1 f2 f3 f4 f5 f6 g1 g2 g3 g4 g5 g6 q e1 e2 ht
  have w : ∀ r1 l1 r2 l2 r3 l3 s t u : Int, r1 + l1 = s → r2 + l2 = t → r3 + l3 = u → r1 + l1 + (r2 + l2) + (r3 + l3) = s + t + u := by omega
  have w2 := w _ _ _ _ _ _ _ _ _ q1 q2 q3
  clear w q1 q2 q3
  generalize cR a b c = x1 at *
  generalize cL a b c = x2 at *
  generalize cR b c a = x3 at *
  generalize cL b c a = x4 at *
  generalize cR c a b = x5 at *
  generalize cL c a b = x6 at *
  rcases Int.lt_or_gt_of_ne n1 with h1 | h1 <;> rcases Int.lt_or_gt_of_ne n2 with h2 | h2 <;> rcases Int.lt_or_gt_of_ne n3 with h3 | h3 <;> clear n1 n2 n3 <;> (first | (exfalso; omega) | skip) <;>
    (repeat (first | rw [if_pos (by omega)] at w2 | rw [if_neg (by omega)] at w2)) <;> (repeat (first | rw [if_pos (by omega)] | rw [if_neg (by omega)])) <;> omega
end

end Jor
end Go.Proofs.Ytanagdlikoinaaa
