/-
  Where a point lies, in the words of the program, and the sum over the walls right of it. No program in sight.
-/
import Derived.Test.YtjccilpjaaiicaaTriE
namespace Go.Proofs.Ytjccilpjaaiicaa
namespace Jor

/-- all corners within 1000 -/
def Sml (q : List P) : Prop := ∀ k, k < q.length → within 1000 (gx q k) (gy q k)
theorem Sml.small {q : List P} (h : Sml q) : Small 1000000 q := fun k hk => within_more (h k hk) (by decide)
section
variable {q : List P} (hs : Sml q) {p : P} (hp : within 1000 p.1 p.2)
include hs hp
theorem turnE_tu {k : Nat} (hk : k < q.length) : turnE q p.1 p.2 k = tu (pt q k) (pt q (nx q.length k)) p := turnW_eq (hs.small k hk) (hs.small _ (nx_lt (by omega))) (within_more hp (by decide))
theorem onE_onZ {k : Nat} (hk : k < q.length) : onE q p.1 p.2 k = onZB p (pt q k) (pt q (nx q.length k)) := by
  have e := turnE_tu hs hp hk
  have h1 : onE q p.1 p.2 k = (decide (turnE q p.1 p.2 k = 0) && (inB p.1 (min (gx q k) (gx q (nx q.length k))) (max (gx q k) (gx q (nx q.length k))) && inB p.2 (min (gy q k) (gy q (nx q.length k))) (max (gy q k) (gy q (nx q.length k))))) := rfl
  rw [h1, e]
  rfl
theorem nr_sml {k : Nat} (hk : k < q.length) : Nr MM (pt q k) p := by
  have h1 : within 1000 (pt q k).1 (pt q k).2 := hs k hk
  have h2 := hp
  unfold within at h1 h2
  unfold Nr MM
  omega
theorem cr_cs {k : Nat} (hk : k < q.length) (ho : onE q p.1 p.2 k = false) : (cs (hm MM p) (hm MM (pt q k)) (hm MM (pt q (nx q.length k))) = 0 ∧ crI q p.1 p.2 k = false) ∨ ((cs (hm MM p) (hm MM (pt q k)) (hm MM (pt q (nx q.length k))) = 1 ∨ cs (hm MM p) (hm MM (pt q k)) (hm MM (pt q (nx q.length k))) = -1) ∧ crI q p.1 p.2 k = true) := by
  have hn := nx_lt (n := q.length) (i := k) (by omega)
  have n1 := nr_sml hs hp hk
  have n2 := nr_sml hs hp hn
  have e := turnE_tu hs hp hk
  rw [onE_onZ hs hp hk] at ho
  have a1 := hm_lt (M := MM) n1.1 n1.2
  have a2 := hm_lt (M := MM) n1.2 n1.1
  have a3 := hm_lt (M := MM) n2.1 n2.2
  have a4 := hm_lt (M := MM) n2.2 n2.1
  have a5 := hm_neg (M := MM) (by decide) (pt q k) (pt q (nx q.length k)) p
  have a6 := hm_pos (M := MM) (by decide) (pt q k) (pt q (nx q.length k)) p
  have hcr : crI q p.1 p.2 k = ((decide (p.2 < (pt q k).2) != decide (p.2 < (pt q (nx q.length k)).2)) && (decide (0 < turnE q p.1 p.2 k) == decide ((pt q k).2 < (pt q (nx q.length k)).2))) := rfl
  rw [hcr, e]
  unfold cs
  simp only [a5, a6, a1, a2, a3, a4]
  clear hcr e a1 a2 a3 a4 a5 a6 n1 n2
  generalize pt q k = a at *
  generalize pt q (nx q.length k) = b at *
  have l1 : a.2 = p.2 → tu a b p = (a.1 - p.1) * (b.2 - a.2) := fun h => by unfold tu; rw [h]; grind
  have l2 : b.2 = p.2 → tu a b p = (b.1 - p.1) * (b.2 - a.2) := fun h => by unfold tu; rw [← h]; grind
  have m1 := sgm (a.1 - p.1) (b.2 - a.2)
  have m2 := sgm (b.1 - p.1) (b.2 - a.2)
  have hz : tu a b p = 0 → ¬ ((a.2 ≤ p.2 ∧ p.2 < b.2) ∨ (b.2 ≤ p.2 ∧ p.2 < a.2)) := fun h0 hh => by
    have h1 : turnZ a.1 a.2 b.1 b.2 p.1 p.2 = 0 := h0
    have h2 := on_of_line h1 hh
    unfold onZB inB at ho
    rw [h1] at ho
    simp only [decide_true, Bool.true_and, Bool.and_eq_false_iff, decide_eq_false_iff_not] at ho
    omega
  have hb1 : ∀ x y z w : Prop, ∀ [Decidable x] [Decidable y] [Decidable z] [Decidable w], ((decide x != decide y) && (decide z == decide w)) = decide ((¬ (x ↔ y)) ∧ (z ↔ w)) := fun x y z w => by
    by_cases h1 : x <;> by_cases h2 : y <;> by_cases h3 : z <;> by_cases h4 : w <;> simp [h1, h2, h3, h4]
  rw [hb1, decide_eq_false_iff_not, decide_eq_true_eq]
  clear ho hb1
  generalize tu a b p = t at *
  generalize (a.1 - p.1) * (b.2 - a.2) = s1 at *
  generalize (b.1 - p.1) * (b.2 - a.2) = s2 at *
  rcases Int.lt_trichotomy a.2 p.2 with h1 | h1 | h1 <;> rcases Int.lt_trichotomy b.2 p.2 with h2 | h2 | h2
  · rw [if_neg (by omega), if_neg (by omega)]; omega
  · clear m1 l1; rw [if_neg (by omega)]; split <;> omega
  · clear m1 l1 m2 l2; split
    · omega
    · rw [if_neg (by omega)]; omega
  · clear m2 l2; split
    · omega
    · rw [if_neg (by omega)]; omega
  · rw [if_neg (by omega), if_neg (by omega)]; omega
  · clear m2 l2; split
    · omega
    · split <;> omega
  · clear m1 l1 m2 l2; rw [if_neg (by omega)]; split <;> omega
  · clear m1 l1; split
    · omega
    · split <;> omega
  · rw [if_neg (by omega), if_neg (by omega)]; omega
end
theorem par_sm {f : Nat → Bool} {g : Nat → Int} : ∀ n, (∀ i, i < n → (g i = 0 ∧ f i = false) ∨ ((g i = 1 ∨ g i = -1) ∧ f i = true)) → ((parTo f n = true ∧ sm g n % 2 = 1) ∨ (parTo f n = false ∧ sm g n % 2 = 0))
  | 0, _ => .inr ⟨rfl, rfl⟩
  | n + 1, h => by
    have ih := par_sm n fun i hi => h i (by omega)
    have h1 := h n (by omega)
    rw [parTo_succ, sm]
    rcases h1 with ⟨h1, h2⟩ | ⟨h1, h2⟩
    · rw [h2, h1, if_neg (by decide), Int.add_zero]
      exact ih
    · rw [h2, if_pos rfl]
      rcases ih with ⟨i1, i2⟩ | ⟨i1, i2⟩ <;> rw [i1]
      · exact .inr ⟨rfl, by omega⟩
      · exact .inl ⟨rfl, by omega⟩
theorem off_walls {q : List P} (hs : Sml q) {p : P} (hp : within 1000 p.1 p.2) (ho : ∀ k, k < q.length → onE q p.1 p.2 k = false) : (∀ i, i < q.length → Off (hm MM p) (hv q i) (hv q (nx q.length i))) ∧ (∀ k, k < q.length → (hv q k).2 ≠ (hm MM p).2) := by
  refine ⟨fun i hi => off_hm (by decide) (nr_sml hs hp hi) (nr_sml hs hp (nx_lt (by omega))) (by rw [← onE_onZ hs hp hi]; exact ho i hi), fun k hk => hm_ne (by decide) (nr_sml hs hp hk) ?_⟩
  intro e
  have h := ho k hk
  rw [onE_onZ hs hp hk, ← e] at h
  unfold onZB inB at h
  have h1 : turnZ (pt q k).1 (pt q k).2 (pt q (nx q.length k)).1 (pt q (nx q.length k)).2 (pt q k).1 (pt q k).2 = 0 := tu_fst _ _
  rw [h1] at h
  simp only [decide_true, Bool.true_and, Bool.and_eq_false_iff, decide_eq_false_iff_not] at h
  omega
/-- off the walls the program's answer is the sum's -/
theorem place_wn {q : List P} {ts : List T3} (h : Trg (hv q) q.length ts) (hs : Sml q) {p : P} (hp : within 1000 p.1 p.2) (ho : ∀ k, k < q.length → onE q p.1 p.2 k = false) : (wn (hv q) q.length (hm MM p) = 1 ∧ placeV q p.1 p.2 = 2) ∨ (wn (hv q) q.length (hm MM p) = 0 ∧ placeV q p.1 p.2 = 0) := by
  have hpar := par_sm (f := crI q p.1 p.2) (g := fun i => cs (hm MM p) (hv q i) (hv q (nx q.length i))) q.length fun i hi => cr_cs hs hp hi (ho i hi)
  have e1 : sm (fun i => cs (hm MM p) (hv q i) (hv q (nx q.length i))) q.length = wn (hv q) q.length (hm MM p) := rfl
  rw [e1] at hpar
  have hof := off_walls hs hp ho
  have w1 := wR_off (v := hv q) (n := q.length) hof.2
  have u1 := h.upR (hm MM p)
  have u2 : 0 ≤ wR (hv q) q.length (hm MM p) := by
    rw [← h.sumR]
    exact ss_nn ts fun t ht => (h.nn ht _).1
  rw [placeV_off ho]
  rcases hpar with ⟨h1, h2⟩ | ⟨h1, h2⟩
  · rw [h1, if_pos rfl]
    exact .inl ⟨by omega, rfl⟩
  · rw [h1, if_neg (by decide)]
    exact .inr ⟨by omega, rfl⟩
theorem placeV_one {q : List P} {x y : Int} : placeV q x y = 1 ↔ ∃ k, k < q.length ∧ onE q x y k = true := by
  constructor
  · intro h
    unfold placeV at h
    split at h
    · rename_i h1
      rw [List.any_eq_true] at h1
      obtain ⟨k, hk, h2⟩ := h1
      exact ⟨k, List.mem_range.1 hk, h2⟩
    · split at h <;> omega
  · rintro ⟨k, hk, h⟩
    exact placeV_on hk h
theorem placeV_cases (q : List P) (x y : Int) : placeV q x y = 0 ∨ placeV q x y = 1 ∨ placeV q x y = 2 := by
  unfold placeV
  split
  · exact .inr (.inl rfl)
  · split
    · exact .inr (.inr rfl)
    · exact .inl rfl
theorem off_of_ne {q : List P} {x y : Int} (h : placeV q x y ≠ 1) : ∀ k, k < q.length → onE q x y k = false := fun k hk => by
  cases e : onE q x y k
  · rfl
  · exact absurd (placeV_on hk e) h

end Jor
end Go.Proofs.Ytjccilpjaaiicaa
