/-
  How many whole points lie on the walls. No program in sight.
-/
import Derived.Test.YtanagdlikoinaaaJ5
import Derived.Test.YtanagdlikoinaaaEdge
namespace Go.Proofs.Ytanagdlikoinaaa
namespace Jor

/-- the points of a wall at whole parts -/
def prt (a : P) (u w : Int) (j : Nat) : P := (a.1 + j * u, a.2 + j * w)
theorem on_prt {g : Nat} {u w : Int} (hg : 0 < g) (hc : Int.gcd u w = 1) {a b p : P} (hb1 : b.1 = a.1 + g * u) (hb2 : b.2 = a.2 + g * w) : (onZB p a b = true ∧ p ≠ b) ↔ ∃ j, j < g ∧ p = prt a u w j := by
  have hne : u ≠ 0 ∨ w ≠ 0 := by
    by_cases h1 : u = 0
    · by_cases h2 : w = 0
      · rw [h1, h2] at hc; simp at hc
      · exact .inr h2
    · exact .inl h1
  constructor
  · rintro ⟨ho, hpb⟩
    unfold onZB inB at ho
    simp only [Bool.and_eq_true, decide_eq_true_eq] at ho
    obtain ⟨ht, hx, hy⟩ := ho
    have e0 : (g : Int) * (u * (p.2 - a.2)) = g * (w * (p.1 - a.1)) := by
      unfold turnZ at ht
      rw [hb1, hb2] at ht
      grind
    have e1 : u * (p.2 - a.2) = w * (p.1 - a.1) := Int.eq_of_mul_eq_mul_left (by omega) e0
    obtain ⟨t, t1, t2⟩ : ∃ t : Int, p.1 - a.1 = t * u ∧ p.2 - a.2 = t * w := by
      by_cases hu : u = 0
      · subst hu
        have hw : w = 1 ∨ w = -1 := by
          rw [Int.gcd_zero_left] at hc
          omega
        rw [Int.zero_mul] at e1
        rcases hw with rfl | rfl
        · exact ⟨p.2 - a.2, by omega, by omega⟩
        · exact ⟨-(p.2 - a.2), by omega, by omega⟩
      · have hd : u ∣ w * (p.1 - a.1) := ⟨_, e1.symm⟩
        have hd2 : u ∣ (p.1 - a.1) := by
          have h1 := Int.natAbs_dvd_natAbs.2 hd
          rw [Int.natAbs_mul] at h1
          exact Int.natAbs_dvd_natAbs.1 (Nat.Coprime.dvd_of_dvd_mul_left (show Nat.Coprime u.natAbs w.natAbs from hc) h1)
        obtain ⟨t, ht2⟩ := hd2
        refine ⟨t, by rw [ht2, Int.mul_comm], ?_⟩
        rw [ht2] at e1
        have e2 : u * (p.2 - a.2) = u * (t * w) := by rw [e1]; grind
        exact Int.eq_of_mul_eq_mul_left hu e2
    have hrange : 0 ≤ t ∧ t ≤ g := by
      have key : ∀ s : Int, s ≠ 0 → min 0 (g * s) ≤ t * s → t * s ≤ max 0 (g * s) → 0 ≤ t ∧ t ≤ g := by
        intro s hs h1 h2
        rcases Int.lt_or_gt_of_ne hs with h | h
        · have h3 : (g : Int) * s ≤ 0 := by have := Int.mul_nonneg (show 0 ≤ (g : Int) by omega) (show 0 ≤ -s by omega); rw [Int.mul_neg] at this; omega
          have h4 : t * (-s) ≥ 0 * (-s) := by rw [Int.mul_neg, Int.zero_mul]; omega
          have h5 : t * (-s) ≤ g * (-s) := by rw [Int.mul_neg, Int.mul_neg]; omega
          exact ⟨Int.le_of_mul_le_mul_right h4 (by omega), Int.le_of_mul_le_mul_right h5 (by omega)⟩
        · have h3 : 0 ≤ (g : Int) * s := Int.mul_nonneg (by omega) (by omega)
          have h4 : t * s ≥ 0 * s := by rw [Int.zero_mul]; omega
          have h5 : t * s ≤ g * s := by omega
          exact ⟨Int.le_of_mul_le_mul_right h4 h, Int.le_of_mul_le_mul_right h5 h⟩
      rcases hne with h | h
      · exact key u h (by omega) (by omega)
      · exact key w h (by omega) (by omega)
    have hlt : t ≠ g := by
      rintro rfl
      exact hpb (Prod.ext (by omega) (by omega))
    obtain ⟨j, rfl⟩ : ∃ j : Nat, t = j := ⟨t.toNat, by omega⟩
    refine ⟨j, by omega, Prod.ext ?_ ?_⟩
    · unfold prt; simp only; omega
    · unfold prt; simp only; omega
  · rintro ⟨j, hj, rfl⟩
    have k : ∀ s : Int, min 0 (g * s) ≤ j * s ∧ j * s ≤ max 0 (g * s) := by
      intro s
      rcases Int.le_total 0 s with h | h
      · have h1 := Int.mul_nonneg (show 0 ≤ (j : Int) by omega) h
        have h2 := Int.mul_le_mul_of_nonneg_right (show (j : Int) ≤ g by omega) h
        omega
      · have h1 := Int.mul_nonneg (show 0 ≤ (j : Int) by omega) (show 0 ≤ -s by omega)
        have h2 := Int.mul_le_mul_of_nonneg_right (show (j : Int) ≤ g by omega) (show 0 ≤ -s by omega)
        rw [Int.mul_neg] at h1 h2
        rw [Int.mul_neg] at h2
        omega
    have k1 := k u
    have k2 := k w
    constructor
    · unfold onZB inB prt
      simp only [Bool.and_eq_true, decide_eq_true_eq]
      refine ⟨?_, by omega, by omega⟩
      unfold turnZ
      rw [hb1, hb2]
      grind
    · intro e
      have e1 := congrArg Prod.fst e
      have e2 := congrArg Prod.snd e
      unfold prt at e1 e2
      simp only at e1 e2
      rcases hne with h | h
      · have : (j : Int) * u = g * u := by omega
        have := Int.eq_of_mul_eq_mul_right h this
        omega
      · have : (j : Int) * w = g * w := by omega
        have := Int.eq_of_mul_eq_mul_right h this
        omega
theorem prt_inj {u w : Int} (hc : Int.gcd u w = 1) {a : P} {i j : Nat} (h : prt a u w i = prt a u w j) : i = j := by
  have e1 := congrArg Prod.fst h
  have e2 := congrArg Prod.snd h
  unfold prt at e1 e2
  simp only at e1 e2
  by_cases h1 : u = 0
  · by_cases h2 : w = 0
    · rw [h1, h2] at hc; simp at hc
    · have := Int.eq_of_mul_eq_mul_right h2 (show (i : Int) * w = j * w by omega)
      omega
  · have := Int.eq_of_mul_eq_mul_right h1 (show (i : Int) * u = j * u by omega)
    omega
section
variable {x0 y0 : Int} {N H : Nat}
/-- the whole points of a wall but its end -/
theorem wall_count {a b : P} (hne : a ≠ b) (a1 : x0 ≤ a.1 ∧ a.1 < x0 + N ∧ y0 ≤ a.2 ∧ a.2 < y0 + H) (b1 : x0 ≤ b.1 ∧ b.1 < x0 + N ∧ y0 ≤ b.2 ∧ b.2 < y0 + H) : bx x0 y0 N H (fun p => if onZB p a b = true ∧ p ≠ b then 1 else 0) = (Int.gcd (a.1 - b.1) (a.2 - b.2) : Int) := by
  have hcomm : Int.gcd (a.1 - b.1) (a.2 - b.2) = Int.gcd (b.1 - a.1) (b.2 - a.2) := by
    rw [← Int.neg_gcd, ← Int.gcd_neg]
    congr 1 <;> omega
  rw [hcomm]
  have hg : 0 < Int.gcd (b.1 - a.1) (b.2 - a.2) := by
    rcases Nat.eq_zero_or_pos (Int.gcd (b.1 - a.1) (b.2 - a.2)) with h | h
    · rw [Int.gcd_eq_zero_iff] at h
      exact absurd (Prod.ext (by omega) (by omega)) hne
    · exact h
  obtain ⟨u, hu⟩ := Int.gcd_dvd_left (a := b.1 - a.1) (b := b.2 - a.2)
  obtain ⟨w, hw⟩ := Int.gcd_dvd_right (a := b.1 - a.1) (b := b.2 - a.2)
  have hc : Int.gcd u w = 1 := by
    have h1 : Int.gcd ((Int.gcd (b.1 - a.1) (b.2 - a.2) : Int) * u) ((Int.gcd (b.1 - a.1) (b.2 - a.2) : Int) * w) = Int.gcd (b.1 - a.1) (b.2 - a.2) := by rw [← hu, ← hw]
    rw [Int.gcd_mul_left] at h1
    simp only [Int.natAbs_natCast] at h1
    exact Nat.eq_of_mul_eq_mul_left hg (by rw [h1, Nat.mul_one])
  generalize hG : Int.gcd (b.1 - a.1) (b.2 - a.2) = g at *
  have hb1 : b.1 = a.1 + g * u := by omega
  have hb2 : b.2 = a.2 + g * w := by omega
  have e : ∀ p : P, (if onZB p a b = true ∧ p ≠ b then (1 : Int) else 0) = sm (fun j => if p = prt a u w j then 1 else 0) g := by
    intro p
    by_cases h : ∃ j, j < g ∧ p = prt a u w j
    · rw [if_pos ((on_prt hg hc hb1 hb2).2 h)]
      obtain ⟨j, hj, rfl⟩ := h
      rw [sm_one (d := j) g hj fun i hi hne => if_neg fun e => hne (prt_inj hc e).symm, if_pos rfl]
    · rw [if_neg fun hh => h ((on_prt hg hc hb1 hb2).1 hh), sm_congr _ (fun _ => 0) g fun i hi => if_neg fun e => h ⟨i, hi, e⟩, sm_zero]
  rw [bx_congr fun p _ _ _ _ => e p, bx_sm, sm_congr _ (fun _ => 1) g fun j hj => ?_, sm_const, Int.mul_one]
  have hin := ((on_prt (p := prt a u w j) hg hc hb1 hb2).2 ⟨j, hj, rfl⟩).1
  unfold onZB inB at hin
  simp only [Bool.and_eq_true, decide_eq_true_eq] at hin
  exact bx_one _ _ (by omega) (by omega) (by omega) (by omega)
end
/-- each whole point on the walls lies on one wall, ends left out -/
theorem one_wall {l : List P} (hr : roomB l = true) {p : P} (hp : within 1000 p.1 p.2) : (if placeV l p.1 p.2 = 1 then (1 : Int) else 0) = sm (fun k => if onZB p (pt l k) (pt l (nx l.length k)) = true ∧ p ≠ pt l (nx l.length k) then 1 else 0) l.length := by
  have hs := room_sml hr
  have h3 := (room_z hr).1.1
  by_cases h : placeV l p.1 p.2 = 1
  · rw [if_pos h]
    obtain ⟨k, hk, ho⟩ := placeV_one.1 h
    rw [onE_onZ hs hp hk] at ho
    -- the wall that p lies on, its end left out
    obtain ⟨d, hd, hd1, hd2⟩ : ∃ d, d < l.length ∧ onZB p (pt l d) (pt l (nx l.length d)) = true ∧ p ≠ pt l (nx l.length d) := by
      by_cases e : p = pt l (nx l.length k)
      · have hn := nx_lt (n := l.length) (i := k) (by omega)
        refine ⟨nx l.length k, hn, ?_, ?_⟩
        · rw [e]
          unfold onZB inB
          have h1 : turnZ (pt l (nx l.length k)).1 (pt l (nx l.length k)).2 (pt l (nx l.length (nx l.length k))).1 (pt l (nx l.length (nx l.length k))).2 (pt l (nx l.length k)).1 (pt l (nx l.length k)).2 = 0 := tu_fst _ _
          rw [h1]
          simp only [decide_true, Bool.true_and, Bool.and_eq_true, decide_eq_true_eq]
          omega
        · rw [e]
          exact pt_ne hr hn (nx_lt (by omega)) (Ne.symm (nx_ne (by omega) hn))
      · exact ⟨k, hk, ho, e⟩
    rw [sm_one (d := d) l.length hd ?_, if_pos ⟨hd1, hd2⟩]
    intro i hi hne
    refine if_neg ?_
    rintro ⟨i1, i2⟩
    have hni := nx_lt (n := l.length) (i := i) (by omega)
    have hnd := nx_lt (n := l.length) (i := d) (by omega)
    by_cases e1 : p = pt l d
    · subst e1
      by_cases e2 : nx l.length i = d
      · exact i2 (by rw [e2])
      · rw [room_off hr hi hd (Ne.symm hne) (Ne.symm e2)] at i1
        cases i1
    · by_cases e2 : p = pt l i
      · subst e2
        by_cases e3 : nx l.length d = i
        · exact hd2 (by rw [e3])
        · rw [room_off hr hd hi hne (Ne.symm e3)] at hd1
          cases hd1
      · have o1 := on_of_onE hs hp hd (by rw [onE_onZ hs hp hd]; exact hd1) e1 hd2
        have o2 := on_of_onE hs hp hi (by rw [onE_onZ hs hp hi]; exact i1) e2 i2
        exact absurd o2.2 ((simple_room hr).off_on hd hi hne o1 o2.1)
  · rw [if_neg h, sm_congr _ (fun _ => 0) _ fun k hk => if_neg ?_, sm_zero]
    rintro ⟨h1, _⟩
    exact h (placeV_one.2 ⟨k, hk, by rw [onE_onZ hs hp hk]; exact h1⟩)
theorem edgeTo_sm (l : List P) : ∀ k, edgeTo l k = sm (fun i => latV (gx l i) (gy l i) (gx l (Go.Proofs.Ytanagdlikoinaaa.nx l i)) (gy l (Go.Proofs.Ytanagdlikoinaaa.nx l i))) k
  | 0 => rfl
  | k + 1 => by rw [edgeTo_succ, edgeTo_sm l k]; rfl
/-- the whole points on the walls -/
theorem edge_count {l : List P} (hr : roomB l = true) : rx l (fun p => if placeV l p.1 p.2 = 1 then 1 else 0) = edgeV l := by
  have hb := box_nums hr
  have h3 := (room_z hr).1.1
  unfold edgeV
  rw [if_pos hr, edgeTo_sm]
  have e1 : rx l (fun p => if placeV l p.1 p.2 = 1 then 1 else 0) = rx l (fun p => sm (fun k => if onZB p (pt l k) (pt l (nx l.length k)) = true ∧ p ≠ pt l (nx l.length k) then 1 else 0) l.length) := by
    refine bx_congr fun p h1 h2 h3 h4 => one_wall hr ?_
    unfold within
    omega
  rw [e1]
  unfold rx
  rw [bx_sm]
  refine sm_congr _ _ _ fun i hi => ?_
  have hn := nx_lt (n := l.length) (i := i) (by omega)
  rw [wall_count (pt_ne hr hi hn (Ne.symm (nx_ne (by omega) hi))) (in_box hr hi) (in_box hr hn)]
  have hw := room_wok hr hi
  unfold latV
  rw [if_pos hw]
  rfl

end Jor
end Go.Proofs.Ytanagdlikoinaaa
