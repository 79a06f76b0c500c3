/-
  Triangles that fill a simple polygon: no corner lies in them but their own; each counts once over the corners. No program in sight.
-/
import Derived.Test.YtanagdlikoinaaaTriC
namespace Go.Proofs.Ytanagdlikoinaaa
namespace Jor

/-- a place near j, in the multiplied plane, on the way into the triangle -/
def nearP (D : Int) (x y z : P) : P := ((D - 2) * x.1 + y.1 + z.1, (D - 2) * x.2 + y.2 + z.2)
theorem tu_near (D : Int) (a b x y z : P) : tu (sc D a) (sc D b) (nearP D x y z) = D * ((D - 2) * tu a b x + tu a b y + tu a b z) := by
  unfold tu sc nearP
  grind
theorem near_pos {D s k l : Int} (hD : 2 < D) (hs : 0 < s) (hb : -(D - 3) ≤ k + l) : 0 < (D - 2) * s + k + l := by
  have := Int.mul_le_mul_of_nonneg_left (show 1 ≤ s by omega) (show 0 ≤ D - 2 by omega)
  omega
def ab (x : Int) : Int := (x.natAbs : Int)
theorem ab_bd (x : Int) : -(ab x) ≤ x ∧ x ≤ ab x ∧ 0 ≤ ab x := by unfold ab; omega

section
variable {v : Nat → P} {n : Nat} {ts : List T3} (h : Trg v n ts)
include h
/-- no corner lies in a triangle but its own -/
theorem Trg.no_corner {t : T3} (ht : t ∈ ts) {j : Nat} (hj : j < n) (hp : InT v (v j) t) : ∃ a b, Rot t j a b := by
  rcases h.where ht hp with hstr | ⟨a, b, c, hr, he⟩ | ⟨a, b, c, hr, hv⟩
  · -- strictly inside
    exfalso
    obtain ⟨g2, g3, g1⟩ := hstr
    obtain ⟨u, hu, hue⟩ := h.cert.wall j hj
    obtain ⟨d, hd⟩ := rot_of_eds hue
    have hne : t ≠ u := by
      rintro rfl
      rcases hd with e | e | e
      · rw [e] at g1 g2 g3; simp only at g1 g2 g3; rw [tu_fst] at g1; omega
      · rw [e] at g1 g2 g3; simp only at g1 g2 g3; rw [tu_snd] at g1; omega
      · rw [e] at g1 g2 g3; simp only at g1 g2 g3; rw [tu_snd] at g2; omega
    have hp2 := h.tu_pos hu hd
    obtain ⟨a, b, c⟩ := t
    simp only at g1 g2 g3
    obtain ⟨D, hD⟩ : ∃ D : Int, D = 3 + (ab (tu (v a) (v b) (v (nx n j))) + ab (tu (v a) (v b) (v d))) + (ab (tu (v b) (v c) (v (nx n j))) + ab (tu (v b) (v c) (v d))) + (ab (tu (v c) (v a) (v (nx n j))) + ab (tu (v c) (v a) (v d))) := ⟨_, rfl⟩
    have a1 := ab_bd (tu (v a) (v b) (v (nx n j)))
    have a2 := ab_bd (tu (v a) (v b) (v d))
    have a3 := ab_bd (tu (v b) (v c) (v (nx n j)))
    have a4 := ab_bd (tu (v b) (v c) (v d))
    have a5 := ab_bd (tu (v c) (v a) (v (nx n j)))
    have a6 := ab_bd (tu (v c) (v a) (v d))
    have hD3 : 2 < D := by omega
    have hs := h.sc (D := D) (by omega)
    have q1 := near_pos (D := D) (k := tu (v a) (v b) (v (nx n j))) (l := tu (v a) (v b) (v d)) hD3 g1 (by omega)
    have q2 := near_pos (D := D) (k := tu (v b) (v c) (v (nx n j))) (l := tu (v b) (v c) (v d)) hD3 g2 (by omega)
    have q3 := near_pos (D := D) (k := tu (v c) (v a) (v (nx n j))) (l := tu (v c) (v a) (v d)) hD3 g3 (by omega)
    have c1 := (hs.core ht (rot_self (a, b, c)) (nearP D (v j) (v (nx n j)) (v d))).2.2.1 (by rw [tu_near]; exact Int.mul_pos (by omega) q2) (by rw [tu_near]; exact Int.mul_pos (by omega) q3) (by rw [tu_near]; exact Int.mul_pos (by omega) q1)
    have c2 := (hs.core hu hd (nearP D (v j) (v (nx n j)) (v d))).2.2.1 (by rw [tu_near, tu_fst, tu_snd, tu_rot]; exact Int.mul_pos (by omega) (by have := Int.mul_pos (show 0 < D - 2 by omega) hp2; omega)) (by rw [tu_near, tu_fst, tu_snd, tu_rot, tu_rot]; exact Int.mul_pos (by omega) (by omega)) (by rw [tu_near, tu_fst, tu_snd]; exact Int.mul_pos (by omega) (by omega))
    have := hs.twoR ht hu hne (nearP D (v j) (v (nx n j)) (v d))
    have := hs.upR (nearP D (v j) (v (nx n j)) (v d))
    omega
  · -- on an edge
    exfalso
    obtain ⟨u, hu, hue⟩ := h.cert.wall j hj
    obtain ⟨d, hd⟩ := rot_of_eds hue
    have hp2 := h.tu_pos hu hd
    have ha := (h.lt ht hr).1
    have hja : j ≠ a := by rintro rfl; have := he.2.1; rw [tu_snd] at this; omega
    have hjb : j ≠ b := by rintro rfl; have := he.1; rw [tu_fst] at this; omega
    have hob : On (v j) (v a) (v b) := ⟨by have := (h.core ht hr (v j)).2.2.2 he.1 he.2.1 he.2.2; omega, he.2.2⟩
    have hw : b ≠ nx n a := by
      rintro rfl
      exact absurd hob.2 (h.hs.off a j ha hj hja hjb hob.1)
    obtain ⟨w, e, hw1, hw2, hw3, hw4, _, _⟩ := h.twin ht hr he hw
    have main : ∀ (t : T3) (a b c : Nat), t ∈ ts → Rot t a b c → Edge v (v j) a b c → 0 ≤ tu (v a) (v b) (v (nx n j)) + tu (v a) (v b) (v d) → False := by
      intro t a b c ht hr he hs0
      obtain ⟨g2, g3, g1⟩ := he
      have hne : t ≠ u := by
        rintro rfl
        have k : j = a ∨ j = b ∨ j = c := by
          rcases hr with e1 | e1 | e1 <;> rcases hd with e2 | e2 | e2 <;> (rw [e1] at e2; simp only [Prod.mk.injEq] at e2; omega)
        rcases k with rfl | rfl | rfl
        · rw [tu_snd] at g3; omega
        · rw [tu_fst] at g2; omega
        · have := h.tu_pos ht hr; omega
      obtain ⟨D, hD⟩ : ∃ D : Int, D = 3 + (ab (tu (v b) (v c) (v (nx n j))) + ab (tu (v b) (v c) (v d))) + (ab (tu (v c) (v a) (v (nx n j))) + ab (tu (v c) (v a) (v d))) := ⟨_, rfl⟩
      have a3 := ab_bd (tu (v b) (v c) (v (nx n j)))
      have a4 := ab_bd (tu (v b) (v c) (v d))
      have a5 := ab_bd (tu (v c) (v a) (v (nx n j)))
      have a6 := ab_bd (tu (v c) (v a) (v d))
      have hD3 : 2 < D := by omega
      have hs := h.sc (D := D) (by omega)
      have q2 := near_pos (D := D) (k := tu (v b) (v c) (v (nx n j))) (l := tu (v b) (v c) (v d)) hD3 g2 (by omega)
      have q3 := near_pos (D := D) (k := tu (v c) (v a) (v (nx n j))) (l := tu (v c) (v a) (v d)) hD3 g3 (by omega)
      have q2' := Int.mul_pos (show 0 < D by omega) q2
      have q3' := Int.mul_pos (show 0 < D by omega) q3
      rw [← tu_near] at q2' q3'
      have c2 := (hs.core hu hd (nearP D (v j) (v (nx n j)) (v d))).2.2.1 (by rw [tu_near, tu_fst, tu_snd, tu_rot]; exact Int.mul_pos (by omega) (by have := Int.mul_pos (show 0 < D - 2 by omega) hp2; omega)) (by rw [tu_near, tu_fst, tu_snd, tu_rot, tu_rot]; exact Int.mul_pos (by omega) (by omega)) (by rw [tu_near, tu_fst, tu_snd]; exact Int.mul_pos (by omega) (by omega))
      have t1 := hs.twoR ht hu hne (nearP D (v j) (v (nx n j)) (v d))
      have t2 := hs.twoL ht hu hne (nearP D (v j) (v (nx n j)) (v d))
      have t3 := hs.upR (nearP D (v j) (v (nx n j)) (v d))
      have t4 := hs.upL (nearP D (v j) (v (nx n j)) (v d))
      have e1 : tu (Jor.sc D (v a)) (Jor.sc D (v b)) (nearP D (v j) (v (nx n j)) (v d)) = D * (tu (v a) (v b) (v (nx n j)) + tu (v a) (v b) (v d)) := by
        rw [tu_near, g1, Int.mul_zero, Int.zero_add]
      rcases Int.lt_trichotomy (tu (v a) (v b) (v (nx n j)) + tu (v a) (v b) (v d)) 0 with hlt | hz | hgt
      · omega
      · rw [hz, Int.mul_zero] at e1
        have c1 := (hs.core ht hr (nearP D (v j) (v (nx n j)) (v d))).2.2.2 q2' q3' e1
        clear a3 a4 a5 a6 hD q2 q3 q2' q3'
        omega
      · have c1 := (hs.core ht hr (nearP D (v j) (v (nx n j)) (v d))).2.2.1 q2' q3' (by rw [e1]; exact Int.mul_pos (by omega) hgt)
        omega
    rcases Int.lt_or_le (tu (v a) (v b) (v (nx n j)) + tu (v a) (v b) (v d)) 0 with hlt | hge
    · exact main w b a e hw1 hw3 hw4 (by rw [tu_swap (v a) (v b), tu_swap (v a) (v b)]; omega)
    · exact main t a b c ht hr he hge
  · have : j = a := by
      by_cases e : j = a
      · exact e
      · exact absurd (congrArg Prod.snd hv) (h.hs.hts j a hj (h.lt ht hr).1 e)
    subst this
    exact ⟨b, c, hr⟩

omit h in
theorem sm_three {f : Nat → Int} {a b c n : Nat} (ha : a < n) (hb : b < n) (hc : c < n) (h1 : a ≠ b) (h2 : b ≠ c) (h3 : c ≠ a) (hz : ∀ i, i < n → i ≠ a → i ≠ b → i ≠ c → f i = 0) : sm f n = f a + f b + f c := by
  have e : sm f n = sm (fun i => if i = a then f a else 0) n + sm (fun i => if i = a then 0 else f i) n := by
    rw [← sm_add]
    refine sm_congr _ _ n fun i _ => ?_
    by_cases e1 : i = a
    · subst e1; simp
    · simp [e1]
  rw [e, sm_one (f := fun i => if i = a then f a else 0) n ha (fun i _ hi => by simp [hi]), sm_two (f := fun i => if i = a then 0 else f i) hb hc h2 (fun i hi e1 e2 => by
    by_cases e3 : i = a
    · simp [e3]
    · simp [e3, hz i hi e3 e1 e2])]
  simp [Ne.symm h1, h3]
  omega
/-- over the corners each triangle counts one -/
theorem Trg.corners : sm (fun j => wR v n (v j) + wL v n (v j)) n = (n : Int) - 2 := by
  have e : ∀ j, wR v n (v j) + wL v n (v j) = ss (trR v (v j)) ts + ss (trL v (v j)) ts := fun j => by rw [h.sumR, h.sumL]
  rw [sm_congr _ _ n fun j _ => e j, sm_add, sm_ss (fun j t => trR v (v j) t), sm_ss (fun j t => trL v (v j) t)]
  have e2 : ∀ l : List T3, ss (fun t => sm (fun j => trR v (v j) t) n) l + ss (fun t => sm (fun j => trL v (v j) t) n) l = ss (fun t => sm (fun j => trR v (v j) t + trL v (v j) t) n) l := by
    intro l
    induction l with
    | nil => rfl
    | cons t r ih =>
      simp only [ss]
      rw [sm_add]
      omega
  rw [e2, ss_congr (g := fun _ => 1) ts ?_, ss_const]
  · have := h.cert.len
    omega
  · intro t ht
    obtain ⟨l1, l2, l3⟩ := h.lt ht (rot_self t)
    obtain ⟨n1, n2, n3⟩ := h.ne ht (rot_self t)
    obtain ⟨g1, g2, g3⟩ := h.hts ht (rot_self t)
    rw [sm_three l1 l2 l3 n1 n2 n3 ?_]
    · exact tri_corners (h.tu_pos ht (rot_self t)) g1 g2 g3
    · intro i hi e1 e2 e3
      have c := h.core ht (rot_self t) (v i)
      have hno : ¬ InT v (v i) t := fun hin => by
        obtain ⟨a, b, hr⟩ := h.no_corner ht hi hin
        rcases hr with e | e | e
        · exact e1 (by rw [e])
        · exact e2 (by rw [e])
        · exact e3 (by rw [e])
      have c1 := c.1
      have c2 := c.2.1
      clear c
      have d1 : trR v (v i) t = 0 := by
        rcases c1 with c1 | ⟨_, c1⟩
        · exact c1
        · exact absurd c1 hno
      have d2 : trL v (v i) t = 0 := by
        rcases c2 with c2 | ⟨_, c2⟩
        · exact c2
        · exact absurd c2 hno
      rw [d1, d2]
      rfl
end

end Jor
end Go.Proofs.Ytanagdlikoinaaa
