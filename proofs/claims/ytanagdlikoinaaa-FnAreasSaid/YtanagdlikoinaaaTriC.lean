/-
  Triangles that fill a simple polygon: no two share a pushed point; no corner and no wall lies in them. No program in sight.
-/
import Derived.Test.YtanagdlikoinaaaTriB
namespace Go.Proofs.Ytanagdlikoinaaa
namespace Jor

structure Trg (v : Nat → P) (n : Nat) (ts : List T3) : Prop where
  hs : Simple v n
  cert : Cert n ts
  pos : ∀ t, t ∈ ts → 0 < tuT v t
  bd : ∃ B : Int, 0 ≤ B ∧ ∀ i, i < n → Bd B (v i) (v (nx n i))

theorem tu_same (a c : P) : tu a a c = 0 := by unfold tu; grind
theorem tu_sc' (D : Int) (v : Nat → P) (t : T3) : tuT (fun i => sc D (v i)) t = D * D * tuT v t := tu_sc D _ _ _
theorem Trg.sc {v : Nat → P} {n : Nat} {ts : List T3} (h : Trg v n ts) {D : Int} (hD : 0 < D) : Trg (fun i => sc D (v i)) n ts := by
  refine ⟨simple_sc hD h.hs, h.cert, fun t ht => by rw [tu_sc']; exact Int.mul_pos (Int.mul_pos hD hD) (h.pos t ht), ?_⟩
  obtain ⟨B, hB, hb⟩ := h.bd
  refine ⟨D * B, Int.mul_nonneg (by omega) hB, fun i hi => ?_⟩
  obtain ⟨h1, h2, h3, h4⟩ := hb i hi
  have k := fun {x : Int} (hx : x ≤ B) => Int.mul_le_mul_of_nonneg_left hx (show 0 ≤ D by omega)
  unfold Bd Jor.sc
  simp only [← Int.mul_sub]
  exact ⟨k h1, k h2, k h3, k h4⟩

section
variable {v : Nat → P} {n : Nat} {ts : List T3} (h : Trg v n ts)
include h
theorem Trg.lt {t : T3} (ht : t ∈ ts) {a b c : Nat} (hr : Rot t a b c) : a < n ∧ b < n ∧ c < n := by
  have := h.cert.lt t ht
  rcases hr with rfl | rfl | rfl <;> simp only at this <;> omega
theorem Trg.tu_pos {t : T3} (ht : t ∈ ts) {a b c : Nat} (hr : Rot t a b c) : 0 < tu (v a) (v b) (v c) := by
  have := h.pos t ht
  rwa [hr.tuT] at this
theorem Trg.ne {t : T3} (ht : t ∈ ts) {a b c : Nat} (hr : Rot t a b c) : a ≠ b ∧ b ≠ c ∧ c ≠ a := by
  have hp := h.tu_pos ht hr
  refine ⟨?_, ?_, ?_⟩
  · rintro rfl; rw [tu_same] at hp; omega
  · rintro rfl; rw [tu_snd] at hp; omega
  · rintro rfl; rw [tu_fst] at hp; omega
theorem Trg.hts {t : T3} (ht : t ∈ ts) {a b c : Nat} (hr : Rot t a b c) : (v a).2 ≠ (v b).2 ∧ (v b).2 ≠ (v c).2 ∧ (v c).2 ≠ (v a).2 := by
  obtain ⟨a1, a2, a3⟩ := h.lt ht hr
  obtain ⟨b1, b2, b3⟩ := h.ne ht hr
  exact ⟨h.hs.hts _ _ a1 a2 b1, h.hs.hts _ _ a2 a3 b2, h.hs.hts _ _ a3 a1 b3⟩
theorem Trg.core {t : T3} (ht : t ∈ ts) {a b c : Nat} (hr : Rot t a b c) (p : P) : (trR v p t = 0 ∨ (trR v p t = 1 ∧ InT v p t)) ∧ (trL v p t = 0 ∨ (trL v p t = 1 ∧ InT v p t)) ∧
    (0 < tu (v b) (v c) p → 0 < tu (v c) (v a) p → 0 < tu (v a) (v b) p → trR v p t = 1 ∧ trL v p t = 1) ∧
    (0 < tu (v b) (v c) p → 0 < tu (v c) (v a) p → tu (v a) (v b) p = 0 → ((v a).2 < p.2 ∧ p.2 < (v b).2 ∧ trR v p t = 0 ∧ trL v p t = 1) ∨ ((v b).2 < p.2 ∧ p.2 < (v a).2 ∧ trR v p t = 1 ∧ trL v p t = 0)) := by
  obtain ⟨n1, n2, n3⟩ := h.hts ht hr
  rw [hr.trR, hr.trL, hr.inT]
  exact tri_core (h.tu_pos ht hr) n1 n2 n3
theorem Trg.nn {t : T3} (ht : t ∈ ts) (p : P) : 0 ≤ trR v p t ∧ 0 ≤ trL v p t := by
  have := h.core ht (rot_self t) p
  obtain ⟨k1, k2, _⟩ := this
  exact ⟨by omega, by omega⟩
theorem Trg.sumR (p : P) : ss (trR v p) ts = wR v n p := h.cert.sum (fun a b => cR p (v a) (v b)) fun a b => cR_swap p (v b) (v a)
theorem Trg.sumL (p : P) : ss (trL v p) ts = wL v n p := h.cert.sum (fun a b => cL p (v a) (v b)) fun a b => cL_swap p (v b) (v a)
theorem Trg.upR (p : P) : wR v n p ≤ 1 := by
  obtain ⟨B, hB, hb⟩ := h.bd
  have := wR_any h.hs hB hb p
  have := lef_two h.hs
  omega
theorem Trg.upL (p : P) : wL v n p ≤ 1 := by
  obtain ⟨B, hB, hb⟩ := h.bd
  have := wL_any h.hs hB hb p
  have := lef_two h.hs
  omega
theorem Trg.oneR {t : T3} (ht : t ∈ ts) (p : P) : trR v p t ≤ wR v n p := by
  rw [← h.sumR]
  exact ss_one ts (fun t ht => (h.nn ht p).1) t ht
theorem Trg.oneL {t : T3} (ht : t ∈ ts) (p : P) : trL v p t ≤ wL v n p := by
  rw [← h.sumL]
  exact ss_one ts (fun t ht => (h.nn ht p).2) t ht
theorem Trg.twoR {t u : T3} (ht : t ∈ ts) (hu : u ∈ ts) (hne : t ≠ u) (p : P) : trR v p t + trR v p u ≤ wR v n p := by
  rw [← h.sumR]
  exact ss_two ts (fun t ht => (h.nn ht p).1) t u ht hu hne
theorem Trg.twoL {t u : T3} (ht : t ∈ ts) (hu : u ∈ ts) (hne : t ≠ u) (p : P) : trL v p t + trL v p u ≤ wL v n p := by
  rw [← h.sumL]
  exact ss_two ts (fun t ht => (h.nn ht p).2) t u ht hu hne
end

/-! ## Where a point of a closed triangle lies -/
theorem bary_fst (a b c p : P) : tu b c p * a.1 + tu c a p * b.1 + tu a b p * c.1 = tu a b c * p.1 := by unfold tu; grind
theorem bary_snd (a b c p : P) : tu b c p * a.2 + tu c a p * b.2 + tu a b p * c.2 = tu a b c * p.2 := by unfold tu; grind
theorem bary_tu (a b c p x y : P) : tu b c p * tu x y a + tu c a p * tu x y b + tu a b p * tu x y c = tu a b c * tu x y p := by unfold tu; grind
theorem vertex {a b c p : P} (ht : 0 < tu a b c) (h1 : tu a b p = 0) (h2 : tu c a p = 0) : p = a := by
  have e := bary1 p a b c
  have e1 := bary_fst a b c p
  have e2 := bary_snd a b c p
  rw [h1, h2] at e e1 e2
  rw [Int.zero_mul, Int.zero_mul] at e1 e2
  have e3 : tu b c p = tu a b c := by omega
  rw [e3] at e1 e2
  have e4 : tu a b c * a.1 = tu a b c * p.1 := by omega
  have e5 : tu a b c * a.2 = tu a b c * p.2 := by omega
  exact Prod.ext (Int.eq_of_mul_eq_mul_left (by omega) e4).symm (Int.eq_of_mul_eq_mul_left (by omega) e5).symm

/-- p lies on the open wall from a to b of a triangle abc -/
def Edge (v : Nat → P) (p : P) (a b c : Nat) : Prop := 0 < tu (v b) (v c) p ∧ 0 < tu (v c) (v a) p ∧ tu (v a) (v b) p = 0
section
variable {v : Nat → P} {n : Nat} {ts : List T3} (h : Trg v n ts)
include h
theorem Trg.where {t : T3} (ht : t ∈ ts) {p : P} (hp : InT v p t) : (0 < tu (v t.2.1) (v t.2.2) p ∧ 0 < tu (v t.2.2) (v t.1) p ∧ 0 < tu (v t.1) (v t.2.1) p) ∨ (∃ a b c, Rot t a b c ∧ Edge v p a b c) ∨ (∃ a b c, Rot t a b c ∧ p = v a) := by
  have h0 := h.pos t ht
  have hr0 := rot_self t
  have hr1 := hr0.rot
  have hr2 := hr1.rot
  have p0 := h.tu_pos ht hr0
  have p1 := h.tu_pos ht hr1
  have p2 := h.tu_pos ht hr2
  obtain ⟨h1, h2, h3⟩ := hp
  have e := bary1 p (v t.1) (v t.2.1) (v t.2.2)
  by_cases z1 : tu (v t.1) (v t.2.1) p = 0
  · by_cases z2 : tu (v t.2.1) (v t.2.2) p = 0
    · exact .inr (.inr ⟨_, _, _, hr1, vertex p1 z2 z1⟩)
    · by_cases z3 : tu (v t.2.2) (v t.1) p = 0
      · exact .inr (.inr ⟨_, _, _, hr0, vertex p0 z1 z3⟩)
      · exact .inr (.inl ⟨_, _, _, hr0, by omega, by omega, z1⟩)
  · by_cases z2 : tu (v t.2.1) (v t.2.2) p = 0
    · by_cases z3 : tu (v t.2.2) (v t.1) p = 0
      · exact .inr (.inr ⟨_, _, _, hr2, vertex p2 z3 z2⟩)
      · exact .inr (.inl ⟨_, _, _, hr1, by omega, by omega, z2⟩)
    · by_cases z3 : tu (v t.2.2) (v t.1) p = 0
      · exact .inr (.inl ⟨_, _, _, hr2, by omega, by omega, z3⟩)
      · exact .inl ⟨by omega, by omega, by omega⟩
/-- an edge that is no wall of the polygon has a triangle on its other side -/
theorem Trg.twin {t : T3} (ht : t ∈ ts) {p : P} {a b c : Nat} (hr : Rot t a b c) (he : Edge v p a b c) (hw : b ≠ nx n a) : ∃ u d, u ∈ ts ∧ u ≠ t ∧ Rot u b a d ∧ Edge v p b a d ∧ trR v p t + trR v p u = 1 ∧ trL v p t + trL v p u = 1 := by
  rcases h.cert.edge t ht a b hr.eds with hb | ⟨u, hu, hue⟩
  · exact absurd hb hw
  · obtain ⟨d, hd⟩ := rot_of_eds hue
    have q1 := h.tu_pos ht hr
    have q2 := h.tu_pos hu hd
    have c1 := h.core ht hr p
    obtain ⟨e1, e2, e3⟩ := he
    have b1 := bary_tu (v a) (v b) (v c) p (v a) (v d)
    have b2 := bary_tu (v a) (v b) (v c) p (v d) (v b)
    rw [e3, tu_fst, Int.mul_zero, Int.zero_mul, Int.zero_add, Int.add_zero] at b1
    rw [e3, tu_snd, Int.mul_zero, Int.zero_mul, Int.add_zero, Int.add_zero] at b2
    have r1 : tu (v a) (v d) (v b) = tu (v b) (v a) (v d) := by rw [tu_rot]
    have r2 : tu (v d) (v b) (v a) = tu (v b) (v a) (v d) := by rw [tu_rot, tu_rot]
    rw [r1] at b1
    rw [r2] at b2
    have f1 : 0 < tu (v a) (v d) p := pos_of_mul q1 (by rw [Int.mul_comm, ← b1]; exact Int.mul_pos e2 q2)
    have f2 : 0 < tu (v d) (v b) p := pos_of_mul q1 (by rw [Int.mul_comm, ← b2]; exact Int.mul_pos e1 q2)
    have f3 : tu (v b) (v a) p = 0 := by rw [tu_swap, e3]; rfl
    have c2 := h.core hu hd p
    have k1 := c1.2.2.2 e1 e2 e3
    have k2 := c2.2.2.2 f1 f2 f3
    refine ⟨u, d, hu, ?_, hd, ⟨f1, f2, f3⟩, ?_, ?_⟩
    · rintro rfl
      clear c1 c2
      omega
    · clear c1 c2; omega
    · clear c1 c2; omega
/-- a point of a closed triangle on a wall of the polygon: the wall is the triangle's -/
theorem Trg.on_wall {t : T3} (ht : t ∈ ts) {p : P} (hp : InT v p t) (hg : ∀ k, k < n → (v k).2 ≠ p.2) {k : Nat} (hk : k < n) (ho : On p (v k) (v (nx n k))) : ∃ c, Rot t k (nx n k) c ∧ Edge v p k (nx n k) c := by
  have d := wLR_on h.hs hk hg ho
  have d2 : wL v n p - wR v n p = 1 ∨ wL v n p - wR v n p = -1 := by
    split at d <;> omega
  have u1 := h.upR p
  have u2 := h.upL p
  rcases h.where ht hp with ⟨z2, z3, z1⟩ | ⟨a, b, c, hr, he⟩ | ⟨a, b, c, hr, rfl⟩
  · have c1 := (h.core ht (rot_self t) p).2.2.1 z2 z3 z1
    have := h.oneR ht p
    have := h.oneL ht p
    omega
  · by_cases hb : b = nx n a
    · subst hb
      by_cases hak : a = k
      · subst hak
        exact ⟨c, hr, he⟩
      · have c1 := (h.core ht hr p).2.2.2 he.1 he.2.1 he.2.2
        have hoa : On p (v a) (v (nx n a)) := ⟨by clear d d2; omega, he.2.2⟩
        have := h.hs.off_on (h.lt ht hr).1 hk (Ne.symm hak) hoa
        exact absurd ho.2 (this ho.1)
    · obtain ⟨u, d', hu, hne, _, _, s1, s2⟩ := h.twin ht hr he hb
      have := h.twoR ht hu hne.symm p
      have := h.twoL ht hu hne.symm p
      omega
  · exact absurd rfl (hg a (h.lt ht hr).1)
/-- a point of a closed triangle off the walls lies inside the polygon -/
theorem Trg.in_off {t : T3} (ht : t ∈ ts) {p : P} (hp : InT v p t) (hg : ∀ k, k < n → (v k).2 ≠ p.2) (ho : ∀ i, i < n → Off p (v i) (v (nx n i))) : wn v n p = 1 := by
  have w1 := wR_off (v := v) hg
  have w2 := wL_off (v := v) hg ho
  have u1 := h.upR p
  have u2 := h.oneR ht p
  have u3 := h.oneL ht p
  rcases h.where ht hp with ⟨z2, z3, z1⟩ | ⟨a, b, c, hr, he⟩ | ⟨a, b, c, hr, rfl⟩
  · have c1 := (h.core ht (rot_self t) p).2.2.1 z2 z3 z1
    omega
  · have c1 := (h.core ht hr p).2.2.2 he.1 he.2.1 he.2.2
    omega
  · exact absurd rfl (hg a (h.lt ht hr).1)
end

end Jor
end Go.Proofs.Ytanagdlikoinaaa
