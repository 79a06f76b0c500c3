/- 8 texts joined: TriB TriC TriD Block SightL TriE PlaceW FloorL. -/
import Derived.Test.YtjccilpjaaiicaaJ4
import Derived.Test.YtjccilpjaaiicaaJ2
import Derived.Test.YtjccilpjaaiicaaJ3
namespace Go.Proofs.Ytjccilpjaaiicaa
namespace Jor

abbrev T3 := Nat × Nat × Nat
/-- the three walls of a triangle of corners -/
def eds (t : T3) : List (Nat × Nat) := [(t.1, t.2.1), (t.2.1, t.2.2), (t.2.2, t.1)]
def gs (g : Nat → Nat → Int) : List (Nat × Nat) → Int
  | [] => 0
  | e :: r => g e.1 e.2 + gs g r
theorem gs_append (g : Nat → Nat → Int) : ∀ a b, gs g (a ++ b) = gs g a + gs g b
  | [], b => by simp [gs]
  | e :: a, b => by simp only [List.cons_append, gs, gs_append g a b]; omega
theorem gs_erase (g : Nat → Nat → Int) (e : Nat × Nat) : ∀ l, e ∈ l → gs g l = g e.1 e.2 + gs g (l.erase e)
  | x :: r, h => by
    by_cases hx : x = e
    · subst hx
      rw [List.erase_cons_head]
      rfl
    · rw [List.erase_cons_tail (by simpa using hx), gs, gs, gs_erase g e r ((List.mem_cons.1 h).resolve_left (Ne.symm hx))]
      omega
/-- each wall goes with its reverse -/
def cnc : Nat → List (Nat × Nat) → Bool
  | _, [] => true
  | 0, _ :: _ => false
  | k + 1, e :: r => r.contains (e.2, e.1) && cnc k (r.erase (e.2, e.1))
theorem cnc_sound {g : Nat → Nat → Int} (hg : ∀ a b, g a b = - g b a) : ∀ k l, cnc k l = true → gs g l = 0
  | _, [], _ => rfl
  | k + 1, e :: r, h => by
    unfold cnc at h
    rw [Bool.and_eq_true, List.contains_iff_mem] at h
    have h1 := gs_erase g (e.2, e.1) r h.1
    have h2 := cnc_sound hg k _ h.2
    have h3 := hg e.1 e.2
    show g e.1 e.2 + gs g r = 0
    simp only at h1
    omega
/-- the polygon's walls, reversed -/
def rw_ (n : Nat) : List (Nat × Nat) := (List.range n).map fun i => (nx n i, i)
theorem gs_map (g : Nat → Nat → Int) (f : Nat → Nat × Nat) : ∀ n, gs g ((List.range n).map f) = sm (fun i => g (f i).1 (f i).2) n
  | 0 => rfl
  | n + 1 => by rw [List.range_succ, List.map_append, gs_append, gs_map g f n, sm]; simp [gs]
theorem gs_rw {g : Nat → Nat → Int} (hg : ∀ a b, g a b = - g b a) (n : Nat) : gs g (rw_ n) = - sm (fun i => g i (nx n i)) n := by
  unfold rw_
  rw [gs_map, ← sm_neg]
  exact sm_congr _ _ n fun i _ => hg _ _
/-- a sum over the triangles -/
def ss (f : T3 → Int) : List T3 → Int
  | [] => 0
  | t :: r => f t + ss f r
theorem gs_eds (g : Nat → Nat → Int) : ∀ ts, gs g (ts.flatMap eds) = ss (fun t => g t.1 t.2.1 + g t.2.1 t.2.2 + g t.2.2 t.1) ts
  | [] => rfl
  | t :: r => by
    rw [List.flatMap_cons, gs_append, gs_eds g r]
    simp only [eds, gs, ss]
    omega
theorem ss_nn {f : T3 → Int} : ∀ ts, (∀ t, t ∈ ts → 0 ≤ f t) → 0 ≤ ss f ts
  | [], _ => Int.le_refl _
  | t :: r, h => by
    have h1 := h t (List.mem_cons_self ..)
    have h2 := ss_nn r fun x hx => h x (List.mem_cons_of_mem _ hx)
    show 0 ≤ f t + ss f r
    omega
theorem ss_one {f : T3 → Int} : ∀ ts, (∀ t, t ∈ ts → 0 ≤ f t) → ∀ a, a ∈ ts → f a ≤ ss f ts
  | t :: r, h, a, ha => by
    have h1 := h t (List.mem_cons_self ..)
    have h2 := ss_nn r fun x hx => h x (List.mem_cons_of_mem _ hx)
    show f a ≤ f t + ss f r
    rcases List.mem_cons.1 ha with rfl | ha
    · omega
    · have := ss_one r (fun x hx => h x (List.mem_cons_of_mem _ hx)) a ha
      omega
theorem ss_two {f : T3 → Int} : ∀ ts, (∀ t, t ∈ ts → 0 ≤ f t) → ∀ a b, a ∈ ts → b ∈ ts → a ≠ b → f a + f b ≤ ss f ts
  | t :: r, h, a, b, ha, hb, hab => by
    have hr : ∀ x, x ∈ r → 0 ≤ f x := fun x hx => h x (List.mem_cons_of_mem _ hx)
    have h1 := h t (List.mem_cons_self ..)
    show f a + f b ≤ f t + ss f r
    rcases List.mem_cons.1 ha with e1 | ha'
    · rcases List.mem_cons.1 hb with e2 | hb'
      · exact absurd (e1.trans e2.symm) hab
      · have := ss_one r hr b hb'
        rw [e1]
        omega
    · rcases List.mem_cons.1 hb with e2 | hb'
      · have := ss_one r hr a ha'
        rw [e2]
        omega
      · have := ss_two r hr a b ha' hb' hab
        omega
theorem ss_pos {f : T3 → Int} : ∀ ts, 0 < ss f ts → ∃ t, t ∈ ts ∧ 0 < f t
  | t :: r, h => by
    by_cases h1 : 0 < f t
    · exact ⟨t, List.mem_cons_self .., h1⟩
    · have h2 : 0 < f t + ss f r := h
      obtain ⟨x, hx, hp⟩ := ss_pos (f := f) r (by omega)
      exact ⟨x, List.mem_cons_of_mem _ hx, hp⟩
theorem ss_congr {f g : T3 → Int} : ∀ ts, (∀ t, t ∈ ts → f t = g t) → ss f ts = ss g ts
  | [], _ => rfl
  | t :: r, h => by
    show f t + ss f r = g t + ss g r
    rw [h t (List.mem_cons_self ..), ss_congr r fun x hx => h x (List.mem_cons_of_mem _ hx)]
theorem ss_const (c : Int) : ∀ ts, ss (fun _ => c) ts = ts.length * c
  | [] => by simp [ss]
  | t :: r => by
    show c + ss (fun _ => c) r = _
    rw [ss_const c r, List.length_cons]
    grind
theorem sm_ss (f : Nat → T3 → Int) (n : Nat) : ∀ ts, sm (fun i => ss (f i) ts) n = ss (fun t => sm (fun i => f i t) n) ts
  | [] => sm_zero n
  | t :: r => by
    show sm (fun i => f i t + ss (f i) r) n = sm (fun i => f i t) n + ss (fun t => sm (fun i => f i t) n) r
    rw [sm_add, sm_ss f n r]

/-- corners i and k follow each other -/
def nbr (n i k : Nat) : Bool := (i + 1) % n == k || (k + 1) % n == i
/-- a wall of some triangle, either way -/
def hasE (ts : List T3) (i k : Nat) : Bool := ts.any fun t => (eds t).contains (i, k)
/-- the corners' pairs that are walls of triangles but no walls of the polygon -/
def chd (n : Nat) (ts : List T3) (i k : Nat) : Bool := decide (i < k) && (!nbr n i k && hasE ts i k)
/-- the pairs of corners, row by row -/
def prs (n : Nat) : List (Nat × Nat) := (List.range n).flatMap fun i => (List.range n).map fun k => (i, k)
/-- triangles that fill a polygon of n corners -/
def certB (n : Nat) (ts : List T3) : Bool :=
  (ts.length + 2 == n) && (cnc 100 (ts.flatMap eds ++ rw_ n) && (ts.all (fun t => decide (t.1 < n) && (decide (t.2.1 < n) && (decide (t.2.2 < n) && (eds t).all (fun e => e.2 == (e.1 + 1) % n || hasE ts e.2 e.1)))) && ((List.range n).all (fun i => hasE ts i ((i + 1) % n)) && decide (n ≤ (prs n).countP (fun e => chd n ts e.1 e.2) + 3))))
structure Cert (n : Nat) (ts : List T3) : Prop where
  len : ts.length + 2 = n
  sum : ∀ g : Nat → Nat → Int, (∀ a b, g a b = - g b a) → ss (fun t => g t.1 t.2.1 + g t.2.1 t.2.2 + g t.2.2 t.1) ts = sm (fun i => g i (nx n i)) n
  lt : ∀ t, t ∈ ts → t.1 < n ∧ t.2.1 < n ∧ t.2.2 < n
  edge : ∀ t, t ∈ ts → ∀ a b, (a, b) ∈ eds t → b = nx n a ∨ ∃ u, u ∈ ts ∧ (b, a) ∈ eds u
  wall : ∀ i, i < n → ∃ t, t ∈ ts ∧ (i, nx n i) ∈ eds t
  chords : n ≤ (prs n).countP (fun e => chd n ts e.1 e.2) + 3
theorem hasE_iff {ts : List T3} {i k : Nat} : hasE ts i k = true ↔ ∃ t, t ∈ ts ∧ (i, k) ∈ eds t := by
  unfold hasE
  simp only [List.any_eq_true, List.contains_iff_mem]
theorem cert_of {n : Nat} {ts : List T3} (h : certB n ts = true) : Cert n ts := by
  unfold certB at h
  simp only [Bool.and_eq_true, beq_iff_eq, List.all_eq_true, decide_eq_true_eq, Bool.or_eq_true, hasE_iff, List.mem_range] at h
  obtain ⟨h1, h2, h3, h4, h5⟩ := h
  refine ⟨h1, fun g hg => ?_, fun t ht => ⟨(h3 t ht).1, (h3 t ht).2.1, (h3 t ht).2.2.1⟩, fun t ht a b he => (h3 t ht).2.2.2 _ he, h4, h5⟩
  have k1 := cnc_sound hg _ _ h2
  rw [gs_append, gs_rw hg, gs_eds] at k1
  omega

/-- t has the corners a, b, c in this order -/
def Rot (t : T3) (a b c : Nat) : Prop := t = (a, b, c) ∨ t = (c, a, b) ∨ t = (b, c, a)
theorem rot_of_eds {t : T3} {a b : Nat} (h : (a, b) ∈ eds t) : ∃ c, Rot t a b c := by
  obtain ⟨x, y, z⟩ := t
  unfold eds at h
  simp only [List.mem_cons, Prod.mk.injEq, List.not_mem_nil, or_false] at h
  unfold Rot
  rcases h with ⟨rfl, rfl⟩ | ⟨rfl, rfl⟩ | ⟨rfl, rfl⟩
  · exact ⟨z, .inl rfl⟩
  · exact ⟨x, .inr (.inl rfl)⟩
  · exact ⟨y, .inr (.inr rfl)⟩
theorem Rot.eds {t : T3} {a b c : Nat} (h : Rot t a b c) : (a, b) ∈ eds t := by
  rcases h with rfl | rfl | rfl <;> simp [Jor.eds]
theorem Rot.rot {t : T3} {a b c : Nat} (h : Rot t a b c) : Rot t b c a := by
  rcases h with rfl | rfl | rfl
  · exact .inr (.inl rfl)
  · exact .inr (.inr rfl)
  · exact .inl rfl
/-- what a triangle of corners counts -/
def trR (v : Nat → P) (p : P) (t : T3) : Int := tR p (v t.1) (v t.2.1) (v t.2.2)
def trL (v : Nat → P) (p : P) (t : T3) : Int := tL p (v t.1) (v t.2.1) (v t.2.2)
def InT (v : Nat → P) (p : P) (t : T3) : Prop := In p (v t.1) (v t.2.1) (v t.2.2)
def tuT (v : Nat → P) (t : T3) : Int := tu (v t.1) (v t.2.1) (v t.2.2)
theorem Rot.trR {t : T3} {a b c : Nat} (h : Rot t a b c) (v : Nat → P) (p : P) : trR v p t = tR p (v a) (v b) (v c) := by
  unfold Jor.trR tR
  rcases h with rfl | rfl | rfl <;> simp only <;> omega
theorem Rot.trL {t : T3} {a b c : Nat} (h : Rot t a b c) (v : Nat → P) (p : P) : trL v p t = tL p (v a) (v b) (v c) := by
  unfold Jor.trL tL
  rcases h with rfl | rfl | rfl <;> simp only <;> omega
theorem Rot.inT {t : T3} {a b c : Nat} (h : Rot t a b c) (v : Nat → P) (p : P) : InT v p t ↔ In p (v a) (v b) (v c) := by
  unfold Jor.InT In
  rcases h with rfl | rfl | rfl <;> simp only <;> (constructor <;> (rintro ⟨h1, h2, h3⟩; exact ⟨by assumption, by assumption, by assumption⟩))
theorem Rot.tuT {t : T3} {a b c : Nat} (h : Rot t a b c) (v : Nat → P) : tuT v t = tu (v a) (v b) (v c) := by
  unfold Jor.tuT
  rcases h with rfl | rfl | rfl <;> simp only
  · rw [tu_rot, tu_rot]
  · rw [tu_rot]
theorem rot_self (t : T3) : Rot t t.1 t.2.1 t.2.2 := .inl rfl

end Jor
end Go.Proofs.Ytjccilpjaaiicaa

namespace Go.Proofs.Ytjccilpjaaiicaa
namespace Jor

structure Trg (v : Nat → P) (n : Nat) (ts : List T3) : Prop where
  hs : Simple v n
  cert : Cert n ts
  pos : ∀ t, t ∈ ts → 0 < tuT v t
  bd : ∃ B : Int, 0 ≤ B ∧ ∀ i, i < n → Bd B (v i) (v (nx n i))

theorem tu_same (a c : P) : tu a a c = 0 := by unfold tu; grind
theorem tu_sc' (D : Int) (v : Nat → P) (t : T3) : tuT (fun i => sc D (v i)) t = D * D * tuT v t := tu_sc D _ _ _
theorem Trg.sc {v : Nat → P} {n : Nat} {ts : List T3} (h : Trg v n ts) {D : Int} (hD : 0 < D) : Trg (fun i => sc D (v i)) n ts := by
  refine ⟨simple_sc hD h.hs, h.cert, fun t ht => by rw [tu_sc']; exact Int.mul_pos (Int.mul_pos hD hD) (h.pos t ht), ?_⟩
  obtain ⟨B, hB, hb⟩ := h.bd
  refine ⟨D * B, Int.mul_nonneg (by omega) hB, fun i hi => ?_⟩
  obtain ⟨h1, h2, h3, h4⟩ := hb i hi
  have k := fun {x : Int} (hx : x ≤ B) => Int.mul_le_mul_of_nonneg_left hx (show 0 ≤ D by omega)
  unfold Bd Jor.sc
  simp only [← Int.mul_sub]
  exact ⟨k h1, k h2, k h3, k h4⟩

section
variable {v : Nat → P} {n : Nat} {ts : List T3} (h : Trg v n ts)
include h
theorem Trg.lt {t : T3} (ht : t ∈ ts) {a b c : Nat} (hr : Rot t a b c) : a < n ∧ b < n ∧ c < n := by
  have := h.cert.lt t ht
  rcases hr with rfl | rfl | rfl <;> simp only at this <;> omega
theorem Trg.tu_pos {t : T3} (ht : t ∈ ts) {a b c : Nat} (hr : Rot t a b c) : 0 < tu (v a) (v b) (v c) := by
  have := h.pos t ht
  rwa [hr.tuT] at this
theorem Trg.ne {t : T3} (ht : t ∈ ts) {a b c : Nat} (hr : Rot t a b c) : a ≠ b ∧ b ≠ c ∧ c ≠ a := by
  have hp := h.tu_pos ht hr
  refine ⟨?_, ?_, ?_⟩
  · rintro rfl; rw [tu_same] at hp; omega
  · rintro rfl; rw [tu_snd] at hp; omega
  · rintro rfl; rw [tu_fst] at hp; omega
theorem Trg.hts {t : T3} (ht : t ∈ ts) {a b c : Nat} (hr : Rot t a b c) : (v a).2 ≠ (v b).2 ∧ (v b).2 ≠ (v c).2 ∧ (v c).2 ≠ (v a).2 := by
  obtain ⟨a1, a2, a3⟩ := h.lt ht hr
  obtain ⟨b1, b2, b3⟩ := h.ne ht hr
  exact ⟨h.hs.hts _ _ a1 a2 b1, h.hs.hts _ _ a2 a3 b2, h.hs.hts _ _ a3 a1 b3⟩
theorem Trg.core {t : T3} (ht : t ∈ ts) {a b c : Nat} (hr : Rot t a b c) (p : P) : (trR v p t = 0 ∨ (trR v p t = 1 ∧ InT v p t)) ∧ (trL v p t = 0 ∨ (trL v p t = 1 ∧ InT v p t)) ∧
    (0 < tu (v b) (v c) p → 0 < tu (v c) (v a) p → 0 < tu (v a) (v b) p → trR v p t = 1 ∧ trL v p t = 1) ∧
    (0 < tu (v b) (v c) p → 0 < tu (v c) (v a) p → tu (v a) (v b) p = 0 → ((v a).2 < p.2 ∧ p.2 < (v b).2 ∧ trR v p t = 0 ∧ trL v p t = 1) ∨ ((v b).2 < p.2 ∧ p.2 < (v a).2 ∧ trR v p t = 1 ∧ trL v p t = 0)) := by
  obtain ⟨n1, n2, n3⟩ := h.hts ht hr
  rw [hr.trR, hr.trL, hr.inT]
  exact tri_core (h.tu_pos ht hr) n1 n2 n3
theorem Trg.nn {t : T3} (ht : t ∈ ts) (p : P) : 0 ≤ trR v p t ∧ 0 ≤ trL v p t := by
  have := h.core ht (rot_self t) p
  obtain ⟨k1, k2, _⟩ := this
  exact ⟨by omega, by omega⟩
theorem Trg.sumR (p : P) : ss (trR v p) ts = wR v n p := h.cert.sum (fun a b => cR p (v a) (v b)) fun a b => cR_swap p (v b) (v a)
theorem Trg.sumL (p : P) : ss (trL v p) ts = wL v n p := h.cert.sum (fun a b => cL p (v a) (v b)) fun a b => cL_swap p (v b) (v a)
theorem Trg.upR (p : P) : wR v n p ≤ 1 := by
  obtain ⟨B, hB, hb⟩ := h.bd
  have := wR_any h.hs hB hb p
  have := lef_two h.hs
  omega
theorem Trg.upL (p : P) : wL v n p ≤ 1 := by
  obtain ⟨B, hB, hb⟩ := h.bd
  have := wL_any h.hs hB hb p
  have := lef_two h.hs
  omega
theorem Trg.oneR {t : T3} (ht : t ∈ ts) (p : P) : trR v p t ≤ wR v n p := by
  rw [← h.sumR]
  exact ss_one ts (fun t ht => (h.nn ht p).1) t ht
theorem Trg.oneL {t : T3} (ht : t ∈ ts) (p : P) : trL v p t ≤ wL v n p := by
  rw [← h.sumL]
  exact ss_one ts (fun t ht => (h.nn ht p).2) t ht
theorem Trg.twoR {t u : T3} (ht : t ∈ ts) (hu : u ∈ ts) (hne : t ≠ u) (p : P) : trR v p t + trR v p u ≤ wR v n p := by
  rw [← h.sumR]
  exact ss_two ts (fun t ht => (h.nn ht p).1) t u ht hu hne
theorem Trg.twoL {t u : T3} (ht : t ∈ ts) (hu : u ∈ ts) (hne : t ≠ u) (p : P) : trL v p t + trL v p u ≤ wL v n p := by
  rw [← h.sumL]
  exact ss_two ts (fun t ht => (h.nn ht p).2) t u ht hu hne
end

/-! ## Where a point of a closed triangle lies -/
theorem bary_fst (a b c p : P) : tu b c p * a.1 + tu c a p * b.1 + tu a b p * c.1 = tu a b c * p.1 := by unfold tu; grind
theorem bary_snd (a b c p : P) : tu b c p * a.2 + tu c a p * b.2 + tu a b p * c.2 = tu a b c * p.2 := by unfold tu; grind
theorem bary_tu (a b c p x y : P) : tu b c p * tu x y a + tu c a p * tu x y b + tu a b p * tu x y c = tu a b c * tu x y p := by unfold tu; grind
theorem vertex {a b c p : P} (ht : 0 < tu a b c) (h1 : tu a b p = 0) (h2 : tu c a p = 0) : p = a := by
  have e := bary1 p a b c
  have e1 := bary_fst a b c p
  have e2 := bary_snd a b c p
  rw [h1, h2] at e e1 e2
  rw [Int.zero_mul, Int.zero_mul] at e1 e2
  have e3 : tu b c p = tu a b c := by omega
  rw [e3] at e1 e2
  have e4 : tu a b c * a.1 = tu a b c * p.1 := by omega
  have e5 : tu a b c * a.2 = tu a b c * p.2 := by omega
  exact Prod.ext (Int.eq_of_mul_eq_mul_left (by omega) e4).symm (Int.eq_of_mul_eq_mul_left (by omega) e5).symm

/-- p lies on the open wall from a to b of a triangle abc -/
def Edge (v : Nat → P) (p : P) (a b c : Nat) : Prop := 0 < tu (v b) (v c) p ∧ 0 < tu (v c) (v a) p ∧ tu (v a) (v b) p = 0
section
variable {v : Nat → P} {n : Nat} {ts : List T3} (h : Trg v n ts)
include h
theorem Trg.where {t : T3} (ht : t ∈ ts) {p : P} (hp : InT v p t) : (0 < tu (v t.2.1) (v t.2.2) p ∧ 0 < tu (v t.2.2) (v t.1) p ∧ 0 < tu (v t.1) (v t.2.1) p) ∨ (∃ a b c, Rot t a b c ∧ Edge v p a b c) ∨ (∃ a b c, Rot t a b c ∧ p = v a) := by
  have h0 := h.pos t ht
  have hr0 := rot_self t
  have hr1 := hr0.rot
  have hr2 := hr1.rot
  have p0 := h.tu_pos ht hr0
  have p1 := h.tu_pos ht hr1
  have p2 := h.tu_pos ht hr2
  obtain ⟨h1, h2, h3⟩ := hp
  have e := bary1 p (v t.1) (v t.2.1) (v t.2.2)
  by_cases z1 : tu (v t.1) (v t.2.1) p = 0
  · by_cases z2 : tu (v t.2.1) (v t.2.2) p = 0
    · exact .inr (.inr ⟨_, _, _, hr1, vertex p1 z2 z1⟩)
    · by_cases z3 : tu (v t.2.2) (v t.1) p = 0
      · exact .inr (.inr ⟨_, _, _, hr0, vertex p0 z1 z3⟩)
      · exact .inr (.inl ⟨_, _, _, hr0, by omega, by omega, z1⟩)
  · by_cases z2 : tu (v t.2.1) (v t.2.2) p = 0
    · by_cases z3 : tu (v t.2.2) (v t.1) p = 0
      · exact .inr (.inr ⟨_, _, _, hr2, vertex p2 z3 z2⟩)
      · exact .inr (.inl ⟨_, _, _, hr1, by omega, by omega, z2⟩)
    · by_cases z3 : tu (v t.2.2) (v t.1) p = 0
      · exact .inr (.inl ⟨_, _, _, hr2, by omega, by omega, z3⟩)
      · exact .inl ⟨by omega, by omega, by omega⟩
/-- an edge that is no wall of the polygon has a triangle on its other side -/
theorem Trg.twin {t : T3} (ht : t ∈ ts) {p : P} {a b c : Nat} (hr : Rot t a b c) (he : Edge v p a b c) (hw : b ≠ nx n a) : ∃ u d, u ∈ ts ∧ u ≠ t ∧ Rot u b a d ∧ Edge v p b a d ∧ trR v p t + trR v p u = 1 ∧ trL v p t + trL v p u = 1 := by
  rcases h.cert.edge t ht a b hr.eds with hb | ⟨u, hu, hue⟩
  · exact absurd hb hw
  · obtain ⟨d, hd⟩ := rot_of_eds hue
    have q1 := h.tu_pos ht hr
    have q2 := h.tu_pos hu hd
    have c1 := h.core ht hr p
    obtain ⟨e1, e2, e3⟩ := he
    have b1 := bary_tu (v a) (v b) (v c) p (v a) (v d)
    have b2 := bary_tu (v a) (v b) (v c) p (v d) (v b)
    rw [e3, tu_fst, Int.mul_zero, Int.zero_mul, Int.zero_add, Int.add_zero] at b1
    rw [e3, tu_snd, Int.mul_zero, Int.zero_mul, Int.add_zero, Int.add_zero] at b2
    have r1 : tu (v a) (v d) (v b) = tu (v b) (v a) (v d) := by rw [tu_rot]
    have r2 : tu (v d) (v b) (v a) = tu (v b) (v a) (v d) := by rw [tu_rot, tu_rot]
    rw [r1] at b1
    rw [r2] at b2
    have f1 : 0 < tu (v a) (v d) p := pos_of_mul q1 (by rw [Int.mul_comm, ← b1]; exact Int.mul_pos e2 q2)
    have f2 : 0 < tu (v d) (v b) p := pos_of_mul q1 (by rw [Int.mul_comm, ← b2]; exact Int.mul_pos e1 q2)
    have f3 : tu (v b) (v a) p = 0 := by rw [tu_swap, e3]; rfl
    have c2 := h.core hu hd p
    have k1 := c1.2.2.2 e1 e2 e3
    have k2 := c2.2.2.2 f1 f2 f3
    refine ⟨u, d, hu, ?_, hd, ⟨f1, f2, f3⟩, ?_, ?_⟩
    · rintro rfl
      clear c1 c2
      omega
    · clear c1 c2; omega
    · clear c1 c2; omega
/-- a point of a closed triangle on a wall of the polygon: the wall is the triangle's -/
theorem Trg.on_wall {t : T3} (ht : t ∈ ts) {p : P} (hp : InT v p t) (hg : ∀ k, k < n → (v k).2 ≠ p.2) {k : Nat} (hk : k < n) (ho : On p (v k) (v (nx n k))) : ∃ c, Rot t k (nx n k) c ∧ Edge v p k (nx n k) c := by
  have d := wLR_on h.hs hk hg ho
  have d2 : wL v n p - wR v n p = 1 ∨ wL v n p - wR v n p = -1 := by
    split at d <;> omega
  have u1 := h.upR p
  have u2 := h.upL p
  rcases h.where ht hp with ⟨z2, z3, z1⟩ | ⟨a, b, c, hr, he⟩ | ⟨a, b, c, hr, rfl⟩
  · have c1 := (h.core ht (rot_self t) p).2.2.1 z2 z3 z1
    have := h.oneR ht p
    have := h.oneL ht p
    omega
  · by_cases hb : b = nx n a
    · subst hb
      by_cases hak : a = k
      · subst hak
        exact ⟨c, hr, he⟩
      · have c1 := (h.core ht hr p).2.2.2 he.1 he.2.1 he.2.2
        have hoa : On p (v a) (v (nx n a)) := ⟨by clear d d2; omega, he.2.2⟩
        have := h.hs.off_on (h.lt ht hr).1 hk (Ne.symm hak) hoa
        exact absurd ho.2 (this ho.1)
    · obtain ⟨u, d', hu, hne, _, _, s1, s2⟩ := h.twin ht hr he hb
      have := h.twoR ht hu hne.symm p
      have := h.twoL ht hu hne.symm p
      omega
  · exact absurd rfl (hg a (h.lt ht hr).1)
/-- a point of a closed triangle off the walls lies inside the polygon -/
theorem Trg.in_off {t : T3} (ht : t ∈ ts) {p : P} (hp : InT v p t) (hg : ∀ k, k < n → (v k).2 ≠ p.2) (ho : ∀ i, i < n → Off p (v i) (v (nx n i))) : wn v n p = 1 := by
  have w1 := wR_off (v := v) hg
  have w2 := wL_off (v := v) hg ho
  have u1 := h.upR p
  have u2 := h.oneR ht p
  have u3 := h.oneL ht p
  rcases h.where ht hp with ⟨z2, z3, z1⟩ | ⟨a, b, c, hr, he⟩ | ⟨a, b, c, hr, rfl⟩
  · have c1 := (h.core ht (rot_self t) p).2.2.1 z2 z3 z1
    omega
  · have c1 := (h.core ht hr p).2.2.2 he.1 he.2.1 he.2.2
    omega
  · exact absurd rfl (hg a (h.lt ht hr).1)
end

end Jor
end Go.Proofs.Ytjccilpjaaiicaa

namespace Go.Proofs.Ytjccilpjaaiicaa
namespace Jor

/-- a place near j, in the multiplied plane, on the way into the triangle -/
def nearP (D : Int) (x y z : P) : P := ((D - 2) * x.1 + y.1 + z.1, (D - 2) * x.2 + y.2 + z.2)
theorem tu_near (D : Int) (a b x y z : P) : tu (sc D a) (sc D b) (nearP D x y z) = D * ((D - 2) * tu a b x + tu a b y + tu a b z) := by
  unfold tu sc nearP
  grind
theorem near_pos {D s k l : Int} (hD : 2 < D) (hs : 0 < s) (hb : -(D - 3) ≤ k + l) : 0 < (D - 2) * s + k + l := by
  have := Int.mul_le_mul_of_nonneg_left (show 1 ≤ s by omega) (show 0 ≤ D - 2 by omega)
  omega
def ab (x : Int) : Int := (x.natAbs : Int)
theorem ab_bd (x : Int) : -(ab x) ≤ x ∧ x ≤ ab x ∧ 0 ≤ ab x := by unfold ab; omega

section
variable {v : Nat → P} {n : Nat} {ts : List T3} (h : Trg v n ts)
include h
/-- no corner lies in a triangle but its own -/
theorem Trg.no_corner {t : T3} (ht : t ∈ ts) {j : Nat} (hj : j < n) (hp : InT v (v j) t) : ∃ a b, Rot t j a b := by
  rcases h.where ht hp with hstr | ⟨a, b, c, hr, he⟩ | ⟨a, b, c, hr, hv⟩
  · -- strictly inside
    exfalso
    obtain ⟨g2, g3, g1⟩ := hstr
    obtain ⟨u, hu, hue⟩ := h.cert.wall j hj
    obtain ⟨d, hd⟩ := rot_of_eds hue
    have hne : t ≠ u := by
      rintro rfl
      rcases hd with e | e | e
      · rw [e] at g1 g2 g3; simp only at g1 g2 g3; rw [tu_fst] at g1; omega
      · rw [e] at g1 g2 g3; simp only at g1 g2 g3; rw [tu_snd] at g1; omega
      · rw [e] at g1 g2 g3; simp only at g1 g2 g3; rw [tu_snd] at g2; omega
    have hp2 := h.tu_pos hu hd
    obtain ⟨a, b, c⟩ := t
    simp only at g1 g2 g3
    obtain ⟨D, hD⟩ : ∃ D : Int, D = 3 + (ab (tu (v a) (v b) (v (nx n j))) + ab (tu (v a) (v b) (v d))) + (ab (tu (v b) (v c) (v (nx n j))) + ab (tu (v b) (v c) (v d))) + (ab (tu (v c) (v a) (v (nx n j))) + ab (tu (v c) (v a) (v d))) := ⟨_, rfl⟩
    have a1 := ab_bd (tu (v a) (v b) (v (nx n j)))
    have a2 := ab_bd (tu (v a) (v b) (v d))
    have a3 := ab_bd (tu (v b) (v c) (v (nx n j)))
    have a4 := ab_bd (tu (v b) (v c) (v d))
    have a5 := ab_bd (tu (v c) (v a) (v (nx n j)))
    have a6 := ab_bd (tu (v c) (v a) (v d))
    have hD3 : 2 < D := by omega
    have hs := h.sc (D := D) (by omega)
    have q1 := near_pos (D := D) (k := tu (v a) (v b) (v (nx n j))) (l := tu (v a) (v b) (v d)) hD3 g1 (by omega)
    have q2 := near_pos (D := D) (k := tu (v b) (v c) (v (nx n j))) (l := tu (v b) (v c) (v d)) hD3 g2 (by omega)
    have q3 := near_pos (D := D) (k := tu (v c) (v a) (v (nx n j))) (l := tu (v c) (v a) (v d)) hD3 g3 (by omega)
    have c1 := (hs.core ht (rot_self (a, b, c)) (nearP D (v j) (v (nx n j)) (v d))).2.2.1 (by rw [tu_near]; exact Int.mul_pos (by omega) q2) (by rw [tu_near]; exact Int.mul_pos (by omega) q3) (by rw [tu_near]; exact Int.mul_pos (by omega) q1)
    have c2 := (hs.core hu hd (nearP D (v j) (v (nx n j)) (v d))).2.2.1 (by rw [tu_near, tu_fst, tu_snd, tu_rot]; exact Int.mul_pos (by omega) (by have := Int.mul_pos (show 0 < D - 2 by omega) hp2; omega)) (by rw [tu_near, tu_fst, tu_snd, tu_rot, tu_rot]; exact Int.mul_pos (by omega) (by omega)) (by rw [tu_near, tu_fst, tu_snd]; exact Int.mul_pos (by omega) (by omega))
    have := hs.twoR ht hu hne (nearP D (v j) (v (nx n j)) (v d))
    have := hs.upR (nearP D (v j) (v (nx n j)) (v d))
    omega
  · -- on an edge
    exfalso
    obtain ⟨u, hu, hue⟩ := h.cert.wall j hj
    obtain ⟨d, hd⟩ := rot_of_eds hue
    have hp2 := h.tu_pos hu hd
    have ha := (h.lt ht hr).1
    have hja : j ≠ a := by rintro rfl; have := he.2.1; rw [tu_snd] at this; omega
    have hjb : j ≠ b := by rintro rfl; have := he.1; rw [tu_fst] at this; omega
    have hob : On (v j) (v a) (v b) := ⟨by have := (h.core ht hr (v j)).2.2.2 he.1 he.2.1 he.2.2; omega, he.2.2⟩
    have hw : b ≠ nx n a := by
      rintro rfl
      exact absurd hob.2 (h.hs.off a j ha hj hja hjb hob.1)
    obtain ⟨w, e, hw1, hw2, hw3, hw4, _, _⟩ := h.twin ht hr he hw
    have main : ∀ (t : T3) (a b c : Nat), t ∈ ts → Rot t a b c → Edge v (v j) a b c → 0 ≤ tu (v a) (v b) (v (nx n j)) + tu (v a) (v b) (v d) → False := by
      intro t a b c ht hr he hs0
      obtain ⟨g2, g3, g1⟩ := he
      have hne : t ≠ u := by
        rintro rfl
        have k : j = a ∨ j = b ∨ j = c := by
          rcases hr with e1 | e1 | e1 <;> rcases hd with e2 | e2 | e2 <;> (rw [e1] at e2; simp only [Prod.mk.injEq] at e2; omega)
        rcases k with rfl | rfl | rfl
        · rw [tu_snd] at g3; omega
        · rw [tu_fst] at g2; omega
        · have := h.tu_pos ht hr; omega
      obtain ⟨D, hD⟩ : ∃ D : Int, D = 3 + (ab (tu (v b) (v c) (v (nx n j))) + ab (tu (v b) (v c) (v d))) + (ab (tu (v c) (v a) (v (nx n j))) + ab (tu (v c) (v a) (v d))) := ⟨_, rfl⟩
      have a3 := ab_bd (tu (v b) (v c) (v (nx n j)))
      have a4 := ab_bd (tu (v b) (v c) (v d))
      have a5 := ab_bd (tu (v c) (v a) (v (nx n j)))
      have a6 := ab_bd (tu (v c) (v a) (v d))
      have hD3 : 2 < D := by omega
      have hs := h.sc (D := D) (by omega)
      have q2 := near_pos (D := D) (k := tu (v b) (v c) (v (nx n j))) (l := tu (v b) (v c) (v d)) hD3 g2 (by omega)
      have q3 := near_pos (D := D) (k := tu (v c) (v a) (v (nx n j))) (l := tu (v c) (v a) (v d)) hD3 g3 (by omega)
      have q2' := Int.mul_pos (show 0 < D by omega) q2
      have q3' := Int.mul_pos (show 0 < D by omega) q3
      rw [← tu_near] at q2' q3'
      have c2 := (hs.core hu hd (nearP D (v j) (v (nx n j)) (v d))).2.2.1 (by rw [tu_near, tu_fst, tu_snd, tu_rot]; exact Int.mul_pos (by omega) (by have := Int.mul_pos (show 0 < D - 2 by omega) hp2; omega)) (by rw [tu_near, tu_fst, tu_snd, tu_rot, tu_rot]; exact Int.mul_pos (by omega) (by omega)) (by rw [tu_near, tu_fst, tu_snd]; exact Int.mul_pos (by omega) (by omega))
      have t1 := hs.twoR ht hu hne (nearP D (v j) (v (nx n j)) (v d))
      have t2 := hs.twoL ht hu hne (nearP D (v j) (v (nx n j)) (v d))
      have t3 := hs.upR (nearP D (v j) (v (nx n j)) (v d))
      have t4 := hs.upL (nearP D (v j) (v (nx n j)) (v d))
      have e1 : tu (Jor.sc D (v a)) (Jor.sc D (v b)) (nearP D (v j) (v (nx n j)) (v d)) = D * (tu (v a) (v b) (v (nx n j)) + tu (v a) (v b) (v d)) := by
        rw [tu_near, g1, Int.mul_zero, Int.zero_add]
      rcases Int.lt_trichotomy (tu (v a) (v b) (v (nx n j)) + tu (v a) (v b) (v d)) 0 with hlt | hz | hgt
      · omega
      · rw [hz, Int.mul_zero] at e1
        have c1 := (hs.core ht hr (nearP D (v j) (v (nx n j)) (v d))).2.2.2 q2' q3' e1
        clear a3 a4 a5 a6 hD q2 q3 q2' q3'
        omega
      · have c1 := (hs.core ht hr (nearP D (v j) (v (nx n j)) (v d))).2.2.1 q2' q3' (by rw [e1]; exact Int.mul_pos (by omega) hgt)
        omega
    rcases Int.lt_or_le (tu (v a) (v b) (v (nx n j)) + tu (v a) (v b) (v d)) 0 with hlt | hge
    · exact main w b a e hw1 hw3 hw4 (by rw [tu_swap (v a) (v b), tu_swap (v a) (v b)]; omega)
    · exact main t a b c ht hr he hge
  · have : j = a := by
      by_cases e : j = a
      · exact e
      · exact absurd (congrArg Prod.snd hv) (h.hs.hts j a hj (h.lt ht hr).1 e)
    subst this
    exact ⟨b, c, hr⟩

omit h in
theorem sm_three {f : Nat → Int} {a b c n : Nat} (ha : a < n) (hb : b < n) (hc : c < n) (h1 : a ≠ b) (h2 : b ≠ c) (h3 : c ≠ a) (hz : ∀ i, i < n → i ≠ a → i ≠ b → i ≠ c → f i = 0) : sm f n = f a + f b + f c := by
  have e : sm f n = sm (fun i => if i = a then f a else 0) n + sm (fun i => if i = a then 0 else f i) n := by
    rw [← sm_add]
    refine sm_congr _ _ n fun i _ => ?_
    by_cases e1 : i = a
    · subst e1; simp
    · simp [e1]
  rw [e, sm_one (f := fun i => if i = a then f a else 0) n ha (fun i _ hi => by simp [hi]), sm_two (f := fun i => if i = a then 0 else f i) hb hc h2 (fun i hi e1 e2 => by
    by_cases e3 : i = a
    · simp [e3]
    · simp [e3, hz i hi e3 e1 e2])]
  simp [Ne.symm h1, h3]
  omega
/-- over the corners each triangle counts one -/
theorem Trg.corners : sm (fun j => wR v n (v j) + wL v n (v j)) n = (n : Int) - 2 := by
  have e : ∀ j, wR v n (v j) + wL v n (v j) = ss (trR v (v j)) ts + ss (trL v (v j)) ts := fun j => by rw [h.sumR, h.sumL]
  rw [sm_congr _ _ n fun j _ => e j, sm_add, sm_ss (fun j t => trR v (v j) t), sm_ss (fun j t => trL v (v j) t)]
  have e2 : ∀ l : List T3, ss (fun t => sm (fun j => trR v (v j) t) n) l + ss (fun t => sm (fun j => trL v (v j) t) n) l = ss (fun t => sm (fun j => trR v (v j) t + trL v (v j) t) n) l := by
    intro l
    induction l with
    | nil => rfl
    | cons t r ih =>
      simp only [ss]
      rw [sm_add]
      omega
  rw [e2, ss_congr (g := fun _ => 1) ts ?_, ss_const]
  · have := h.cert.len
    omega
  · intro t ht
    obtain ⟨l1, l2, l3⟩ := h.lt ht (rot_self t)
    obtain ⟨n1, n2, n3⟩ := h.ne ht (rot_self t)
    obtain ⟨g1, g2, g3⟩ := h.hts ht (rot_self t)
    rw [sm_three l1 l2 l3 n1 n2 n3 ?_]
    · exact tri_corners (h.tu_pos ht (rot_self t)) g1 g2 g3
    · intro i hi e1 e2 e3
      have c := h.core ht (rot_self t) (v i)
      have hno : ¬ InT v (v i) t := fun hin => by
        obtain ⟨a, b, hr⟩ := h.no_corner ht hi hin
        rcases hr with e | e | e
        · exact e1 (by rw [e])
        · exact e2 (by rw [e])
        · exact e3 (by rw [e])
      have c1 := c.1
      have c2 := c.2.1
      clear c
      have d1 : trR v (v i) t = 0 := by
        rcases c1 with c1 | ⟨_, c1⟩
        · exact c1
        · exact absurd c1 hno
      have d2 : trL v (v i) t = 0 := by
        rcases c2 with c2 | ⟨_, c2⟩
        · exact c2
        · exact absurd c2 hno
      rw [d1, d2]
      rfl
end

end Jor
end Go.Proofs.Ytjccilpjaaiicaa

namespace Go.Proofs.Ytjccilpjaaiicaa
open Go.RowKit

/-- the first from k on, of d, that p holds of -/
def firstP (p : Nat → Bool) : Nat → Nat → Int
  | _, 0 => -1
  | k, d + 1 => if p k = true then (k : Int) else firstP p (k + 1) d
theorem firstP_at (p : Nat → Bool) : ∀ d k m, k ≤ m → m < k + d → (∀ j, k ≤ j → j < m → p j = false) → p m = true → firstP p k d = (m : Int)
  | 0, k, m, h1, h2, _, _ => by omega
  | d + 1, k, m, h1, h2, h3, h4 => by
    unfold firstP
    by_cases e : k = m
    · subst e; rw [if_pos h4]
    · rw [if_neg (by rw [h3 k (Nat.le_refl _) (by omega)]; decide)]
      exact firstP_at p d (k + 1) m (by omega) (by omega) (fun j a b => h3 j (by omega) b) h4
theorem firstP_no (p : Nat → Bool) : ∀ d k, (∀ j, k ≤ j → j < k + d → p j = false) → firstP p k d = -1
  | 0, _, _ => rfl
  | d + 1, k, h => by
    unfold firstP
    rw [if_neg (by rw [h k (Nat.le_refl _) (by omega)]; decide)]
    exact firstP_no p d (k + 1) (fun j a b => h j (by omega) (by omega))

/-- whether a line crosses wall k -/
def crsE (l : List (Int × Int)) (ax ay bx by_ : Int) (k : Nat) : Bool := crossB (gx l k) (gy l k) (gx l (nx l k)) (gy l (nx l k)) ax ay bx by_
/-- BlockingWall, as both texts give it -/
def blockV (l : List (Int × Int)) (ax ay bx by_ : Int) : Int := if (ax == bx && ay == by_) = true ∨ isInV l ax ay = false ∨ isInV l bx by_ = false then -1 else firstP (crsE l ax ay bx by_) 0 l.length

theorem isIn_iff {l : List (Int × Int)} {x y : Int} : isInV l x y = true ↔ pok x y = true ∧ roomB l = true ∧ (placeV l x y != 0) = true := by
  unfold isInV placeInV
  cases pok x y <;> cases roomB l <;> simp
/-- whether every point of a list lies in a room -/
def allInV (l ps : List (Int × Int)) : Bool := (List.range ps.length).all (fun k => pok (gx ps k) (gy ps k) && (placeV l (gx ps k) (gy ps k) != 0)) && roomB l

set_option maxRecDepth 100000 in
set_option maxHeartbeats 1600000 in
theorem allIn_any (A B : Option Addr) (l ps : List (Int × Int)) (c d : Nat) (w : World) (hp : RPts w A l) (hq : RPts w B ps) (hn : l.length ≤ 1048576) (hm : ps.length ≤ 1048576) :
    Calls Try.prog 21 #[.agg #[.slice A l.length c], .slice B ps.length d] w fun e w' => e = .returned (.bool (allInV l ps)) ∧ Ext w w' := by
  have HB : Hid (∀ w', Ext (w.alloc (.cells #[.slice A l.length c] 26)) w' → w'.cell? ⟨w.heap.size, 0, none⟩ = some (.slice A l.length c) ∧ w.heap.size < w'.heap.size) := fun w' hx => by
    and_intros <;> (first | (have hz := hx.size; simp at hz; omega) | ((first | rw [hx.cells _ _ (by first | (simp; done) | (simp; omega))] | rw [hx.frozens _ _ (by first | (simp; done) | (simp; omega))]); (first | (simp [go_sem]; done) | (simp [go_sem, World.cell?_alloc_past]; done) | (simp [go_sem, World.frozen?]; done))))
  go_enter Try.func21, Try.ntmps21
  go_wp2
  go_loopw [9] (fun i wr => ∃ k : Nat, k ≤ ps.length ∧ i = .int .i64 k ∧ Ext (w.alloc (.cells #[.slice A l.length c] 26)) wr ∧ Hid (∀ j, j < k → (pok (gx ps j) (gy ps j) && (placeV l (gx ps j) (gy ps j) != 0)) = true)) (fun i _ => ps.length - (intOf i).toNat)
  case atStart => exact ⟨0, Nat.zero_le _, rfl, by (repeat (first | exact Ext.refl _ | assumption | apply Ext.alloc | apply Ext.drew | apply Ext.drewN | (refine Ext.trans ?_ (by assumption)))), hide (fun j hj => absurd hj (by omega))⟩
  case round =>
    obtain ⟨k, hk, rfl, hbl, HR⟩ := hrel
    obtain ⟨wq, rfl⟩ : ∃ wq : World, wq = wr := ⟨_, rfl⟩
    have fb := HB.out wq hbl
    by_cases hlt : k < ps.length
    · have q2 : (k : Int) < (ps.length : Int) := by omega
      obtain ⟨b, off, rfl⟩ := hq.some_ (by omega)
      obtain ⟨hz, hx, hy⟩ := (hq.ext (show Ext w wq by (repeat (first | exact Ext.refl _ | assumption | apply Ext.alloc | apply Ext.drew | apply Ext.drewN | (refine Ext.trans ?_ (by assumption)))))).cell hlt
      obtain ⟨px, hpx⟩ : ∃ x, x = gx ps k := ⟨_, rfl⟩
      obtain ⟨py, hpy⟩ : ∃ x, x = gy ps k := ⟨_, rfl⟩
      rw [← hpx] at hx
      rw [← hpy] at hy
      have HX := hide hpx
      have HY := hide hpy
      clear hpx hpy
      have HQ : Hid (∀ w', Ext (wq.alloc (.cells #[.int .i64 px, .int .i64 py] 28)) w' → w'.cell? ⟨wq.heap.size, 0, none⟩ = some (.int .i64 px) ∧ w'.cell? ⟨wq.heap.size, 1, none⟩ = some (.int .i64 py) ∧ wq.heap.size < w'.heap.size) := fun w' hx => by
        and_intros <;> (first | (have hz := hx.size; simp at hz; omega) | ((first | rw [hx.cells _ _ (by first | (simp; done) | (simp; omega))] | rw [hx.frozens _ _ (by first | (simp; done) | (simp; omega))]); (first | (simp [go_sem]; done) | (simp [go_sem, World.cell?_alloc_past]; done) | (simp [go_sem, World.frozen?]; done))))
      cases hv : (pok px py && (placeV l px py != 0))
      · have HV := hide (show allInV l ps = false by
          unfold allInV
          rw [List.all_eq_false.2 ⟨k, List.mem_range.2 hlt, by rw [← HX.out, ← HY.out, hv]; decide⟩]
          rfl)
        cases h1 : pok px py
        · go_wp2_with (go_at_call 41; refine (pok_any _ _ _).mono ?_; rw [h1]; rintro e w1 ⟨rfl, hb1⟩)
          go_ret
          exact ⟨by rw [HV.out]; rfl, by (repeat (first | exact Ext.refl _ | assumption | apply Ext.alloc | apply Ext.drew | apply Ext.drewN | (refine Ext.trans ?_ (by assumption))))⟩
        · have h2 : placeV l px py = 0 := by simpa [h1] using hv
          clear hv
          go_wp2_with (first | (go_at_call 41; refine (pok_any _ _ _).mono ?_; rw [h1]; rintro e w1 ⟨rfl, hb1⟩; have f1 := HB.out w1 (by (repeat (first | exact Ext.refl _ | assumption | apply Ext.alloc | apply Ext.drew | apply Ext.drewN | (refine Ext.trans ?_ (by assumption))))); have g1 := HQ.out w1 (by (repeat (first | exact Ext.refl _ | assumption | apply Ext.alloc | apply Ext.drew | apply Ext.drewN | (refine Ext.trans ?_ (by assumption)))))) | (go_at_call 42; refine (place_any _ _ _ _ _ _ (hp.ext (by (repeat (first | exact Ext.refl _ | assumption | apply Ext.alloc | apply Ext.drew | apply Ext.drewN | (refine Ext.trans ?_ (by assumption)))))) hn).mono ?_; rw [h2]; rintro e w2 ⟨rfl, hb2⟩))
          go_ret
          exact ⟨by rw [HV.out]; rfl, by (repeat (first | exact Ext.refl _ | assumption | apply Ext.alloc | apply Ext.drew | apply Ext.drewN | (refine Ext.trans ?_ (by assumption))))⟩
      · have h1 : pok px py = true := (Bool.and_eq_true _ _ ▸ hv).1
        have h2 : (placeV l px py == 0) = false := by have := (Bool.and_eq_true _ _ ▸ hv).2; simpa using this
        have HV := hide hv
        clear hv
        go_wp2_with (first | (go_at_call 41; refine (pok_any _ _ _).mono ?_; rw [h1]; rintro e w1 ⟨rfl, hb1⟩; have f1 := HB.out w1 (by (repeat (first | exact Ext.refl _ | assumption | apply Ext.alloc | apply Ext.drew | apply Ext.drewN | (refine Ext.trans ?_ (by assumption))))); have g1 := HQ.out w1 (by (repeat (first | exact Ext.refl _ | assumption | apply Ext.alloc | apply Ext.drew | apply Ext.drewN | (refine Ext.trans ?_ (by assumption)))))) | (go_at_call 42; refine (place_any _ _ _ _ _ _ (hp.ext (by (repeat (first | exact Ext.refl _ | assumption | apply Ext.alloc | apply Ext.drew | apply Ext.drewN | (refine Ext.trans ?_ (by assumption)))))) hn).mono ?_; rintro e w2 ⟨rfl, hb2⟩))
        go_roundw
        case rel => exact ⟨k + 1, by omega, by go_num, by (repeat (first | exact Ext.refl _ | assumption | apply Ext.alloc | apply Ext.drew | apply Ext.drewN | (refine Ext.trans ?_ (by assumption)))), hide (fun j hj => by by_cases e : j = k; (subst e; rw [← HX.out, ← HY.out]; exact HV.out); exact HR.out j (by omega))⟩
        case measure => simp [intOf]; omega
    · have q2 : ¬ (k : Int) < (ps.length : Int) := by omega
      have HV := hide (show allInV l ps = roomB l by
        unfold allInV
        rw [List.all_eq_true.2 (fun j hj => HR.out j (by have := List.mem_range.1 hj; omega))]
        rfl)
      go_wp2_with (go_at_call 17; refine (RoomOk_any _ _ _ _ (hp.ext (by (repeat (first | exact Ext.refl _ | assumption | apply Ext.alloc | apply Ext.drew | apply Ext.drewN | (refine Ext.trans ?_ (by assumption)))))) hn).mono ?_; rintro e w1 ⟨rfl, hb1⟩)
      go_ret
      exact ⟨by rw [HV.out]; rfl, by (repeat (first | exact Ext.refl _ | assumption | apply Ext.alloc | apply Ext.drew | apply Ext.drewN | (refine Ext.trans ?_ (by assumption))))⟩

theorem allIn_two (l : List (Int × Int)) (ax ay bx by_ : Int) : allInV l [(ax, ay), (bx, by_)] = (isInV l ax ay && isInV l bx by_) := by
  have h : ∀ x y, isInV l x y = (pok x y && (roomB l && (placeV l x y != 0))) := fun x y => by
    unfold isInV placeInV
    cases pok x y <;> cases roomB l <;> simp
  unfold allInV
  rw [h, h]
  have e : List.range ([(ax, ay), (bx, by_)] : List (Int × Int)).length = [0, 1] := rfl
  rw [e]
  simp only [List.all_cons, List.all_nil, gx, gy, List.getD_cons_zero, List.getD_cons_succ]
  cases pok ax ay <;> cases pok bx by_ <;> cases roomB l <;> simp

theorem rpts_two (w : World) (ax ay bx by_ : Int) (T : TypeId) : RPts (w.alloc (.cells #[.int .i64 ax, .int .i64 ay, .int .i64 bx, .int .i64 by_] T)) (some ⟨w.heap.size, 0, none⟩) [(ax, ay), (bx, by_)] := fun _ => by
  have h := heap_alloc_new w (.cells #[.int .i64 ax, .int .i64 ay, .int .i64 bx, .int .i64 by_] T)
  refine ⟨w.heap.size, 0, rfl, Nat.zero_le _, by simp, fun k hk => ?_⟩
  have hk2 : k = 0 ∨ k = 1 := by simp at hk; omega
  rcases hk2 with rfl | rfl <;> (unfold World.cell?; simp only [h]; exact ⟨rfl, rfl⟩)

theorem cross_room {l : List (Int × Int)} {ax ay bx by_ : Int} (hr : roomB l = true) (ha : pok ax ay = true) (hb : pok bx by_ = true) (hs : (ax == bx && ay == by_) = false) {k : Nat} (hk : k < l.length) : doCrossV ax ay bx by_ (gx l k) (gy l k) (gx l (nx l k)) (gy l (nx l k)) = crsE l ax ay bx by_ k := by
  have h1 : wok ax ay bx by_ = true := by unfold wok pok2 neB; rw [ha, hb, hs]; rfl
  unfold doCrossV crsE crossB
  rw [h1, room_wok hr hk, Bool.true_and, Bool.true_and, Bool.and_comm]
theorem cross_same {l : List (Int × Int)} {ax ay bx by_ : Int} (hs : (ax == bx && ay == by_) = true) (k : Nat) : doCrossV ax ay bx by_ (gx l k) (gy l k) (gx l (nx l k)) (gy l (nx l k)) = false := by
  have h1 : wok ax ay bx by_ = false := by unfold wok neB; rw [hs]; simp
  unfold doCrossV
  rw [h1, Bool.false_and]


set_option maxRecDepth 100000 in
set_option maxHeartbeats 3200000 in
theorem BlockingWall_any (A : Option Addr) (l : List (Int × Int)) (c : Nat) (ax ay bx by_ : Int) (w : World) (hp : RPts w A l) (hn : l.length ≤ 1048576) :
    Calls Try.prog 11 #[.agg #[.slice A l.length c], .agg #[.int .i64 ax, .int .i64 ay], .agg #[.int .i64 bx, .int .i64 by_]] w fun e w' => e = .returned (.int .i64 (blockV l ax ay bx by_)) ∧ Ext w w' := by
  by_cases h1 : ax = bx
  · subst h1
    have HB : Hid (∀ w', Ext (((w.alloc (.cells #[.slice A l.length c] 26)).alloc (.cells #[.int .i64 ax, .int .i64 ay] 28)).alloc (.cells #[.int .i64 ax, .int .i64 by_] 28)) w' → w'.cell? ⟨w.heap.size, 0, none⟩ = some (.slice A l.length c) ∧ w.heap.size < w'.heap.size ∧ w'.cell? ⟨w.heap.size + 1, 0, none⟩ = some (.int .i64 ax) ∧ w'.cell? ⟨w.heap.size + 1, 1, none⟩ = some (.int .i64 ay) ∧ w.heap.size + 1 < w'.heap.size ∧ w'.cell? ⟨w.heap.size + 1 + 1, 0, none⟩ = some (.int .i64 ax) ∧ w'.cell? ⟨w.heap.size + 1 + 1, 1, none⟩ = some (.int .i64 by_) ∧ w.heap.size + 1 + 1 < w'.heap.size) := fun w' hx => by
      and_intros <;> (first | (have hz := hx.size; simp at hz; omega) | ((first | rw [hx.cells _ _ (by first | (simp; done) | (simp; omega))] | rw [hx.frozens _ _ (by first | (simp; done) | (simp; omega))]); (first | (simp [go_sem]; done) | (simp [go_sem, World.cell?_alloc_past]; done) | (simp [go_sem, World.frozen?]; done))))
    by_cases h2 : ay = by_
    · subst h2
      have HV := hide (show blockV l ax ay ax ay = -1 by unfold blockV; rw [if_pos (.inl (by simp))])
      go_enter Try.func11, Try.ntmps11
      go_wp2
      go_ret
      exact ⟨ret_int (by rw [HV.out]), by (repeat (first | exact Ext.refl _ | assumption | apply Ext.alloc | apply Ext.drew | apply Ext.drewN | (refine Ext.trans ?_ (by assumption))))⟩
    · have hs : (ax == ax && ay == by_) = false := by simp [h2]
      have z2 : (ay == by_) = false := by simp [h2]
      clear h2
      have hB2 : RPts ((((w.alloc (.cells #[.slice A l.length c] 26)).alloc (.cells #[.int .i64 ax, .int .i64 ay] 28)).alloc (.cells #[.int .i64 ax, .int .i64 by_] 28)).alloc (.cells #[.int .i64 ax, .int .i64 ay, .int .i64 ax, .int .i64 by_] 28)) (some ⟨w.heap.size + 1 + 1 + 1, 0, none⟩) [(ax, ay), (ax, by_)] := by
        have h := rpts_two (((w.alloc (.cells #[.slice A l.length c] 26)).alloc (.cells #[.int .i64 ax, .int .i64 ay] 28)).alloc (.cells #[.int .i64 ax, .int .i64 by_] 28)) ax ay ax by_ 28
        have e : (((w.alloc (.cells #[.slice A l.length c] 26)).alloc (.cells #[.int .i64 ax, .int .i64 ay] 28)).alloc (.cells #[.int .i64 ax, .int .i64 by_] 28)).heap.size = w.heap.size + 1 + 1 + 1 := by simp
        rw [e] at h
        exact h
      have HB2 := hide hB2
      clear hB2
      obtain ⟨u, hu⟩ : ∃ u, u = allInV l [(ax, ay), (ax, by_)] := ⟨_, rfl⟩
      have HU := hide hu
      rw [allIn_two] at hu
      cases u
      · have HV := hide (show blockV l ax ay ax by_ = -1 by
          unfold blockV
          rw [if_pos]
          cases h1 : isInV l ax ay
          · exact .inr (.inl rfl)
          · cases h2 : isInV l ax by_
            · exact .inr (.inr rfl)
            · rw [h1, h2] at hu; cases hu)
        clear hu hs
        go_enter Try.func11, Try.ntmps11
        go_wp2_with (go_at_call 21; refine (allIn_any A _ l [(ax, ay), (ax, by_)] c 2 _ (hp.ext (by (repeat (first | exact Ext.refl _ | assumption | apply Ext.alloc | apply Ext.drew | apply Ext.drewN | (refine Ext.trans ?_ (by assumption)))))) HB2.out hn (by show (2 : Nat) ≤ 1048576; decide)).mono ?_; rw [← HU.out]; rintro e w1 ⟨rfl, hb1⟩)
        go_ret
        exact ⟨ret_int (by rw [HV.out]), by (repeat (first | exact Ext.refl _ | assumption | apply Ext.alloc | apply Ext.drew | apply Ext.drewN | (refine Ext.trans ?_ (by assumption))))⟩
      · have hia : isInV l ax ay = true := (Bool.and_eq_true _ _ ▸ hu.symm).1
        have hib : isInV l ax by_ = true := (Bool.and_eq_true _ _ ▸ hu.symm).2
        have HV := hide (show blockV l ax ay ax by_ = firstP (crsE l ax ay ax by_) 0 l.length by
          unfold blockV
          rw [if_neg (fun h => by rcases h with h | h | h; (rw [hs] at h; cases h); (rw [hia] at h; cases h); (rw [hib] at h; cases h))])
        clear hu hs hia hib
        go_enter Try.func11, Try.ntmps11
        go_wp2_with (first | (go_at_call 21; refine (allIn_any A _ l [(ax, ay), (ax, by_)] c 2 _ (hp.ext (by (repeat (first | exact Ext.refl _ | assumption | apply Ext.alloc | apply Ext.drew | apply Ext.drewN | (refine Ext.trans ?_ (by assumption)))))) HB2.out hn (by show (2 : Nat) ≤ 1048576; decide)).mono ?_; rw [← HU.out]; rintro e w1 ⟨rfl, hb1⟩; have f1 := HB.out w1 (by (repeat (first | exact Ext.refl _ | assumption | apply Ext.alloc | apply Ext.drew | apply Ext.drewN | (refine Ext.trans ?_ (by assumption)))))) | (go_at_call 26; refine (wallsOf_any _ _ _ _ (hp.ext (by (repeat (first | exact Ext.refl _ | assumption | apply Ext.alloc | apply Ext.drew | apply Ext.drewN | (refine Ext.trans ?_ (by assumption)))))) hn).mono ?_; rintro e wa ⟨A', c', rfl, hrw, hx⟩))
        clear f1
        go_loopw [24] (fun i wr => ∃ k : Nat, k ≤ l.length ∧ i = .int .i64 k ∧ Ext wa wr ∧ Hid (∀ j, j < k → crsE l ax ay ax by_ j = false)) (fun i _ => l.length - (intOf i).toNat)
        case atStart => exact ⟨0, Nat.zero_le _, rfl, Ext.refl _, hide (fun j hj => absurd hj (by omega))⟩
        case round =>
          obtain ⟨k, hk, rfl, hbl, HR⟩ := hrel
          obtain ⟨wq, rfl⟩ : ∃ wq : World, wq = wr := ⟨_, rfl⟩
          have fb := HB.out wq (by (repeat (first | exact Ext.refl _ | assumption | apply Ext.alloc | apply Ext.drew | apply Ext.drewN | (refine Ext.trans ?_ (by assumption)))))
          by_cases hlt : k < l.length
          · have q2 : (k : Int) < (l.length : Int) := by omega
            obtain ⟨g, rfl, hg, c1, c2, c3, c4⟩ := (hrw.ext hbl) k hlt
            cases ho : crsE l ax ay ax by_ k
            · have HO := hide ho
              unfold crsE at ho
              go_wp2_with (go_at_call 27; refine (crosses_any _ _ _ _ _ _ _ _ _).mono ?_; rintro e w3 ⟨rfl, hb3⟩)
              go_roundw
              case rel => exact ⟨k + 1, by omega, by go_num, by (repeat (first | exact Ext.refl _ | assumption | apply Ext.alloc | apply Ext.drew | apply Ext.drewN | (refine Ext.trans ?_ (by assumption)))), hide (fun j hj => by by_cases e : j = k; (subst e; exact HO.out); exact HR.out j (by omega))⟩
              case measure => simp [intOf]; omega
            · have HF := hide (firstP_at (crsE l ax ay ax by_) l.length 0 k (by omega) (by omega) (fun j _ b => HR.out j b) ho)
              unfold crsE at ho
              go_wp2_with (go_at_call 27; refine (crosses_any _ _ _ _ _ _ _ _ _).mono ?_; rintro e w3 ⟨rfl, hb3⟩)
              go_ret
              exact ⟨ret_int (by rw [HV.out, HF.out]), by (repeat (first | exact Ext.refl _ | assumption | apply Ext.alloc | apply Ext.drew | apply Ext.drewN | (refine Ext.trans ?_ (by assumption))))⟩
          · have q2 : ¬ (k : Int) < (l.length : Int) := by omega
            have HF := hide (firstP_no (crsE l ax ay ax by_) l.length 0 (fun j _ b => HR.out j (by omega)))
            go_wp2
            go_ret
            exact ⟨ret_int (by rw [HV.out, HF.out]), by (repeat (first | exact Ext.refl _ | assumption | apply Ext.alloc | apply Ext.drew | apply Ext.drewN | (refine Ext.trans ?_ (by assumption))))⟩
  · have hs : (ax == bx && ay == by_) = false := by simp [h1]
    have z1 : (ax == bx) = false := by simp [h1]
    clear h1
    have HB : Hid (∀ w', Ext (((w.alloc (.cells #[.slice A l.length c] 26)).alloc (.cells #[.int .i64 ax, .int .i64 ay] 28)).alloc (.cells #[.int .i64 bx, .int .i64 by_] 28)) w' → w'.cell? ⟨w.heap.size, 0, none⟩ = some (.slice A l.length c) ∧ w.heap.size < w'.heap.size ∧ w'.cell? ⟨w.heap.size + 1, 0, none⟩ = some (.int .i64 ax) ∧ w'.cell? ⟨w.heap.size + 1, 1, none⟩ = some (.int .i64 ay) ∧ w.heap.size + 1 < w'.heap.size ∧ w'.cell? ⟨w.heap.size + 1 + 1, 0, none⟩ = some (.int .i64 bx) ∧ w'.cell? ⟨w.heap.size + 1 + 1, 1, none⟩ = some (.int .i64 by_) ∧ w.heap.size + 1 + 1 < w'.heap.size) := fun w' hx => by
      and_intros <;> (first | (have hz := hx.size; simp at hz; omega) | ((first | rw [hx.cells _ _ (by first | (simp; done) | (simp; omega))] | rw [hx.frozens _ _ (by first | (simp; done) | (simp; omega))]); (first | (simp [go_sem]; done) | (simp [go_sem, World.cell?_alloc_past]; done) | (simp [go_sem, World.frozen?]; done))))
    have hB2 : RPts ((((w.alloc (.cells #[.slice A l.length c] 26)).alloc (.cells #[.int .i64 ax, .int .i64 ay] 28)).alloc (.cells #[.int .i64 bx, .int .i64 by_] 28)).alloc (.cells #[.int .i64 ax, .int .i64 ay, .int .i64 bx, .int .i64 by_] 28)) (some ⟨w.heap.size + 1 + 1 + 1, 0, none⟩) [(ax, ay), (bx, by_)] := by
      have h := rpts_two (((w.alloc (.cells #[.slice A l.length c] 26)).alloc (.cells #[.int .i64 ax, .int .i64 ay] 28)).alloc (.cells #[.int .i64 bx, .int .i64 by_] 28)) ax ay bx by_ 28
      have e : (((w.alloc (.cells #[.slice A l.length c] 26)).alloc (.cells #[.int .i64 ax, .int .i64 ay] 28)).alloc (.cells #[.int .i64 bx, .int .i64 by_] 28)).heap.size = w.heap.size + 1 + 1 + 1 := by simp
      rw [e] at h
      exact h
    have HB2 := hide hB2
    clear hB2
    obtain ⟨u, hu⟩ : ∃ u, u = allInV l [(ax, ay), (bx, by_)] := ⟨_, rfl⟩
    have HU := hide hu
    rw [allIn_two] at hu
    cases u
    · have HV := hide (show blockV l ax ay bx by_ = -1 by
        unfold blockV
        rw [if_pos]
        cases h1 : isInV l ax ay
        · exact .inr (.inl rfl)
        · cases h2 : isInV l bx by_
          · exact .inr (.inr rfl)
          · rw [h1, h2] at hu; cases hu)
      clear hu hs
      go_enter Try.func11, Try.ntmps11
      go_wp2_with (go_at_call 21; refine (allIn_any A _ l [(ax, ay), (bx, by_)] c 2 _ (hp.ext (by (repeat (first | exact Ext.refl _ | assumption | apply Ext.alloc | apply Ext.drew | apply Ext.drewN | (refine Ext.trans ?_ (by assumption)))))) HB2.out hn (by show (2 : Nat) ≤ 1048576; decide)).mono ?_; rw [← HU.out]; rintro e w1 ⟨rfl, hb1⟩)
      go_ret
      exact ⟨ret_int (by rw [HV.out]), by (repeat (first | exact Ext.refl _ | assumption | apply Ext.alloc | apply Ext.drew | apply Ext.drewN | (refine Ext.trans ?_ (by assumption))))⟩
    · have hia : isInV l ax ay = true := (Bool.and_eq_true _ _ ▸ hu.symm).1
      have hib : isInV l bx by_ = true := (Bool.and_eq_true _ _ ▸ hu.symm).2
      have HV := hide (show blockV l ax ay bx by_ = firstP (crsE l ax ay bx by_) 0 l.length by
        unfold blockV
        rw [if_neg (fun h => by rcases h with h | h | h; (rw [hs] at h; cases h); (rw [hia] at h; cases h); (rw [hib] at h; cases h))])
      clear hu hs hia hib
      go_enter Try.func11, Try.ntmps11
      go_wp2_with (first | (go_at_call 21; refine (allIn_any A _ l [(ax, ay), (bx, by_)] c 2 _ (hp.ext (by (repeat (first | exact Ext.refl _ | assumption | apply Ext.alloc | apply Ext.drew | apply Ext.drewN | (refine Ext.trans ?_ (by assumption)))))) HB2.out hn (by show (2 : Nat) ≤ 1048576; decide)).mono ?_; rw [← HU.out]; rintro e w1 ⟨rfl, hb1⟩; have f1 := HB.out w1 (by (repeat (first | exact Ext.refl _ | assumption | apply Ext.alloc | apply Ext.drew | apply Ext.drewN | (refine Ext.trans ?_ (by assumption)))))) | (go_at_call 26; refine (wallsOf_any _ _ _ _ (hp.ext (by (repeat (first | exact Ext.refl _ | assumption | apply Ext.alloc | apply Ext.drew | apply Ext.drewN | (refine Ext.trans ?_ (by assumption)))))) hn).mono ?_; rintro e wa ⟨A', c', rfl, hrw, hx⟩))
      clear f1
      go_loopw [24] (fun i wr => ∃ k : Nat, k ≤ l.length ∧ i = .int .i64 k ∧ Ext wa wr ∧ Hid (∀ j, j < k → crsE l ax ay bx by_ j = false)) (fun i _ => l.length - (intOf i).toNat)
      case atStart => exact ⟨0, Nat.zero_le _, rfl, Ext.refl _, hide (fun j hj => absurd hj (by omega))⟩
      case round =>
        obtain ⟨k, hk, rfl, hbl, HR⟩ := hrel
        obtain ⟨wq, rfl⟩ : ∃ wq : World, wq = wr := ⟨_, rfl⟩
        have fb := HB.out wq (by (repeat (first | exact Ext.refl _ | assumption | apply Ext.alloc | apply Ext.drew | apply Ext.drewN | (refine Ext.trans ?_ (by assumption)))))
        by_cases hlt : k < l.length
        · have q2 : (k : Int) < (l.length : Int) := by omega
          obtain ⟨g, rfl, hg, c1, c2, c3, c4⟩ := (hrw.ext hbl) k hlt
          cases ho : crsE l ax ay bx by_ k
          · have HO := hide ho
            unfold crsE at ho
            go_wp2_with (go_at_call 27; refine (crosses_any _ _ _ _ _ _ _ _ _).mono ?_; rintro e w3 ⟨rfl, hb3⟩)
            go_roundw
            case rel => exact ⟨k + 1, by omega, by go_num, by (repeat (first | exact Ext.refl _ | assumption | apply Ext.alloc | apply Ext.drew | apply Ext.drewN | (refine Ext.trans ?_ (by assumption)))), hide (fun j hj => by by_cases e : j = k; (subst e; exact HO.out); exact HR.out j (by omega))⟩
            case measure => simp [intOf]; omega
          · have HF := hide (firstP_at (crsE l ax ay bx by_) l.length 0 k (by omega) (by omega) (fun j _ b => HR.out j b) ho)
            unfold crsE at ho
            go_wp2_with (go_at_call 27; refine (crosses_any _ _ _ _ _ _ _ _ _).mono ?_; rintro e w3 ⟨rfl, hb3⟩)
            go_ret
            exact ⟨ret_int (by rw [HV.out, HF.out]), by (repeat (first | exact Ext.refl _ | assumption | apply Ext.alloc | apply Ext.drew | apply Ext.drewN | (refine Ext.trans ?_ (by assumption))))⟩
        · have q2 : ¬ (k : Int) < (l.length : Int) := by omega
          have HF := hide (firstP_no (crsE l ax ay bx by_) l.length 0 (fun j _ b => HR.out j (by omega)))
          go_wp2
          go_ret
          exact ⟨ret_int (by rw [HV.out, HF.out]), by (repeat (first | exact Ext.refl _ | assumption | apply Ext.alloc | apply Ext.drew | apply Ext.drewN | (refine Ext.trans ?_ (by assumption))))⟩

end Go.Proofs.Ytjccilpjaaiicaa

namespace Go.Proofs.Ytjccilpjaaiicaa
open Go.RowKit

/-- a corner c is noted for the way from a to b -/
def cutB (ax ay bx by_ cx cy : Int) : Bool := !(cx == ax && cy == ay) && (!(cx == bx && cy == by_) && onW cx cy ax ay bx by_)
/-- a, b and the noted ones of the first k corners -/
def cutsTo (l : List (Int × Int)) (ax ay bx by_ : Int) (k : Nat) : List (Int × Int) := (ax, ay) :: (bx, by_) :: (l.take k).filter fun p => cutB ax ay bx by_ p.1 p.2
/-- the first k corners, doubled -/
def dblTo (l : List (Int × Int)) (k : Nat) : List (Int × Int) := (l.take k).map fun p => (2 * p.1, 2 * p.2)
def dbl (l : List (Int × Int)) : List (Int × Int) := dblTo l l.length
def cuts (l : List (Int × Int)) (ax ay bx by_ : Int) : List (Int × Int) := cutsTo l ax ay bx by_ l.length

theorem take_at (l : List (Int × Int)) {k : Nat} (hk : k < l.length) : l.take (k + 1) = l.take k ++ [(gx l k, gy l k)] := by
  rw [List.take_succ_eq_append_getElem hk]
  unfold gx gy
  rw [List.getD_eq_getElem?_getD, List.getElem?_eq_getElem hk]
  rfl
theorem cutsTo_on {l : List (Int × Int)} {ax ay bx by_ : Int} {k : Nat} (hk : k < l.length) (h : cutB ax ay bx by_ (gx l k) (gy l k) = true) : cutsTo l ax ay bx by_ (k + 1) = cutsTo l ax ay bx by_ k ++ [(gx l k, gy l k)] := by
  unfold cutsTo
  have e : [(gx l k, gy l k)].filter (fun p => cutB ax ay bx by_ p.1 p.2) = [(gx l k, gy l k)] := by simp [h]
  rw [take_at l hk, List.filter_append, e]
  rfl
theorem cutsTo_off {l : List (Int × Int)} {ax ay bx by_ : Int} {k : Nat} (hk : k < l.length) (h : cutB ax ay bx by_ (gx l k) (gy l k) = false) : cutsTo l ax ay bx by_ (k + 1) = cutsTo l ax ay bx by_ k := by
  unfold cutsTo
  have e : [(gx l k, gy l k)].filter (fun p => cutB ax ay bx by_ p.1 p.2) = [] := by simp [h]
  rw [take_at l hk, List.filter_append, e, List.append_nil]
theorem cutsTo_length (l : List (Int × Int)) (ax ay bx by_ : Int) (k : Nat) : 2 ≤ (cutsTo l ax ay bx by_ k).length ∧ (cutsTo l ax ay bx by_ k).length ≤ k + 2 := by
  unfold cutsTo
  have h := List.length_filter_le (fun p : Int × Int => cutB ax ay bx by_ p.1 p.2) (l.take k)
  have h2 := List.length_take_le k l
  simp only [List.length_cons]
  omega
theorem dblTo_succ {l : List (Int × Int)} {k : Nat} (hk : k < l.length) : dblTo l (k + 1) = dblTo l k ++ [(2 * gx l k, 2 * gy l k)] := by
  unfold dblTo
  rw [take_at l hk, List.map_append]
  rfl
theorem dblTo_length {l : List (Int × Int)} {k : Nat} (hk : k ≤ l.length) : (dblTo l k).length = k := by
  unfold dblTo
  rw [List.length_map, List.length_take]
  omega
theorem dbl_length (l : List (Int × Int)) : (dbl l).length = l.length := dblTo_length (Nat.le_refl _)

theorem g_mem {l : List (Int × Int)} {k : Nat} (hk : k < l.length) : (gx l k, gy l k) ∈ l := by
  have := getD_mem (d := ((0, 0) : Int × Int)) hk
  exact this
theorem mem_g {l : List (Int × Int)} {p : Int × Int} (h : p ∈ l) : ∃ k, k < l.length ∧ gx l k = p.1 ∧ gy l k = p.2 := by
  obtain ⟨k, hk, e⟩ := mem_getD (d := ((0, 0) : Int × Int)) h
  exact ⟨k, hk, by unfold gx; rw [e], by unfold gy; rw [e]⟩

theorem dbl_small {l : List (Int × Int)} (hf : Fine l) : Small 1000000 (dbl l) := by
  intro k hk
  have hm := g_mem hk
  unfold dbl dblTo at hm
  rw [List.take_length, List.mem_map] at hm
  obtain ⟨p, hp, e⟩ := hm
  obtain ⟨j, hj, e1, e2⟩ := mem_g hp
  have h := within_of_pok (hf.pok hj)
  have f1 : 2 * p.1 = gx (dbl l) k := by
    have := congrArg Prod.fst e
    unfold dbl dblTo
    rw [List.take_length]
    exact this
  have f2 : 2 * p.2 = gy (dbl l) k := by
    have := congrArg Prod.snd e
    unfold dbl dblTo
    rw [List.take_length]
    exact this
  unfold within at h ⊢
  omega

theorem room_nodup {l : List (Int × Int)} (hr : roomB l = true) : l.Nodup := by
  have hf := (roomB_fine hr).1
  have h3 := (roomB_fine hr).2
  have key : ∀ i j, i < j → j < l.length → gx l i = gx l j → gy l i = gy l j → False := by
    intro i j hij hj ex ey
    by_cases a1 : j = i + 1
    · have := room_wok hr (k := i) (by omega)
      have e : nx l i = j := by unfold nx; rw [Nat.mod_eq_of_lt (by omega)]; omega
      rw [e, ← ex, ← ey] at this
      unfold wok neB at this
      simp at this
    · by_cases a2 : i = 0 ∧ j + 1 = l.length
      · have := room_wok hr (k := j) (by omega)
        have e : nx l j = i := by unfold nx; rw [a2.2, Nat.mod_self]; omega
        rw [e, ← ex, ← ey] at this
        unfold wok neB at this
        simp at this
      · have hask : askI l i j = true := by
          unfold askI
          have : (j + 1) % l.length ≠ i := by
            rcases Nat.lt_or_ge (j + 1) l.length with h | h
            · rw [Nat.mod_eq_of_lt h]; omega
            · have : j + 1 = l.length := by omega
              rw [this, Nat.mod_self]; omega
          simp [this]
          omega
        have hmt : mt l i j = true := by
          unfold mt meetV
          have hw := room_wok hr (k := j) hj
          rw [room_wok hr (by omega), hw]
          have ho : onW (gx l i) (gy l i) (gx l j) (gy l j) (gx l (nx l j)) (gy l (nx l j)) = true := by
            rw [ex, ey]
            have w1 := within_more (within_of_pok (hf.pok hj)) (N := 1000000) (by omega)
            have w2 := within_more (within_of_pok (hf.pok (nx_lt hj))) (N := 1000000) (by omega)
            exact (onW_iff (a := (gx l j, gy l j)) (b := (gx l (nx l j), gy l (nx l j))) (c := (gx l j, gy l j)) w1 w2 w1).2 (onz_start _ _)
          rw [ho]
          simp
        have := roomB_row (by omega) (rowI_meet hj hask hmt)
        rw [hr] at this
        cases this
  refine List.pairwise_iff_getElem.2 fun i j hi hj hij he => key i j hij hj ?_ ?_
  · unfold gx
    rw [List.getD_eq_getElem?_getD, List.getElem?_eq_getElem hi, List.getD_eq_getElem?_getD, List.getElem?_eq_getElem hj, he]
  · unfold gy
    rw [List.getD_eq_getElem?_getD, List.getElem?_eq_getElem hi, List.getD_eq_getElem?_getD, List.getElem?_eq_getElem hj, he]

theorem pok_mem {l : List (Int × Int)} (hf : Fine l) {p : Int × Int} (h : p ∈ l) : pok p.1 p.2 = true := by
  obtain ⟨k, hk, e1, e2⟩ := mem_g h
  rw [← e1, ← e2]
  exact hf.pok hk

theorem cutB_iff {ax ay bx by_ : Int} {p : Int × Int} (ha : pok ax ay = true) (hb : pok bx by_ = true) (hp : pok p.1 p.2 = true) : cutB ax ay bx by_ p.1 p.2 = true ↔ p ≠ (ax, ay) ∧ p ≠ (bx, by_) ∧ OnZ (ax, ay) (bx, by_) p := by
  have w1 := within_more (within_of_pok ha) (N := 1000000) (by omega)
  have w2 := within_more (within_of_pok hb) (N := 1000000) (by omega)
  have w3 := within_more (within_of_pok hp) (N := 1000000) (by omega)
  unfold cutB
  rw [Bool.and_eq_true, Bool.and_eq_true, onW_iff (a := (ax, ay)) (b := (bx, by_)) (c := p) w1 w2 w3]
  obtain ⟨x, y⟩ := p
  simp [Prod.ext_iff]
  grind

theorem cuts_on {l : List (Int × Int)} {ax ay bx by_ : Int} (hf : Fine l) (ha : pok ax ay = true) (hb : pok bx by_ = true) : ∀ p, p ∈ cuts l ax ay bx by_ → pok p.1 p.2 = true ∧ OnZ (ax, ay) (bx, by_) p := by
  intro p hp
  unfold cuts cutsTo at hp
  simp only [List.mem_cons, List.mem_filter, List.take_length] at hp
  rcases hp with rfl | rfl | ⟨h1, h2⟩
  · exact ⟨ha, onz_start _ _⟩
  · exact ⟨hb, onz_end _ _⟩
  · have h3 := pok_mem hf h1
    exact ⟨h3, ((cutB_iff ha hb h3).1 h2).2.2⟩

theorem cuts_nodup {l : List (Int × Int)} {ax ay bx by_ : Int} (hr : roomB l = true) (ha : pok ax ay = true) (hb : pok bx by_ = true) (hab : (ax, ay) ≠ (bx, by_)) : (cuts l ax ay bx by_).Nodup := by
  have hf := (roomB_fine hr).1
  unfold cuts cutsTo
  rw [List.take_length]
  refine List.nodup_cons.2 ⟨?_, List.nodup_cons.2 ⟨?_, (room_nodup hr).filter _⟩⟩
  · simp only [List.mem_cons, List.mem_filter]
    rintro (h | ⟨h1, h2⟩)
    · exact hab h
    · exact ((cutB_iff (p := (ax, ay)) ha hb (pok_mem hf h1)).1 h2).1 rfl
  · simp only [List.mem_filter]
    rintro ⟨h1, h2⟩
    exact ((cutB_iff (p := (bx, by_)) ha hb (pok_mem hf h1)).1 h2).2.1 rfl

theorem cuts_same {l : List (Int × Int)} {ax ay : Int} (hf : Fine l) (ha : pok ax ay = true) : cuts l ax ay ax ay = [(ax, ay), (ax, ay)] := by
  unfold cuts cutsTo
  rw [List.take_length]
  have : l.filter (fun p => cutB ax ay ax ay p.1 p.2) = [] := by
    rw [List.filter_eq_nil_iff]
    intro p hp hc
    obtain ⟨h1, _, h3⟩ := (cutB_iff ha ha (pok_mem hf hp)).1 hc
    exact h1 (onz_same h3)
  rw [this]

/-- no other one of c lies between those at i and k -/
def freeTo (c : List (Int × Int)) (i k n : Nat) : Bool := (List.range n).all fun j => j == i || (j == k || !onW (gx c j) (gy c j) (gx c i) (gy c i) (gx c k) (gy c k))
def freeB (c : List (Int × Int)) (i k : Nat) : Bool := freeTo c i k c.length
/-- where the middle of those at i and k lies, in the reference's words -/
def midS (l c : List (Int × Int)) (i k : Nat) : Int := holdsV (dbl l) (gx c i + gx c k) (gy c i + gy c k)
/-- and in the program's -/
def midP (l : List (Int × Int)) (ax ay bx by_ : Int) : Int := placeV (dbl l) (ax + bx) (ay + by_)
def badS (l c : List (Int × Int)) (i k : Nat) : Bool := freeB c i k && decide (midS l c i k < 0)
def goodRow (l c : List (Int × Int)) (i n : Nat) : Bool := (List.range n).all fun k => !badS l c i k
def goodTo (l c : List (Int × Int)) (n : Nat) : Bool := (List.range n).all fun i => goodRow l c i i
def clearTo (l : List (Int × Int)) (ax ay bx by_ : Int) (n : Nat) : Bool := (List.range n).all fun k => !crsE l ax ay bx by_ k
/-- sight in a valid room, as both texts give it -/
def seesV (l : List (Int × Int)) (ax ay bx by_ : Int) : Bool := clearTo l ax ay bx by_ l.length && goodTo l (cuts l ax ay bx by_) (cuts l ax ay bx by_).length

theorem all_range_succ (f : Nat → Bool) (n : Nat) : (List.range (n + 1)).all f = ((List.range n).all f && f n) := by
  rw [List.range_succ, List.all_append]
  simp
theorem freeTo_succ (c : List (Int × Int)) (i k n : Nat) : freeTo c i k (n + 1) = (freeTo c i k n && (n == i || (n == k || !onW (gx c n) (gy c n) (gx c i) (gy c i) (gx c k) (gy c k)))) := all_range_succ _ _
theorem goodRow_succ (l c : List (Int × Int)) (i n : Nat) : goodRow l c i (n + 1) = (goodRow l c i n && !badS l c i n) := all_range_succ _ _
theorem goodTo_succ (l c : List (Int × Int)) (n : Nat) : goodTo l c (n + 1) = (goodTo l c n && goodRow l c n n) := all_range_succ _ _
theorem clearTo_succ (l : List (Int × Int)) (ax ay bx by_ : Int) (n : Nat) : clearTo l ax ay bx by_ (n + 1) = (clearTo l ax ay bx by_ n && !crsE l ax ay bx by_ n) := all_range_succ _ _
theorem all_false {f : Nat → Bool} {n k : Nat} (hk : k < n) (h : f k = false) : (List.range n).all f = false := by
  rw [List.all_eq_false]
  exact ⟨k, List.mem_range.2 hk, by simp [h]⟩
theorem seesV_cross {l : List (Int × Int)} {ax ay bx by_ : Int} {k : Nat} (hk : k < l.length) (h : crsE l ax ay bx by_ k = true) : seesV l ax ay bx by_ = false := by
  have : clearTo l ax ay bx by_ l.length = false := all_false hk (by simp [h])
  unfold seesV
  rw [this]
  rfl
theorem seesV_bad {l : List (Int × Int)} {ax ay bx by_ : Int} {i k : Nat} (hi : i < (cuts l ax ay bx by_).length) (hk : k < i) (h : badS l (cuts l ax ay bx by_) i k = true) : seesV l ax ay bx by_ = false := by
  have h1 : goodRow l (cuts l ax ay bx by_) i i = false := all_false hk (by simp [h])
  have : goodTo l (cuts l ax ay bx by_) (cuts l ax ay bx by_).length = false := all_false hi h1
  unfold seesV
  rw [this]
  simp

theorem mid_holds {l : List (Int × Int)} (hf : Fine l) {p q : Int × Int} (hp : pok p.1 p.2 = true) (hq : pok q.1 q.2 = true) : midP l p.1 p.2 q.1 q.2 = holdsV (dbl l) (p.1 + q.1) (p.2 + q.2) + 1 := by
  have w1 := within_of_pok hp
  have w2 := within_of_pok hq
  exact place_holds (dbl_small hf) (by unfold within at *; omega)
theorem holds_bd (l : List (Int × Int)) (px py : Int) : -1 ≤ holdsV l px py ∧ holdsV l px py ≤ 1 := by
  unfold holdsV
  split
  · omega
  · exact sg_bd _

theorem freeB_iff {c : List (Int × Int)} (hc : ∀ p, p ∈ c → pok p.1 p.2 = true) {i k : Nat} (hi : i < c.length) (hk : k < c.length) :
    freeB c i k = true ↔ ∀ j, j < c.length → j ≠ i → j ≠ k → ¬ OnZ (c.getD i (0, 0)) (c.getD k (0, 0)) (c.getD j (0, 0)) := by
  unfold freeB freeTo
  rw [List.all_eq_true]
  simp only [List.mem_range]
  have hw : ∀ j, j < c.length → within 1000000 (c.getD j (0, 0)).1 (c.getD j (0, 0)).2 := fun j hj => within_more (within_of_pok (hc _ (getD_mem hj))) (by omega)
  constructor
  · intro h j hj n1 n2 ho
    have := h j hj
    have hz := (onW_iff (hw i hi) (hw k hk) (hw j hj)).2 ho
    have e1 : (j == i) = false := by simp [n1]
    have e2 : (j == k) = false := by simp [n2]
    rw [e1, e2] at this
    unfold gx gy at this
    rw [hz] at this
    cases this
  · intro h j hj
    by_cases n1 : j = i
    · simp [n1]
    · by_cases n2 : j = k
      · simp [n2]
      · have := h j hj n1 n2
        rw [← onW_iff (hw i hi) (hw k hk) (hw j hj)] at this
        unfold gx gy
        simp only [Bool.not_eq_true] at this
        rw [this]
        simp

theorem goodTo_iff (l c : List (Int × Int)) : goodTo l c c.length = true ↔ ∀ i k, i < c.length → k < i → freeB c i k = true → 0 ≤ midS l c i k := by
  unfold goodTo goodRow badS
  rw [List.all_eq_true]
  simp only [List.mem_range, List.all_eq_true, Bool.not_eq_true', Bool.and_eq_false_iff, decide_eq_false_iff_not]
  constructor
  · intro h i k hi hk hf
    rcases h i hi k hk with h1 | h1
    · rw [hf] at h1; cases h1
    · omega
  · intro h i hi k hk
    cases hf : freeB c i k
    · exact .inl rfl
    · have := h i k hi hk hf
      exact .inr (by omega)

/-- the sorted neighbours are just the free pairs -/
theorem sees_sorted {l s : List (Int × Int)} {ax ay bx by_ : Int} (hr : roomB l = true) (ha : pok ax ay = true) (hb : pok bx by_ = true) (hp : s.Perm (cuts l ax ay bx by_)) (hs : SortedK (kk (ax, ay)) (0, 0) s) :
    (∀ i, i + 1 < s.length → midP l (gx s i) (gy s i) (gx s (i + 1)) (gy s (i + 1)) ≠ 0) ↔ goodTo l (cuts l ax ay bx by_) (cuts l ax ay bx by_).length = true := by
  have hf := (roomB_fine hr).1
  rw [goodTo_iff]
  by_cases hab : (ax, ay) = (bx, by_)
  · obtain ⟨rfl, rfl⟩ := Prod.mk.inj hab
    have e := cuts_same hf ha
    rw [e] at hp ⊢
    have es : s = [(ax, ay), (ax, ay)] := (List.perm_replicate (n := 2) (a := (ax, ay))).1 hp
    subst es
    have hm := mid_holds hf (p := (ax, ay)) (q := (ax, ay)) ha ha
    have hbd := holds_bd (dbl l) (ax + ax) (ay + ay)
    constructor
    · intro h i k hi hk _
      have hi2 : i < 2 := hi
      obtain rfl : i = 1 := by omega
      obtain rfl : k = 0 := by omega
      have h0 : midP l ax ay ax ay ≠ 0 := h 0 (by simp)
      have e2 : midS l [(ax, ay), (ax, ay)] 1 0 = holdsV (dbl l) (ax + ax) (ay + ay) := rfl
      rw [e2]
      have hm : midP l ax ay ax ay = holdsV (dbl l) (ax + ax) (ay + ay) + 1 := hm
      omega
    · intro h i hi
      have hi2 : i + 1 < 2 := hi
      obtain rfl : i = 0 := by omega
      have h0 : 0 ≤ holdsV (dbl l) (ax + ax) (ay + ay) := h 1 0 (by simp) (by omega) (by unfold freeB freeTo; simp [List.range_succ])
      show midP l ax ay ax ay ≠ 0
      have hm : midP l ax ay ax ay = holdsV (dbl l) (ax + ax) (ay + ay) + 1 := hm
      omega
  · have hn := cuts_nodup hr ha hb hab
    have hon := cuts_on hf ha hb
    generalize cuts l ax ay bx by_ = c at *
    have hK : ∀ x y, x ∈ c → y ∈ c → kk (ax, ay) x = kk (ax, ay) y → x = y := fun x y hx hy h => kk_inj hab (hon x hx).2 (hon y hy).2 h
    have hQ : ∀ x y : Int × Int, midP l x.1 x.2 y.1 y.2 ≠ 0 → midP l y.1 y.2 x.1 x.2 ≠ 0 := fun x y h => by
      unfold midP at h ⊢
      rwa [Int.add_comm y.1, Int.add_comm y.2]
    have h1 := sorted_next (Q := fun x y => midP l x.1 x.2 y.1 y.2 ≠ 0) hp hn hK hs
    have h2 := pairs_next (d := ((0, 0) : Int × Int)) (K := kk (ax, ay)) (Q := fun x y => midP l x.1 x.2 y.1 y.2 ≠ 0) (B := fun z x y => OnZ x y z) hn hK hQ (fun z x y h => onz_comm.1 h)
      (fun x y z hx hy hz a b => onz_of_kk hab (hon x hx).2 (hon y hy).2 (hon z hz).2 a b)
      (fun x y z hx hy hz a b => kk_of_onz hab (hon x hx).2 (hon y hy).2 (hon z hz).2 a b)
    refine Iff.trans h1 (Iff.trans h2.symm ?_)
    constructor
    · intro h i k hi hk hfree
      have h3 := h i k hi hk ((freeB_iff (fun p hp => (hon p hp).1) hi (by omega)).1 hfree)
      have hm := mid_holds hf (hon _ (getD_mem (d := ((0, 0) : Int × Int)) hi)).1 (hon _ (getD_mem (d := ((0, 0) : Int × Int)) (show k < c.length by omega))).1
      have hbd := holds_bd (dbl l) ((c.getD i (0, 0)).1 + (c.getD k (0, 0)).1) ((c.getD i (0, 0)).2 + (c.getD k (0, 0)).2)
      show 0 ≤ holdsV (dbl l) ((c.getD i (0, 0)).1 + (c.getD k (0, 0)).1) ((c.getD i (0, 0)).2 + (c.getD k (0, 0)).2)
      omega
    · intro h i k hi hk hfree
      have h3 : 0 ≤ holdsV (dbl l) ((c.getD i (0, 0)).1 + (c.getD k (0, 0)).1) ((c.getD i (0, 0)).2 + (c.getD k (0, 0)).2) := h i k hi hk ((freeB_iff (fun p hp => (hon p hp).1) hi (by omega)).2 hfree)
      have hm := mid_holds hf (hon _ (getD_mem (d := ((0, 0) : Int × Int)) hi)).1 (hon _ (getD_mem (d := ((0, 0) : Int × Int)) (show k < c.length by omega))).1
      show midP l _ _ _ _ ≠ 0
      omega

end Go.Proofs.Ytjccilpjaaiicaa

namespace Go.Proofs.Ytjccilpjaaiicaa
namespace Jor

/-- a height that no two points of the plane at hand share -/
def MM : Int := 1000000000
/-- the corners, with heights that differ -/
def hv (l : List P) (i : Nat) : P := hm MM (pt l i)
theorem room_bd {l : List P} (hr : roomB l = true) {i : Nat} (hi : i < l.length) : (-40 ≤ (pt l i).1 ∧ (pt l i).1 ≤ 40) ∧ (-40 ≤ (pt l i).2 ∧ (pt l i).2 ≤ 40) := (roomB_fine hr).1.bd hi
theorem pt_ne {l : List P} (hr : roomB l = true) {i k : Nat} (hi : i < l.length) (hk : k < l.length) (h : i ≠ k) : pt l i ≠ pt l k := fun e => h (by
  have hn := room_nodup hr
  refine nodup_getD (d := (0, 0)) hn hi hk ?_
  have e1 : ∀ i, pt l i = l.getD i (0, 0) := fun i => rfl
  rw [← e1, ← e1]
  exact e)
theorem nr_room {l : List P} (hr : roomB l = true) {i k : Nat} (hi : i < l.length) (hk : k < l.length) : Nr MM (pt l i) (pt l k) := by
  have h1 := room_bd hr hi
  have h2 := room_bd hr hk
  unfold Nr MM
  omega
theorem hm_ne {M : Int} {a b : P} (_ : 0 < M) (hn : Nr M a b) (h : a ≠ b) : (hm M a).2 ≠ (hm M b).2 := by
  intro e
  have h1 := hm_lt (M := M) hn.1 hn.2
  have h2 := hm_lt (M := M) hn.2 hn.1
  apply h
  apply Prod.ext <;> omega
theorem room_off {l : List P} (hr : roomB l = true) {i k : Nat} (hi : i < l.length) (hk : k < l.length) (h1 : k ≠ i) (h2 : k ≠ nx l.length i) : onZB (pt l k) (pt l i) (pt l (nx l.length i)) = false := by
  by_cases h3 : nx l.length k = i
  · have ht := (room_z hr).2.1 k hk
    have e2 : (k + 2) % l.length = nx l.length i := by
      rw [← h3]
      unfold nx
      rw [Nat.mod_add_mod]
    have e1 : Go.Proofs.Ytjccilpjaaiicaa.nx l k = i := h3
    unfold tz at ht
    rw [e1, e2] at ht
    have e3 : turnZ (pt l i).1 (pt l i).2 (pt l (nx l.length i)).1 (pt l (nx l.length i)).2 (pt l k).1 (pt l k).2 = turnZ (gx l k) (gy l k) (gx l i) (gy l i) (gx l (nx l.length i)) (gy l (nx l.length i)) := tu_rot (pt l k) (pt l i) (pt l (nx l.length i))
    unfold onZB
    rw [e3]
    simp [ht]
  · exact (room_apart hr hi hk h1 h2.symm h3).2.2.2.1
theorem not_crs_of {a b c d : P} (h : crossZ a b c d = false) : ¬ Crs a b c d := by
  rintro ⟨h1, h2⟩
  have e : crossZ a b c d = true := by
    unfold crossZ
    have e1 : turnZ a.1 a.2 b.1 b.2 c.1 c.2 = tu a b c := rfl
    have e2 : turnZ a.1 a.2 b.1 b.2 d.1 d.2 = tu a b d := rfl
    have e3 : turnZ c.1 c.2 d.1 d.2 a.1 a.2 = tu c d a := rfl
    have e4 : turnZ c.1 c.2 d.1 d.2 b.1 b.2 = tu c d b := rfl
    rw [e1, e2, e3, e4, Bool.and_eq_true, decide_eq_true_eq, decide_eq_true_eq]
    have k : ∀ x y : Int, (x < 0 ∧ 0 < y) ∨ (0 < x ∧ y < 0) → sgn x * sgn y < 0 := fun x y hh => by
      unfold sgn
      rcases hh with ⟨g1, g2⟩ | ⟨g1, g2⟩
      · rw [if_neg (by omega), if_pos g1, if_pos g2]; decide
      · rw [if_pos g1, if_neg (by omega), if_pos g2]; decide
    exact ⟨k _ _ h1, k _ _ h2⟩
  rw [h] at e
  cases e
theorem crs_hm {M : Int} (hM : 0 < M) {a b c d : P} (h : ¬ Crs a b c d) : ¬ Crs (hm M a) (hm M b) (hm M c) (hm M d) := by
  intro hh
  apply h
  unfold Crs at hh ⊢
  simpa only [hm_neg hM, hm_pos hM] using hh
theorem crs_self {a b c d : P} (h : a = c ∨ a = d ∨ b = c ∨ b = d) : ¬ Crs a b c d := by
  rintro ⟨h1, h2⟩
  rcases h with rfl | rfl | rfl | rfl
  · rw [tu_fst] at h1; omega
  · rw [tu_snd] at h1; omega
  · rw [tu_fst] at h1; omega
  · rw [tu_snd] at h1; omega
theorem simple_room {l : List P} (hr : roomB l = true) : Simple (hv l) l.length := by
  refine ⟨(room_z hr).1.1, fun i k hi hk hne => hm_ne (by decide) (nr_room hr hi hk) (pt_ne hr hi hk hne), fun i k hi hk h1 h2 => off_hm (by decide) (nr_room hr hi hk) (nr_room hr (nx_lt (by omega)) hk) (room_off hr hi hk h1 h2), fun i k hi hk => ?_⟩
  refine crs_hm (by decide) ?_
  by_cases h1 : k = i
  · exact crs_self (.inl (by rw [h1]))
  · by_cases h2 : nx l.length i = k
    · exact crs_self (.inr (.inr (.inl (by rw [h2]))))
    · by_cases h3 : nx l.length k = i
      · exact crs_self (.inr (.inl (by rw [h3])))
      · exact not_crs_of (room_apart hr hi hk h1 h2 h3).1
theorem bd_room {l : List P} (hr : roomB l = true) : ∃ B : Int, 0 ≤ B ∧ ∀ i, i < l.length → Bd B (hv l i) (hv l (nx l.length i)) := by
  refine ⟨100 * MM, by decide, fun i hi => ?_⟩
  have h1 := room_bd hr hi
  have h2 := room_bd hr (nx_lt (n := l.length) (i := i) (by omega))
  unfold Bd hv hm MM
  simp only
  omega
/-- triangles of a room's corners -/
def posT (l : List P) (t : T3) : Prop := 0 < tu (pt l t.1) (pt l t.2.1) (pt l t.2.2)
theorem trg_room {l : List P} (hr : roomB l = true) {ts : List T3} (hc : Cert l.length ts) (hp : ∀ t, t ∈ ts → posT l t) : Trg (hv l) l.length ts :=
  ⟨simple_room hr, hc, fun t ht => (hm_pos (by decide) _ _ _).2 (hp t ht), bd_room hr⟩

end Jor
end Go.Proofs.Ytjccilpjaaiicaa

namespace Go.Proofs.Ytjccilpjaaiicaa
namespace Jor

/-- all corners within 1000 -/
def Sml (q : List P) : Prop := ∀ k, k < q.length → within 1000 (gx q k) (gy q k)
theorem Sml.small {q : List P} (h : Sml q) : Small 1000000 q := fun k hk => within_more (h k hk) (by decide)
section
variable {q : List P} (hs : Sml q) {p : P} (hp : within 1000 p.1 p.2)
include hs hp
theorem turnE_tu {k : Nat} (hk : k < q.length) : turnE q p.1 p.2 k = tu (pt q k) (pt q (nx q.length k)) p := turnW_eq (hs.small k hk) (hs.small _ (nx_lt (by omega))) (within_more hp (by decide))
theorem onE_onZ {k : Nat} (hk : k < q.length) : onE q p.1 p.2 k = onZB p (pt q k) (pt q (nx q.length k)) := by
  have e := turnE_tu hs hp hk
  have h1 : onE q p.1 p.2 k = (decide (turnE q p.1 p.2 k = 0) && (inB p.1 (min (gx q k) (gx q (nx q.length k))) (max (gx q k) (gx q (nx q.length k))) && inB p.2 (min (gy q k) (gy q (nx q.length k))) (max (gy q k) (gy q (nx q.length k))))) := rfl
  rw [h1, e]
  rfl
theorem nr_sml {k : Nat} (hk : k < q.length) : Nr MM (pt q k) p := by
  have h1 : within 1000 (pt q k).1 (pt q k).2 := hs k hk
  have h2 := hp
  unfold within at h1 h2
  unfold Nr MM
  omega
theorem cr_cs {k : Nat} (hk : k < q.length) (ho : onE q p.1 p.2 k = false) : (cs (hm MM p) (hm MM (pt q k)) (hm MM (pt q (nx q.length k))) = 0 ∧ crI q p.1 p.2 k = false) ∨ ((cs (hm MM p) (hm MM (pt q k)) (hm MM (pt q (nx q.length k))) = 1 ∨ cs (hm MM p) (hm MM (pt q k)) (hm MM (pt q (nx q.length k))) = -1) ∧ crI q p.1 p.2 k = true) := by
  have hn := nx_lt (n := q.length) (i := k) (by omega)
  have n1 := nr_sml hs hp hk
  have n2 := nr_sml hs hp hn
  have e := turnE_tu hs hp hk
  rw [onE_onZ hs hp hk] at ho
  have a1 := hm_lt (M := MM) n1.1 n1.2
  have a2 := hm_lt (M := MM) n1.2 n1.1
  have a3 := hm_lt (M := MM) n2.1 n2.2
  have a4 := hm_lt (M := MM) n2.2 n2.1
  have a5 := hm_neg (M := MM) (by decide) (pt q k) (pt q (nx q.length k)) p
  have a6 := hm_pos (M := MM) (by decide) (pt q k) (pt q (nx q.length k)) p
  have hcr : crI q p.1 p.2 k = ((decide (p.2 < (pt q k).2) != decide (p.2 < (pt q (nx q.length k)).2)) && (decide (0 < turnE q p.1 p.2 k) == decide ((pt q k).2 < (pt q (nx q.length k)).2))) := rfl
  rw [hcr, e]
  unfold cs
  simp only [a5, a6, a1, a2, a3, a4]
  clear hcr e a1 a2 a3 a4 a5 a6 n1 n2
  generalize pt q k = a at *
  generalize pt q (nx q.length k) = b at *
  have l1 : a.2 = p.2 → tu a b p = (a.1 - p.1) * (b.2 - a.2) := fun h => by unfold tu; rw [h]; grind
  have l2 : b.2 = p.2 → tu a b p = (b.1 - p.1) * (b.2 - a.2) := fun h => by unfold tu; rw [← h]; grind
  have m1 := sgm (a.1 - p.1) (b.2 - a.2)
  have m2 := sgm (b.1 - p.1) (b.2 - a.2)
  have hz : tu a b p = 0 → ¬ ((a.2 ≤ p.2 ∧ p.2 < b.2) ∨ (b.2 ≤ p.2 ∧ p.2 < a.2)) := fun h0 hh => by
    have h1 : turnZ a.1 a.2 b.1 b.2 p.1 p.2 = 0 := h0
    have h2 := on_of_line h1 hh
    unfold onZB inB at ho
    rw [h1] at ho
    simp only [decide_true, Bool.true_and, Bool.and_eq_false_iff, decide_eq_false_iff_not] at ho
    omega
  have hb1 : ∀ x y z w : Prop, ∀ [Decidable x] [Decidable y] [Decidable z] [Decidable w], ((decide x != decide y) && (decide z == decide w)) = decide ((¬ (x ↔ y)) ∧ (z ↔ w)) := fun x y z w => by
    by_cases h1 : x <;> by_cases h2 : y <;> by_cases h3 : z <;> by_cases h4 : w <;> simp [h1, h2, h3, h4]
  rw [hb1, decide_eq_false_iff_not, decide_eq_true_eq]
  clear ho hb1
  generalize tu a b p = t at *
  generalize (a.1 - p.1) * (b.2 - a.2) = s1 at *
  generalize (b.1 - p.1) * (b.2 - a.2) = s2 at *
  rcases Int.lt_trichotomy a.2 p.2 with h1 | h1 | h1 <;> rcases Int.lt_trichotomy b.2 p.2 with h2 | h2 | h2
  · rw [if_neg (by omega), if_neg (by omega)]; omega
  · clear m1 l1; rw [if_neg (by omega)]; split <;> omega
  · clear m1 l1 m2 l2; split
    · omega
    · rw [if_neg (by omega)]; omega
  · clear m2 l2; split
    · omega
    · rw [if_neg (by omega)]; omega
  · rw [if_neg (by omega), if_neg (by omega)]; omega
  · clear m2 l2; split
    · omega
    · split <;> omega
  · clear m1 l1 m2 l2; rw [if_neg (by omega)]; split <;> omega
  · clear m1 l1; split
    · omega
    · split <;> omega
  · rw [if_neg (by omega), if_neg (by omega)]; omega
end
theorem par_sm {f : Nat → Bool} {g : Nat → Int} : ∀ n, (∀ i, i < n → (g i = 0 ∧ f i = false) ∨ ((g i = 1 ∨ g i = -1) ∧ f i = true)) → ((parTo f n = true ∧ sm g n % 2 = 1) ∨ (parTo f n = false ∧ sm g n % 2 = 0))
  | 0, _ => .inr ⟨rfl, rfl⟩
  | n + 1, h => by
    have ih := par_sm n fun i hi => h i (by omega)
    have h1 := h n (by omega)
    rw [parTo_succ, sm]
    rcases h1 with ⟨h1, h2⟩ | ⟨h1, h2⟩
    · rw [h2, h1, if_neg (by decide), Int.add_zero]
      exact ih
    · rw [h2, if_pos rfl]
      rcases ih with ⟨i1, i2⟩ | ⟨i1, i2⟩ <;> rw [i1]
      · exact .inr ⟨rfl, by omega⟩
      · exact .inl ⟨rfl, by omega⟩
theorem off_walls {q : List P} (hs : Sml q) {p : P} (hp : within 1000 p.1 p.2) (ho : ∀ k, k < q.length → onE q p.1 p.2 k = false) : (∀ i, i < q.length → Off (hm MM p) (hv q i) (hv q (nx q.length i))) ∧ (∀ k, k < q.length → (hv q k).2 ≠ (hm MM p).2) := by
  refine ⟨fun i hi => off_hm (by decide) (nr_sml hs hp hi) (nr_sml hs hp (nx_lt (by omega))) (by rw [← onE_onZ hs hp hi]; exact ho i hi), fun k hk => hm_ne (by decide) (nr_sml hs hp hk) ?_⟩
  intro e
  have h := ho k hk
  rw [onE_onZ hs hp hk, ← e] at h
  unfold onZB inB at h
  have h1 : turnZ (pt q k).1 (pt q k).2 (pt q (nx q.length k)).1 (pt q (nx q.length k)).2 (pt q k).1 (pt q k).2 = 0 := tu_fst _ _
  rw [h1] at h
  simp only [decide_true, Bool.true_and, Bool.and_eq_false_iff, decide_eq_false_iff_not] at h
  omega
/-- off the walls the program's answer is the sum's -/
theorem place_wn {q : List P} {ts : List T3} (h : Trg (hv q) q.length ts) (hs : Sml q) {p : P} (hp : within 1000 p.1 p.2) (ho : ∀ k, k < q.length → onE q p.1 p.2 k = false) : (wn (hv q) q.length (hm MM p) = 1 ∧ placeV q p.1 p.2 = 2) ∨ (wn (hv q) q.length (hm MM p) = 0 ∧ placeV q p.1 p.2 = 0) := by
  have hpar := par_sm (f := crI q p.1 p.2) (g := fun i => cs (hm MM p) (hv q i) (hv q (nx q.length i))) q.length fun i hi => cr_cs hs hp hi (ho i hi)
  have e1 : sm (fun i => cs (hm MM p) (hv q i) (hv q (nx q.length i))) q.length = wn (hv q) q.length (hm MM p) := rfl
  rw [e1] at hpar
  have hof := off_walls hs hp ho
  have w1 := wR_off (v := hv q) (n := q.length) hof.2
  have u1 := h.upR (hm MM p)
  have u2 : 0 ≤ wR (hv q) q.length (hm MM p) := by
    rw [← h.sumR]
    exact ss_nn ts fun t ht => (h.nn ht _).1
  rw [placeV_off ho]
  rcases hpar with ⟨h1, h2⟩ | ⟨h1, h2⟩
  · rw [h1, if_pos rfl]
    exact .inl ⟨by omega, rfl⟩
  · rw [h1, if_neg (by decide)]
    exact .inr ⟨by omega, rfl⟩
theorem placeV_one {q : List P} {x y : Int} : placeV q x y = 1 ↔ ∃ k, k < q.length ∧ onE q x y k = true := by
  constructor
  · intro h
    unfold placeV at h
    split at h
    · rename_i h1
      rw [List.any_eq_true] at h1
      obtain ⟨k, hk, h2⟩ := h1
      exact ⟨k, List.mem_range.1 hk, h2⟩
    · split at h <;> omega
  · rintro ⟨k, hk, h⟩
    exact placeV_on hk h
theorem placeV_cases (q : List P) (x y : Int) : placeV q x y = 0 ∨ placeV q x y = 1 ∨ placeV q x y = 2 := by
  unfold placeV
  split
  · exact .inr (.inl rfl)
  · split
    · exact .inr (.inr rfl)
    · exact .inl rfl
theorem off_of_ne {q : List P} {x y : Int} (h : placeV q x y ≠ 1) : ∀ k, k < q.length → onE q x y k = false := fun k hk => by
  cases e : onE q x y k
  · rfl
  · exact absurd (placeV_on hk e) h

end Jor
end Go.Proofs.Ytjccilpjaaiicaa

namespace Go.Proofs.Ytjccilpjaaiicaa
open Go.RowKit

/-- the least and the greatest coordinates of the first k points and of the first one -/
def loX (l : List (Int × Int)) : Nat → Int
  | 0 => gx l 0
  | k + 1 => if gx l k < loX l k then gx l k else loX l k
def loY (l : List (Int × Int)) : Nat → Int
  | 0 => gy l 0
  | k + 1 => if gy l k < loY l k then gy l k else loY l k
def hiX (l : List (Int × Int)) : Nat → Int
  | 0 => gx l 0
  | k + 1 => if hiX l k < gx l k then gx l k else hiX l k
def hiY (l : List (Int × Int)) : Nat → Int
  | 0 => gy l 0
  | k + 1 => if hiY l k < gy l k then gy l k else hiY l k
theorem loX_succ (l : List (Int × Int)) (k : Nat) : loX l (k + 1) = if gx l k < loX l k then gx l k else loX l k := rfl
theorem loY_succ (l : List (Int × Int)) (k : Nat) : loY l (k + 1) = if gy l k < loY l k then gy l k else loY l k := rfl
theorem hiX_succ (l : List (Int × Int)) (k : Nat) : hiX l (k + 1) = if hiX l k < gx l k then gx l k else hiX l k := rfl
theorem hiY_succ (l : List (Int × Int)) (k : Nat) : hiY l (k + 1) = if hiY l k < gy l k then gy l k else hiY l k := rfl
theorem loX_min (l : List (Int × Int)) (k : Nat) : loX l (k + 1) = min (loX l k) (gx l k) := by rw [loX_succ]; split <;> omega
theorem loY_min (l : List (Int × Int)) (k : Nat) : loY l (k + 1) = min (loY l k) (gy l k) := by rw [loY_succ]; split <;> omega
theorem hiX_max (l : List (Int × Int)) (k : Nat) : hiX l (k + 1) = max (hiX l k) (gx l k) := by rw [hiX_succ]; split <;> omega
theorem hiY_max (l : List (Int × Int)) (k : Nat) : hiY l (k + 1) = max (hiY l k) (gy l k) := by rw [hiY_succ]; split <;> omega

theorem box_bd {l : List (Int × Int)} (hf : Fine l) (h0 : 0 < l.length) : ∀ k, k ≤ l.length → (-40 ≤ loX l k ∧ loX l k ≤ 40) ∧ (-40 ≤ loY l k ∧ loY l k ≤ 40) ∧ (-40 ≤ hiX l k ∧ hiX l k ≤ 40) ∧ (-40 ≤ hiY l k ∧ hiY l k ≤ 40) ∧ loX l k ≤ hiX l k ∧ loY l k ≤ hiY l k
  | 0, _ => by
    obtain ⟨⟨a, b⟩, c, d⟩ := hf.bd h0
    unfold loX loY hiX hiY
    omega
  | k + 1, hk => by
    obtain ⟨⟨a, b⟩, c, d⟩ := hf.bd (show k < l.length by omega)
    have ih := box_bd hf h0 k (by omega)
    rw [loX_min, loY_min, hiX_max, hiY_max]
    omega

theorem box_in {l : List (Int × Int)} : ∀ n k, k < n → (loX l n ≤ gx l k ∧ gx l k ≤ hiX l n) ∧ (loY l n ≤ gy l k ∧ gy l k ≤ hiY l n)
  | 0, k, h => by omega
  | n + 1, k, h => by
    rw [loX_min, loY_min, hiX_max, hiY_max]
    by_cases e : k = n
    · subst e; omega
    · have := box_in (l := l) n k (by omega)
      omega

/-- the points of a row from x on, n of them, that lie in l -/
def rowL (l : List (Int × Int)) (y x : Int) : Nat → List (Int × Int)
  | 0 => []
  | n + 1 => if (placeV l (x + n) y != 0) = true then rowL l y x n ++ [(x + n, y)] else rowL l y x n
theorem rowL_succ (l : List (Int × Int)) (y x : Int) (n : Nat) : rowL l y x (n + 1) = if (placeV l (x + n) y != 0) = true then rowL l y x n ++ [(x + n, y)] else rowL l y x n := rfl
theorem rowL_le (l : List (Int × Int)) (y x : Int) : ∀ n, (rowL l y x n).length ≤ n
  | 0 => Nat.le_refl _
  | n + 1 => by
    have := rowL_le l y x n
    rw [rowL_succ]
    split
    · rw [List.length_append]; simp; omega
    · omega
/-- the points of n rows -/
def rowsL (l : List (Int × Int)) (y x : Int) (m : Nat) : Nat → List (Int × Int)
  | 0 => []
  | n + 1 => rowsL l y x m n ++ rowL l (y + n) x m
theorem rowsL_succ (l : List (Int × Int)) (y x : Int) (m n : Nat) : rowsL l y x m (n + 1) = rowsL l y x m n ++ rowL l (y + n) x m := rfl
theorem rowsL_le (l : List (Int × Int)) (y x : Int) (m : Nat) : ∀ n, (rowsL l y x m n).length ≤ n * m
  | 0 => by simp [rowsL]
  | n + 1 => by
    have h1 := rowsL_le l y x m n
    have h2 := rowL_le l (y + n) x m
    rw [rowsL_succ, List.length_append, Nat.add_mul]
    omega
/-- the floor's points -/
def floorL (l : List (Int × Int)) : List (Int × Int) :=
  rowsL l (loY l l.length) (loX l l.length) (hiX l l.length - loX l l.length + 1).toNat (hiY l l.length - loY l l.length + 1).toNat
/-- FloorPoints, as both texts give it -/
def floorV (l : List (Int × Int)) : List (Int × Int) := if roomB l = true then floorL l else []
theorem floorL_le {l : List (Int × Int)} (hf : Fine l) (h0 : 0 < l.length) : (floorL l).length ≤ 6561 := by
  obtain ⟨⟨a1, a2⟩, ⟨b1, b2⟩, ⟨c1, c2⟩, ⟨d1, d2⟩, e1, e2⟩ := box_bd hf h0 l.length (Nat.le_refl _)
  have h := rowsL_le l (loY l l.length) (loX l l.length) (hiX l l.length - loX l l.length + 1).toNat (hiY l l.length - loY l l.length + 1).toNat
  have h2 : (hiY l l.length - loY l l.length + 1).toNat * (hiX l l.length - loX l l.length + 1).toNat ≤ 81 * 81 := Nat.mul_le_mul (by omega) (by omega)
  unfold floorL
  omega
theorem floorV_le (l : List (Int × Int)) : (floorV l).length ≤ 1048576 := by
  unfold floorV
  split
  · rename_i h
    obtain ⟨hf, h3⟩ := roomB_fine h
    have := floorL_le hf (by omega)
    omega
  · simp

end Go.Proofs.Ytjccilpjaaiicaa

