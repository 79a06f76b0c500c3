/- 13 texts joined: TriB TriC TriD Block SightL TriE PlaceW FloorL PickA InTri DiagL SegT SegU. -/
import Derived.Test.YtjccilpjaaiicaaJ4
import Derived.Test.YtjccilpjaaiicaaJ2
import Derived.Test.YtjccilpjaaiicaaJ3
namespace Go.Proofs.Ytjccilpjaaiicaa
namespace Jor

abbrev T3 := Nat × Nat × Nat
/-- the three walls of a triangle of corners -/
def eds (t : T3) : List (Nat × Nat) := [(t.1, t.2.1), (t.2.1, t.2.2), (t.2.2, t.1)]
def gs (g : Nat → Nat → Int) : List (Nat × Nat) → Int
  | [] => 0
  | e :: r => g e.1 e.2 + gs g r
theorem gs_append (g : Nat → Nat → Int) : ∀ a b, gs g (a ++ b) = gs g a + gs g b
  | [], b => by simp [gs]
  | e :: a, b => by simp only [List.cons_append, gs, gs_append g a b]; omega
theorem gs_erase (g : Nat → Nat → Int) (e : Nat × Nat) : ∀ l, e ∈ l → gs g l = g e.1 e.2 + gs g (l.erase e)
  | x :: r, h => by
    by_cases hx : x = e
    · subst hx
      rw [List.erase_cons_head]
      rfl
    · rw [List.erase_cons_tail (by simpa using hx), gs, gs, gs_erase g e r ((List.mem_cons.1 h).resolve_left (Ne.symm hx))]
      omega
/-- each wall goes with its reverse -/
def cnc : Nat → List (Nat × Nat) → Bool
  | _, [] => true
  | 0, _ :: _ => false
  | k + 1, e :: r => r.contains (e.2, e.1) && cnc k (r.erase (e.2, e.1))
theorem cnc_sound {g : Nat → Nat → Int} (hg : ∀ a b, g a b = - g b a) : ∀ k l, cnc k l = true → gs g l = 0
  | _, [], _ => rfl
  | k + 1, e :: r, h => by
    unfold cnc at h
    rw [Bool.and_eq_true, List.contains_iff_mem] at h
    have h1 := gs_erase g (e.2, e.1) r h.1
    have h2 := cnc_sound hg k _ h.2
    have h3 := hg e.1 e.2
    show g e.1 e.2 + gs g r = 0
    simp only at h1
    omega
/-- the polygon's walls, reversed -/
def rw_ (n : Nat) : List (Nat × Nat) := (List.range n).map fun i => (nx n i, i)
theorem gs_map (g : Nat → Nat → Int) (f : Nat → Nat × Nat) : ∀ n, gs g ((List.range n).map f) = sm (fun i => g (f i).1 (f i).2) n
  | 0 => rfl
  | n + 1 => by rw [List.range_succ, List.map_append, gs_append, gs_map g f n, sm]; simp [gs]
theorem gs_rw {g : Nat → Nat → Int} (hg : ∀ a b, g a b = - g b a) (n : Nat) : gs g (rw_ n) = - sm (fun i => g i (nx n i)) n := by
  unfold rw_
  rw [gs_map, ← sm_neg]
  exact sm_congr _ _ n fun i _ => hg _ _
/-- a sum over the triangles -/
def ss (f : T3 → Int) : List T3 → Int
  | [] => 0
  | t :: r => f t + ss f r
theorem gs_eds (g : Nat → Nat → Int) : ∀ ts, gs g (ts.flatMap eds) = ss (fun t => g t.1 t.2.1 + g t.2.1 t.2.2 + g t.2.2 t.1) ts
  | [] => rfl
  | t :: r => by
    rw [List.flatMap_cons, gs_append, gs_eds g r]
    simp only [eds, gs, ss]
    omega
theorem ss_nn {f : T3 → Int} : ∀ ts, (∀ t, t ∈ ts → 0 ≤ f t) → 0 ≤ ss f ts
  | [], _ => Int.le_refl _
  | t :: r, h => by
    have h1 := h t (List.mem_cons_self ..)
    have h2 := ss_nn r fun x hx => h x (List.mem_cons_of_mem _ hx)
    show 0 ≤ f t + ss f r
    omega
theorem ss_one {f : T3 → Int} : ∀ ts, (∀ t, t ∈ ts → 0 ≤ f t) → ∀ a, a ∈ ts → f a ≤ ss f ts
  | t :: r, h, a, ha => by
    have h1 := h t (List.mem_cons_self ..)
    have h2 := ss_nn r fun x hx => h x (List.mem_cons_of_mem _ hx)
    show f a ≤ f t + ss f r
    rcases List.mem_cons.1 ha with rfl | ha
    · omega
    · have := ss_one r (fun x hx => h x (List.mem_cons_of_mem _ hx)) a ha
      omega
theorem ss_two {f : T3 → Int} : ∀ ts, (∀ t, t ∈ ts → 0 ≤ f t) → ∀ a b, a ∈ ts → b ∈ ts → a ≠ b → f a + f b ≤ ss f ts
  | t :: r, h, a, b, ha, hb, hab => by
    have hr : ∀ x, x ∈ r → 0 ≤ f x := fun x hx => h x (List.mem_cons_of_mem _ hx)
    have h1 := h t (List.mem_cons_self ..)
    show f a + f b ≤ f t + ss f r
    rcases List.mem_cons.1 ha with e1 | ha'
    · rcases List.mem_cons.1 hb with e2 | hb'
      · exact absurd (e1.trans e2.symm) hab
      · have := ss_one r hr b hb'
        rw [e1]
        omega
    · rcases List.mem_cons.1 hb with e2 | hb'
      · have := ss_one r hr a ha'
        rw [e2]
        omega
      · have := ss_two r hr a b ha' hb' hab
        omega
theorem ss_pos {f : T3 → Int} : ∀ ts, 0 < ss f ts → ∃ t, t ∈ ts ∧ 0 < f t
  | t :: r, h => by
    by_cases h1 : 0 < f t
    · exact ⟨t, List.mem_cons_self .., h1⟩
    · have h2 : 0 < f t + ss f r := h
      obtain ⟨x, hx, hp⟩ := ss_pos (f := f) r (by omega)
      exact ⟨x, List.mem_cons_of_mem _ hx, hp⟩
theorem ss_congr {f g : T3 → Int} : ∀ ts, (∀ t, t ∈ ts → f t = g t) → ss f ts = ss g ts
  | [], _ => rfl
  | t :: r, h => by
    show f t + ss f r = g t + ss g r
    rw [h t (List.mem_cons_self ..), ss_congr r fun x hx => h x (List.mem_cons_of_mem _ hx)]
theorem ss_const (c : Int) : ∀ ts, ss (fun _ => c) ts = ts.length * c
  | [] => by simp [ss]
  | t :: r => by
    show c + ss (fun _ => c) r = _
    rw [ss_const c r, List.length_cons]
    grind
theorem sm_ss (f : Nat → T3 → Int) (n : Nat) : ∀ ts, sm (fun i => ss (f i) ts) n = ss (fun t => sm (fun i => f i t) n) ts
  | [] => sm_zero n
  | t :: r => by
    show sm (fun i => f i t + ss (f i) r) n = sm (fun i => f i t) n + ss (fun t => sm (fun i => f i t) n) r
    rw [sm_add, sm_ss f n r]

/-- corners i and k follow each other -/
def nbr (n i k : Nat) : Bool := (i + 1) % n == k || (k + 1) % n == i
/-- a wall of some triangle, either way -/
def hasE (ts : List T3) (i k : Nat) : Bool := ts.any fun t => (eds t).contains (i, k)
/-- the corners' pairs that are walls of triangles but no walls of the polygon -/
def chd (n : Nat) (ts : List T3) (i k : Nat) : Bool := decide (i < k) && (!nbr n i k && hasE ts i k)
/-- the pairs of corners, row by row -/
def prs (n : Nat) : List (Nat × Nat) := (List.range n).flatMap fun i => (List.range n).map fun k => (i, k)
/-- triangles that fill a polygon of n corners -/
def certB (n : Nat) (ts : List T3) : Bool :=
  (ts.length + 2 == n) && (cnc 100 (ts.flatMap eds ++ rw_ n) && (ts.all (fun t => decide (t.1 < n) && (decide (t.2.1 < n) && (decide (t.2.2 < n) && (eds t).all (fun e => e.2 == (e.1 + 1) % n || hasE ts e.2 e.1)))) && ((List.range n).all (fun i => hasE ts i ((i + 1) % n)) && decide (n ≤ (prs n).countP (fun e => chd n ts e.1 e.2) + 3))))
structure Cert (n : Nat) (ts : List T3) : Prop where
  len : ts.length + 2 = n
  sum : ∀ g : Nat → Nat → Int, (∀ a b, g a b = - g b a) → ss (fun t => g t.1 t.2.1 + g t.2.1 t.2.2 + g t.2.2 t.1) ts = sm (fun i => g i (nx n i)) n
  lt : ∀ t, t ∈ ts → t.1 < n ∧ t.2.1 < n ∧ t.2.2 < n
  edge : ∀ t, t ∈ ts → ∀ a b, (a, b) ∈ eds t → b = nx n a ∨ ∃ u, u ∈ ts ∧ (b, a) ∈ eds u
  wall : ∀ i, i < n → ∃ t, t ∈ ts ∧ (i, nx n i) ∈ eds t
  chords : n ≤ (prs n).countP (fun e => chd n ts e.1 e.2) + 3
theorem hasE_iff {ts : List T3} {i k : Nat} : hasE ts i k = true ↔ ∃ t, t ∈ ts ∧ (i, k) ∈ eds t := by
  unfold hasE
  simp only [List.any_eq_true, List.contains_iff_mem]
theorem cert_of {n : Nat} {ts : List T3} (h : certB n ts = true) : Cert n ts := by
  unfold certB at h
  simp only [Bool.and_eq_true, beq_iff_eq, List.all_eq_true, decide_eq_true_eq, Bool.or_eq_true, hasE_iff, List.mem_range] at h
  obtain ⟨h1, h2, h3, h4, h5⟩ := h
  refine ⟨h1, fun g hg => ?_, fun t ht => ⟨(h3 t ht).1, (h3 t ht).2.1, (h3 t ht).2.2.1⟩, fun t ht a b he => (h3 t ht).2.2.2 _ he, h4, h5⟩
  have k1 := cnc_sound hg _ _ h2
  rw [gs_append, gs_rw hg, gs_eds] at k1
  omega

/-- t has the corners a, b, c in this order -/
def Rot (t : T3) (a b c : Nat) : Prop := t = (a, b, c) ∨ t = (c, a, b) ∨ t = (b, c, a)
theorem rot_of_eds {t : T3} {a b : Nat} (h : (a, b) ∈ eds t) : ∃ c, Rot t a b c := by
  obtain ⟨x, y, z⟩ := t
  unfold eds at h
  simp only [List.mem_cons, Prod.mk.injEq, List.not_mem_nil, or_false] at h
  unfold Rot
  rcases h with ⟨rfl, rfl⟩ | ⟨rfl, rfl⟩ | ⟨rfl, rfl⟩
  · exact ⟨z, .inl rfl⟩
  · exact ⟨x, .inr (.inl rfl)⟩
  · exact ⟨y, .inr (.inr rfl)⟩
theorem Rot.eds {t : T3} {a b c : Nat} (h : Rot t a b c) : (a, b) ∈ eds t := by
  rcases h with rfl | rfl | rfl <;> simp [Jor.eds]
theorem Rot.rot {t : T3} {a b c : Nat} (h : Rot t a b c) : Rot t b c a := by
  rcases h with rfl | rfl | rfl
  · exact .inr (.inl rfl)
  · exact .inr (.inr rfl)
  · exact .inl rfl
/-- what a triangle of corners counts -/
def trR (v : Nat → P) (p : P) (t : T3) : Int := tR p (v t.1) (v t.2.1) (v t.2.2)
def trL (v : Nat → P) (p : P) (t : T3) : Int := tL p (v t.1) (v t.2.1) (v t.2.2)
def InT (v : Nat → P) (p : P) (t : T3) : Prop := In p (v t.1) (v t.2.1) (v t.2.2)
def tuT (v : Nat → P) (t : T3) : Int := tu (v t.1) (v t.2.1) (v t.2.2)
theorem Rot.trR {t : T3} {a b c : Nat} (h : Rot t a b c) (v : Nat → P) (p : P) : trR v p t = tR p (v a) (v b) (v c) := by
  unfold Jor.trR tR
  rcases h with rfl | rfl | rfl <;> simp only <;> omega
theorem Rot.trL {t : T3} {a b c : Nat} (h : Rot t a b c) (v : Nat → P) (p : P) : trL v p t = tL p (v a) (v b) (v c) := by
  unfold Jor.trL tL
  rcases h with rfl | rfl | rfl <;> simp only <;> omega
theorem Rot.inT {t : T3} {a b c : Nat} (h : Rot t a b c) (v : Nat → P) (p : P) : InT v p t ↔ In p (v a) (v b) (v c) := by
  unfold Jor.InT In
  rcases h with rfl | rfl | rfl <;> simp only <;> (constructor <;> (rintro ⟨h1, h2, h3⟩; exact ⟨by assumption, by assumption, by assumption⟩))
theorem Rot.tuT {t : T3} {a b c : Nat} (h : Rot t a b c) (v : Nat → P) : tuT v t = tu (v a) (v b) (v c) := by
  unfold Jor.tuT
  rcases h with rfl | rfl | rfl <;> simp only
  · rw [tu_rot, tu_rot]
  · rw [tu_rot]
theorem rot_self (t : T3) : Rot t t.1 t.2.1 t.2.2 := .inl rfl

end Jor
end Go.Proofs.Ytjccilpjaaiicaa

namespace Go.Proofs.Ytjccilpjaaiicaa
namespace Jor

structure Trg (v : Nat → P) (n : Nat) (ts : List T3) : Prop where
  hs : Simple v n
  cert : Cert n ts
  pos : ∀ t, t ∈ ts → 0 < tuT v t
  bd : ∃ B : Int, 0 ≤ B ∧ ∀ i, i < n → Bd B (v i) (v (nx n i))

theorem tu_same (a c : P) : tu a a c = 0 := by unfold tu; grind
theorem tu_sc' (D : Int) (v : Nat → P) (t : T3) : tuT (fun i => sc D (v i)) t = D * D * tuT v t := tu_sc D _ _ _
theorem Trg.sc {v : Nat → P} {n : Nat} {ts : List T3} (h : Trg v n ts) {D : Int} (hD : 0 < D) : Trg (fun i => sc D (v i)) n ts := by
  refine ⟨simple_sc hD h.hs, h.cert, fun t ht => by rw [tu_sc']; exact Int.mul_pos (Int.mul_pos hD hD) (h.pos t ht), ?_⟩
  obtain ⟨B, hB, hb⟩ := h.bd
  refine ⟨D * B, Int.mul_nonneg (by omega) hB, fun i hi => ?_⟩
  obtain ⟨h1, h2, h3, h4⟩ := hb i hi
  have k := fun {x : Int} (hx : x ≤ B) => Int.mul_le_mul_of_nonneg_left hx (show 0 ≤ D by omega)
  unfold Bd Jor.sc
  simp only [← Int.mul_sub]
  exact ⟨k h1, k h2, k h3, k h4⟩

section
variable {v : Nat → P} {n : Nat} {ts : List T3} (h : Trg v n ts)
include h
theorem Trg.lt {t : T3} (ht : t ∈ ts) {a b c : Nat} (hr : Rot t a b c) : a < n ∧ b < n ∧ c < n := by
  have := h.cert.lt t ht
  rcases hr with rfl | rfl | rfl <;> simp only at this <;> omega
theorem Trg.tu_pos {t : T3} (ht : t ∈ ts) {a b c : Nat} (hr : Rot t a b c) : 0 < tu (v a) (v b) (v c) := by
  have := h.pos t ht
  rwa [hr.tuT] at this
theorem Trg.ne {t : T3} (ht : t ∈ ts) {a b c : Nat} (hr : Rot t a b c) : a ≠ b ∧ b ≠ c ∧ c ≠ a := by
  have hp := h.tu_pos ht hr
  refine ⟨?_, ?_, ?_⟩
  · rintro rfl; rw [tu_same] at hp; omega
  · rintro rfl; rw [tu_snd] at hp; omega
  · rintro rfl; rw [tu_fst] at hp; omega
theorem Trg.hts {t : T3} (ht : t ∈ ts) {a b c : Nat} (hr : Rot t a b c) : (v a).2 ≠ (v b).2 ∧ (v b).2 ≠ (v c).2 ∧ (v c).2 ≠ (v a).2 := by
  obtain ⟨a1, a2, a3⟩ := h.lt ht hr
  obtain ⟨b1, b2, b3⟩ := h.ne ht hr
  exact ⟨h.hs.hts _ _ a1 a2 b1, h.hs.hts _ _ a2 a3 b2, h.hs.hts _ _ a3 a1 b3⟩
theorem Trg.core {t : T3} (ht : t ∈ ts) {a b c : Nat} (hr : Rot t a b c) (p : P) : (trR v p t = 0 ∨ (trR v p t = 1 ∧ InT v p t)) ∧ (trL v p t = 0 ∨ (trL v p t = 1 ∧ InT v p t)) ∧
    (0 < tu (v b) (v c) p → 0 < tu (v c) (v a) p → 0 < tu (v a) (v b) p → trR v p t = 1 ∧ trL v p t = 1) ∧
    (0 < tu (v b) (v c) p → 0 < tu (v c) (v a) p → tu (v a) (v b) p = 0 → ((v a).2 < p.2 ∧ p.2 < (v b).2 ∧ trR v p t = 0 ∧ trL v p t = 1) ∨ ((v b).2 < p.2 ∧ p.2 < (v a).2 ∧ trR v p t = 1 ∧ trL v p t = 0)) := by
  obtain ⟨n1, n2, n3⟩ := h.hts ht hr
  rw [hr.trR, hr.trL, hr.inT]
  exact tri_core (h.tu_pos ht hr) n1 n2 n3
theorem Trg.nn {t : T3} (ht : t ∈ ts) (p : P) : 0 ≤ trR v p t ∧ 0 ≤ trL v p t := by
  have := h.core ht (rot_self t) p
  obtain ⟨k1, k2, _⟩ := this
  exact ⟨by omega, by omega⟩
theorem Trg.sumR (p : P) : ss (trR v p) ts = wR v n p := h.cert.sum (fun a b => cR p (v a) (v b)) fun a b => cR_swap p (v b) (v a)
theorem Trg.sumL (p : P) : ss (trL v p) ts = wL v n p := h.cert.sum (fun a b => cL p (v a) (v b)) fun a b => cL_swap p (v b) (v a)
theorem Trg.upR (p : P) : wR v n p ≤ 1 := by
  obtain ⟨B, hB, hb⟩ := h.bd
  have := wR_any h.hs hB hb p
  have := lef_two h.hs
  omega
theorem Trg.upL (p : P) : wL v n p ≤ 1 := by
  obtain ⟨B, hB, hb⟩ := h.bd
  have := wL_any h.hs hB hb p
  have := lef_two h.hs
  omega
theorem Trg.oneR {t : T3} (ht : t ∈ ts) (p : P) : trR v p t ≤ wR v n p := by
  rw [← h.sumR]
  exact ss_one ts (fun t ht => (h.nn ht p).1) t ht
theorem Trg.oneL {t : T3} (ht : t ∈ ts) (p : P) : trL v p t ≤ wL v n p := by
  rw [← h.sumL]
  exact ss_one ts (fun t ht => (h.nn ht p).2) t ht
theorem Trg.twoR {t u : T3} (ht : t ∈ ts) (hu : u ∈ ts) (hne : t ≠ u) (p : P) : trR v p t + trR v p u ≤ wR v n p := by
  rw [← h.sumR]
  exact ss_two ts (fun t ht => (h.nn ht p).1) t u ht hu hne
theorem Trg.twoL {t u : T3} (ht : t ∈ ts) (hu : u ∈ ts) (hne : t ≠ u) (p : P) : trL v p t + trL v p u ≤ wL v n p := by
  rw [← h.sumL]
  exact ss_two ts (fun t ht => (h.nn ht p).2) t u ht hu hne
end

/-! ## Where a point of a closed triangle lies -/
theorem bary_fst (a b c p : P) : tu b c p * a.1 + tu c a p * b.1 + tu a b p * c.1 = tu a b c * p.1 := by unfold tu; grind
theorem bary_snd (a b c p : P) : tu b c p * a.2 + tu c a p * b.2 + tu a b p * c.2 = tu a b c * p.2 := by unfold tu; grind
theorem bary_tu (a b c p x y : P) : tu b c p * tu x y a + tu c a p * tu x y b + tu a b p * tu x y c = tu a b c * tu x y p := by unfold tu; grind
theorem vertex {a b c p : P} (ht : 0 < tu a b c) (h1 : tu a b p = 0) (h2 : tu c a p = 0) : p = a := by
  have e := bary1 p a b c
  have e1 := bary_fst a b c p
  have e2 := bary_snd a b c p
  rw [h1, h2] at e e1 e2
  rw [Int.zero_mul, Int.zero_mul] at e1 e2
  have e3 : tu b c p = tu a b c := by omega
  rw [e3] at e1 e2
  have e4 : tu a b c * a.1 = tu a b c * p.1 := by omega
  have e5 : tu a b c * a.2 = tu a b c * p.2 := by omega
  exact Prod.ext (Int.eq_of_mul_eq_mul_left (by omega) e4).symm (Int.eq_of_mul_eq_mul_left (by omega) e5).symm

/-- p lies on the open wall from a to b of a triangle abc -/
def Edge (v : Nat → P) (p : P) (a b c : Nat) : Prop := 0 < tu (v b) (v c) p ∧ 0 < tu (v c) (v a) p ∧ tu (v a) (v b) p = 0
section
variable {v : Nat → P} {n : Nat} {ts : List T3} (h : Trg v n ts)
include h
theorem Trg.where {t : T3} (ht : t ∈ ts) {p : P} (hp : InT v p t) : (0 < tu (v t.2.1) (v t.2.2) p ∧ 0 < tu (v t.2.2) (v t.1) p ∧ 0 < tu (v t.1) (v t.2.1) p) ∨ (∃ a b c, Rot t a b c ∧ Edge v p a b c) ∨ (∃ a b c, Rot t a b c ∧ p = v a) := by
  have h0 := h.pos t ht
  have hr0 := rot_self t
  have hr1 := hr0.rot
  have hr2 := hr1.rot
  have p0 := h.tu_pos ht hr0
  have p1 := h.tu_pos ht hr1
  have p2 := h.tu_pos ht hr2
  obtain ⟨h1, h2, h3⟩ := hp
  have e := bary1 p (v t.1) (v t.2.1) (v t.2.2)
  by_cases z1 : tu (v t.1) (v t.2.1) p = 0
  · by_cases z2 : tu (v t.2.1) (v t.2.2) p = 0
    · exact .inr (.inr ⟨_, _, _, hr1, vertex p1 z2 z1⟩)
    · by_cases z3 : tu (v t.2.2) (v t.1) p = 0
      · exact .inr (.inr ⟨_, _, _, hr0, vertex p0 z1 z3⟩)
      · exact .inr (.inl ⟨_, _, _, hr0, by omega, by omega, z1⟩)
  · by_cases z2 : tu (v t.2.1) (v t.2.2) p = 0
    · by_cases z3 : tu (v t.2.2) (v t.1) p = 0
      · exact .inr (.inr ⟨_, _, _, hr2, vertex p2 z3 z2⟩)
      · exact .inr (.inl ⟨_, _, _, hr1, by omega, by omega, z2⟩)
    · by_cases z3 : tu (v t.2.2) (v t.1) p = 0
      · exact .inr (.inl ⟨_, _, _, hr2, by omega, by omega, z3⟩)
      · exact .inl ⟨by omega, by omega, by omega⟩
/-- an edge that is no wall of the polygon has a triangle on its other side -/
theorem Trg.twin {t : T3} (ht : t ∈ ts) {p : P} {a b c : Nat} (hr : Rot t a b c) (he : Edge v p a b c) (hw : b ≠ nx n a) : ∃ u d, u ∈ ts ∧ u ≠ t ∧ Rot u b a d ∧ Edge v p b a d ∧ trR v p t + trR v p u = 1 ∧ trL v p t + trL v p u = 1 := by
  rcases h.cert.edge t ht a b hr.eds with hb | ⟨u, hu, hue⟩
  · exact absurd hb hw
  · obtain ⟨d, hd⟩ := rot_of_eds hue
    have q1 := h.tu_pos ht hr
    have q2 := h.tu_pos hu hd
    have c1 := h.core ht hr p
    obtain ⟨e1, e2, e3⟩ := he
    have b1 := bary_tu (v a) (v b) (v c) p (v a) (v d)
    have b2 := bary_tu (v a) (v b) (v c) p (v d) (v b)
    rw [e3, tu_fst, Int.mul_zero, Int.zero_mul, Int.zero_add, Int.add_zero] at b1
    rw [e3, tu_snd, Int.mul_zero, Int.zero_mul, Int.add_zero, Int.add_zero] at b2
    have r1 : tu (v a) (v d) (v b) = tu (v b) (v a) (v d) := by rw [tu_rot]
    have r2 : tu (v d) (v b) (v a) = tu (v b) (v a) (v d) := by rw [tu_rot, tu_rot]
    rw [r1] at b1
    rw [r2] at b2
    have f1 : 0 < tu (v a) (v d) p := pos_of_mul q1 (by rw [Int.mul_comm, ← b1]; exact Int.mul_pos e2 q2)
    have f2 : 0 < tu (v d) (v b) p := pos_of_mul q1 (by rw [Int.mul_comm, ← b2]; exact Int.mul_pos e1 q2)
    have f3 : tu (v b) (v a) p = 0 := by rw [tu_swap, e3]; rfl
    have c2 := h.core hu hd p
    have k1 := c1.2.2.2 e1 e2 e3
    have k2 := c2.2.2.2 f1 f2 f3
    refine ⟨u, d, hu, ?_, hd, ⟨f1, f2, f3⟩, ?_, ?_⟩
    · rintro rfl
      clear c1 c2
      omega
    · clear c1 c2; omega
    · clear c1 c2; omega
/-- a point of a closed triangle on a wall of the polygon: the wall is the triangle's -/
theorem Trg.on_wall {t : T3} (ht : t ∈ ts) {p : P} (hp : InT v p t) (hg : ∀ k, k < n → (v k).2 ≠ p.2) {k : Nat} (hk : k < n) (ho : On p (v k) (v (nx n k))) : ∃ c, Rot t k (nx n k) c ∧ Edge v p k (nx n k) c := by
  have d := wLR_on h.hs hk hg ho
  have d2 : wL v n p - wR v n p = 1 ∨ wL v n p - wR v n p = -1 := by
    split at d <;> omega
  have u1 := h.upR p
  have u2 := h.upL p
  rcases h.where ht hp with ⟨z2, z3, z1⟩ | ⟨a, b, c, hr, he⟩ | ⟨a, b, c, hr, rfl⟩
  · have c1 := (h.core ht (rot_self t) p).2.2.1 z2 z3 z1
    have := h.oneR ht p
    have := h.oneL ht p
    omega
  · by_cases hb : b = nx n a
    · subst hb
      by_cases hak : a = k
      · subst hak
        exact ⟨c, hr, he⟩
      · have c1 := (h.core ht hr p).2.2.2 he.1 he.2.1 he.2.2
        have hoa : On p (v a) (v (nx n a)) := ⟨by clear d d2; omega, he.2.2⟩
        have := h.hs.off_on (h.lt ht hr).1 hk (Ne.symm hak) hoa
        exact absurd ho.2 (this ho.1)
    · obtain ⟨u, d', hu, hne, _, _, s1, s2⟩ := h.twin ht hr he hb
      have := h.twoR ht hu hne.symm p
      have := h.twoL ht hu hne.symm p
      omega
  · exact absurd rfl (hg a (h.lt ht hr).1)
/-- a point of a closed triangle off the walls lies inside the polygon -/
theorem Trg.in_off {t : T3} (ht : t ∈ ts) {p : P} (hp : InT v p t) (hg : ∀ k, k < n → (v k).2 ≠ p.2) (ho : ∀ i, i < n → Off p (v i) (v (nx n i))) : wn v n p = 1 := by
  have w1 := wR_off (v := v) hg
  have w2 := wL_off (v := v) hg ho
  have u1 := h.upR p
  have u2 := h.oneR ht p
  have u3 := h.oneL ht p
  rcases h.where ht hp with ⟨z2, z3, z1⟩ | ⟨a, b, c, hr, he⟩ | ⟨a, b, c, hr, rfl⟩
  · have c1 := (h.core ht (rot_self t) p).2.2.1 z2 z3 z1
    omega
  · have c1 := (h.core ht hr p).2.2.2 he.1 he.2.1 he.2.2
    omega
  · exact absurd rfl (hg a (h.lt ht hr).1)
end

end Jor
end Go.Proofs.Ytjccilpjaaiicaa

namespace Go.Proofs.Ytjccilpjaaiicaa
namespace Jor

/-- a place near j, in the multiplied plane, on the way into the triangle -/
def nearP (D : Int) (x y z : P) : P := ((D - 2) * x.1 + y.1 + z.1, (D - 2) * x.2 + y.2 + z.2)
theorem tu_near (D : Int) (a b x y z : P) : tu (sc D a) (sc D b) (nearP D x y z) = D * ((D - 2) * tu a b x + tu a b y + tu a b z) := by
  unfold tu sc nearP
  grind
theorem near_pos {D s k l : Int} (hD : 2 < D) (hs : 0 < s) (hb : -(D - 3) ≤ k + l) : 0 < (D - 2) * s + k + l := by
  have := Int.mul_le_mul_of_nonneg_left (show 1 ≤ s by omega) (show 0 ≤ D - 2 by omega)
  omega
def ab (x : Int) : Int := (x.natAbs : Int)
theorem ab_bd (x : Int) : -(ab x) ≤ x ∧ x ≤ ab x ∧ 0 ≤ ab x := by unfold ab; omega

section
variable {v : Nat → P} {n : Nat} {ts : List T3} (h : Trg v n ts)
include h
/-- no corner lies in a triangle but its own -/
theorem Trg.no_corner {t : T3} (ht : t ∈ ts) {j : Nat} (hj : j < n) (hp : InT v (v j) t) : ∃ a b, Rot t j a b := by
  rcases h.where ht hp with hstr | ⟨a, b, c, hr, he⟩ | ⟨a, b, c, hr, hv⟩
  · -- strictly inside
    exfalso
    obtain ⟨g2, g3, g1⟩ := hstr
    obtain ⟨u, hu, hue⟩ := h.cert.wall j hj
    obtain ⟨d, hd⟩ := rot_of_eds hue
    have hne : t ≠ u := by
      rintro rfl
      rcases hd with e | e | e
      · rw [e] at g1 g2 g3; simp only at g1 g2 g3; rw [tu_fst] at g1; omega
      · rw [e] at g1 g2 g3; simp only at g1 g2 g3; rw [tu_snd] at g1; omega
      · rw [e] at g1 g2 g3; simp only at g1 g2 g3; rw [tu_snd] at g2; omega
    have hp2 := h.tu_pos hu hd
    obtain ⟨a, b, c⟩ := t
    simp only at g1 g2 g3
    obtain ⟨D, hD⟩ : ∃ D : Int, D = 3 + (ab (tu (v a) (v b) (v (nx n j))) + ab (tu (v a) (v b) (v d))) + (ab (tu (v b) (v c) (v (nx n j))) + ab (tu (v b) (v c) (v d))) + (ab (tu (v c) (v a) (v (nx n j))) + ab (tu (v c) (v a) (v d))) := ⟨_, rfl⟩
    have a1 := ab_bd (tu (v a) (v b) (v (nx n j)))
    have a2 := ab_bd (tu (v a) (v b) (v d))
    have a3 := ab_bd (tu (v b) (v c) (v (nx n j)))
    have a4 := ab_bd (tu (v b) (v c) (v d))
    have a5 := ab_bd (tu (v c) (v a) (v (nx n j)))
    have a6 := ab_bd (tu (v c) (v a) (v d))
    have hD3 : 2 < D := by omega
    have hs := h.sc (D := D) (by omega)
    have q1 := near_pos (D := D) (k := tu (v a) (v b) (v (nx n j))) (l := tu (v a) (v b) (v d)) hD3 g1 (by omega)
    have q2 := near_pos (D := D) (k := tu (v b) (v c) (v (nx n j))) (l := tu (v b) (v c) (v d)) hD3 g2 (by omega)
    have q3 := near_pos (D := D) (k := tu (v c) (v a) (v (nx n j))) (l := tu (v c) (v a) (v d)) hD3 g3 (by omega)
    have c1 := (hs.core ht (rot_self (a, b, c)) (nearP D (v j) (v (nx n j)) (v d))).2.2.1 (by rw [tu_near]; exact Int.mul_pos (by omega) q2) (by rw [tu_near]; exact Int.mul_pos (by omega) q3) (by rw [tu_near]; exact Int.mul_pos (by omega) q1)
    have c2 := (hs.core hu hd (nearP D (v j) (v (nx n j)) (v d))).2.2.1 (by rw [tu_near, tu_fst, tu_snd, tu_rot]; exact Int.mul_pos (by omega) (by have := Int.mul_pos (show 0 < D - 2 by omega) hp2; omega)) (by rw [tu_near, tu_fst, tu_snd, tu_rot, tu_rot]; exact Int.mul_pos (by omega) (by omega)) (by rw [tu_near, tu_fst, tu_snd]; exact Int.mul_pos (by omega) (by omega))
    have := hs.twoR ht hu hne (nearP D (v j) (v (nx n j)) (v d))
    have := hs.upR (nearP D (v j) (v (nx n j)) (v d))
    omega
  · -- on an edge
    exfalso
    obtain ⟨u, hu, hue⟩ := h.cert.wall j hj
    obtain ⟨d, hd⟩ := rot_of_eds hue
    have hp2 := h.tu_pos hu hd
    have ha := (h.lt ht hr).1
    have hja : j ≠ a := by rintro rfl; have := he.2.1; rw [tu_snd] at this; omega
    have hjb : j ≠ b := by rintro rfl; have := he.1; rw [tu_fst] at this; omega
    have hob : On (v j) (v a) (v b) := ⟨by have := (h.core ht hr (v j)).2.2.2 he.1 he.2.1 he.2.2; omega, he.2.2⟩
    have hw : b ≠ nx n a := by
      rintro rfl
      exact absurd hob.2 (h.hs.off a j ha hj hja hjb hob.1)
    obtain ⟨w, e, hw1, hw2, hw3, hw4, _, _⟩ := h.twin ht hr he hw
    have main : ∀ (t : T3) (a b c : Nat), t ∈ ts → Rot t a b c → Edge v (v j) a b c → 0 ≤ tu (v a) (v b) (v (nx n j)) + tu (v a) (v b) (v d) → False := by
      intro t a b c ht hr he hs0
      obtain ⟨g2, g3, g1⟩ := he
      have hne : t ≠ u := by
        rintro rfl
        have k : j = a ∨ j = b ∨ j = c := by
          rcases hr with e1 | e1 | e1 <;> rcases hd with e2 | e2 | e2 <;> (rw [e1] at e2; simp only [Prod.mk.injEq] at e2; omega)
        rcases k with rfl | rfl | rfl
        · rw [tu_snd] at g3; omega
        · rw [tu_fst] at g2; omega
        · have := h.tu_pos ht hr; omega
      obtain ⟨D, hD⟩ : ∃ D : Int, D = 3 + (ab (tu (v b) (v c) (v (nx n j))) + ab (tu (v b) (v c) (v d))) + (ab (tu (v c) (v a) (v (nx n j))) + ab (tu (v c) (v a) (v d))) := ⟨_, rfl⟩
      have a3 := ab_bd (tu (v b) (v c) (v (nx n j)))
      have a4 := ab_bd (tu (v b) (v c) (v d))
      have a5 := ab_bd (tu (v c) (v a) (v (nx n j)))
      have a6 := ab_bd (tu (v c) (v a) (v d))
      have hD3 : 2 < D := by omega
      have hs := h.sc (D := D) (by omega)
      have q2 := near_pos (D := D) (k := tu (v b) (v c) (v (nx n j))) (l := tu (v b) (v c) (v d)) hD3 g2 (by omega)
      have q3 := near_pos (D := D) (k := tu (v c) (v a) (v (nx n j))) (l := tu (v c) (v a) (v d)) hD3 g3 (by omega)
      have q2' := Int.mul_pos (show 0 < D by omega) q2
      have q3' := Int.mul_pos (show 0 < D by omega) q3
      rw [← tu_near] at q2' q3'
      have c2 := (hs.core hu hd (nearP D (v j) (v (nx n j)) (v d))).2.2.1 (by rw [tu_near, tu_fst, tu_snd, tu_rot]; exact Int.mul_pos (by omega) (by have := Int.mul_pos (show 0 < D - 2 by omega) hp2; omega)) (by rw [tu_near, tu_fst, tu_snd, tu_rot, tu_rot]; exact Int.mul_pos (by omega) (by omega)) (by rw [tu_near, tu_fst, tu_snd]; exact Int.mul_pos (by omega) (by omega))
      have t1 := hs.twoR ht hu hne (nearP D (v j) (v (nx n j)) (v d))
      have t2 := hs.twoL ht hu hne (nearP D (v j) (v (nx n j)) (v d))
      have t3 := hs.upR (nearP D (v j) (v (nx n j)) (v d))
      have t4 := hs.upL (nearP D (v j) (v (nx n j)) (v d))
      have e1 : tu (Jor.sc D (v a)) (Jor.sc D (v b)) (nearP D (v j) (v (nx n j)) (v d)) = D * (tu (v a) (v b) (v (nx n j)) + tu (v a) (v b) (v d)) := by
        rw [tu_near, g1, Int.mul_zero, Int.zero_add]
      rcases Int.lt_trichotomy (tu (v a) (v b) (v (nx n j)) + tu (v a) (v b) (v d)) 0 with hlt | hz | hgt
      · omega
      · rw [hz, Int.mul_zero] at e1
        have c1 := (hs.core ht hr (nearP D (v j) (v (nx n j)) (v d))).2.2.2 q2' q3' e1
        clear a3 a4 a5 a6 hD q2 q3 q2' q3'
        omega
      · have c1 := (hs.core ht hr (nearP D (v j) (v (nx n j)) (v d))).2.2.1 q2' q3' (by rw [e1]; exact Int.mul_pos (by omega) hgt)
        omega
    rcases Int.lt_or_le (tu (v a) (v b) (v (nx n j)) + tu (v a) (v b) (v d)) 0 with hlt | hge
    · exact main w b a e hw1 hw3 hw4 (by rw [tu_swap (v a) (v b), tu_swap (v a) (v b)]; omega)
    · exact main t a b c ht hr he hge
  · have : j = a := by
      by_cases e : j = a
      · exact e
      · exact absurd (congrArg Prod.snd hv) (h.hs.hts j a hj (h.lt ht hr).1 e)
    subst this
    exact ⟨b, c, hr⟩

omit h in
theorem sm_three {f : Nat → Int} {a b c n : Nat} (ha : a < n) (hb : b < n) (hc : c < n) (h1 : a ≠ b) (h2 : b ≠ c) (h3 : c ≠ a) (hz : ∀ i, i < n → i ≠ a → i ≠ b → i ≠ c → f i = 0) : sm f n = f a + f b + f c := by
  have e : sm f n = sm (fun i => if i = a then f a else 0) n + sm (fun i => if i = a then 0 else f i) n := by
    rw [← sm_add]
    refine sm_congr _ _ n fun i _ => ?_
    by_cases e1 : i = a
    · subst e1; simp
    · simp [e1]
  rw [e, sm_one (f := fun i => if i = a then f a else 0) n ha (fun i _ hi => by simp [hi]), sm_two (f := fun i => if i = a then 0 else f i) hb hc h2 (fun i hi e1 e2 => by
    by_cases e3 : i = a
    · simp [e3]
    · simp [e3, hz i hi e3 e1 e2])]
  simp [Ne.symm h1, h3]
  omega
/-- over the corners each triangle counts one -/
theorem Trg.corners : sm (fun j => wR v n (v j) + wL v n (v j)) n = (n : Int) - 2 := by
  have e : ∀ j, wR v n (v j) + wL v n (v j) = ss (trR v (v j)) ts + ss (trL v (v j)) ts := fun j => by rw [h.sumR, h.sumL]
  rw [sm_congr _ _ n fun j _ => e j, sm_add, sm_ss (fun j t => trR v (v j) t), sm_ss (fun j t => trL v (v j) t)]
  have e2 : ∀ l : List T3, ss (fun t => sm (fun j => trR v (v j) t) n) l + ss (fun t => sm (fun j => trL v (v j) t) n) l = ss (fun t => sm (fun j => trR v (v j) t + trL v (v j) t) n) l := by
    intro l
    induction l with
    | nil => rfl
    | cons t r ih =>
      simp only [ss]
      rw [sm_add]
      omega
  rw [e2, ss_congr (g := fun _ => 1) ts ?_, ss_const]
  · have := h.cert.len
    omega
  · intro t ht
    obtain ⟨l1, l2, l3⟩ := h.lt ht (rot_self t)
    obtain ⟨n1, n2, n3⟩ := h.ne ht (rot_self t)
    obtain ⟨g1, g2, g3⟩ := h.hts ht (rot_self t)
    rw [sm_three l1 l2 l3 n1 n2 n3 ?_]
    · exact tri_corners (h.tu_pos ht (rot_self t)) g1 g2 g3
    · intro i hi e1 e2 e3
      have c := h.core ht (rot_self t) (v i)
      have hno : ¬ InT v (v i) t := fun hin => by
        obtain ⟨a, b, hr⟩ := h.no_corner ht hi hin
        rcases hr with e | e | e
        · exact e1 (by rw [e])
        · exact e2 (by rw [e])
        · exact e3 (by rw [e])
      have c1 := c.1
      have c2 := c.2.1
      clear c
      have d1 : trR v (v i) t = 0 := by
        rcases c1 with c1 | ⟨_, c1⟩
        · exact c1
        · exact absurd c1 hno
      have d2 : trL v (v i) t = 0 := by
        rcases c2 with c2 | ⟨_, c2⟩
        · exact c2
        · exact absurd c2 hno
      rw [d1, d2]
      rfl
end

end Jor
end Go.Proofs.Ytjccilpjaaiicaa

namespace Go.Proofs.Ytjccilpjaaiicaa
open Go.RowKit

/-- the first from k on, of d, that p holds of -/
def firstP (p : Nat → Bool) : Nat → Nat → Int
  | _, 0 => -1
  | k, d + 1 => if p k = true then (k : Int) else firstP p (k + 1) d
theorem firstP_at (p : Nat → Bool) : ∀ d k m, k ≤ m → m < k + d → (∀ j, k ≤ j → j < m → p j = false) → p m = true → firstP p k d = (m : Int)
  | 0, k, m, h1, h2, _, _ => by omega
  | d + 1, k, m, h1, h2, h3, h4 => by
    unfold firstP
    by_cases e : k = m
    · subst e; rw [if_pos h4]
    · rw [if_neg (by rw [h3 k (Nat.le_refl _) (by omega)]; decide)]
      exact firstP_at p d (k + 1) m (by omega) (by omega) (fun j a b => h3 j (by omega) b) h4
theorem firstP_no (p : Nat → Bool) : ∀ d k, (∀ j, k ≤ j → j < k + d → p j = false) → firstP p k d = -1
  | 0, _, _ => rfl
  | d + 1, k, h => by
    unfold firstP
    rw [if_neg (by rw [h k (Nat.le_refl _) (by omega)]; decide)]
    exact firstP_no p d (k + 1) (fun j a b => h j (by omega) (by omega))

/-- whether a line crosses wall k -/
def crsE (l : List (Int × Int)) (ax ay bx by_ : Int) (k : Nat) : Bool := crossB (gx l k) (gy l k) (gx l (nx l k)) (gy l (nx l k)) ax ay bx by_
/-- BlockingWall, as both texts give it -/
def blockV (l : List (Int × Int)) (ax ay bx by_ : Int) : Int := if (ax == bx && ay == by_) = true ∨ isInV l ax ay = false ∨ isInV l bx by_ = false then -1 else firstP (crsE l ax ay bx by_) 0 l.length

theorem isIn_iff {l : List (Int × Int)} {x y : Int} : isInV l x y = true ↔ pok x y = true ∧ roomB l = true ∧ (placeV l x y != 0) = true := by
  unfold isInV placeInV
  cases pok x y <;> cases roomB l <;> simp
/-- whether every point of a list lies in a room -/
def allInV (l ps : List (Int × Int)) : Bool := (List.range ps.length).all (fun k => pok (gx ps k) (gy ps k) && (placeV l (gx ps k) (gy ps k) != 0)) && roomB l

set_option maxRecDepth 100000 in
set_option maxHeartbeats 1600000 in
theorem allIn_any (A B : Option Addr) (l ps : List (Int × Int)) (c d : Nat) (w : World) (hp : RPts w A l) (hq : RPts w B ps) (hn : l.length ≤ 1048576) (hm : ps.length ≤ 1048576) :
    Calls Try.prog 21 #[.agg #[.slice A l.length c], .slice B ps.length d] w fun e w' => e = .returned (.bool (allInV l ps)) ∧ Ext w w' := by
  have HB : Hid (∀ w', Ext (w.alloc (.cells #[.slice A l.length c] 26)) w' → w'.cell? ⟨w.heap.size, 0, none⟩ = some (.slice A l.length c) ∧ w.heap.size < w'.heap.size) := fun w' hx => by
    and_intros <;> (first | (have hz := hx.size; simp at hz; omega) | ((first | rw [hx.cells _ _ (by first | (simp; done) | (simp; omega))] | rw [hx.frozens _ _ (by first | (simp; done) | (simp; omega))]); (first | (simp [go_sem]; done) | (simp [go_sem, World.cell?_alloc_past]; done) | (simp [go_sem, World.frozen?]; done))))
  go_enter Try.func21, Try.ntmps21
  go_wp2
  go_loopw [9] (fun i wr => ∃ k : Nat, k ≤ ps.length ∧ i = .int .i64 k ∧ Ext (w.alloc (.cells #[.slice A l.length c] 26)) wr ∧ Hid (∀ j, j < k → (pok (gx ps j) (gy ps j) && (placeV l (gx ps j) (gy ps j) != 0)) = true)) (fun i _ => ps.length - (intOf i).toNat)
  case atStart => exact ⟨0, Nat.zero_le _, rfl, by (repeat (first | exact Ext.refl _ | assumption | apply Ext.alloc | apply Ext.drew | apply Ext.drewN | (refine Ext.trans ?_ (by assumption)))), hide (fun j hj => absurd hj (by omega))⟩
  case round =>
    obtain ⟨k, hk, rfl, hbl, HR⟩ := hrel
    obtain ⟨wq, rfl⟩ : ∃ wq : World, wq = wr := ⟨_, rfl⟩
    have fb := HB.out wq hbl
    by_cases hlt : k < ps.length
    · have q2 : (k : Int) < (ps.length : Int) := by omega
      obtain ⟨b, off, rfl⟩ := hq.some_ (by omega)
      obtain ⟨hz, hx, hy⟩ := (hq.ext (show Ext w wq by (repeat (first | exact Ext.refl _ | assumption | apply Ext.alloc | apply Ext.drew | apply Ext.drewN | (refine Ext.trans ?_ (by assumption)))))).cell hlt
      obtain ⟨px, hpx⟩ : ∃ x, x = gx ps k := ⟨_, rfl⟩
      obtain ⟨py, hpy⟩ : ∃ x, x = gy ps k := ⟨_, rfl⟩
      rw [← hpx] at hx
      rw [← hpy] at hy
      have HX := hide hpx
      have HY := hide hpy
      clear hpx hpy
      have HQ : Hid (∀ w', Ext (wq.alloc (.cells #[.int .i64 px, .int .i64 py] 28)) w' → w'.cell? ⟨wq.heap.size, 0, none⟩ = some (.int .i64 px) ∧ w'.cell? ⟨wq.heap.size, 1, none⟩ = some (.int .i64 py) ∧ wq.heap.size < w'.heap.size) := fun w' hx => by
        and_intros <;> (first | (have hz := hx.size; simp at hz; omega) | ((first | rw [hx.cells _ _ (by first | (simp; done) | (simp; omega))] | rw [hx.frozens _ _ (by first | (simp; done) | (simp; omega))]); (first | (simp [go_sem]; done) | (simp [go_sem, World.cell?_alloc_past]; done) | (simp [go_sem, World.frozen?]; done))))
      cases hv : (pok px py && (placeV l px py != 0))
      · have HV := hide (show allInV l ps = false by
          unfold allInV
          rw [List.all_eq_false.2 ⟨k, List.mem_range.2 hlt, by rw [← HX.out, ← HY.out, hv]; decide⟩]
          rfl)
        cases h1 : pok px py
        · go_wp2_with (go_at_call 41; refine (pok_any _ _ _).mono ?_; rw [h1]; rintro e w1 ⟨rfl, hb1⟩)
          go_ret
          exact ⟨by rw [HV.out]; rfl, by (repeat (first | exact Ext.refl _ | assumption | apply Ext.alloc | apply Ext.drew | apply Ext.drewN | (refine Ext.trans ?_ (by assumption))))⟩
        · have h2 : placeV l px py = 0 := by simpa [h1] using hv
          clear hv
          go_wp2_with (first | (go_at_call 41; refine (pok_any _ _ _).mono ?_; rw [h1]; rintro e w1 ⟨rfl, hb1⟩; have f1 := HB.out w1 (by (repeat (first | exact Ext.refl _ | assumption | apply Ext.alloc | apply Ext.drew | apply Ext.drewN | (refine Ext.trans ?_ (by assumption))))); have g1 := HQ.out w1 (by (repeat (first | exact Ext.refl _ | assumption | apply Ext.alloc | apply Ext.drew | apply Ext.drewN | (refine Ext.trans ?_ (by assumption)))))) | (go_at_call 42; refine (place_any _ _ _ _ _ _ (hp.ext (by (repeat (first | exact Ext.refl _ | assumption | apply Ext.alloc | apply Ext.drew | apply Ext.drewN | (refine Ext.trans ?_ (by assumption)))))) hn).mono ?_; rw [h2]; rintro e w2 ⟨rfl, hb2⟩))
          go_ret
          exact ⟨by rw [HV.out]; rfl, by (repeat (first | exact Ext.refl _ | assumption | apply Ext.alloc | apply Ext.drew | apply Ext.drewN | (refine Ext.trans ?_ (by assumption))))⟩
      · have h1 : pok px py = true := (Bool.and_eq_true _ _ ▸ hv).1
        have h2 : (placeV l px py == 0) = false := by have := (Bool.and_eq_true _ _ ▸ hv).2; simpa using this
        have HV := hide hv
        clear hv
        go_wp2_with (first | (go_at_call 41; refine (pok_any _ _ _).mono ?_; rw [h1]; rintro e w1 ⟨rfl, hb1⟩; have f1 := HB.out w1 (by (repeat (first | exact Ext.refl _ | assumption | apply Ext.alloc | apply Ext.drew | apply Ext.drewN | (refine Ext.trans ?_ (by assumption))))); have g1 := HQ.out w1 (by (repeat (first | exact Ext.refl _ | assumption | apply Ext.alloc | apply Ext.drew | apply Ext.drewN | (refine Ext.trans ?_ (by assumption)))))) | (go_at_call 42; refine (place_any _ _ _ _ _ _ (hp.ext (by (repeat (first | exact Ext.refl _ | assumption | apply Ext.alloc | apply Ext.drew | apply Ext.drewN | (refine Ext.trans ?_ (by assumption)))))) hn).mono ?_; rintro e w2 ⟨rfl, hb2⟩))
        go_roundw
        case rel => exact ⟨k + 1, by omega, by go_num, by (repeat (first | exact Ext.refl _ | assumption | apply Ext.alloc | apply Ext.drew | apply Ext.drewN | (refine Ext.trans ?_ (by assumption)))), hide (fun j hj => by by_cases e : j = k; (subst e; rw [← HX.out, ← HY.out]; exact HV.out); exact HR.out j (by omega))⟩
        case measure => simp [intOf]; omega
    · have q2 : ¬ (k : Int) < (ps.length : Int) := by omega
      have HV := hide (show allInV l ps = roomB l by
        unfold allInV
        rw [List.all_eq_true.2 (fun j hj => HR.out j (by have := List.mem_range.1 hj; omega))]
        rfl)
      go_wp2_with (go_at_call 17; refine (RoomOk_any _ _ _ _ (hp.ext (by (repeat (first | exact Ext.refl _ | assumption | apply Ext.alloc | apply Ext.drew | apply Ext.drewN | (refine Ext.trans ?_ (by assumption)))))) hn).mono ?_; rintro e w1 ⟨rfl, hb1⟩)
      go_ret
      exact ⟨by rw [HV.out]; rfl, by (repeat (first | exact Ext.refl _ | assumption | apply Ext.alloc | apply Ext.drew | apply Ext.drewN | (refine Ext.trans ?_ (by assumption))))⟩

theorem allIn_two (l : List (Int × Int)) (ax ay bx by_ : Int) : allInV l [(ax, ay), (bx, by_)] = (isInV l ax ay && isInV l bx by_) := by
  have h : ∀ x y, isInV l x y = (pok x y && (roomB l && (placeV l x y != 0))) := fun x y => by
    unfold isInV placeInV
    cases pok x y <;> cases roomB l <;> simp
  unfold allInV
  rw [h, h]
  have e : List.range ([(ax, ay), (bx, by_)] : List (Int × Int)).length = [0, 1] := rfl
  rw [e]
  simp only [List.all_cons, List.all_nil, gx, gy, List.getD_cons_zero, List.getD_cons_succ]
  cases pok ax ay <;> cases pok bx by_ <;> cases roomB l <;> simp

theorem rpts_two (w : World) (ax ay bx by_ : Int) (T : TypeId) : RPts (w.alloc (.cells #[.int .i64 ax, .int .i64 ay, .int .i64 bx, .int .i64 by_] T)) (some ⟨w.heap.size, 0, none⟩) [(ax, ay), (bx, by_)] := fun _ => by
  have h := heap_alloc_new w (.cells #[.int .i64 ax, .int .i64 ay, .int .i64 bx, .int .i64 by_] T)
  refine ⟨w.heap.size, 0, rfl, Nat.zero_le _, by simp, fun k hk => ?_⟩
  have hk2 : k = 0 ∨ k = 1 := by simp at hk; omega
  rcases hk2 with rfl | rfl <;> (unfold World.cell?; simp only [h]; exact ⟨rfl, rfl⟩)

theorem cross_room {l : List (Int × Int)} {ax ay bx by_ : Int} (hr : roomB l = true) (ha : pok ax ay = true) (hb : pok bx by_ = true) (hs : (ax == bx && ay == by_) = false) {k : Nat} (hk : k < l.length) : doCrossV ax ay bx by_ (gx l k) (gy l k) (gx l (nx l k)) (gy l (nx l k)) = crsE l ax ay bx by_ k := by
  have h1 : wok ax ay bx by_ = true := by unfold wok pok2 neB; rw [ha, hb, hs]; rfl
  unfold doCrossV crsE crossB
  rw [h1, room_wok hr hk, Bool.true_and, Bool.true_and, Bool.and_comm]
theorem cross_same {l : List (Int × Int)} {ax ay bx by_ : Int} (hs : (ax == bx && ay == by_) = true) (k : Nat) : doCrossV ax ay bx by_ (gx l k) (gy l k) (gx l (nx l k)) (gy l (nx l k)) = false := by
  have h1 : wok ax ay bx by_ = false := by unfold wok neB; rw [hs]; simp
  unfold doCrossV
  rw [h1, Bool.false_and]


set_option maxRecDepth 100000 in
set_option maxHeartbeats 3200000 in
theorem BlockingWall_any (A : Option Addr) (l : List (Int × Int)) (c : Nat) (ax ay bx by_ : Int) (w : World) (hp : RPts w A l) (hn : l.length ≤ 1048576) :
    Calls Try.prog 11 #[.agg #[.slice A l.length c], .agg #[.int .i64 ax, .int .i64 ay], .agg #[.int .i64 bx, .int .i64 by_]] w fun e w' => e = .returned (.int .i64 (blockV l ax ay bx by_)) ∧ Ext w w' := by
  by_cases h1 : ax = bx
  · subst h1
    have HB : Hid (∀ w', Ext (((w.alloc (.cells #[.slice A l.length c] 26)).alloc (.cells #[.int .i64 ax, .int .i64 ay] 28)).alloc (.cells #[.int .i64 ax, .int .i64 by_] 28)) w' → w'.cell? ⟨w.heap.size, 0, none⟩ = some (.slice A l.length c) ∧ w.heap.size < w'.heap.size ∧ w'.cell? ⟨w.heap.size + 1, 0, none⟩ = some (.int .i64 ax) ∧ w'.cell? ⟨w.heap.size + 1, 1, none⟩ = some (.int .i64 ay) ∧ w.heap.size + 1 < w'.heap.size ∧ w'.cell? ⟨w.heap.size + 1 + 1, 0, none⟩ = some (.int .i64 ax) ∧ w'.cell? ⟨w.heap.size + 1 + 1, 1, none⟩ = some (.int .i64 by_) ∧ w.heap.size + 1 + 1 < w'.heap.size) := fun w' hx => by
      and_intros <;> (first | (have hz := hx.size; simp at hz; omega) | ((first | rw [hx.cells _ _ (by first | (simp; done) | (simp; omega))] | rw [hx.frozens _ _ (by first | (simp; done) | (simp; omega))]); (first | (simp [go_sem]; done) | (simp [go_sem, World.cell?_alloc_past]; done) | (simp [go_sem, World.frozen?]; done))))
    by_cases h2 : ay = by_
    · subst h2
      have HV := hide (show blockV l ax ay ax ay = -1 by unfold blockV; rw [if_pos (.inl (by simp))])
      go_enter Try.func11, Try.ntmps11
      go_wp2
      go_ret
      exact ⟨ret_int (by rw [HV.out]), by (repeat (first | exact Ext.refl _ | assumption | apply Ext.alloc | apply Ext.drew | apply Ext.drewN | (refine Ext.trans ?_ (by assumption))))⟩
    · have hs : (ax == ax && ay == by_) = false := by simp [h2]
      have z2 : (ay == by_) = false := by simp [h2]
      clear h2
      have hB2 : RPts ((((w.alloc (.cells #[.slice A l.length c] 26)).alloc (.cells #[.int .i64 ax, .int .i64 ay] 28)).alloc (.cells #[.int .i64 ax, .int .i64 by_] 28)).alloc (.cells #[.int .i64 ax, .int .i64 ay, .int .i64 ax, .int .i64 by_] 28)) (some ⟨w.heap.size + 1 + 1 + 1, 0, none⟩) [(ax, ay), (ax, by_)] := by
        have h := rpts_two (((w.alloc (.cells #[.slice A l.length c] 26)).alloc (.cells #[.int .i64 ax, .int .i64 ay] 28)).alloc (.cells #[.int .i64 ax, .int .i64 by_] 28)) ax ay ax by_ 28
        have e : (((w.alloc (.cells #[.slice A l.length c] 26)).alloc (.cells #[.int .i64 ax, .int .i64 ay] 28)).alloc (.cells #[.int .i64 ax, .int .i64 by_] 28)).heap.size = w.heap.size + 1 + 1 + 1 := by simp
        rw [e] at h
        exact h
      have HB2 := hide hB2
      clear hB2
      obtain ⟨u, hu⟩ : ∃ u, u = allInV l [(ax, ay), (ax, by_)] := ⟨_, rfl⟩
      have HU := hide hu
      rw [allIn_two] at hu
      cases u
      · have HV := hide (show blockV l ax ay ax by_ = -1 by
          unfold blockV
          rw [if_pos]
          cases h1 : isInV l ax ay
          · exact .inr (.inl rfl)
          · cases h2 : isInV l ax by_
            · exact .inr (.inr rfl)
            · rw [h1, h2] at hu; cases hu)
        clear hu hs
        go_enter Try.func11, Try.ntmps11
        go_wp2_with (go_at_call 21; refine (allIn_any A _ l [(ax, ay), (ax, by_)] c 2 _ (hp.ext (by (repeat (first | exact Ext.refl _ | assumption | apply Ext.alloc | apply Ext.drew | apply Ext.drewN | (refine Ext.trans ?_ (by assumption)))))) HB2.out hn (by show (2 : Nat) ≤ 1048576; decide)).mono ?_; rw [← HU.out]; rintro e w1 ⟨rfl, hb1⟩)
        go_ret
        exact ⟨ret_int (by rw [HV.out]), by (repeat (first | exact Ext.refl _ | assumption | apply Ext.alloc | apply Ext.drew | apply Ext.drewN | (refine Ext.trans ?_ (by assumption))))⟩
      · have hia : isInV l ax ay = true := (Bool.and_eq_true _ _ ▸ hu.symm).1
        have hib : isInV l ax by_ = true := (Bool.and_eq_true _ _ ▸ hu.symm).2
        have HV := hide (show blockV l ax ay ax by_ = firstP (crsE l ax ay ax by_) 0 l.length by
          unfold blockV
          rw [if_neg (fun h => by rcases h with h | h | h; (rw [hs] at h; cases h); (rw [hia] at h; cases h); (rw [hib] at h; cases h))])
        clear hu hs hia hib
        go_enter Try.func11, Try.ntmps11
        go_wp2_with (first | (go_at_call 21; refine (allIn_any A _ l [(ax, ay), (ax, by_)] c 2 _ (hp.ext (by (repeat (first | exact Ext.refl _ | assumption | apply Ext.alloc | apply Ext.drew | apply Ext.drewN | (refine Ext.trans ?_ (by assumption)))))) HB2.out hn (by show (2 : Nat) ≤ 1048576; decide)).mono ?_; rw [← HU.out]; rintro e w1 ⟨rfl, hb1⟩; have f1 := HB.out w1 (by (repeat (first | exact Ext.refl _ | assumption | apply Ext.alloc | apply Ext.drew | apply Ext.drewN | (refine Ext.trans ?_ (by assumption)))))) | (go_at_call 26; refine (wallsOf_any _ _ _ _ (hp.ext (by (repeat (first | exact Ext.refl _ | assumption | apply Ext.alloc | apply Ext.drew | apply Ext.drewN | (refine Ext.trans ?_ (by assumption)))))) hn).mono ?_; rintro e wa ⟨A', c', rfl, hrw, hx⟩))
        clear f1
        go_loopw [24] (fun i wr => ∃ k : Nat, k ≤ l.length ∧ i = .int .i64 k ∧ Ext wa wr ∧ Hid (∀ j, j < k → crsE l ax ay ax by_ j = false)) (fun i _ => l.length - (intOf i).toNat)
        case atStart => exact ⟨0, Nat.zero_le _, rfl, Ext.refl _, hide (fun j hj => absurd hj (by omega))⟩
        case round =>
          obtain ⟨k, hk, rfl, hbl, HR⟩ := hrel
          obtain ⟨wq, rfl⟩ : ∃ wq : World, wq = wr := ⟨_, rfl⟩
          have fb := HB.out wq (by (repeat (first | exact Ext.refl _ | assumption | apply Ext.alloc | apply Ext.drew | apply Ext.drewN | (refine Ext.trans ?_ (by assumption)))))
          by_cases hlt : k < l.length
          · have q2 : (k : Int) < (l.length : Int) := by omega
            obtain ⟨g, rfl, hg, c1, c2, c3, c4⟩ := (hrw.ext hbl) k hlt
            cases ho : crsE l ax ay ax by_ k
            · have HO := hide ho
              unfold crsE at ho
              go_wp2_with (go_at_call 27; refine (crosses_any _ _ _ _ _ _ _ _ _).mono ?_; rintro e w3 ⟨rfl, hb3⟩)
              go_roundw
              case rel => exact ⟨k + 1, by omega, by go_num, by (repeat (first | exact Ext.refl _ | assumption | apply Ext.alloc | apply Ext.drew | apply Ext.drewN | (refine Ext.trans ?_ (by assumption)))), hide (fun j hj => by by_cases e : j = k; (subst e; exact HO.out); exact HR.out j (by omega))⟩
              case measure => simp [intOf]; omega
            · have HF := hide (firstP_at (crsE l ax ay ax by_) l.length 0 k (by omega) (by omega) (fun j _ b => HR.out j b) ho)
              unfold crsE at ho
              go_wp2_with (go_at_call 27; refine (crosses_any _ _ _ _ _ _ _ _ _).mono ?_; rintro e w3 ⟨rfl, hb3⟩)
              go_ret
              exact ⟨ret_int (by rw [HV.out, HF.out]), by (repeat (first | exact Ext.refl _ | assumption | apply Ext.alloc | apply Ext.drew | apply Ext.drewN | (refine Ext.trans ?_ (by assumption))))⟩
          · have q2 : ¬ (k : Int) < (l.length : Int) := by omega
            have HF := hide (firstP_no (crsE l ax ay ax by_) l.length 0 (fun j _ b => HR.out j (by omega)))
            go_wp2
            go_ret
            exact ⟨ret_int (by rw [HV.out, HF.out]), by (repeat (first | exact Ext.refl _ | assumption | apply Ext.alloc | apply Ext.drew | apply Ext.drewN | (refine Ext.trans ?_ (by assumption))))⟩
  · have hs : (ax == bx && ay == by_) = false := by simp [h1]
    have z1 : (ax == bx) = false := by simp [h1]
    clear h1
    have HB : Hid (∀ w', Ext (((w.alloc (.cells #[.slice A l.length c] 26)).alloc (.cells #[.int .i64 ax, .int .i64 ay] 28)).alloc (.cells #[.int .i64 bx, .int .i64 by_] 28)) w' → w'.cell? ⟨w.heap.size, 0, none⟩ = some (.slice A l.length c) ∧ w.heap.size < w'.heap.size ∧ w'.cell? ⟨w.heap.size + 1, 0, none⟩ = some (.int .i64 ax) ∧ w'.cell? ⟨w.heap.size + 1, 1, none⟩ = some (.int .i64 ay) ∧ w.heap.size + 1 < w'.heap.size ∧ w'.cell? ⟨w.heap.size + 1 + 1, 0, none⟩ = some (.int .i64 bx) ∧ w'.cell? ⟨w.heap.size + 1 + 1, 1, none⟩ = some (.int .i64 by_) ∧ w.heap.size + 1 + 1 < w'.heap.size) := fun w' hx => by
      and_intros <;> (first | (have hz := hx.size; simp at hz; omega) | ((first | rw [hx.cells _ _ (by first | (simp; done) | (simp; omega))] | rw [hx.frozens _ _ (by first | (simp; done) | (simp; omega))]); (first | (simp [go_sem]; done) | (simp [go_sem, World.cell?_alloc_past]; done) | (simp [go_sem, World.frozen?]; done))))
    have hB2 : RPts ((((w.alloc (.cells #[.slice A l.length c] 26)).alloc (.cells #[.int .i64 ax, .int .i64 ay] 28)).alloc (.cells #[.int .i64 bx, .int .i64 by_] 28)).alloc (.cells #[.int .i64 ax, .int .i64 ay, .int .i64 bx, .int .i64 by_] 28)) (some ⟨w.heap.size + 1 + 1 + 1, 0, none⟩) [(ax, ay), (bx, by_)] := by
      have h := rpts_two (((w.alloc (.cells #[.slice A l.length c] 26)).alloc (.cells #[.int .i64 ax, .int .i64 ay] 28)).alloc (.cells #[.int .i64 bx, .int .i64 by_] 28)) ax ay bx by_ 28
      have e : (((w.alloc (.cells #[.slice A l.length c] 26)).alloc (.cells #[.int .i64 ax, .int .i64 ay] 28)).alloc (.cells #[.int .i64 bx, .int .i64 by_] 28)).heap.size = w.heap.size + 1 + 1 + 1 := by simp
      rw [e] at h
      exact h
    have HB2 := hide hB2
    clear hB2
    obtain ⟨u, hu⟩ : ∃ u, u = allInV l [(ax, ay), (bx, by_)] := ⟨_, rfl⟩
    have HU := hide hu
    rw [allIn_two] at hu
    cases u
    · have HV := hide (show blockV l ax ay bx by_ = -1 by
        unfold blockV
        rw [if_pos]
        cases h1 : isInV l ax ay
        · exact .inr (.inl rfl)
        · cases h2 : isInV l bx by_
          · exact .inr (.inr rfl)
          · rw [h1, h2] at hu; cases hu)
      clear hu hs
      go_enter Try.func11, Try.ntmps11
      go_wp2_with (go_at_call 21; refine (allIn_any A _ l [(ax, ay), (bx, by_)] c 2 _ (hp.ext (by (repeat (first | exact Ext.refl _ | assumption | apply Ext.alloc | apply Ext.drew | apply Ext.drewN | (refine Ext.trans ?_ (by assumption)))))) HB2.out hn (by show (2 : Nat) ≤ 1048576; decide)).mono ?_; rw [← HU.out]; rintro e w1 ⟨rfl, hb1⟩)
      go_ret
      exact ⟨ret_int (by rw [HV.out]), by (repeat (first | exact Ext.refl _ | assumption | apply Ext.alloc | apply Ext.drew | apply Ext.drewN | (refine Ext.trans ?_ (by assumption))))⟩
    · have hia : isInV l ax ay = true := (Bool.and_eq_true _ _ ▸ hu.symm).1
      have hib : isInV l bx by_ = true := (Bool.and_eq_true _ _ ▸ hu.symm).2
      have HV := hide (show blockV l ax ay bx by_ = firstP (crsE l ax ay bx by_) 0 l.length by
        unfold blockV
        rw [if_neg (fun h => by rcases h with h | h | h; (rw [hs] at h; cases h); (rw [hia] at h; cases h); (rw [hib] at h; cases h))])
      clear hu hs hia hib
      go_enter Try.func11, Try.ntmps11
      go_wp2_with (first | (go_at_call 21; refine (allIn_any A _ l [(ax, ay), (bx, by_)] c 2 _ (hp.ext (by (repeat (first | exact Ext.refl _ | assumption | apply Ext.alloc | apply Ext.drew | apply Ext.drewN | (refine Ext.trans ?_ (by assumption)))))) HB2.out hn (by show (2 : Nat) ≤ 1048576; decide)).mono ?_; rw [← HU.out]; rintro e w1 ⟨rfl, hb1⟩; have f1 := HB.out w1 (by (repeat (first | exact Ext.refl _ | assumption | apply Ext.alloc | apply Ext.drew | apply Ext.drewN | (refine Ext.trans ?_ (by assumption)))))) | (go_at_call 26; refine (wallsOf_any _ _ _ _ (hp.ext (by (repeat (first | exact Ext.refl _ | assumption | apply Ext.alloc | apply Ext.drew | apply Ext.drewN | (refine Ext.trans ?_ (by assumption)))))) hn).mono ?_; rintro e wa ⟨A', c', rfl, hrw, hx⟩))
      clear f1
      go_loopw [24] (fun i wr => ∃ k : Nat, k ≤ l.length ∧ i = .int .i64 k ∧ Ext wa wr ∧ Hid (∀ j, j < k → crsE l ax ay bx by_ j = false)) (fun i _ => l.length - (intOf i).toNat)
      case atStart => exact ⟨0, Nat.zero_le _, rfl, Ext.refl _, hide (fun j hj => absurd hj (by omega))⟩
      case round =>
        obtain ⟨k, hk, rfl, hbl, HR⟩ := hrel
        obtain ⟨wq, rfl⟩ : ∃ wq : World, wq = wr := ⟨_, rfl⟩
        have fb := HB.out wq (by (repeat (first | exact Ext.refl _ | assumption | apply Ext.alloc | apply Ext.drew | apply Ext.drewN | (refine Ext.trans ?_ (by assumption)))))
        by_cases hlt : k < l.length
        · have q2 : (k : Int) < (l.length : Int) := by omega
          obtain ⟨g, rfl, hg, c1, c2, c3, c4⟩ := (hrw.ext hbl) k hlt
          cases ho : crsE l ax ay bx by_ k
          · have HO := hide ho
            unfold crsE at ho
            go_wp2_with (go_at_call 27; refine (crosses_any _ _ _ _ _ _ _ _ _).mono ?_; rintro e w3 ⟨rfl, hb3⟩)
            go_roundw
            case rel => exact ⟨k + 1, by omega, by go_num, by (repeat (first | exact Ext.refl _ | assumption | apply Ext.alloc | apply Ext.drew | apply Ext.drewN | (refine Ext.trans ?_ (by assumption)))), hide (fun j hj => by by_cases e : j = k; (subst e; exact HO.out); exact HR.out j (by omega))⟩
            case measure => simp [intOf]; omega
          · have HF := hide (firstP_at (crsE l ax ay bx by_) l.length 0 k (by omega) (by omega) (fun j _ b => HR.out j b) ho)
            unfold crsE at ho
            go_wp2_with (go_at_call 27; refine (crosses_any _ _ _ _ _ _ _ _ _).mono ?_; rintro e w3 ⟨rfl, hb3⟩)
            go_ret
            exact ⟨ret_int (by rw [HV.out, HF.out]), by (repeat (first | exact Ext.refl _ | assumption | apply Ext.alloc | apply Ext.drew | apply Ext.drewN | (refine Ext.trans ?_ (by assumption))))⟩
        · have q2 : ¬ (k : Int) < (l.length : Int) := by omega
          have HF := hide (firstP_no (crsE l ax ay bx by_) l.length 0 (fun j _ b => HR.out j (by omega)))
          go_wp2
          go_ret
          exact ⟨ret_int (by rw [HV.out, HF.out]), by (repeat (first | exact Ext.refl _ | assumption | apply Ext.alloc | apply Ext.drew | apply Ext.drewN | (refine Ext.trans ?_ (by assumption))))⟩

end Go.Proofs.Ytjccilpjaaiicaa

namespace Go.Proofs.Ytjccilpjaaiicaa
open Go.RowKit

/-- a corner c is noted for the way from a to b -/
def cutB (ax ay bx by_ cx cy : Int) : Bool := !(cx == ax && cy == ay) && (!(cx == bx && cy == by_) && onW cx cy ax ay bx by_)
/-- a, b and the noted ones of the first k corners -/
def cutsTo (l : List (Int × Int)) (ax ay bx by_ : Int) (k : Nat) : List (Int × Int) := (ax, ay) :: (bx, by_) :: (l.take k).filter fun p => cutB ax ay bx by_ p.1 p.2
/-- the first k corners, doubled -/
def dblTo (l : List (Int × Int)) (k : Nat) : List (Int × Int) := (l.take k).map fun p => (2 * p.1, 2 * p.2)
def dbl (l : List (Int × Int)) : List (Int × Int) := dblTo l l.length
def cuts (l : List (Int × Int)) (ax ay bx by_ : Int) : List (Int × Int) := cutsTo l ax ay bx by_ l.length

theorem take_at (l : List (Int × Int)) {k : Nat} (hk : k < l.length) : l.take (k + 1) = l.take k ++ [(gx l k, gy l k)] := by
  rw [List.take_succ_eq_append_getElem hk]
  unfold gx gy
  rw [List.getD_eq_getElem?_getD, List.getElem?_eq_getElem hk]
  rfl
theorem cutsTo_on {l : List (Int × Int)} {ax ay bx by_ : Int} {k : Nat} (hk : k < l.length) (h : cutB ax ay bx by_ (gx l k) (gy l k) = true) : cutsTo l ax ay bx by_ (k + 1) = cutsTo l ax ay bx by_ k ++ [(gx l k, gy l k)] := by
  unfold cutsTo
  have e : [(gx l k, gy l k)].filter (fun p => cutB ax ay bx by_ p.1 p.2) = [(gx l k, gy l k)] := by simp [h]
  rw [take_at l hk, List.filter_append, e]
  rfl
theorem cutsTo_off {l : List (Int × Int)} {ax ay bx by_ : Int} {k : Nat} (hk : k < l.length) (h : cutB ax ay bx by_ (gx l k) (gy l k) = false) : cutsTo l ax ay bx by_ (k + 1) = cutsTo l ax ay bx by_ k := by
  unfold cutsTo
  have e : [(gx l k, gy l k)].filter (fun p => cutB ax ay bx by_ p.1 p.2) = [] := by simp [h]
  rw [take_at l hk, List.filter_append, e, List.append_nil]
theorem cutsTo_length (l : List (Int × Int)) (ax ay bx by_ : Int) (k : Nat) : 2 ≤ (cutsTo l ax ay bx by_ k).length ∧ (cutsTo l ax ay bx by_ k).length ≤ k + 2 := by
  unfold cutsTo
  have h := List.length_filter_le (fun p : Int × Int => cutB ax ay bx by_ p.1 p.2) (l.take k)
  have h2 := List.length_take_le k l
  simp only [List.length_cons]
  omega
theorem dblTo_succ {l : List (Int × Int)} {k : Nat} (hk : k < l.length) : dblTo l (k + 1) = dblTo l k ++ [(2 * gx l k, 2 * gy l k)] := by
  unfold dblTo
  rw [take_at l hk, List.map_append]
  rfl
theorem dblTo_length {l : List (Int × Int)} {k : Nat} (hk : k ≤ l.length) : (dblTo l k).length = k := by
  unfold dblTo
  rw [List.length_map, List.length_take]
  omega
theorem dbl_length (l : List (Int × Int)) : (dbl l).length = l.length := dblTo_length (Nat.le_refl _)

theorem g_mem {l : List (Int × Int)} {k : Nat} (hk : k < l.length) : (gx l k, gy l k) ∈ l := by
  have := getD_mem (d := ((0, 0) : Int × Int)) hk
  exact this
theorem mem_g {l : List (Int × Int)} {p : Int × Int} (h : p ∈ l) : ∃ k, k < l.length ∧ gx l k = p.1 ∧ gy l k = p.2 := by
  obtain ⟨k, hk, e⟩ := mem_getD (d := ((0, 0) : Int × Int)) h
  exact ⟨k, hk, by unfold gx; rw [e], by unfold gy; rw [e]⟩

theorem dbl_small {l : List (Int × Int)} (hf : Fine l) : Small 1000000 (dbl l) := by
  intro k hk
  have hm := g_mem hk
  unfold dbl dblTo at hm
  rw [List.take_length, List.mem_map] at hm
  obtain ⟨p, hp, e⟩ := hm
  obtain ⟨j, hj, e1, e2⟩ := mem_g hp
  have h := within_of_pok (hf.pok hj)
  have f1 : 2 * p.1 = gx (dbl l) k := by
    have := congrArg Prod.fst e
    unfold dbl dblTo
    rw [List.take_length]
    exact this
  have f2 : 2 * p.2 = gy (dbl l) k := by
    have := congrArg Prod.snd e
    unfold dbl dblTo
    rw [List.take_length]
    exact this
  unfold within at h ⊢
  omega

theorem room_nodup {l : List (Int × Int)} (hr : roomB l = true) : l.Nodup := by
  have hf := (roomB_fine hr).1
  have h3 := (roomB_fine hr).2
  have key : ∀ i j, i < j → j < l.length → gx l i = gx l j → gy l i = gy l j → False := by
    intro i j hij hj ex ey
    by_cases a1 : j = i + 1
    · have := room_wok hr (k := i) (by omega)
      have e : nx l i = j := by unfold nx; rw [Nat.mod_eq_of_lt (by omega)]; omega
      rw [e, ← ex, ← ey] at this
      unfold wok neB at this
      simp at this
    · by_cases a2 : i = 0 ∧ j + 1 = l.length
      · have := room_wok hr (k := j) (by omega)
        have e : nx l j = i := by unfold nx; rw [a2.2, Nat.mod_self]; omega
        rw [e, ← ex, ← ey] at this
        unfold wok neB at this
        simp at this
      · have hask : askI l i j = true := by
          unfold askI
          have : (j + 1) % l.length ≠ i := by
            rcases Nat.lt_or_ge (j + 1) l.length with h | h
            · rw [Nat.mod_eq_of_lt h]; omega
            · have : j + 1 = l.length := by omega
              rw [this, Nat.mod_self]; omega
          simp [this]
          omega
        have hmt : mt l i j = true := by
          unfold mt meetV
          have hw := room_wok hr (k := j) hj
          rw [room_wok hr (by omega), hw]
          have ho : onW (gx l i) (gy l i) (gx l j) (gy l j) (gx l (nx l j)) (gy l (nx l j)) = true := by
            rw [ex, ey]
            have w1 := within_more (within_of_pok (hf.pok hj)) (N := 1000000) (by omega)
            have w2 := within_more (within_of_pok (hf.pok (nx_lt hj))) (N := 1000000) (by omega)
            exact (onW_iff (a := (gx l j, gy l j)) (b := (gx l (nx l j), gy l (nx l j))) (c := (gx l j, gy l j)) w1 w2 w1).2 (onz_start _ _)
          rw [ho]
          simp
        have := roomB_row (by omega) (rowI_meet hj hask hmt)
        rw [hr] at this
        cases this
  refine List.pairwise_iff_getElem.2 fun i j hi hj hij he => key i j hij hj ?_ ?_
  · unfold gx
    rw [List.getD_eq_getElem?_getD, List.getElem?_eq_getElem hi, List.getD_eq_getElem?_getD, List.getElem?_eq_getElem hj, he]
  · unfold gy
    rw [List.getD_eq_getElem?_getD, List.getElem?_eq_getElem hi, List.getD_eq_getElem?_getD, List.getElem?_eq_getElem hj, he]

theorem pok_mem {l : List (Int × Int)} (hf : Fine l) {p : Int × Int} (h : p ∈ l) : pok p.1 p.2 = true := by
  obtain ⟨k, hk, e1, e2⟩ := mem_g h
  rw [← e1, ← e2]
  exact hf.pok hk

theorem cutB_iff {ax ay bx by_ : Int} {p : Int × Int} (ha : pok ax ay = true) (hb : pok bx by_ = true) (hp : pok p.1 p.2 = true) : cutB ax ay bx by_ p.1 p.2 = true ↔ p ≠ (ax, ay) ∧ p ≠ (bx, by_) ∧ OnZ (ax, ay) (bx, by_) p := by
  have w1 := within_more (within_of_pok ha) (N := 1000000) (by omega)
  have w2 := within_more (within_of_pok hb) (N := 1000000) (by omega)
  have w3 := within_more (within_of_pok hp) (N := 1000000) (by omega)
  unfold cutB
  rw [Bool.and_eq_true, Bool.and_eq_true, onW_iff (a := (ax, ay)) (b := (bx, by_)) (c := p) w1 w2 w3]
  obtain ⟨x, y⟩ := p
  simp [Prod.ext_iff]
  grind

theorem cuts_on {l : List (Int × Int)} {ax ay bx by_ : Int} (hf : Fine l) (ha : pok ax ay = true) (hb : pok bx by_ = true) : ∀ p, p ∈ cuts l ax ay bx by_ → pok p.1 p.2 = true ∧ OnZ (ax, ay) (bx, by_) p := by
  intro p hp
  unfold cuts cutsTo at hp
  simp only [List.mem_cons, List.mem_filter, List.take_length] at hp
  rcases hp with rfl | rfl | ⟨h1, h2⟩
  · exact ⟨ha, onz_start _ _⟩
  · exact ⟨hb, onz_end _ _⟩
  · have h3 := pok_mem hf h1
    exact ⟨h3, ((cutB_iff ha hb h3).1 h2).2.2⟩

theorem cuts_nodup {l : List (Int × Int)} {ax ay bx by_ : Int} (hr : roomB l = true) (ha : pok ax ay = true) (hb : pok bx by_ = true) (hab : (ax, ay) ≠ (bx, by_)) : (cuts l ax ay bx by_).Nodup := by
  have hf := (roomB_fine hr).1
  unfold cuts cutsTo
  rw [List.take_length]
  refine List.nodup_cons.2 ⟨?_, List.nodup_cons.2 ⟨?_, (room_nodup hr).filter _⟩⟩
  · simp only [List.mem_cons, List.mem_filter]
    rintro (h | ⟨h1, h2⟩)
    · exact hab h
    · exact ((cutB_iff (p := (ax, ay)) ha hb (pok_mem hf h1)).1 h2).1 rfl
  · simp only [List.mem_filter]
    rintro ⟨h1, h2⟩
    exact ((cutB_iff (p := (bx, by_)) ha hb (pok_mem hf h1)).1 h2).2.1 rfl

theorem cuts_same {l : List (Int × Int)} {ax ay : Int} (hf : Fine l) (ha : pok ax ay = true) : cuts l ax ay ax ay = [(ax, ay), (ax, ay)] := by
  unfold cuts cutsTo
  rw [List.take_length]
  have : l.filter (fun p => cutB ax ay ax ay p.1 p.2) = [] := by
    rw [List.filter_eq_nil_iff]
    intro p hp hc
    obtain ⟨h1, _, h3⟩ := (cutB_iff ha ha (pok_mem hf hp)).1 hc
    exact h1 (onz_same h3)
  rw [this]

/-- no other one of c lies between those at i and k -/
def freeTo (c : List (Int × Int)) (i k n : Nat) : Bool := (List.range n).all fun j => j == i || (j == k || !onW (gx c j) (gy c j) (gx c i) (gy c i) (gx c k) (gy c k))
def freeB (c : List (Int × Int)) (i k : Nat) : Bool := freeTo c i k c.length
/-- where the middle of those at i and k lies, in the reference's words -/
def midS (l c : List (Int × Int)) (i k : Nat) : Int := holdsV (dbl l) (gx c i + gx c k) (gy c i + gy c k)
/-- and in the program's -/
def midP (l : List (Int × Int)) (ax ay bx by_ : Int) : Int := placeV (dbl l) (ax + bx) (ay + by_)
def badS (l c : List (Int × Int)) (i k : Nat) : Bool := freeB c i k && decide (midS l c i k < 0)
def goodRow (l c : List (Int × Int)) (i n : Nat) : Bool := (List.range n).all fun k => !badS l c i k
def goodTo (l c : List (Int × Int)) (n : Nat) : Bool := (List.range n).all fun i => goodRow l c i i
def clearTo (l : List (Int × Int)) (ax ay bx by_ : Int) (n : Nat) : Bool := (List.range n).all fun k => !crsE l ax ay bx by_ k
/-- sight in a valid room, as both texts give it -/
def seesV (l : List (Int × Int)) (ax ay bx by_ : Int) : Bool := clearTo l ax ay bx by_ l.length && goodTo l (cuts l ax ay bx by_) (cuts l ax ay bx by_).length

theorem all_range_succ (f : Nat → Bool) (n : Nat) : (List.range (n + 1)).all f = ((List.range n).all f && f n) := by
  rw [List.range_succ, List.all_append]
  simp
theorem freeTo_succ (c : List (Int × Int)) (i k n : Nat) : freeTo c i k (n + 1) = (freeTo c i k n && (n == i || (n == k || !onW (gx c n) (gy c n) (gx c i) (gy c i) (gx c k) (gy c k)))) := all_range_succ _ _
theorem goodRow_succ (l c : List (Int × Int)) (i n : Nat) : goodRow l c i (n + 1) = (goodRow l c i n && !badS l c i n) := all_range_succ _ _
theorem goodTo_succ (l c : List (Int × Int)) (n : Nat) : goodTo l c (n + 1) = (goodTo l c n && goodRow l c n n) := all_range_succ _ _
theorem clearTo_succ (l : List (Int × Int)) (ax ay bx by_ : Int) (n : Nat) : clearTo l ax ay bx by_ (n + 1) = (clearTo l ax ay bx by_ n && !crsE l ax ay bx by_ n) := all_range_succ _ _
theorem all_false {f : Nat → Bool} {n k : Nat} (hk : k < n) (h : f k = false) : (List.range n).all f = false := by
  rw [List.all_eq_false]
  exact ⟨k, List.mem_range.2 hk, by simp [h]⟩
theorem seesV_cross {l : List (Int × Int)} {ax ay bx by_ : Int} {k : Nat} (hk : k < l.length) (h : crsE l ax ay bx by_ k = true) : seesV l ax ay bx by_ = false := by
  have : clearTo l ax ay bx by_ l.length = false := all_false hk (by simp [h])
  unfold seesV
  rw [this]
  rfl
theorem seesV_bad {l : List (Int × Int)} {ax ay bx by_ : Int} {i k : Nat} (hi : i < (cuts l ax ay bx by_).length) (hk : k < i) (h : badS l (cuts l ax ay bx by_) i k = true) : seesV l ax ay bx by_ = false := by
  have h1 : goodRow l (cuts l ax ay bx by_) i i = false := all_false hk (by simp [h])
  have : goodTo l (cuts l ax ay bx by_) (cuts l ax ay bx by_).length = false := all_false hi h1
  unfold seesV
  rw [this]
  simp

theorem mid_holds {l : List (Int × Int)} (hf : Fine l) {p q : Int × Int} (hp : pok p.1 p.2 = true) (hq : pok q.1 q.2 = true) : midP l p.1 p.2 q.1 q.2 = holdsV (dbl l) (p.1 + q.1) (p.2 + q.2) + 1 := by
  have w1 := within_of_pok hp
  have w2 := within_of_pok hq
  exact place_holds (dbl_small hf) (by unfold within at *; omega)
theorem holds_bd (l : List (Int × Int)) (px py : Int) : -1 ≤ holdsV l px py ∧ holdsV l px py ≤ 1 := by
  unfold holdsV
  split
  · omega
  · exact sg_bd _

theorem freeB_iff {c : List (Int × Int)} (hc : ∀ p, p ∈ c → pok p.1 p.2 = true) {i k : Nat} (hi : i < c.length) (hk : k < c.length) :
    freeB c i k = true ↔ ∀ j, j < c.length → j ≠ i → j ≠ k → ¬ OnZ (c.getD i (0, 0)) (c.getD k (0, 0)) (c.getD j (0, 0)) := by
  unfold freeB freeTo
  rw [List.all_eq_true]
  simp only [List.mem_range]
  have hw : ∀ j, j < c.length → within 1000000 (c.getD j (0, 0)).1 (c.getD j (0, 0)).2 := fun j hj => within_more (within_of_pok (hc _ (getD_mem hj))) (by omega)
  constructor
  · intro h j hj n1 n2 ho
    have := h j hj
    have hz := (onW_iff (hw i hi) (hw k hk) (hw j hj)).2 ho
    have e1 : (j == i) = false := by simp [n1]
    have e2 : (j == k) = false := by simp [n2]
    rw [e1, e2] at this
    unfold gx gy at this
    rw [hz] at this
    cases this
  · intro h j hj
    by_cases n1 : j = i
    · simp [n1]
    · by_cases n2 : j = k
      · simp [n2]
      · have := h j hj n1 n2
        rw [← onW_iff (hw i hi) (hw k hk) (hw j hj)] at this
        unfold gx gy
        simp only [Bool.not_eq_true] at this
        rw [this]
        simp

theorem goodTo_iff (l c : List (Int × Int)) : goodTo l c c.length = true ↔ ∀ i k, i < c.length → k < i → freeB c i k = true → 0 ≤ midS l c i k := by
  unfold goodTo goodRow badS
  rw [List.all_eq_true]
  simp only [List.mem_range, List.all_eq_true, Bool.not_eq_true', Bool.and_eq_false_iff, decide_eq_false_iff_not]
  constructor
  · intro h i k hi hk hf
    rcases h i hi k hk with h1 | h1
    · rw [hf] at h1; cases h1
    · omega
  · intro h i hi k hk
    cases hf : freeB c i k
    · exact .inl rfl
    · have := h i k hi hk hf
      exact .inr (by omega)

/-- the sorted neighbours are just the free pairs -/
theorem sees_sorted {l s : List (Int × Int)} {ax ay bx by_ : Int} (hr : roomB l = true) (ha : pok ax ay = true) (hb : pok bx by_ = true) (hp : s.Perm (cuts l ax ay bx by_)) (hs : SortedK (kk (ax, ay)) (0, 0) s) :
    (∀ i, i + 1 < s.length → midP l (gx s i) (gy s i) (gx s (i + 1)) (gy s (i + 1)) ≠ 0) ↔ goodTo l (cuts l ax ay bx by_) (cuts l ax ay bx by_).length = true := by
  have hf := (roomB_fine hr).1
  rw [goodTo_iff]
  by_cases hab : (ax, ay) = (bx, by_)
  · obtain ⟨rfl, rfl⟩ := Prod.mk.inj hab
    have e := cuts_same hf ha
    rw [e] at hp ⊢
    have es : s = [(ax, ay), (ax, ay)] := (List.perm_replicate (n := 2) (a := (ax, ay))).1 hp
    subst es
    have hm := mid_holds hf (p := (ax, ay)) (q := (ax, ay)) ha ha
    have hbd := holds_bd (dbl l) (ax + ax) (ay + ay)
    constructor
    · intro h i k hi hk _
      have hi2 : i < 2 := hi
      obtain rfl : i = 1 := by omega
      obtain rfl : k = 0 := by omega
      have h0 : midP l ax ay ax ay ≠ 0 := h 0 (by simp)
      have e2 : midS l [(ax, ay), (ax, ay)] 1 0 = holdsV (dbl l) (ax + ax) (ay + ay) := rfl
      rw [e2]
      have hm : midP l ax ay ax ay = holdsV (dbl l) (ax + ax) (ay + ay) + 1 := hm
      omega
    · intro h i hi
      have hi2 : i + 1 < 2 := hi
      obtain rfl : i = 0 := by omega
      have h0 : 0 ≤ holdsV (dbl l) (ax + ax) (ay + ay) := h 1 0 (by simp) (by omega) (by unfold freeB freeTo; simp [List.range_succ])
      show midP l ax ay ax ay ≠ 0
      have hm : midP l ax ay ax ay = holdsV (dbl l) (ax + ax) (ay + ay) + 1 := hm
      omega
  · have hn := cuts_nodup hr ha hb hab
    have hon := cuts_on hf ha hb
    generalize cuts l ax ay bx by_ = c at *
    have hK : ∀ x y, x ∈ c → y ∈ c → kk (ax, ay) x = kk (ax, ay) y → x = y := fun x y hx hy h => kk_inj hab (hon x hx).2 (hon y hy).2 h
    have hQ : ∀ x y : Int × Int, midP l x.1 x.2 y.1 y.2 ≠ 0 → midP l y.1 y.2 x.1 x.2 ≠ 0 := fun x y h => by
      unfold midP at h ⊢
      rwa [Int.add_comm y.1, Int.add_comm y.2]
    have h1 := sorted_next (Q := fun x y => midP l x.1 x.2 y.1 y.2 ≠ 0) hp hn hK hs
    have h2 := pairs_next (d := ((0, 0) : Int × Int)) (K := kk (ax, ay)) (Q := fun x y => midP l x.1 x.2 y.1 y.2 ≠ 0) (B := fun z x y => OnZ x y z) hn hK hQ (fun z x y h => onz_comm.1 h)
      (fun x y z hx hy hz a b => onz_of_kk hab (hon x hx).2 (hon y hy).2 (hon z hz).2 a b)
      (fun x y z hx hy hz a b => kk_of_onz hab (hon x hx).2 (hon y hy).2 (hon z hz).2 a b)
    refine Iff.trans h1 (Iff.trans h2.symm ?_)
    constructor
    · intro h i k hi hk hfree
      have h3 := h i k hi hk ((freeB_iff (fun p hp => (hon p hp).1) hi (by omega)).1 hfree)
      have hm := mid_holds hf (hon _ (getD_mem (d := ((0, 0) : Int × Int)) hi)).1 (hon _ (getD_mem (d := ((0, 0) : Int × Int)) (show k < c.length by omega))).1
      have hbd := holds_bd (dbl l) ((c.getD i (0, 0)).1 + (c.getD k (0, 0)).1) ((c.getD i (0, 0)).2 + (c.getD k (0, 0)).2)
      show 0 ≤ holdsV (dbl l) ((c.getD i (0, 0)).1 + (c.getD k (0, 0)).1) ((c.getD i (0, 0)).2 + (c.getD k (0, 0)).2)
      omega
    · intro h i k hi hk hfree
      have h3 : 0 ≤ holdsV (dbl l) ((c.getD i (0, 0)).1 + (c.getD k (0, 0)).1) ((c.getD i (0, 0)).2 + (c.getD k (0, 0)).2) := h i k hi hk ((freeB_iff (fun p hp => (hon p hp).1) hi (by omega)).2 hfree)
      have hm := mid_holds hf (hon _ (getD_mem (d := ((0, 0) : Int × Int)) hi)).1 (hon _ (getD_mem (d := ((0, 0) : Int × Int)) (show k < c.length by omega))).1
      show midP l _ _ _ _ ≠ 0
      omega

end Go.Proofs.Ytjccilpjaaiicaa

namespace Go.Proofs.Ytjccilpjaaiicaa
namespace Jor

/-- a height that no two points of the plane at hand share -/
def MM : Int := 1000000000
/-- the corners, with heights that differ -/
def hv (l : List P) (i : Nat) : P := hm MM (pt l i)
theorem room_bd {l : List P} (hr : roomB l = true) {i : Nat} (hi : i < l.length) : (-40 ≤ (pt l i).1 ∧ (pt l i).1 ≤ 40) ∧ (-40 ≤ (pt l i).2 ∧ (pt l i).2 ≤ 40) := (roomB_fine hr).1.bd hi
theorem pt_ne {l : List P} (hr : roomB l = true) {i k : Nat} (hi : i < l.length) (hk : k < l.length) (h : i ≠ k) : pt l i ≠ pt l k := fun e => h (by
  have hn := room_nodup hr
  refine nodup_getD (d := (0, 0)) hn hi hk ?_
  have e1 : ∀ i, pt l i = l.getD i (0, 0) := fun i => rfl
  rw [← e1, ← e1]
  exact e)
theorem nr_room {l : List P} (hr : roomB l = true) {i k : Nat} (hi : i < l.length) (hk : k < l.length) : Nr MM (pt l i) (pt l k) := by
  have h1 := room_bd hr hi
  have h2 := room_bd hr hk
  unfold Nr MM
  omega
theorem hm_ne {M : Int} {a b : P} (_ : 0 < M) (hn : Nr M a b) (h : a ≠ b) : (hm M a).2 ≠ (hm M b).2 := by
  intro e
  have h1 := hm_lt (M := M) hn.1 hn.2
  have h2 := hm_lt (M := M) hn.2 hn.1
  apply h
  apply Prod.ext <;> omega
theorem room_off {l : List P} (hr : roomB l = true) {i k : Nat} (hi : i < l.length) (hk : k < l.length) (h1 : k ≠ i) (h2 : k ≠ nx l.length i) : onZB (pt l k) (pt l i) (pt l (nx l.length i)) = false := by
  by_cases h3 : nx l.length k = i
  · have ht := (room_z hr).2.1 k hk
    have e2 : (k + 2) % l.length = nx l.length i := by
      rw [← h3]
      unfold nx
      rw [Nat.mod_add_mod]
    have e1 : Go.Proofs.Ytjccilpjaaiicaa.nx l k = i := h3
    unfold tz at ht
    rw [e1, e2] at ht
    have e3 : turnZ (pt l i).1 (pt l i).2 (pt l (nx l.length i)).1 (pt l (nx l.length i)).2 (pt l k).1 (pt l k).2 = turnZ (gx l k) (gy l k) (gx l i) (gy l i) (gx l (nx l.length i)) (gy l (nx l.length i)) := tu_rot (pt l k) (pt l i) (pt l (nx l.length i))
    unfold onZB
    rw [e3]
    simp [ht]
  · exact (room_apart hr hi hk h1 h2.symm h3).2.2.2.1
theorem not_crs_of {a b c d : P} (h : crossZ a b c d = false) : ¬ Crs a b c d := by
  rintro ⟨h1, h2⟩
  have e : crossZ a b c d = true := by
    unfold crossZ
    have e1 : turnZ a.1 a.2 b.1 b.2 c.1 c.2 = tu a b c := rfl
    have e2 : turnZ a.1 a.2 b.1 b.2 d.1 d.2 = tu a b d := rfl
    have e3 : turnZ c.1 c.2 d.1 d.2 a.1 a.2 = tu c d a := rfl
    have e4 : turnZ c.1 c.2 d.1 d.2 b.1 b.2 = tu c d b := rfl
    rw [e1, e2, e3, e4, Bool.and_eq_true, decide_eq_true_eq, decide_eq_true_eq]
    have k : ∀ x y : Int, (x < 0 ∧ 0 < y) ∨ (0 < x ∧ y < 0) → sgn x * sgn y < 0 := fun x y hh => by
      unfold sgn
      rcases hh with ⟨g1, g2⟩ | ⟨g1, g2⟩
      · rw [if_neg (by omega), if_pos g1, if_pos g2]; decide
      · rw [if_pos g1, if_neg (by omega), if_pos g2]; decide
    exact ⟨k _ _ h1, k _ _ h2⟩
  rw [h] at e
  cases e
theorem crs_hm {M : Int} (hM : 0 < M) {a b c d : P} (h : ¬ Crs a b c d) : ¬ Crs (hm M a) (hm M b) (hm M c) (hm M d) := by
  intro hh
  apply h
  unfold Crs at hh ⊢
  simpa only [hm_neg hM, hm_pos hM] using hh
theorem crs_self {a b c d : P} (h : a = c ∨ a = d ∨ b = c ∨ b = d) : ¬ Crs a b c d := by
  rintro ⟨h1, h2⟩
  rcases h with rfl | rfl | rfl | rfl
  · rw [tu_fst] at h1; omega
  · rw [tu_snd] at h1; omega
  · rw [tu_fst] at h1; omega
  · rw [tu_snd] at h1; omega
theorem simple_room {l : List P} (hr : roomB l = true) : Simple (hv l) l.length := by
  refine ⟨(room_z hr).1.1, fun i k hi hk hne => hm_ne (by decide) (nr_room hr hi hk) (pt_ne hr hi hk hne), fun i k hi hk h1 h2 => off_hm (by decide) (nr_room hr hi hk) (nr_room hr (nx_lt (by omega)) hk) (room_off hr hi hk h1 h2), fun i k hi hk => ?_⟩
  refine crs_hm (by decide) ?_
  by_cases h1 : k = i
  · exact crs_self (.inl (by rw [h1]))
  · by_cases h2 : nx l.length i = k
    · exact crs_self (.inr (.inr (.inl (by rw [h2]))))
    · by_cases h3 : nx l.length k = i
      · exact crs_self (.inr (.inl (by rw [h3])))
      · exact not_crs_of (room_apart hr hi hk h1 h2 h3).1
theorem bd_room {l : List P} (hr : roomB l = true) : ∃ B : Int, 0 ≤ B ∧ ∀ i, i < l.length → Bd B (hv l i) (hv l (nx l.length i)) := by
  refine ⟨100 * MM, by decide, fun i hi => ?_⟩
  have h1 := room_bd hr hi
  have h2 := room_bd hr (nx_lt (n := l.length) (i := i) (by omega))
  unfold Bd hv hm MM
  simp only
  omega
/-- triangles of a room's corners -/
def posT (l : List P) (t : T3) : Prop := 0 < tu (pt l t.1) (pt l t.2.1) (pt l t.2.2)
theorem trg_room {l : List P} (hr : roomB l = true) {ts : List T3} (hc : Cert l.length ts) (hp : ∀ t, t ∈ ts → posT l t) : Trg (hv l) l.length ts :=
  ⟨simple_room hr, hc, fun t ht => (hm_pos (by decide) _ _ _).2 (hp t ht), bd_room hr⟩

end Jor
end Go.Proofs.Ytjccilpjaaiicaa

namespace Go.Proofs.Ytjccilpjaaiicaa
namespace Jor

/-- all corners within 1000 -/
def Sml (q : List P) : Prop := ∀ k, k < q.length → within 1000 (gx q k) (gy q k)
theorem Sml.small {q : List P} (h : Sml q) : Small 1000000 q := fun k hk => within_more (h k hk) (by decide)
section
variable {q : List P} (hs : Sml q) {p : P} (hp : within 1000 p.1 p.2)
include hs hp
theorem turnE_tu {k : Nat} (hk : k < q.length) : turnE q p.1 p.2 k = tu (pt q k) (pt q (nx q.length k)) p := turnW_eq (hs.small k hk) (hs.small _ (nx_lt (by omega))) (within_more hp (by decide))
theorem onE_onZ {k : Nat} (hk : k < q.length) : onE q p.1 p.2 k = onZB p (pt q k) (pt q (nx q.length k)) := by
  have e := turnE_tu hs hp hk
  have h1 : onE q p.1 p.2 k = (decide (turnE q p.1 p.2 k = 0) && (inB p.1 (min (gx q k) (gx q (nx q.length k))) (max (gx q k) (gx q (nx q.length k))) && inB p.2 (min (gy q k) (gy q (nx q.length k))) (max (gy q k) (gy q (nx q.length k))))) := rfl
  rw [h1, e]
  rfl
theorem nr_sml {k : Nat} (hk : k < q.length) : Nr MM (pt q k) p := by
  have h1 : within 1000 (pt q k).1 (pt q k).2 := hs k hk
  have h2 := hp
  unfold within at h1 h2
  unfold Nr MM
  omega
theorem cr_cs {k : Nat} (hk : k < q.length) (ho : onE q p.1 p.2 k = false) : (cs (hm MM p) (hm MM (pt q k)) (hm MM (pt q (nx q.length k))) = 0 ∧ crI q p.1 p.2 k = false) ∨ ((cs (hm MM p) (hm MM (pt q k)) (hm MM (pt q (nx q.length k))) = 1 ∨ cs (hm MM p) (hm MM (pt q k)) (hm MM (pt q (nx q.length k))) = -1) ∧ crI q p.1 p.2 k = true) := by
  have hn := nx_lt (n := q.length) (i := k) (by omega)
  have n1 := nr_sml hs hp hk
  have n2 := nr_sml hs hp hn
  have e := turnE_tu hs hp hk
  rw [onE_onZ hs hp hk] at ho
  have a1 := hm_lt (M := MM) n1.1 n1.2
  have a2 := hm_lt (M := MM) n1.2 n1.1
  have a3 := hm_lt (M := MM) n2.1 n2.2
  have a4 := hm_lt (M := MM) n2.2 n2.1
  have a5 := hm_neg (M := MM) (by decide) (pt q k) (pt q (nx q.length k)) p
  have a6 := hm_pos (M := MM) (by decide) (pt q k) (pt q (nx q.length k)) p
  have hcr : crI q p.1 p.2 k = ((decide (p.2 < (pt q k).2) != decide (p.2 < (pt q (nx q.length k)).2)) && (decide (0 < turnE q p.1 p.2 k) == decide ((pt q k).2 < (pt q (nx q.length k)).2))) := rfl
  rw [hcr, e]
  unfold cs
  simp only [a5, a6, a1, a2, a3, a4]
  clear hcr e a1 a2 a3 a4 a5 a6 n1 n2
  generalize pt q k = a at *
  generalize pt q (nx q.length k) = b at *
  have l1 : a.2 = p.2 → tu a b p = (a.1 - p.1) * (b.2 - a.2) := fun h => by unfold tu; rw [h]; grind
  have l2 : b.2 = p.2 → tu a b p = (b.1 - p.1) * (b.2 - a.2) := fun h => by unfold tu; rw [← h]; grind
  have m1 := sgm (a.1 - p.1) (b.2 - a.2)
  have m2 := sgm (b.1 - p.1) (b.2 - a.2)
  have hz : tu a b p = 0 → ¬ ((a.2 ≤ p.2 ∧ p.2 < b.2) ∨ (b.2 ≤ p.2 ∧ p.2 < a.2)) := fun h0 hh => by
    have h1 : turnZ a.1 a.2 b.1 b.2 p.1 p.2 = 0 := h0
    have h2 := on_of_line h1 hh
    unfold onZB inB at ho
    rw [h1] at ho
    simp only [decide_true, Bool.true_and, Bool.and_eq_false_iff, decide_eq_false_iff_not] at ho
    omega
  have hb1 : ∀ x y z w : Prop, ∀ [Decidable x] [Decidable y] [Decidable z] [Decidable w], ((decide x != decide y) && (decide z == decide w)) = decide ((¬ (x ↔ y)) ∧ (z ↔ w)) := fun x y z w => by
    by_cases h1 : x <;> by_cases h2 : y <;> by_cases h3 : z <;> by_cases h4 : w <;> simp [h1, h2, h3, h4]
  rw [hb1, decide_eq_false_iff_not, decide_eq_true_eq]
  clear ho hb1
  generalize tu a b p = t at *
  generalize (a.1 - p.1) * (b.2 - a.2) = s1 at *
  generalize (b.1 - p.1) * (b.2 - a.2) = s2 at *
  rcases Int.lt_trichotomy a.2 p.2 with h1 | h1 | h1 <;> rcases Int.lt_trichotomy b.2 p.2 with h2 | h2 | h2
  · rw [if_neg (by omega), if_neg (by omega)]; omega
  · clear m1 l1; rw [if_neg (by omega)]; split <;> omega
  · clear m1 l1 m2 l2; split
    · omega
    · rw [if_neg (by omega)]; omega
  · clear m2 l2; split
    · omega
    · rw [if_neg (by omega)]; omega
  · rw [if_neg (by omega), if_neg (by omega)]; omega
  · clear m2 l2; split
    · omega
    · split <;> omega
  · clear m1 l1 m2 l2; rw [if_neg (by omega)]; split <;> omega
  · clear m1 l1; split
    · omega
    · split <;> omega
  · rw [if_neg (by omega), if_neg (by omega)]; omega
end
theorem par_sm {f : Nat → Bool} {g : Nat → Int} : ∀ n, (∀ i, i < n → (g i = 0 ∧ f i = false) ∨ ((g i = 1 ∨ g i = -1) ∧ f i = true)) → ((parTo f n = true ∧ sm g n % 2 = 1) ∨ (parTo f n = false ∧ sm g n % 2 = 0))
  | 0, _ => .inr ⟨rfl, rfl⟩
  | n + 1, h => by
    have ih := par_sm n fun i hi => h i (by omega)
    have h1 := h n (by omega)
    rw [parTo_succ, sm]
    rcases h1 with ⟨h1, h2⟩ | ⟨h1, h2⟩
    · rw [h2, h1, if_neg (by decide), Int.add_zero]
      exact ih
    · rw [h2, if_pos rfl]
      rcases ih with ⟨i1, i2⟩ | ⟨i1, i2⟩ <;> rw [i1]
      · exact .inr ⟨rfl, by omega⟩
      · exact .inl ⟨rfl, by omega⟩
theorem off_walls {q : List P} (hs : Sml q) {p : P} (hp : within 1000 p.1 p.2) (ho : ∀ k, k < q.length → onE q p.1 p.2 k = false) : (∀ i, i < q.length → Off (hm MM p) (hv q i) (hv q (nx q.length i))) ∧ (∀ k, k < q.length → (hv q k).2 ≠ (hm MM p).2) := by
  refine ⟨fun i hi => off_hm (by decide) (nr_sml hs hp hi) (nr_sml hs hp (nx_lt (by omega))) (by rw [← onE_onZ hs hp hi]; exact ho i hi), fun k hk => hm_ne (by decide) (nr_sml hs hp hk) ?_⟩
  intro e
  have h := ho k hk
  rw [onE_onZ hs hp hk, ← e] at h
  unfold onZB inB at h
  have h1 : turnZ (pt q k).1 (pt q k).2 (pt q (nx q.length k)).1 (pt q (nx q.length k)).2 (pt q k).1 (pt q k).2 = 0 := tu_fst _ _
  rw [h1] at h
  simp only [decide_true, Bool.true_and, Bool.and_eq_false_iff, decide_eq_false_iff_not] at h
  omega
/-- off the walls the program's answer is the sum's -/
theorem place_wn {q : List P} {ts : List T3} (h : Trg (hv q) q.length ts) (hs : Sml q) {p : P} (hp : within 1000 p.1 p.2) (ho : ∀ k, k < q.length → onE q p.1 p.2 k = false) : (wn (hv q) q.length (hm MM p) = 1 ∧ placeV q p.1 p.2 = 2) ∨ (wn (hv q) q.length (hm MM p) = 0 ∧ placeV q p.1 p.2 = 0) := by
  have hpar := par_sm (f := crI q p.1 p.2) (g := fun i => cs (hm MM p) (hv q i) (hv q (nx q.length i))) q.length fun i hi => cr_cs hs hp hi (ho i hi)
  have e1 : sm (fun i => cs (hm MM p) (hv q i) (hv q (nx q.length i))) q.length = wn (hv q) q.length (hm MM p) := rfl
  rw [e1] at hpar
  have hof := off_walls hs hp ho
  have w1 := wR_off (v := hv q) (n := q.length) hof.2
  have u1 := h.upR (hm MM p)
  have u2 : 0 ≤ wR (hv q) q.length (hm MM p) := by
    rw [← h.sumR]
    exact ss_nn ts fun t ht => (h.nn ht _).1
  rw [placeV_off ho]
  rcases hpar with ⟨h1, h2⟩ | ⟨h1, h2⟩
  · rw [h1, if_pos rfl]
    exact .inl ⟨by omega, rfl⟩
  · rw [h1, if_neg (by decide)]
    exact .inr ⟨by omega, rfl⟩
theorem placeV_one {q : List P} {x y : Int} : placeV q x y = 1 ↔ ∃ k, k < q.length ∧ onE q x y k = true := by
  constructor
  · intro h
    unfold placeV at h
    split at h
    · rename_i h1
      rw [List.any_eq_true] at h1
      obtain ⟨k, hk, h2⟩ := h1
      exact ⟨k, List.mem_range.1 hk, h2⟩
    · split at h <;> omega
  · rintro ⟨k, hk, h⟩
    exact placeV_on hk h
theorem placeV_cases (q : List P) (x y : Int) : placeV q x y = 0 ∨ placeV q x y = 1 ∨ placeV q x y = 2 := by
  unfold placeV
  split
  · exact .inr (.inl rfl)
  · split
    · exact .inr (.inr rfl)
    · exact .inl rfl
theorem off_of_ne {q : List P} {x y : Int} (h : placeV q x y ≠ 1) : ∀ k, k < q.length → onE q x y k = false := fun k hk => by
  cases e : onE q x y k
  · rfl
  · exact absurd (placeV_on hk e) h

end Jor
end Go.Proofs.Ytjccilpjaaiicaa

namespace Go.Proofs.Ytjccilpjaaiicaa
open Go.RowKit

/-- the least and the greatest coordinates of the first k points and of the first one -/
def loX (l : List (Int × Int)) : Nat → Int
  | 0 => gx l 0
  | k + 1 => if gx l k < loX l k then gx l k else loX l k
def loY (l : List (Int × Int)) : Nat → Int
  | 0 => gy l 0
  | k + 1 => if gy l k < loY l k then gy l k else loY l k
def hiX (l : List (Int × Int)) : Nat → Int
  | 0 => gx l 0
  | k + 1 => if hiX l k < gx l k then gx l k else hiX l k
def hiY (l : List (Int × Int)) : Nat → Int
  | 0 => gy l 0
  | k + 1 => if hiY l k < gy l k then gy l k else hiY l k
theorem loX_succ (l : List (Int × Int)) (k : Nat) : loX l (k + 1) = if gx l k < loX l k then gx l k else loX l k := rfl
theorem loY_succ (l : List (Int × Int)) (k : Nat) : loY l (k + 1) = if gy l k < loY l k then gy l k else loY l k := rfl
theorem hiX_succ (l : List (Int × Int)) (k : Nat) : hiX l (k + 1) = if hiX l k < gx l k then gx l k else hiX l k := rfl
theorem hiY_succ (l : List (Int × Int)) (k : Nat) : hiY l (k + 1) = if hiY l k < gy l k then gy l k else hiY l k := rfl
theorem loX_min (l : List (Int × Int)) (k : Nat) : loX l (k + 1) = min (loX l k) (gx l k) := by rw [loX_succ]; split <;> omega
theorem loY_min (l : List (Int × Int)) (k : Nat) : loY l (k + 1) = min (loY l k) (gy l k) := by rw [loY_succ]; split <;> omega
theorem hiX_max (l : List (Int × Int)) (k : Nat) : hiX l (k + 1) = max (hiX l k) (gx l k) := by rw [hiX_succ]; split <;> omega
theorem hiY_max (l : List (Int × Int)) (k : Nat) : hiY l (k + 1) = max (hiY l k) (gy l k) := by rw [hiY_succ]; split <;> omega

theorem box_bd {l : List (Int × Int)} (hf : Fine l) (h0 : 0 < l.length) : ∀ k, k ≤ l.length → (-40 ≤ loX l k ∧ loX l k ≤ 40) ∧ (-40 ≤ loY l k ∧ loY l k ≤ 40) ∧ (-40 ≤ hiX l k ∧ hiX l k ≤ 40) ∧ (-40 ≤ hiY l k ∧ hiY l k ≤ 40) ∧ loX l k ≤ hiX l k ∧ loY l k ≤ hiY l k
  | 0, _ => by
    obtain ⟨⟨a, b⟩, c, d⟩ := hf.bd h0
    unfold loX loY hiX hiY
    omega
  | k + 1, hk => by
    obtain ⟨⟨a, b⟩, c, d⟩ := hf.bd (show k < l.length by omega)
    have ih := box_bd hf h0 k (by omega)
    rw [loX_min, loY_min, hiX_max, hiY_max]
    omega

theorem box_in {l : List (Int × Int)} : ∀ n k, k < n → (loX l n ≤ gx l k ∧ gx l k ≤ hiX l n) ∧ (loY l n ≤ gy l k ∧ gy l k ≤ hiY l n)
  | 0, k, h => by omega
  | n + 1, k, h => by
    rw [loX_min, loY_min, hiX_max, hiY_max]
    by_cases e : k = n
    · subst e; omega
    · have := box_in (l := l) n k (by omega)
      omega

/-- the points of a row from x on, n of them, that lie in l -/
def rowL (l : List (Int × Int)) (y x : Int) : Nat → List (Int × Int)
  | 0 => []
  | n + 1 => if (placeV l (x + n) y != 0) = true then rowL l y x n ++ [(x + n, y)] else rowL l y x n
theorem rowL_succ (l : List (Int × Int)) (y x : Int) (n : Nat) : rowL l y x (n + 1) = if (placeV l (x + n) y != 0) = true then rowL l y x n ++ [(x + n, y)] else rowL l y x n := rfl
theorem rowL_le (l : List (Int × Int)) (y x : Int) : ∀ n, (rowL l y x n).length ≤ n
  | 0 => Nat.le_refl _
  | n + 1 => by
    have := rowL_le l y x n
    rw [rowL_succ]
    split
    · rw [List.length_append]; simp; omega
    · omega
/-- the points of n rows -/
def rowsL (l : List (Int × Int)) (y x : Int) (m : Nat) : Nat → List (Int × Int)
  | 0 => []
  | n + 1 => rowsL l y x m n ++ rowL l (y + n) x m
theorem rowsL_succ (l : List (Int × Int)) (y x : Int) (m n : Nat) : rowsL l y x m (n + 1) = rowsL l y x m n ++ rowL l (y + n) x m := rfl
theorem rowsL_le (l : List (Int × Int)) (y x : Int) (m : Nat) : ∀ n, (rowsL l y x m n).length ≤ n * m
  | 0 => by simp [rowsL]
  | n + 1 => by
    have h1 := rowsL_le l y x m n
    have h2 := rowL_le l (y + n) x m
    rw [rowsL_succ, List.length_append, Nat.add_mul]
    omega
/-- the floor's points -/
def floorL (l : List (Int × Int)) : List (Int × Int) :=
  rowsL l (loY l l.length) (loX l l.length) (hiX l l.length - loX l l.length + 1).toNat (hiY l l.length - loY l l.length + 1).toNat
/-- FloorPoints, as both texts give it -/
def floorV (l : List (Int × Int)) : List (Int × Int) := if roomB l = true then floorL l else []
theorem floorL_le {l : List (Int × Int)} (hf : Fine l) (h0 : 0 < l.length) : (floorL l).length ≤ 6561 := by
  obtain ⟨⟨a1, a2⟩, ⟨b1, b2⟩, ⟨c1, c2⟩, ⟨d1, d2⟩, e1, e2⟩ := box_bd hf h0 l.length (Nat.le_refl _)
  have h := rowsL_le l (loY l l.length) (loX l l.length) (hiX l l.length - loX l l.length + 1).toNat (hiY l l.length - loY l l.length + 1).toNat
  have h2 : (hiY l l.length - loY l l.length + 1).toNat * (hiX l l.length - loX l l.length + 1).toNat ≤ 81 * 81 := Nat.mul_le_mul (by omega) (by omega)
  unfold floorL
  omega
theorem floorV_le (l : List (Int × Int)) : (floorV l).length ≤ 1048576 := by
  unfold floorV
  split
  · rename_i h
    obtain ⟨hf, h3⟩ := roomB_fine h
    have := floorL_le hf (by omega)
    omega
  · simp

end Go.Proofs.Ytjccilpjaaiicaa

namespace Go.Proofs.Ytjccilpjaaiicaa
namespace Jor

theorem sm_swap (f : Nat → Nat → Int) (m : Nat) : ∀ n, sm (fun i => sm (fun j => f i j) m) n = sm (fun j => sm (fun i => f i j) n) m
  | 0 => (sm_zero m).symm
  | n + 1 => by
    show sm (fun i => sm (fun j => f i j) m) n + sm (fun j => f n j) m = sm (fun j => sm (fun i => f i j) n + f n j) m
    rw [sm_add, sm_swap f m n]
/-- a sum over a box -/
def bx (x0 y0 : Int) (N H : Nat) (F : P → Int) : Int := sm (fun k => sm (fun j => F (x0 + (j : Nat), y0 + (k : Nat))) N) H
section
variable {x0 y0 : Int} {N H : Nat}
theorem bx_congr {F G : P → Int} (h : ∀ p : P, x0 ≤ p.1 → p.1 < x0 + N → y0 ≤ p.2 → p.2 < y0 + H → F p = G p) : bx x0 y0 N H F = bx x0 y0 N H G :=
  sm_congr _ _ H fun k hk => sm_congr _ _ N fun j hj => h _ (by simp only; omega) (by simp only; omega) (by simp only; omega) (by simp only; omega)
theorem bx_add (F G : P → Int) : bx x0 y0 N H (fun p => F p + G p) = bx x0 y0 N H F + bx x0 y0 N H G := by
  unfold bx
  rw [← sm_add]
  exact sm_congr _ _ H fun k _ => sm_add _ _ N
theorem bx_mul (c : Int) (F : P → Int) : bx x0 y0 N H (fun p => c * F p) = c * bx x0 y0 N H F := by
  unfold bx
  rw [← sm_mul]
  exact sm_congr _ _ H fun k _ => sm_mul c _ N
theorem bx_sm (F : Nat → P → Int) (n : Nat) : bx x0 y0 N H (fun p => sm (fun i => F i p) n) = sm (fun i => bx x0 y0 N H (F i)) n := by
  unfold bx
  rw [sm_swap (fun i k => sm (fun j => F i (x0 + (j : Nat), y0 + (k : Nat))) N) H n]
  exact sm_congr _ _ H fun k _ => (sm_swap (fun i j => F i (x0 + (j : Nat), y0 + (k : Nat))) N n).symm
/-- one place of the box -/
theorem bx_one (q : P) (c : Int) (h1 : x0 ≤ q.1) (h2 : q.1 < x0 + N) (h3 : y0 ≤ q.2) (h4 : q.2 < y0 + H) : bx x0 y0 N H (fun p => if p = q then c else 0) = c := by
  obtain ⟨a, ha⟩ : ∃ a : Nat, q.1 = x0 + a := ⟨(q.1 - x0).toNat, by omega⟩
  obtain ⟨b, hb⟩ : ∃ b : Nat, q.2 = y0 + b := ⟨(q.2 - y0).toNat, by omega⟩
  unfold bx
  rw [sm_one (d := b) H (by omega) ?_, sm_one (d := a) N (by omega) ?_]
  · exact if_pos (Prod.ext ha.symm hb.symm)
  · intro i hi hne
    refine if_neg ?_
    intro e
    have := congrArg Prod.fst e
    simp only at this
    omega
  · intro i hi hne
    rw [sm_congr _ (fun _ => 0) N ?_, sm_zero]
    intro j hj
    refine if_neg ?_
    intro e
    have := congrArg Prod.snd e
    simp only at this
    omega
end

/-! ## A room's box -/
def bX (l : List P) : Int := loX l l.length
def bY (l : List P) : Int := loY l l.length
def bN (l : List P) : Nat := (hiX l l.length - loX l l.length + 1).toNat
def bH (l : List P) : Nat := (hiY l l.length - loY l l.length + 1).toNat
/-- a sum over a room's box -/
def rx (l : List P) (F : P → Int) : Int := bx (bX l) (bY l) (bN l) (bH l) F
section
variable {l : List P} (hr : roomB l = true)
include hr
theorem box_nums : (-40 ≤ bX l ∧ bX l ≤ 40) ∧ (-40 ≤ bY l ∧ bY l ≤ 40) ∧ bX l + (bN l : Int) ≤ 41 ∧ bY l + (bH l : Int) ≤ 41 ∧ (bN l : Int) ≤ 81 ∧ (bH l : Int) ≤ 81 := by
  obtain ⟨hf, h3⟩ := roomB_fine hr
  have h := box_bd hf (by omega) l.length (Nat.le_refl _)
  unfold bX bY bN bH
  omega
theorem in_box {k : Nat} (hk : k < l.length) : bX l ≤ (pt l k).1 ∧ (pt l k).1 < bX l + bN l ∧ bY l ≤ (pt l k).2 ∧ (pt l k).2 < bY l + bH l := by
  have _ := hr
  have h := box_in (l := l) l.length k hk
  unfold bX bY bN bH pt
  simp only
  omega
/-- the sum of all the pushed points' sums is twice the area -/
theorem area_box : rx l (fun p => wR (hv l) l.length (hm MM p) + wL (hv l) l.length (hm MM p)) = areaZ l := by
  have h3 := (room_z hr).1.1
  have hb := box_nums hr
  have e1 : rx l (fun p => wR (hv l) l.length (hm MM p) + wL (hv l) l.length (hm MM p)) = sm (fun i => box MM (bX l) (bY l) (bN l) (bH l) (pt l i) (pt l (nx l.length i))) l.length := by
    have e2 : ∀ p, wR (hv l) l.length (hm MM p) + wL (hv l) l.length (hm MM p) = sm (fun i => cc MM (pt l i) (pt l (nx l.length i)) p) l.length := fun p => by
      unfold wR wL
      rw [← sm_add]
      rfl
    unfold rx
    rw [bx_congr fun p _ _ _ _ => e2 p, bx_sm]
    rfl
  rw [e1]
  have e3 : ∀ i, i < l.length → box MM (bX l) (bY l) (bN l) (bH l) (pt l i) (pt l (nx l.length i)) = (gx l i * gy l (Go.Proofs.Ytjccilpjaaiicaa.nx l i) - gy l i * gx l (Go.Proofs.Ytjccilpjaaiicaa.nx l i)) + ((gx l ((i + 1) % l.length) * gy l ((i + 1) % l.length) - gx l i * gy l i) + ((1 - 2 * bX l) * (gy l ((i + 1) % l.length) - gy l i) + (-1) * (gx l ((i + 1) % l.length) - gx l i))) := fun i hi => by
    have hn := nx_lt (n := l.length) (i := i) (by omega)
    have b1 := in_box hr hi
    have b2 := in_box hr hn
    rw [box_any (by decide) (by unfold MM; omega) ⟨b1.1, b1.2.1⟩ ⟨b2.1, b2.2.1⟩ ⟨b1.2.2.1, b1.2.2.2⟩ ⟨b2.2.2.1, b2.2.2.2⟩ (pt_ne hr hi hn (Ne.symm (nx_ne (by omega) hi)))]
    unfold pt nx Go.Proofs.Ytjccilpjaaiicaa.nx
    simp only
    grind
  rw [sm_congr _ _ _ e3, sm_add, sm_add, sm_add, sm_mul, sm_mul, sm_trip (gy l) (by omega), sm_trip (gx l) (by omega), sm_trip (fun i => gx l i * gy l i) (by omega)]
  unfold areaZ
  rw [areaTo_sm]
  omega
end
theorem room_sml {l : List P} (hr : roomB l = true) : Sml l := fun k hk => within_more (within_of_pok ((roomB_fine hr).1.pok hk)) (by decide)
/-- on a wall, but no corner of it -/
theorem on_of_onE {q : List P} (hs : Sml q) {p : P} (hp : within 1000 p.1 p.2) {k : Nat} (hk : k < q.length) (ho : onE q p.1 p.2 k = true) (h1 : p ≠ pt q k) (h2 : p ≠ pt q (nx q.length k)) : On (hm MM p) (hv q k) (hv q (nx q.length k)) := by
  have n1 := nr_sml hs hp hk
  have n2 := nr_sml hs hp (nx_lt (n := q.length) (i := k) (by omega))
  rw [onE_onZ hs hp hk] at ho
  have a1 := hm_lt (M := MM) n1.1 n1.2
  have a2 := hm_lt (M := MM) n1.2 n1.1
  have a3 := hm_lt (M := MM) n2.1 n2.2
  have a4 := hm_lt (M := MM) n2.2 n2.1
  have a5 := hm_neg (M := MM) (by decide) (pt q k) (pt q (nx q.length k)) p
  have a6 := hm_pos (M := MM) (by decide) (pt q k) (pt q (nx q.length k)) p
  unfold On hv
  generalize pt q k = a at *
  generalize pt q (nx q.length k) = b at *
  unfold onZB inB at ho
  simp only [Bool.and_eq_true, decide_eq_true_eq] at ho
  obtain ⟨ht, hx, hy⟩ := ho
  have ht' : tu a b p = 0 := ht
  refine ⟨?_, by omega⟩
  rw [a1, a2, a3, a4]
  have p1 : ¬ (p.1 = a.1 ∧ p.2 = a.2) := fun h => h1 (Prod.ext h.1 h.2)
  have p2 : ¬ (p.1 = b.1 ∧ p.2 = b.2) := fun h => h2 (Prod.ext h.1 h.2)
  by_cases e : a.2 = b.2
  · omega
  · have l1 : p.2 = a.2 → p.1 = a.1 := fun h => by
      have e2 : (a.1 - p.1) * (b.2 - a.2) = 0 := by rw [← ht']; unfold tu; rw [h]; grind
      rcases Int.mul_eq_zero.1 e2 with g | g <;> omega
    have l2 : p.2 = b.2 → p.1 = b.1 := fun h => by
      have e2 : (b.1 - p.1) * (b.2 - a.2) = 0 := by rw [← ht']; unfold tu; rw [h]; grind
      rcases Int.mul_eq_zero.1 e2 with g | g <;> omega
    omega
/-- on no wall, or on one and no corner, or a corner -/
theorem place_sum {l : List P} (hr : roomB l = true) {ts : List T3} (h : Trg (hv l) l.length ts) {p : P} (hp : within 1000 p.1 p.2) : wR (hv l) l.length (hm MM p) + wL (hv l) l.length (hm MM p) = 2 * (if placeV l p.1 p.2 = 2 then 1 else 0) + ((if placeV l p.1 p.2 = 1 then 1 else 0) + sm (fun j => if p = pt l j then wR (hv l) l.length (hv l j) + wL (hv l) l.length (hv l j) + -1 else 0) l.length) := by
  have hs := room_sml hr
  have hR := h.upR (hm MM p)
  have hL := h.upL (hm MM p)
  have hR0 : 0 ≤ wR (hv l) l.length (hm MM p) := by
    rw [← h.sumR]
    exact ss_nn ts fun t ht => (h.nn ht _).1
  have hL0 : 0 ≤ wL (hv l) l.length (hm MM p) := by
    rw [← h.sumL]
    exact ss_nn ts fun t ht => (h.nn ht _).2
  by_cases hc : ∃ j, j < l.length ∧ p = pt l j
  · obtain ⟨j, hj, rfl⟩ := hc
    have e1 : placeV l (pt l j).1 (pt l j).2 = 1 := by
      refine placeV_one.2 ⟨j, hj, ?_⟩
      rw [onE_onZ hs hp hj]
      unfold onZB inB
      have h1 : turnZ (pt l j).1 (pt l j).2 (pt l (nx l.length j)).1 (pt l (nx l.length j)).2 (pt l j).1 (pt l j).2 = 0 := tu_fst _ _
      rw [h1]
      simp only [decide_true, Bool.true_and, Bool.and_eq_true, decide_eq_true_eq]
      omega
    rw [e1, sm_one (d := j) l.length hj fun i hi hne => if_neg (pt_ne hr hj hi (Ne.symm hne)), if_pos rfl, if_neg (by decide), if_pos rfl]
    unfold hv
    omega
  · have z : sm (fun j => if p = pt l j then wR (hv l) l.length (hv l j) + wL (hv l) l.length (hv l j) + -1 else 0) l.length = 0 := by
      rw [sm_congr _ (fun _ => 0) _ fun j hj => if_neg fun e => hc ⟨j, hj, e⟩, sm_zero]
    rw [z]
    by_cases ho : placeV l p.1 p.2 = 1
    · obtain ⟨k, hk, hk2⟩ := placeV_one.1 ho
      have hn := nx_lt (n := l.length) (i := k) (by omega)
      have hon := on_of_onE hs hp hk hk2 (fun e => hc ⟨_, hk, e⟩) (fun e => hc ⟨_, hn, e⟩)
      have d := wLR_on h.hs hk (p := hm MM p) (fun j hj => hm_ne (by decide) (nr_sml hs hp hj) fun e => hc ⟨_, hj, e.symm⟩) hon
      rw [ho, if_neg (by decide), if_pos rfl]
      split at d <;> omega
    · have hof := off_walls hs hp (off_of_ne ho)
      have w1 := wR_off (v := hv l) (n := l.length) hof.2
      have w2 := wL_off (v := hv l) (n := l.length) hof.2 hof.1
      rcases place_wn h hs hp (off_of_ne ho) with ⟨k1, k2⟩ | ⟨k1, k2⟩
      · rw [k2, if_pos rfl, if_neg (by decide)]
        omega
      · rw [k2, if_neg (by decide), if_neg (by decide)]
        omega
/-- Pick -/
theorem pick {l : List P} (hr : roomB l = true) {ts : List T3} (h : Trg (hv l) l.length ts) : areaZ l = 2 * rx l (fun p => if placeV l p.1 p.2 = 2 then 1 else 0) + rx l (fun p => if placeV l p.1 p.2 = 1 then 1 else 0) - 2 := by
  have hb := box_nums hr
  rw [← area_box hr]
  have e1 : rx l (fun p => wR (hv l) l.length (hm MM p) + wL (hv l) l.length (hm MM p)) = rx l (fun p => 2 * (if placeV l p.1 p.2 = 2 then 1 else 0) + ((if placeV l p.1 p.2 = 1 then 1 else 0) + sm (fun j => if p = pt l j then wR (hv l) l.length (hv l j) + wL (hv l) l.length (hv l j) + -1 else 0) l.length)) := by
    refine bx_congr fun p h1 h2 h3 h4 => place_sum hr h ?_
    unfold within
    omega
  rw [e1]
  unfold rx
  rw [bx_add, bx_add, bx_mul, bx_sm, sm_congr _ (fun j => wR (hv l) l.length (hv l j) + wL (hv l) l.length (hv l j) + -1) _ fun j hj => ?_, sm_add, h.corners, sm_const]
  · omega
  · have b1 := in_box hr hj
    exact bx_one _ _ b1.1 b1.2.1 b1.2.2.1 b1.2.2.2

/-! ## The floor -/
theorem rowL_length (l : List P) (y x : Int) : ∀ n, ((rowL l y x n).length : Int) = sm (fun j => if placeV l (x + (j : Nat)) y ≠ 0 then 1 else 0) n
  | 0 => rfl
  | n + 1 => by
    rw [rowL_succ, sm, ← rowL_length l y x n]
    by_cases e : placeV l (x + (n : Nat)) y = 0
    · rw [if_neg (by simp [e]), if_neg (by simp [e])]
      omega
    · rw [if_pos (by simp [e]), if_pos e, List.length_append]
      simp
theorem rowsL_length (l : List P) (y x : Int) (m : Nat) : ∀ n, ((rowsL l y x m n).length : Int) = bx x y m n (fun p => if placeV l p.1 p.2 ≠ 0 then 1 else 0)
  | 0 => rfl
  | n + 1 => by
    have ih := rowsL_length l y x m n
    rw [rowsL_succ, List.length_append, Int.natCast_add, ih, rowL_length]
    rfl
theorem floor_length (l : List P) : ((floorL l).length : Int) = rx l (fun p => if placeV l p.1 p.2 = 2 then 1 else 0) + rx l (fun p => if placeV l p.1 p.2 = 1 then 1 else 0) := by
  unfold floorL
  rw [rowsL_length]
  unfold rx
  rw [← bx_add]
  refine bx_congr fun p _ _ _ _ => ?_
  rcases placeV_cases l p.1 p.2 with e | e | e <;> rw [e] <;> rfl
theorem mem_rowL {l : List P} {y x : Int} {p : P} : ∀ n, p ∈ rowL l y x n ↔ p.2 = y ∧ x ≤ p.1 ∧ p.1 < x + n ∧ placeV l p.1 p.2 ≠ 0
  | 0 => by
    simp only [rowL, List.not_mem_nil, false_iff]
    omega
  | n + 1 => by
    have ih := mem_rowL (l := l) (y := y) (x := x) (p := p) n
    rw [rowL_succ]
    split
    · rename_i h
      rw [List.mem_append, ih, List.mem_singleton]
      have h' : placeV l (x + n) y ≠ 0 := by simpa using h
      constructor
      · rintro (h1 | rfl)
        · refine ⟨h1.1, h1.2.1, by omega, h1.2.2.2⟩
        · exact ⟨rfl, by simp only; omega, by simp only; omega, h'⟩
      · rintro ⟨h1, h2, h3, h4⟩
        by_cases e : p.1 = x + n
        · exact .inr (Prod.ext e h1)
        · exact .inl ⟨h1, h2, by omega, h4⟩
    · rename_i h
      rw [ih]
      have h' : placeV l (x + n) y = 0 := by simpa using h
      constructor
      · rintro ⟨h1, h2, h3, h4⟩
        exact ⟨h1, h2, by omega, h4⟩
      · rintro ⟨h1, h2, h3, h4⟩
        refine ⟨h1, h2, ?_, h4⟩
        by_cases e : p.1 = x + n
        · rw [h1, e] at h4
          exact absurd h' h4
        · omega
theorem mem_rowsL {l : List P} {y x : Int} {m : Nat} {p : P} : ∀ n, p ∈ rowsL l y x m n ↔ (y ≤ p.2 ∧ p.2 < y + n) ∧ x ≤ p.1 ∧ p.1 < x + m ∧ placeV l p.1 p.2 ≠ 0
  | 0 => by
    simp only [rowsL, List.not_mem_nil, false_iff]
    omega
  | n + 1 => by
    have ih := mem_rowsL (l := l) (y := y) (x := x) (m := m) (p := p) n
    rw [rowsL_succ, List.mem_append, ih, mem_rowL]
    constructor
    · rintro (⟨h1, h2⟩ | ⟨h1, h2⟩)
      · exact ⟨by omega, h2⟩
      · exact ⟨by omega, h2⟩
    · rintro ⟨h1, h2⟩
      by_cases e : p.2 = y + n
      · exact .inr ⟨e, h2⟩
      · exact .inl ⟨by omega, h2⟩
theorem mem_floor {l : List P} {p : P} : p ∈ floorL l ↔ (bY l ≤ p.2 ∧ p.2 < bY l + bH l) ∧ bX l ≤ p.1 ∧ p.1 < bX l + bN l ∧ placeV l p.1 p.2 ≠ 0 := mem_rowsL _

end Jor
end Go.Proofs.Ytjccilpjaaiicaa

namespace Go.Proofs.Ytjccilpjaaiicaa
namespace Jor

theorem placeIn_at {l : List P} (hr : roomB l = true) {x y : Int} (hq : pok x y = true) : placeInV l x y = placeV l x y := by
  unfold placeInV
  rw [if_pos hq, if_pos hr]
theorem in_hm {M : Int} (hM : 0 < M) {p a b c : P} : In (hm M p) (hm M a) (hm M b) (hm M c) ↔ In p a b c := by
  have h1 := hm_neg hM a b p
  have h2 := hm_neg hM b c p
  have h3 := hm_neg hM c a p
  unfold In
  omega
/-- a coordinate of a closed triangle's point lies between the corners' -/
theorem in_ge {p a b c : P} (ht : 0 < tu a b c) (h : In p a b c) (f : P → Int) (hf : tu b c p * f a + tu c a p * f b + tu a b p * f c = tu a b c * f p) {x : Int} (ha : x ≤ f a) (hb : x ≤ f b) (hc : x ≤ f c) : x ≤ f p := by
  obtain ⟨h1, h2, h3⟩ := h
  have e := bary1 p a b c
  have k1 := Int.mul_nonneg h2 (show 0 ≤ f a - x by omega)
  have k2 := Int.mul_nonneg h3 (show 0 ≤ f b - x by omega)
  have k3 := Int.mul_nonneg h1 (show 0 ≤ f c - x by omega)
  have k4 : tu a b c * (f p - x) = tu b c p * (f a - x) + tu c a p * (f b - x) + tu a b p * (f c - x) := by
    rw [Int.mul_sub, ← hf, ← e]
    grind
  rcases Int.lt_or_le (f p) x with g | g
  · have := Int.mul_pos ht (show 0 < x - f p by omega)
    have e2 : tu a b c * (x - f p) = - (tu a b c * (f p - x)) := by grind
    omega
  · exact g
theorem in_between {p a b c : P} (ht : 0 < tu a b c) (h : In p a b c) : (∀ x, x ≤ a.1 → x ≤ b.1 → x ≤ c.1 → x ≤ p.1) ∧ (∀ x, a.1 < x → b.1 < x → c.1 < x → p.1 < x) ∧ (∀ x, x ≤ a.2 → x ≤ b.2 → x ≤ c.2 → x ≤ p.2) ∧ (∀ x, a.2 < x → b.2 < x → c.2 < x → p.2 < x) := by
  have e1 := bary_fst a b c p
  have e2 := bary_snd a b c p
  refine ⟨fun x k1 k2 k3 => in_ge ht h (fun q => q.1) e1 k1 k2 k3, fun x k1 k2 k3 => ?_, fun x k1 k2 k3 => in_ge ht h (fun q => q.2) e2 k1 k2 k3, fun x k1 k2 k3 => ?_⟩
  · have := in_ge ht h (fun q => -q.1) (by grind) (x := 1 - x) (by omega) (by omega) (by omega)
    omega
  · have := in_ge ht h (fun q => -q.2) (by grind) (x := 1 - x) (by omega) (by omega) (by omega)
    omega
/-- a point inside lies in some closed triangle -/
theorem inside_tri {q : List P} {ts : List T3} (h : Trg (hv q) q.length ts) (hs : Sml q) {p : P} (hp : within 1000 p.1 p.2) (h2 : placeV q p.1 p.2 = 2) : ∃ t, t ∈ ts ∧ InT (hv q) (hm MM p) t := by
  have hof := off_of_ne (show placeV q p.1 p.2 ≠ 1 by omega)
  rcases place_wn h hs hp hof with ⟨k1, _⟩ | ⟨_, k2⟩
  · have w1 := wR_off (v := hv q) (n := q.length) (off_walls hs hp hof).2
    have hsum := h.sumR (hm MM p)
    obtain ⟨t, ht, hpos⟩ := ss_pos (f := trR (hv q) (hm MM p)) ts (by omega)
    refine ⟨t, ht, ?_⟩
    have c := (h.core ht (rot_self t) (hm MM p)).1
    rcases c with c | c
    · omega
    · exact c.2
  · omega
/-- outside the box all points are outside -/
theorem out_box {l : List P} (hr : roomB l = true) {ts : List T3} (h : Trg (hv l) l.length ts) {p : P} (hq : pok p.1 p.2 = true) (hp : placeV l p.1 p.2 ≠ 0) : (bY l ≤ p.2 ∧ p.2 < bY l + bH l) ∧ bX l ≤ p.1 ∧ p.1 < bX l + bN l := by
  have h3 := (room_z hr).1.1
  have hw : within 1000 p.1 p.2 := within_more (within_of_pok hq) (by decide)
  have hs := room_sml hr
  rcases placeV_cases l p.1 p.2 with e | e | e
  · exact absurd e hp
  · obtain ⟨k, hk, ho⟩ := placeV_one.1 e
    rw [onE_onZ hs hw hk] at ho
    unfold onZB inB at ho
    simp only [Bool.and_eq_true, decide_eq_true_eq] at ho
    have b1 := in_box hr hk
    have b2 := in_box hr (nx_lt (n := l.length) (i := k) (by omega))
    omega
  · obtain ⟨t, ht, hin⟩ := inside_tri h hs hw e
    obtain ⟨l1, l2, l3⟩ := h.lt ht (rot_self t)
    have hin2 := (in_hm (by decide)).1 hin
    have hpos := (hm_pos (M := MM) (by decide) _ _ _).1 (h.pos t ht)
    have hb := in_between hpos hin2
    have b1 := in_box hr l1
    have b2 := in_box hr l2
    have b3 := in_box hr l3
    exact ⟨⟨hb.2.2.1 _ b1.2.2.1 b2.2.2.1 b3.2.2.1, hb.2.2.2 _ b1.2.2.2 b2.2.2.2 b3.2.2.2⟩, hb.1 _ b1.1 b2.1 b3.1, hb.2.1 _ b1.2.1 b2.2.1 b3.2.1⟩
/-- the floor's points are those in the room -/
theorem isIn_floor {l : List P} (hr : roomB l = true) {ts : List T3} (h : Trg (hv l) l.length ts) {x y : Int} (hq : pok x y = true) : isInV l x y = decide ((x, y) ∈ floorL l) := by
  unfold isInV
  rw [placeIn_at hr hq, Bool.eq_iff_iff, bne_iff_ne, decide_eq_true_eq, mem_floor]
  constructor
  · intro hp
    have := out_box hr h (p := (x, y)) hq hp
    exact ⟨this.1, this.2.1, this.2.2, hp⟩
  · intro hh
    exact hh.2.2.2
theorem corner_place {l : List P} (hr : roomB l = true) {k : Nat} (hk : k < l.length) : placeV l (pt l k).1 (pt l k).2 = 1 := by
  have hb := room_bd hr hk
  refine placeV_one.2 ⟨k, hk, ?_⟩
  rw [onE_onZ (room_sml hr) (by unfold within; omega) hk]
  unfold onZB inB
  have h1 : turnZ (pt l k).1 (pt l k).2 (pt l (nx l.length k)).1 (pt l (nx l.length k)).2 (pt l k).1 (pt l k).2 = 0 := tu_fst _ _
  rw [h1]
  simp only [decide_true, Bool.true_and, Bool.and_eq_true, decide_eq_true_eq]
  omega
theorem corner_floor {l : List P} (hr : roomB l = true) {k : Nat} (hk : k < l.length) : pt l k ∈ floorL l := by
  have b := in_box hr hk
  rw [mem_floor, corner_place hr hk]
  exact ⟨⟨b.2.2.1, b.2.2.2⟩, b.1, b.2.1, by decide⟩

end Jor
end Go.Proofs.Ytjccilpjaaiicaa

namespace Go.Proofs.Ytjccilpjaaiicaa
open Go.RowKit

/-- the corners i and k follow each other -/
def nbB (l : List (Int × Int)) (i k : Nat) : Bool := (i + 1) % l.length == k || (k + 1) % l.length == i
/-- the program's diagonal, for two corners of a valid room -/
def dgN (l : List (Int × Int)) (i k : Nat) : Bool := !(i == k || nbB l i k) && ((cuts l (gx l i) (gy l i) (gx l k) (gy l k)).length == 2 && (seesV l (gx l i) (gy l i) (gx l k) (gy l k) && (midP l (gx l i) (gy l i) (gx l k) (gy l k) == 2)))
/-- the reference's -/
def dgS (l : List (Int × Int)) (i k : Nat) : Bool := !((i == k || nbB l i k) || !seesV l (gx l i) (gy l i) (gx l k) (gy l k)) && (freeB l i k && decide (0 < holdsV (dbl l) (gx l i + gx l k) (gy l i + gy l k)))
/-- IsDiagonal, as both texts give it -/
def diagB (l : List (Int × Int)) (i k : Int) : Bool := roomB l && (inB i 0 ((l.length : Int) - 1) && (inB k 0 ((l.length : Int) - 1) && dgN l i.toNat k.toNat))

theorem cuts_two {l : List (Int × Int)} (hr : roomB l = true) {i k : Nat} (hi : i < l.length) (hk : k < l.length) : ((cuts l (gx l i) (gy l i) (gx l k) (gy l k)).length == 2) = freeB l i k := by
  have hf := (roomB_fine hr).1
  have hn := room_nodup hr
  have hw : ∀ j, j < l.length → within 1000000 (gx l j) (gy l j) := fun j hj => within_more (within_of_pok (hf.pok hj)) (by omega)
  have ne : ∀ j m, j < l.length → m < l.length → j ≠ m → (gx l j, gy l j) ≠ (gx l m, gy l m) := fun j m hj hm h e => h (nodup_getD (d := ((0, 0) : Int × Int)) hn hj hm e)
  have hlen : (cuts l (gx l i) (gy l i) (gx l k) (gy l k)).length = 2 + (l.filter (fun p => cutB (gx l i) (gy l i) (gx l k) (gy l k) p.1 p.2)).length := by
    unfold cuts cutsTo
    rw [List.take_length]
    simp only [List.length_cons]
    omega
  rw [Bool.eq_iff_iff, hlen]
  unfold freeB freeTo
  rw [List.all_eq_true]
  simp only [List.mem_range, beq_iff_eq, Bool.or_eq_true, Bool.not_eq_true']
  constructor
  · intro h j hj
    have h0 : l.filter (fun p => cutB (gx l i) (gy l i) (gx l k) (gy l k) p.1 p.2) = [] := List.length_eq_zero_iff.1 (by omega)
    rw [List.filter_eq_nil_iff] at h0
    have h1 := h0 _ (g_mem hj)
    rw [cutB_iff (p := (gx l j, gy l j)) (hf.pok hi) (hf.pok hk) (hf.pok hj)] at h1
    by_cases e1 : j = i
    · exact .inl e1
    · by_cases e2 : j = k
      · exact .inr (.inl e2)
      · refine .inr (.inr ?_)
        rw [Bool.eq_false_iff]
        intro ho
        exact h1 ⟨ne j i hj hi e1, ne j k hj hk e2, (onW_iff (a := (gx l i, gy l i)) (b := (gx l k, gy l k)) (c := (gx l j, gy l j)) (hw i hi) (hw k hk) (hw j hj)).1 ho⟩
  · intro h
    have h0 : l.filter (fun p => cutB (gx l i) (gy l i) (gx l k) (gy l k) p.1 p.2) = [] := by
      rw [List.filter_eq_nil_iff]
      intro p hp hc
      obtain ⟨j, hj, e1, e2⟩ := mem_g hp
      have ep : p = (gx l j, gy l j) := Prod.ext e1.symm e2.symm
      subst ep
      obtain ⟨n1, n2, ho⟩ := (cutB_iff (p := (gx l j, gy l j)) (hf.pok hi) (hf.pok hk) (hf.pok hj)).1 hc
      rcases h j hj with h1 | h1 | h1
      · subst h1; exact n1 rfl
      · subst h1; exact n2 rfl
      · have := (onW_iff (a := (gx l i, gy l i)) (b := (gx l k, gy l k)) (c := (gx l j, gy l j)) (hw i hi) (hw k hk) (hw j hj)).2 ho
        rw [h1] at this
        cases this
    rw [h0]
    rfl

theorem dg_eq {l : List (Int × Int)} (hr : roomB l = true) {i k : Nat} (hi : i < l.length) (hk : k < l.length) : dgS l i k = dgN l i k := by
  have hf := (roomB_fine hr).1
  have hm := mid_holds hf (p := (gx l i, gy l i)) (q := (gx l k, gy l k)) (hf.pok hi) (hf.pok hk)
  have hb := holds_bd (dbl l) (gx l i + gx l k) (gy l i + gy l k)
  have e : decide (0 < holdsV (dbl l) (gx l i + gx l k) (gy l i + gy l k)) = (midP l (gx l i) (gy l i) (gx l k) (gy l k) == 2) := by
    have hm' : midP l (gx l i) (gy l i) (gx l k) (gy l k) = holdsV (dbl l) (gx l i + gx l k) (gy l i + gy l k) + 1 := hm
    rw [hm', Bool.eq_iff_iff]
    simp only [decide_eq_true_eq, beq_iff_eq]
    omega
  unfold dgS dgN
  rw [cuts_two hr hi hk, e]
  cases (i == k || nbB l i k) <;> cases seesV l (gx l i) (gy l i) (gx l k) (gy l k) <;> cases freeB l i k <;> simp

end Go.Proofs.Ytjccilpjaaiicaa

namespace Go.Proofs.Ytjccilpjaaiicaa
namespace Jor

theorem crs_of {a b c d : P} (h : crossZ a b c d = true) : Crs a b c d := by
  unfold crossZ at h
  rw [Bool.and_eq_true, decide_eq_true_eq, decide_eq_true_eq] at h
  have k : ∀ x y : Int, sgn x * sgn y < 0 → (x < 0 ∧ 0 < y) ∨ (0 < x ∧ y < 0) := fun x y hh => by
    unfold sgn at hh
    by_cases h1 : 0 < x <;> by_cases h2 : x < 0 <;> by_cases h3 : 0 < y <;> by_cases h4 : y < 0 <;> simp [h1, h2, h3, h4] at hh <;> omega
  exact ⟨k _ _ h.1, k _ _ h.2⟩
/-- a place between x and y -/
def mix (α β : Int) (x y : P) : P := (β * x.1 + α * y.1, β * x.2 + α * y.2)
theorem tu_mix (α β : Int) (a b x y : P) : tu (sc (α + β) a) (sc (α + β) b) (mix α β x y) = (α + β) * (β * tu a b x + α * tu a b y) := by
  unfold tu sc mix
  grind
theorem hm_sc (M D : Int) (a : P) : hm M (sc D a) = sc D (hm M a) := by
  unfold hm sc
  simp only
  congr 1
  grind
theorem hm_mix (M α β : Int) (x y : P) : hm M (mix α β x y) = mix α β (hm M x) (hm M y) := by
  unfold hm mix
  simp only
  congr 1
  grind
theorem tu_bd {a b c : P} (ha : within 40 a.1 a.2) (hb : within 40 b.1 b.2) (hc : within 40 c.1 c.2) : -20000 ≤ tu a b c ∧ tu a b c ≤ 20000 := by
  unfold within at ha hb hc
  have h1 := mul_bd (b.1 - a.1) (c.2 - a.2) 80 80 (by omega) (by omega) (by omega) (by omega)
  have h2 := mul_bd (b.2 - a.2) (c.1 - a.1) 80 80 (by omega) (by omega) (by omega) (by omega)
  unfold tu
  omega
section
variable {l : List P} (hr : roomB l = true) {ts : List T3} (h : Trg (hv l) l.length ts)
include hr h
theorem w40 {k : Nat} (hk : k < l.length) : within 40 (pt l k).1 (pt l k).2 := by
  have _ := h
  have := room_bd hr hk
  exact this
/-- no wall crosses the way between two points of a closed triangle -/
theorem no_cross1 {t : T3} (ht : t ∈ ts) {x y : P} (hx : within 40 x.1 x.2) (hy : within 40 y.1 y.2) (ix : InT (hv l) (hm MM x) t) (iy : InT (hv l) (hm MM y) t) {k : Nat} (hk : k < l.length) (s1 : 0 < tu (pt l k) (pt l (nx l.length k)) x) (s2 : tu (pt l k) (pt l (nx l.length k)) y < 0) (s3 : (tu x y (pt l k) < 0 ∧ 0 < tu x y (pt l (nx l.length k))) ∨ (0 < tu x y (pt l k) ∧ tu x y (pt l (nx l.length k)) < 0)) : False := by
  have h3 := (room_z hr).1.1
  have hn := nx_lt (n := l.length) (i := k) (by omega)
  have wc := w40 hr h hk
  have wd := w40 hr h hn
  obtain ⟨α, hα⟩ : ∃ α, α = tu (pt l k) (pt l (nx l.length k)) x := ⟨_, rfl⟩
  obtain ⟨β, hβ⟩ : ∃ β, β = - tu (pt l k) (pt l (nx l.length k)) y := ⟨_, rfl⟩
  have bα := tu_bd wc wd hx
  have bβ := tu_bd wc wd hy
  have hD : 0 < α + β := by omega
  have hs := h.sc hD
  have hM : (0 : Int) < MM := by decide
  -- the point where the wall meets the way, in the multiplied plane
  obtain ⟨p, hp⟩ : ∃ p, p = mix α β (hm MM x) (hm MM y) := ⟨_, rfl⟩
  have tuMM : ∀ a b c : P, tu (hm MM a) (hm MM b) (hm MM c) = MM * tu a b c := tu_hm MM
  have hin : InT (fun i => Jor.sc (α + β) (hv l i)) p t := by
    obtain ⟨x1, x2, x3⟩ := ix
    obtain ⟨y1, y2, y3⟩ := iy
    have k : ∀ a b : P, 0 ≤ tu a b (hm MM x) → 0 ≤ tu a b (hm MM y) → 0 ≤ tu (Jor.sc (α + β) a) (Jor.sc (α + β) b) p := fun a b ha hb => by
      rw [hp, tu_mix]
      have q1 := Int.mul_nonneg (show 0 ≤ β by omega) ha
      have q2 := Int.mul_nonneg (show 0 ≤ α by omega) hb
      exact Int.mul_nonneg (by omega) (by omega)
    exact ⟨k _ _ x1 y1, k _ _ x2 y2, k _ _ x3 y3⟩
  have e0 : tu (Jor.sc (α + β) (hv l k)) (Jor.sc (α + β) (hv l (nx l.length k))) p = 0 := by
    rw [hp, tu_mix]
    unfold hv
    rw [tuMM, tuMM, ← hα]
    have : tu (pt l k) (pt l (nx l.length k)) y = -β := by omega
    rw [this]
    have e : β * (MM * α) + α * (MM * -β) = 0 := by grind
    rw [e, Int.mul_zero]
  have hne := (simple_room hr).hts k (nx l.length k) hk hn (Ne.symm (nx_ne (by omega) hk))
  have hon : On p (Jor.sc (α + β) (hv l k)) (Jor.sc (α + β) (hv l (nx l.length k))) := by
    refine ⟨?_, e0⟩
    have f0 := aff0 x y (pt l k) (pt l (nx l.length k))
    have sgnc : tu x y (pt l k) < 0 ∧ 0 < tu x y (pt l (nx l.length k)) := by omega
    have g1 : MM * (p.2 - (α + β) * (hv l k).2) = MM * (- tu x y (pt l k) * ((hv l (nx l.length k)).2 - (hv l k).2)) := by
      have f := aff (hm MM x) (hm MM y) (hv l k) (hv l (nx l.length k)) (hv l k).2
      unfold hv at f ⊢
      rw [tuMM, tuMM, tuMM, tuMM, ← hα] at f
      have : tu (pt l k) (pt l (nx l.length k)) y = -β := by omega
      rw [this] at f
      rw [hp]
      unfold mix
      simp only
      grind
    have g2 : MM * (p.2 - (α + β) * (hv l (nx l.length k)).2) = MM * (tu x y (pt l (nx l.length k)) * ((hv l k).2 - (hv l (nx l.length k)).2)) := by
      have f := aff (hm MM x) (hm MM y) (hv l k) (hv l (nx l.length k)) (hv l (nx l.length k)).2
      unfold hv at f ⊢
      rw [tuMM, tuMM, tuMM, tuMM, ← hα] at f
      have : tu (pt l k) (pt l (nx l.length k)) y = -β := by omega
      rw [this] at f
      rw [hp]
      unfold mix
      simp only
      grind
    have g1' := Int.eq_of_mul_eq_mul_left (by decide) g1
    have g2' := Int.eq_of_mul_eq_mul_left (by decide) g2
    have m1 := sgm (- tu x y (pt l k)) ((hv l (nx l.length k)).2 - (hv l k).2)
    have m2 := sgm (tu x y (pt l (nx l.length k))) ((hv l k).2 - (hv l (nx l.length k)).2)
    have c1 : (Jor.sc (α + β) (hv l k)).2 = (α + β) * (hv l k).2 := rfl
    have c2 : (Jor.sc (α + β) (hv l (nx l.length k))).2 = (α + β) * (hv l (nx l.length k)).2 := rfl
    rw [c1, c2]
    clear hin hs ix iy hα hβ hp e0 g1 g2 f0 s3 tuMM
    omega
  have hg : ∀ j, j < l.length → (Jor.sc (α + β) (hv l j)).2 ≠ p.2 := by
    intro j hj e
    have e2 : Jor.sc (α + β) (hv l j) = hm MM (Jor.sc (α + β) (pt l j)) := (hm_sc MM (α + β) (pt l j)).symm
    have e3 : p = hm MM (mix α β x y) := by rw [hp, hm_mix]
    have wj := w40 hr h hj
    have hnr : Nr MM (Jor.sc (α + β) (pt l j)) (mix α β x y) := by
      unfold within at wj hx hy
      have m1 := mul_bd β ((pt l j).1 - x.1) 20000 80 (by omega) (by omega) (by omega) (by omega)
      have m2 := mul_bd α ((pt l j).1 - y.1) 20000 80 (by omega) (by omega) (by omega) (by omega)
      have e4 : (α + β) * (pt l j).1 - (β * x.1 + α * y.1) = β * ((pt l j).1 - x.1) + α * ((pt l j).1 - y.1) := by grind
      unfold Nr mix Jor.sc MM
      simp only
      omega
    have e5 : Jor.sc (α + β) (pt l j) = mix α β x y := by
      by_cases e6 : Jor.sc (α + β) (pt l j) = mix α β x y
      · exact e6
      · rw [e2, e3] at e
        exact absurd e (hm_ne hM hnr e6)
    have e7 : Jor.sc (α + β) (hv l j) = p := by rw [e2, e5, e3]
    have j1 : j ≠ k := by rintro rfl; have := hon.1; rw [← e7] at this; omega
    have j2 : j ≠ nx l.length k := by rintro rfl; have := hon.1; rw [← e7] at this; omega
    have := hs.hs.off k j hk hj j1 j2
    rw [e7] at this
    exact this hon.1 hon.2
  obtain ⟨c, hrot, _⟩ := hs.on_wall ht hin hg hk hon
  have iy' := (hrot.inT (hv l) (hm MM y)).1 iy
  have := iy'.1
  unfold hv at this
  rw [tuMM] at this
  have := mul_neg' s2 hM
  rw [Int.mul_comm] at this
  omega
theorem no_cross {t : T3} (ht : t ∈ ts) {x y : P} (hx : within 40 x.1 x.2) (hy : within 40 y.1 y.2) (ix : InT (hv l) (hm MM x) t) (iy : InT (hv l) (hm MM y) t) {k : Nat} (hk : k < l.length) : ¬ Crs (pt l k) (pt l (nx l.length k)) x y := by
  rintro ⟨h1, h2⟩
  rcases h2 with ⟨s1, s2⟩ | ⟨s1, s2⟩
  · exact no_cross1 hr h ht hy hx iy ix hk s2 s1 (by rw [tu_swap x y, tu_swap x y]; omega)
  · exact no_cross1 hr h ht hx hy ix iy hk s1 s2 h1
end

end Jor
end Go.Proofs.Ytjccilpjaaiicaa

namespace Go.Proofs.Ytjccilpjaaiicaa
namespace Jor

/-- along a straight way a turn lies between those at its ends -/
theorem onz_ge {a b p u w : P} (ho : OnZ a b p) (ha : 0 ≤ tu u w a) (hb : 0 ≤ tu u w b) : 0 ≤ tu u w p := by
  by_cases hab : a = b
  · subst hab
    rw [onz_same ho]
    exact ha
  · have hD := DD_pos hab
    have t1 := tt_nn ho
    have t2 := tt_nn (onz_comm.1 ho)
    have e1 := ttx ho
    have e2 := tty ho
    have e3 : tt b a p = DD a b - tt a b p := by
      unfold tt DD
      grind
    rw [e3] at t2
    have q1 := Int.mul_nonneg t1 hb
    have q2 := Int.mul_nonneg t2 ha
    have e4 : tu u w p * DD a b = tt a b p * tu u w b + (DD a b - tt a b p) * tu u w a := by
      have f1 : p.1 * DD a b = tt a b p * (b.1 - a.1) + a.1 * DD a b := by grind
      have f2 : p.2 * DD a b = tt a b p * (b.2 - a.2) + a.2 * DD a b := by grind
      have f3 : tu u w p * DD a b = (w.1 - u.1) * (p.2 * DD a b - u.2 * DD a b) - (w.2 - u.2) * (p.1 * DD a b - u.1 * DD a b) := by unfold tu; grind
      rw [f3, f1, f2]
      unfold tu
      grind
    rcases Int.lt_or_le (tu u w p) 0 with g | g
    · have := mul_neg' g hD
      omega
    · exact g
theorem onz_in {a b p x y z : P} (ho : OnZ a b p) (ha : In a x y z) (hb : In b x y z) : In p x y z := ⟨onz_ge ho ha.1 hb.1, onz_ge ho ha.2.1 hb.2.1, onz_ge ho ha.2.2 hb.2.2⟩

/-! ## The doubled room -/
theorem pt_dbl (l : List P) (i : Nat) : pt (dbl l) i = sc 2 (pt l i) := by
  have e : (dbl l).getD i (0, 0) = (2 * (l.getD i (0, 0)).1, 2 * (l.getD i (0, 0)).2) := by
    unfold dbl dblTo
    rw [List.take_length, List.getD_eq_getElem?_getD, List.getElem?_map, List.getD_eq_getElem?_getD]
    cases l[i]? with
    | none => rfl
    | some p => rfl
  exact e
theorem hv_dbl (l : List P) : hv (dbl l) = fun i => sc 2 (hv l i) := by
  funext i
  unfold hv
  rw [pt_dbl, hm_sc]
theorem trg_dbl {l : List P} {ts : List T3} (h : Trg (hv l) l.length ts) : Trg (hv (dbl l)) (dbl l).length ts := by
  rw [hv_dbl, dbl_length]
  exact h.sc (by decide)
theorem sml_dbl {l : List P} (hr : roomB l = true) : Sml (dbl l) := fun k hk => by
  rw [dbl_length] at hk
  have hb := room_bd hr hk
  have e : pt (dbl l) k = sc 2 (pt l k) := pt_dbl l k
  have e1 : gx (dbl l) k = 2 * (pt l k).1 := congrArg Prod.fst e
  have e2 : gy (dbl l) k = 2 * (pt l k).2 := congrArg Prod.snd e
  rw [e1, e2]
  unfold within
  omega
/-- the sum of two points, the middle in the doubled plane -/
def mid2 (x y : P) : P := (x.1 + y.1, x.2 + y.2)
theorem tu_mid (a b x y : P) : tu (sc 2 a) (sc 2 b) (mid2 x y) = 2 * (tu a b x + tu a b y) := by
  unfold tu sc mid2
  grind
section
variable {l : List P} (hr : roomB l = true) {ts : List T3} (h : Trg (hv l) l.length ts)
include hr h
/-- the corners of a triangle, in the plane's own heights -/
theorem in_pt {t : T3} {a b c : Nat} (hrot : Rot t a b c) {p : P} : InT (hv l) (hm MM p) t ↔ In p (pt l a) (pt l b) (pt l c) := by
  have _ := hr
  have _ := h
  rw [hrot.inT]
  exact in_hm (by decide)
theorem pos_pt {t : T3} (ht : t ∈ ts) {a b c : Nat} (hrot : Rot t a b c) : 0 < tu (pt l a) (pt l b) (pt l c) := by
  have _ := hr
  exact (hm_pos (M := MM) (by decide) _ _ _).1 (h.tu_pos ht hrot)
theorem in_dbl {t : T3} {a b c : Nat} (hrot : Rot t a b c) {p : P} : InT (hv (dbl l)) (hm MM p) t ↔ In p (sc 2 (pt l a)) (sc 2 (pt l b)) (sc 2 (pt l c)) := by
  have _ := hr
  have _ := h
  rw [hrot.inT]
  unfold hv
  rw [pt_dbl, pt_dbl, pt_dbl]
  have h1 := hm_neg (M := MM) (by decide) (sc 2 (pt l a)) (sc 2 (pt l b)) p
  have h2 := hm_neg (M := MM) (by decide) (sc 2 (pt l b)) (sc 2 (pt l c)) p
  have h3 := hm_neg (M := MM) (by decide) (sc 2 (pt l c)) (sc 2 (pt l a)) p
  unfold In
  omega
theorem mid_in2 {t : T3} (ht : t ∈ ts) {x y : P} (ix : InT (hv l) (hm MM x) t) (iy : InT (hv l) (hm MM y) t) : InT (hv (dbl l)) (hm MM (mid2 x y)) t := by
  have _ := ht
  rw [in_pt hr h (rot_self t)] at ix iy
  rw [in_dbl hr h (rot_self t)]
  obtain ⟨x1, x2, x3⟩ := ix
  obtain ⟨y1, y2, y3⟩ := iy
  unfold In
  rw [tu_mid, tu_mid, tu_mid]
  omega
/-- the middle of two points of a closed triangle lies in the room -/
theorem mid_place {t : T3} (ht : t ∈ ts) {x y : P} (hx : pok x.1 x.2 = true) (hy : pok y.1 y.2 = true) (ix : InT (hv l) (hm MM x) t) (iy : InT (hv l) (hm MM y) t) : placeV (dbl l) (x.1 + y.1) (x.2 + y.2) ≠ 0 := by
  intro h0
  have hd := trg_dbl h
  have hs := sml_dbl hr
  have w1 := within_of_pok hx
  have w2 := within_of_pok hy
  have hw : within 1000 (mid2 x y).1 (mid2 x y).2 := by
    unfold within at *
    unfold mid2
    simp only
    omega
  have hof := off_of_ne (q := dbl l) (x := (mid2 x y).1) (y := (mid2 x y).2) (by
    show placeV (dbl l) (x.1 + y.1) (x.2 + y.2) ≠ 1
    omega)
  obtain ⟨o1, o2⟩ := off_walls hs hw hof
  have k := hd.in_off ht (mid_in2 hr h ht ix iy) o2 o1
  have h1 : placeV (dbl l) (mid2 x y).1 (mid2 x y).2 = 0 := h0
  rcases place_wn hd hs hw hof with ⟨_, k2⟩ | ⟨k1, _⟩ <;> omega
/-- two points of a closed triangle see each other -/
theorem sees_in {t : T3} (ht : t ∈ ts) {x y : P} (hx : pok x.1 x.2 = true) (hy : pok y.1 y.2 = true) (ix : InT (hv l) (hm MM x) t) (iy : InT (hv l) (hm MM y) t) : seesV l x.1 x.2 y.1 y.2 = true := by
  have hf := (roomB_fine hr).1
  have h3 := (room_z hr).1.1
  unfold seesV
  rw [Bool.and_eq_true]
  constructor
  · unfold clearTo
    rw [List.all_eq_true]
    intro k hk
    rw [List.mem_range] at hk
    have hn := nx_lt (n := l.length) (i := k) (by omega)
    rw [Bool.not_eq_true', Bool.eq_false_iff]
    intro hc
    have wx := within_more (within_of_pok hx) (N := 1000000) (by decide)
    have wy := within_more (within_of_pok hy) (N := 1000000) (by decide)
    have wc : within 1000000 (pt l k).1 (pt l k).2 := within_more (w40 hr h hk) (by decide)
    have wd : within 1000000 (pt l (nx l.length k)).1 (pt l (nx l.length k)).2 := within_more (w40 hr h hn) (by decide)
    have e : crsE l x.1 x.2 y.1 y.2 k = crossZ (pt l k) (pt l (nx l.length k)) x y := by
      have e1 : crsE l x.1 x.2 y.1 y.2 k = crossB (pt l k).1 (pt l k).2 (pt l (nx l.length k)).1 (pt l (nx l.length k)).2 x.1 x.2 y.1 y.2 := rfl
      rw [e1]
      unfold crossB sideB crossZ
      rw [turnW_eq wx wy wc, turnW_eq wx wy wd, turnW_eq wc wd wx, turnW_eq wc wd wy]
    rw [e] at hc
    exact no_cross hr h ht (within_of_pok hx) (within_of_pok hy) ix iy hk (crs_of hc)
  · rw [goodTo_iff]
    intro i k hi hk _
    have c1 := cuts_on (l := l) hf hx hy _ (g_mem hi)
    have c2 := cuts_on (l := l) hf hx hy _ (g_mem (show k < (cuts l x.1 x.2 y.1 y.2).length by omega))
    rw [in_pt hr h (rot_self t)] at ix iy
    have i1 := (in_pt hr h (rot_self t)).2 (onz_in c1.2 ix iy)
    have i2 := (in_pt hr h (rot_self t)).2 (onz_in c2.2 ix iy)
    have hm := mid_place hr h ht c1.1 c2.1 i1 i2
    have e := mid_holds hf c1.1 c2.1
    unfold midP at e
    have hb := holds_bd (dbl l) (gx (cuts l x.1 x.2 y.1 y.2) i + gx (cuts l x.1 x.2 y.1 y.2) k) (gy (cuts l x.1 x.2 y.1 y.2) i + gy (cuts l x.1 x.2 y.1 y.2) k)
    unfold midS
    simp only at hm e
    omega
theorem in_corner {t : T3} (ht : t ∈ ts) {a b c : Nat} (hrot : Rot t a b c) : InT (hv l) (hm MM (pt l a)) t := by
  have hp := pos_pt hr h ht hrot
  rw [in_pt hr h hrot]
  unfold In
  rw [tu_fst, tu_snd, tu_rot]
  omega
/-- an inner wall of a triangle is a diagonal -/
theorem diag_of {t : T3} (ht : t ∈ ts) {i k c : Nat} (hrot : Rot t i k c) (hnb : nbr l.length i k = false) : dgN l i k = true := by
  have hf := (roomB_fine hr).1
  have h3 := (room_z hr).1.1
  obtain ⟨hi, hk, hc⟩ := h.lt ht hrot
  obtain ⟨n1, n2, n3⟩ := h.ne ht hrot
  have hp := pos_pt hr h ht hrot
  have pi := hf.pok hi
  have pk := hf.pok hk
  have ii := in_corner hr h ht hrot
  have ik := in_corner hr h ht hrot.rot
  have hsee := sees_in hr h ht (x := pt l i) (y := pt l k) pi pk ii ik
  have hnb' : nbB l i k = false := hnb
  have hcuts : (cuts l (gx l i) (gy l i) (gx l k) (gy l k)).length = 2 := by
    unfold cuts cutsTo
    rw [List.take_length]
    have e : l.filter (fun p => cutB (gx l i) (gy l i) (gx l k) (gy l k) p.1 p.2) = [] := by
      rw [List.filter_eq_nil_iff]
      intro p hpm hcut
      have hpp := pok_mem hf hpm
      obtain ⟨c1, c2, c3⟩ := (cutB_iff pi pk hpp).1 hcut
      obtain ⟨j, hj, e1, e2⟩ := mem_g hpm
      have ep : pt l j = p := Prod.ext e1 e2
      have hin : InT (hv l) (hm MM p) t := by
        rw [in_pt hr h hrot] at ii ik ⊢
        exact onz_in c3 ii ik
      rw [← ep] at hin c1 c2 c3
      obtain ⟨a, b, hj2⟩ := h.no_corner ht hj hin
      have k : j = i ∨ j = k ∨ j = c := by
        rcases hrot with e1 | e1 | e1 <;> rcases hj2 with e2 | e2 | e2 <;> (rw [e1] at e2; simp only [Prod.mk.injEq] at e2; omega)
      rcases k with rfl | rfl | rfl
      · exact c1 rfl
      · exact c2 rfl
      · have : tu (pt l i) (pt l k) (pt l j) = 0 := c3.1
        omega
    rw [e]
    rfl
  have hmid : midP l (gx l i) (gy l i) (gx l k) (gy l k) = 2 := by
    have hne0 : placeV (dbl l) ((pt l i).1 + (pt l k).1) ((pt l i).2 + (pt l k).2) ≠ 0 := mid_place hr h ht (x := pt l i) (y := pt l k) pi pk ii ik
    have hne1 : placeV (dbl l) ((pt l i).1 + (pt l k).1) ((pt l i).2 + (pt l k).2) ≠ 1 := by
      intro h1
      have hd := trg_dbl h
      have hs := sml_dbl hr
      have w1 := within_of_pok pi
      have w2 := within_of_pok pk
      have hw : within 1000 (mid2 (pt l i) (pt l k)).1 (mid2 (pt l i) (pt l k)).2 := by
        unfold within at *
        unfold mid2 pt
        simp only
        omega
      obtain ⟨w, hwl, how⟩ := placeV_one.1 h1
      have t1 : tu (sc 2 (pt l k)) (sc 2 (pt l c)) (mid2 (pt l i) (pt l k)) = 2 * tu (pt l i) (pt l k) (pt l c) := by
        rw [tu_mid, tu_fst, tu_rot]
        omega
      have t2 : tu (sc 2 (pt l c)) (sc 2 (pt l i)) (mid2 (pt l i) (pt l k)) = 2 * tu (pt l i) (pt l k) (pt l c) := by
        rw [tu_mid, tu_snd, tu_rot, tu_rot]
        omega
      have t0 : tu (sc 2 (pt l i)) (sc 2 (pt l k)) (mid2 (pt l i) (pt l k)) = 0 := by
        rw [tu_mid, tu_fst, tu_snd]
        rfl
      -- no corner
      have hnc : ∀ j, j < l.length → mid2 (pt l i) (pt l k) ≠ sc 2 (pt l j) := by
        intro j hj e
        have hin : InT (hv l) (hm MM (pt l j)) t := by
          have := mid_in2 hr h ht ii ik
          rw [in_dbl hr h hrot, e] at this
          rw [in_pt hr h hrot]
          obtain ⟨q1, q2, q3⟩ := this
          rw [tu_sc] at q1 q2 q3
          unfold In
          omega
        obtain ⟨a, b, hj2⟩ := h.no_corner ht hj hin
        have k : j = i ∨ j = k ∨ j = c := by
          rcases hrot with e1 | e1 | e1 <;> rcases hj2 with e2 | e2 | e2 <;> (rw [e1] at e2; simp only [Prod.mk.injEq] at e2; omega)
        have hne := pt_ne hr hi hk n1
        have f1 := congrArg Prod.fst e
        have f2 := congrArg Prod.snd e
        unfold mid2 sc at f1 f2
        simp only at f1 f2
        rcases k with rfl | rfl | rfl
        · exact hne (Prod.ext (by omega) (by omega))
        · exact hne (Prod.ext (by omega) (by omega))
        · rw [e, tu_sc] at t0
          omega
      have hwl' : w < l.length := by rw [← dbl_length l]; exact hwl
      have hn := nx_lt (n := l.length) (i := w) (by omega)
      have hon := on_of_onE hs hw hwl how (by rw [pt_dbl]; exact hnc w hwl') (by rw [pt_dbl, dbl_length]; exact hnc _ hn)
      have hg : ∀ j, j < (dbl l).length → (hv (dbl l) j).2 ≠ (hm MM (mid2 (pt l i) (pt l k))).2 := fun j hj => hm_ne (by decide) (nr_sml hs hw hj) (by
        rw [pt_dbl]
        exact (hnc j (by rw [← dbl_length l]; exact hj)).symm)
      obtain ⟨d, hd1, hd2⟩ := hd.on_wall ht (mid_in2 hr h ht ii ik) hg hwl hon
      rw [dbl_length] at hd1 hd2
      have hz : tu (sc 2 (pt l w)) (sc 2 (pt l (nx l.length w))) (mid2 (pt l i) (pt l k)) = 0 := by
        have := hd2.2.2
        unfold hv at this
        rw [pt_dbl, pt_dbl, tu_hm] at this
        rcases Int.mul_eq_zero.1 this with q | q
        · exact absurd q (by decide)
        · exact q
      have k3 : (w = i ∧ nx l.length w = k) ∨ (w = k ∧ nx l.length w = c) ∨ (w = c ∧ nx l.length w = i) := by
        rcases hrot with e1 | e1 | e1 <;> rcases hd1 with e2 | e2 | e2 <;> (rw [e1] at e2; simp only [Prod.mk.injEq] at e2; omega)
      rcases k3 with ⟨q1, q2⟩ | ⟨q1, q2⟩ | ⟨q1, q2⟩
      · rw [q1] at q2
        unfold nbr at hnb
        have : ((i + 1) % l.length == k) = true := beq_iff_eq.2 q2
        rw [this] at hnb
        cases hnb
      · rw [q2, q1, t1] at hz
        omega
      · rw [q2, q1, t2] at hz
        omega
    have := placeV_cases (dbl l) ((pt l i).1 + (pt l k).1) ((pt l i).2 + (pt l k).2)
    show placeV (dbl l) ((pt l i).1 + (pt l k).1) ((pt l i).2 + (pt l k).2) = 2
    omega
  unfold dgN
  rw [hnb', hcuts, hmid]
  have e : seesV l (gx l i) (gy l i) (gx l k) (gy l k) = true := hsee
  rw [e]
  simp [n1]
end

end Jor
end Go.Proofs.Ytjccilpjaaiicaa

