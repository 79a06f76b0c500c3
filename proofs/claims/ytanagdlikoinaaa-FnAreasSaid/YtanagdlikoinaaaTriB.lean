/-
  Sums over the walls of triangles that fill a polygon. No program in sight.
-/
import Derived.Test.YtanagdlikoinaaaTriA
namespace Go.Proofs.Ytanagdlikoinaaa
namespace Jor

abbrev T3 := Nat × Nat × Nat
/-- the three walls of a triangle of corners -/
def eds (t : T3) : List (Nat × Nat) := [(t.1, t.2.1), (t.2.1, t.2.2), (t.2.2, t.1)]
def gs (g : Nat → Nat → Int) : List (Nat × Nat) → Int
  | [] => 0
  | e :: r => g e.1 e.2 + gs g r
theorem gs_append (g : Nat → Nat → Int) : ∀ a b, gs g (a ++ b) = gs g a + gs g b
  | [], b => by simp [gs]
  | e :: a, b => by simp only [List.cons_append, gs, gs_append g a b]; omega
theorem gs_erase (g : Nat → Nat → Int) (e : Nat × Nat) : ∀ l, e ∈ l → gs g l = g e.1 e.2 + gs g (l.erase e)
  | x :: r, h => by
    by_cases hx : x = e
    · subst hx
      rw [List.erase_cons_head]
      rfl
    · rw [List.erase_cons_tail (by simpa using hx), gs, gs, gs_erase g e r ((List.mem_cons.1 h).resolve_left (Ne.symm hx))]
      omega
/-- each wall goes with its reverse -/
def cnc : Nat → List (Nat × Nat) → Bool
  | _, [] => true
  | 0, _ :: _ => false
  | k + 1, e :: r => r.contains (e.2, e.1) && cnc k (r.erase (e.2, e.1))
theorem cnc_sound {g : Nat → Nat → Int} (hg : ∀ a b, g a b = - g b a) : ∀ k l, cnc k l = true → gs g l = 0
  | _, [], _ => rfl
  | k + 1, e :: r, h => by
    unfold cnc at h
    rw [Bool.and_eq_true, List.contains_iff_mem] at h
    have h1 := gs_erase g (e.2, e.1) r h.1
    have h2 := cnc_sound hg k _ h.2
    have h3 := hg e.1 e.2
    show g e.1 e.2 + gs g r = 0
    simp only at h1
    omega
/-- the polygon's walls, reversed -/
def rw_ (n : Nat) : List (Nat × Nat) := (List.range n).map fun i => (nx n i, i)
theorem gs_map (g : Nat → Nat → Int) (f : Nat → Nat × Nat) : ∀ n, gs g ((List.range n).map f) = sm (fun i => g (f i).1 (f i).2) n
  | 0 => rfl
  | n + 1 => by rw [List.range_succ, List.map_append, gs_append, gs_map g f n, sm]; simp [gs]
theorem gs_rw {g : Nat → Nat → Int} (hg : ∀ a b, g a b = - g b a) (n : Nat) : gs g (rw_ n) = - sm (fun i => g i (nx n i)) n := by
  unfold rw_
  rw [gs_map, ← sm_neg]
  exact sm_congr _ _ n fun i _ => hg _ _
/-- a sum over the triangles -/
def ss (f : T3 → Int) : List T3 → Int
  | [] => 0
  | t :: r => f t + ss f r
theorem gs_eds (g : Nat → Nat → Int) : ∀ ts, gs g (ts.flatMap eds) = ss (fun t => g t.1 t.2.1 + g t.2.1 t.2.2 + g t.2.2 t.1) ts
  | [] => rfl
  | t :: r => by
    rw [List.flatMap_cons, gs_append, gs_eds g r]
    simp only [eds, gs, ss]
    omega
theorem ss_nn {f : T3 → Int} : ∀ ts, (∀ t, t ∈ ts → 0 ≤ f t) → 0 ≤ ss f ts
  | [], _ => Int.le_refl _
  | t :: r, h => by
    have h1 := h t (List.mem_cons_self ..)
    have h2 := ss_nn r fun x hx => h x (List.mem_cons_of_mem _ hx)
    show 0 ≤ f t + ss f r
    omega
theorem ss_one {f : T3 → Int} : ∀ ts, (∀ t, t ∈ ts → 0 ≤ f t) → ∀ a, a ∈ ts → f a ≤ ss f ts
  | t :: r, h, a, ha => by
    have h1 := h t (List.mem_cons_self ..)
    have h2 := ss_nn r fun x hx => h x (List.mem_cons_of_mem _ hx)
    show f a ≤ f t + ss f r
    rcases List.mem_cons.1 ha with rfl | ha
    · omega
    · have := ss_one r (fun x hx => h x (List.mem_cons_of_mem _ hx)) a ha
      omega
theorem ss_two {f : T3 → Int} : ∀ ts, (∀ t, t ∈ ts → 0 ≤ f t) → ∀ a b, a ∈ ts → b ∈ ts → a ≠ b → f a + f b ≤ ss f ts
  | t :: r, h, a, b, ha, hb, hab => by
    have hr : ∀ x, x ∈ r → 0 ≤ f x := fun x hx => h x (List.mem_cons_of_mem _ hx)
    have h1 := h t (List.mem_cons_self ..)
    show f a + f b ≤ f t + ss f r
    rcases List.mem_cons.1 ha with e1 | ha'
    · rcases List.mem_cons.1 hb with e2 | hb'
      · exact absurd (e1.trans e2.symm) hab
      · have := ss_one r hr b hb'
        rw [e1]
        omega
    · rcases List.mem_cons.1 hb with e2 | hb'
      · have := ss_one r hr a ha'
        rw [e2]
        omega
      · have := ss_two r hr a b ha' hb' hab
        omega
theorem ss_pos {f : T3 → Int} : ∀ ts, 0 < ss f ts → ∃ t, t ∈ ts ∧ 0 < f t
  | t :: r, h => by
    by_cases h1 : 0 < f t
    · exact ⟨t, List.mem_cons_self .., h1⟩
    · have h2 : 0 < f t + ss f r := h
      obtain ⟨x, hx, hp⟩ := ss_pos (f := f) r (by omega)
      exact ⟨x, List.mem_cons_of_mem _ hx, hp⟩
theorem ss_congr {f g : T3 → Int} : ∀ ts, (∀ t, t ∈ ts → f t = g t) → ss f ts = ss g ts
  | [], _ => rfl
  | t :: r, h => by
    show f t + ss f r = g t + ss g r
    rw [h t (List.mem_cons_self ..), ss_congr r fun x hx => h x (List.mem_cons_of_mem _ hx)]
theorem ss_const (c : Int) : ∀ ts, ss (fun _ => c) ts = ts.length * c
  | [] => by simp [ss]
  | t :: r => by
    show c + ss (fun _ => c) r = _
    rw [ss_const c r, List.length_cons]
    grind
theorem sm_ss (f : Nat → T3 → Int) (n : Nat) : ∀ ts, sm (fun i => ss (f i) ts) n = ss (fun t => sm (fun i => f i t) n) ts
  | [] => sm_zero n
  | t :: r => by
    show sm (fun i => f i t + ss (f i) r) n = sm (fun i => f i t) n + ss (fun t => sm (fun i => f i t) n) r
    rw [sm_add, sm_ss f n r]

/-- corners i and k follow each other -/
def nbr (n i k : Nat) : Bool := (i + 1) % n == k || (k + 1) % n == i
/-- a wall of some triangle, either way -/
def hasE (ts : List T3) (i k : Nat) : Bool := ts.any fun t => (eds t).contains (i, k)
/-- the corners' pairs that are walls of triangles but no walls of the polygon -/
def chd (n : Nat) (ts : List T3) (i k : Nat) : Bool := decide (i < k) && (!nbr n i k && hasE ts i k)
/-- the pairs of corners, row by row -/
def prs (n : Nat) : List (Nat × Nat) := (List.range n).flatMap fun i => (List.range n).map fun k => (i, k)
/-- triangles that fill a polygon of n corners -/
def certB (n : Nat) (ts : List T3) : Bool :=
  (ts.length + 2 == n) && (cnc 100 (ts.flatMap eds ++ rw_ n) && (ts.all (fun t => decide (t.1 < n) && (decide (t.2.1 < n) && (decide (t.2.2 < n) && (eds t).all (fun e => e.2 == (e.1 + 1) % n || hasE ts e.2 e.1)))) && ((List.range n).all (fun i => hasE ts i ((i + 1) % n)) && decide (n ≤ (prs n).countP (fun e => chd n ts e.1 e.2) + 3))))
structure Cert (n : Nat) (ts : List T3) : Prop where
  len : ts.length + 2 = n
  sum : ∀ g : Nat → Nat → Int, (∀ a b, g a b = - g b a) → ss (fun t => g t.1 t.2.1 + g t.2.1 t.2.2 + g t.2.2 t.1) ts = sm (fun i => g i (nx n i)) n
  lt : ∀ t, t ∈ ts → t.1 < n ∧ t.2.1 < n ∧ t.2.2 < n
  edge : ∀ t, t ∈ ts → ∀ a b, (a, b) ∈ eds t → b = nx n a ∨ ∃ u, u ∈ ts ∧ (b, a) ∈ eds u
  wall : ∀ i, i < n → ∃ t, t ∈ ts ∧ (i, nx n i) ∈ eds t
  chords : n ≤ (prs n).countP (fun e => chd n ts e.1 e.2) + 3
theorem hasE_iff {ts : List T3} {i k : Nat} : hasE ts i k = true ↔ ∃ t, t ∈ ts ∧ (i, k) ∈ eds t := by
  unfold hasE
  simp only [List.any_eq_true, List.contains_iff_mem]
theorem cert_of {n : Nat} {ts : List T3} (h : certB n ts = true) : Cert n ts := by
  unfold certB at h
  simp only [Bool.and_eq_true, beq_iff_eq, List.all_eq_true, decide_eq_true_eq, Bool.or_eq_true, hasE_iff, List.mem_range] at h
  obtain ⟨h1, h2, h3, h4, h5⟩ := h
  refine ⟨h1, fun g hg => ?_, fun t ht => ⟨(h3 t ht).1, (h3 t ht).2.1, (h3 t ht).2.2.1⟩, fun t ht a b he => (h3 t ht).2.2.2 _ he, h4, h5⟩
  have k1 := cnc_sound hg _ _ h2
  rw [gs_append, gs_rw hg, gs_eds] at k1
  omega

/-- t has the corners a, b, c in this order -/
def Rot (t : T3) (a b c : Nat) : Prop := t = (a, b, c) ∨ t = (c, a, b) ∨ t = (b, c, a)
theorem rot_of_eds {t : T3} {a b : Nat} (h : (a, b) ∈ eds t) : ∃ c, Rot t a b c := by
  obtain ⟨x, y, z⟩ := t
  unfold eds at h
  simp only [List.mem_cons, Prod.mk.injEq, List.not_mem_nil, or_false] at h
  unfold Rot
  rcases h with ⟨rfl, rfl⟩ | ⟨rfl, rfl⟩ | ⟨rfl, rfl⟩
  · exact ⟨z, .inl rfl⟩
  · exact ⟨x, .inr (.inl rfl)⟩
  · exact ⟨y, .inr (.inr rfl)⟩
theorem Rot.eds {t : T3} {a b c : Nat} (h : Rot t a b c) : (a, b) ∈ eds t := by
  rcases h with rfl | rfl | rfl <;> simp [Jor.eds]
theorem Rot.rot {t : T3} {a b c : Nat} (h : Rot t a b c) : Rot t b c a := by
  rcases h with rfl | rfl | rfl
  · exact .inr (.inl rfl)
  · exact .inr (.inr rfl)
  · exact .inl rfl
/-- what a triangle of corners counts -/
def trR (v : Nat → P) (p : P) (t : T3) : Int := tR p (v t.1) (v t.2.1) (v t.2.2)
def trL (v : Nat → P) (p : P) (t : T3) : Int := tL p (v t.1) (v t.2.1) (v t.2.2)
def InT (v : Nat → P) (p : P) (t : T3) : Prop := In p (v t.1) (v t.2.1) (v t.2.2)
def tuT (v : Nat → P) (t : T3) : Int := tu (v t.1) (v t.2.1) (v t.2.2)
theorem Rot.trR {t : T3} {a b c : Nat} (h : Rot t a b c) (v : Nat → P) (p : P) : trR v p t = tR p (v a) (v b) (v c) := by
  unfold Jor.trR tR
  rcases h with rfl | rfl | rfl <;> simp only <;> omega
theorem Rot.trL {t : T3} {a b c : Nat} (h : Rot t a b c) (v : Nat → P) (p : P) : trL v p t = tL p (v a) (v b) (v c) := by
  unfold Jor.trL tL
  rcases h with rfl | rfl | rfl <;> simp only <;> omega
theorem Rot.inT {t : T3} {a b c : Nat} (h : Rot t a b c) (v : Nat → P) (p : P) : InT v p t ↔ In p (v a) (v b) (v c) := by
  unfold Jor.InT In
  rcases h with rfl | rfl | rfl <;> simp only <;> (constructor <;> (rintro ⟨h1, h2, h3⟩; exact ⟨by assumption, by assumption, by assumption⟩))
theorem Rot.tuT {t : T3} {a b c : Nat} (h : Rot t a b c) (v : Nat → P) : tuT v t = tu (v a) (v b) (v c) := by
  unfold Jor.tuT
  rcases h with rfl | rfl | rfl <;> simp only
  · rw [tu_rot, tu_rot]
  · rw [tu_rot]
theorem rot_self (t : T3) : Rot t t.1 t.2.1 t.2.2 := .inl rfl

end Jor
end Go.Proofs.Ytanagdlikoinaaa
