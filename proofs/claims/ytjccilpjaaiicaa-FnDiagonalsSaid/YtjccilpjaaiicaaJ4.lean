/- 15 texts joined: JordH JordI JordJ JordK Enum PlaceL Place WallOf WallAt Corn JordL JordM JordN JordO TriA. -/
import Derived.Test.YtjccilpjaaiicaaJ3
import Derived.Test.YtjccilpjaaiicaaJ2
namespace Go.Proofs.Ytjccilpjaaiicaa
namespace Jor

def sc (D : Int) (p : P) : P := (D * p.1, D * p.2)
theorem tu_sc (D : Int) (a b c : P) : tu (sc D a) (sc D b) (sc D c) = D * D * tu a b c := by
  unfold tu sc
  grind
section
variable {D : Int} (hD : 0 < D)
include hD
theorem sc_lt (a b : P) : (sc D a).2 < (sc D b).2 ↔ a.2 < b.2 := Int.mul_lt_mul_left hD
theorem sc_ne (a b : P) : (sc D a).2 ≠ (sc D b).2 ↔ a.2 ≠ b.2 := by
  have h1 := sc_lt hD a b
  have h2 := sc_lt hD b a
  omega
theorem sc_neg (a b c : P) : tu (sc D a) (sc D b) (sc D c) < 0 ↔ tu a b c < 0 := by
  rw [tu_sc]
  have hk := Int.mul_pos hD hD
  constructor
  · intro h
    exact neg_of_mul hk (by rw [Int.mul_comm]; exact h)
  · intro h
    rw [Int.mul_comm]
    exact mul_neg' h hk
theorem sc_pos (a b c : P) : 0 < tu (sc D a) (sc D b) (sc D c) ↔ 0 < tu a b c := by
  rw [tu_sc]
  have hk := Int.mul_pos hD hD
  constructor
  · intro h
    exact pos_of_mul hk (by rw [Int.mul_comm]; exact h)
  · intro h
    exact Int.mul_pos hk h
theorem cs_sc (p a b : P) : cs (sc D p) (sc D a) (sc D b) = cs p a b := by
  unfold cs
  simp only [sc_lt hD, sc_neg hD, sc_pos hD]
theorem off_sc {p a b : P} (h : Off p a b) : Off (sc D p) (sc D a) (sc D b) := by
  unfold Off at *
  simp only [sc_lt hD]
  intro hh h0
  have h1 := h hh
  have h2 := sc_neg hD a b p
  have h3 := sc_pos hD a b p
  omega
theorem crs_sc {p q a b : P} (h : ¬ Crs p q a b) : ¬ Crs (sc D p) (sc D q) (sc D a) (sc D b) := by
  unfold Crs at *
  simp only [sc_neg hD, sc_pos hD]
  exact h
theorem simple_sc {v : Nat → P} {n : Nat} (hs : Simple v n) : Simple (fun i => sc D (v i)) n :=
  ⟨hs.h3, fun i k hi hk hne => (sc_ne hD _ _).2 (hs.hts i k hi hk hne), fun i k hi hk h1 h2 => off_sc hD (hs.off i k hi hk h1 h2), fun i k hi hk => crs_sc hD (hs.crs i k hi hk)⟩
theorem wn_sc (v : Nat → P) (n : Nat) (p : P) : wn (fun i => sc D (v i)) n (sc D p) = wn v n p := by
  unfold wn
  exact sm_congr _ _ n fun i _ => cs_sc hD p (v i) (v (nx n i))
end

def pd (f : Nat → Int) : Nat → Int
  | 0 => 1
  | k + 1 => pd f k * f k
theorem pd_ne {f : Nat → Int} : ∀ n, (∀ i, i < n → f i ≠ 0) → pd f n ≠ 0
  | 0, _ => by unfold pd; omega
  | n + 1, h => by
    unfold pd
    exact Int.mul_ne_zero (pd_ne n fun i hi => h i (by omega)) (h n (by omega))
theorem pd_dvd {f : Nat → Int} {i : Nat} : ∀ n, i < n → f i ∣ pd f n
  | n + 1, h => by
    unfold pd
    by_cases e : i = n
    · subst e
      exact Int.dvd_mul_left _ _
    · exact Int.dvd_trans (pd_dvd n (by omega)) (Int.dvd_mul_right _ _)

theorem mid_sc {D : Int} (hD : 0 < D) (v : Nat → P) (n e : Nat) : mid (fun i => sc D (v i)) n e = mid v n e := by
  unfold mid lo
  simp only [sc_lt hD, sc_neg hD, wn_sc hD]
theorem lef_sc {D : Int} (hD : 0 < D) (v : Nat → P) (n e : Nat) : lef (fun i => sc D (v i)) n e = lef v n e := by
  unfold lef
  simp only [sc_lt hD, mid_sc hD]

/-- any point off the corners' heights (on a wall or not) -/
theorem wn_any {v : Nat → P} {n : Nat} (hs : Simple v n) (q : P) (hg : ∀ k, k < n → (v k).2 ≠ q.2) : wn v n q = lef v n 0 ∨ wn v n q = lef v n 0 - 1 := by
  have h3 := hs.h3
  let f : Nat → Int := fun i => (v (nx n i)).2 - (v i).2
  have hf : ∀ i, i < n → f i ≠ 0 := fun i hi => by
    have := hs.hts i (nx n i) hi (nx_lt (by omega)) (Ne.symm (nx_ne (by omega) hi))
    show (v (nx n i)).2 - (v i).2 ≠ 0
    omega
  obtain ⟨D, hDe⟩ : ∃ D, D = pd f n * pd f n := ⟨_, rfl⟩
  have hp := pd_ne n hf
  have hD : 0 < D := by
    rw [hDe]
    rcases Int.lt_or_gt_of_ne hp with h | h
    · have := Int.mul_pos (show 0 < - pd f n by omega) (show 0 < - pd f n by omega)
      rwa [Int.neg_mul_neg] at this
    · exact Int.mul_pos h h
  have hdv : ∀ i, i < n → f i ∣ D := fun i hi => by
    rw [hDe]
    exact Int.dvd_trans (pd_dvd n hi) (Int.dvd_mul_right _ _)
  have := wn_near (simple_sc hD hs) (D * q.1) (D * q.2) (fun k hk => (sc_ne hD (v k) q).2 (hg k hk)) (fun i => D * (v i).1 + ((v (nx n i)).1 - (v i).1) * (q.2 - (v i).2) * (D / f i)) ?_
  · rw [← wn_sc hD v n q, ← lef_sc hD]
    exact this
  · intro i hi hst
    refine ⟨hst, ?_⟩
    have e := Int.mul_ediv_cancel' (hdv i hi)
    generalize D / f i = c at *
    have e2 : D = ((v (nx n i)).2 - (v i).2) * c := e.symm
    unfold tu sc
    simp only
    grind

end Jor
end Go.Proofs.Ytjccilpjaaiicaa

namespace Go.Proofs.Ytjccilpjaaiicaa
namespace Jor

/-- the crossing of a point pushed a little right and much less up -/
def cR (p a b : P) : Int := if a.2 ≤ p.2 ∧ p.2 < b.2 ∧ 0 < tu a b p then 1 else if b.2 ≤ p.2 ∧ p.2 < a.2 ∧ tu a b p < 0 then -1 else 0
/-- pushed a little left and much less down -/
def cL (p a b : P) : Int := if a.2 < p.2 ∧ p.2 ≤ b.2 ∧ 0 ≤ tu a b p then 1 else if b.2 < p.2 ∧ p.2 ≤ a.2 ∧ tu a b p ≤ 0 then -1 else 0

theorem push_lt {K a b : Int} (hK : 1 < K) : (K * a < K * b + 1 ↔ a ≤ b) ∧ (K * b + 1 < K * a ↔ b < a) := by
  have h1 : K * a = K * b + K * (a - b) := by grind
  rcases Int.lt_trichotomy a b with h | h | h
  · have := Int.mul_lt_mul_of_pos_left h (show 0 < K by omega)
    omega
  · subst h
    omega
  · have h2 : a - b = (a - b - 1) + 1 := by omega
    have h3 := Int.mul_nonneg (show 0 ≤ K by omega) (show 0 ≤ a - b - 1 by omega)
    have h4 : K * (a - b) = K * (a - b - 1) + K := by grind
    omega
/-- a small push does not change the side -/
theorem push_side {K t s : Int} (hK : 0 < K) (h1 : s < K) (h2 : -K < s) : (0 < K * K * t + K * s ↔ 0 < t ∨ (t = 0 ∧ 0 < s)) ∧ (K * K * t + K * s < 0 ↔ t < 0 ∨ (t = 0 ∧ s < 0)) := by
  have e : K * K * t + K * s = (K * t + s) * K := by grind
  rw [e]
  have hp : 0 < (K * t + s) * K ↔ 0 < K * t + s := ⟨fun h => pos_of_mul hK h, fun h => Int.mul_pos h hK⟩
  have hn : (K * t + s) * K < 0 ↔ K * t + s < 0 := ⟨fun h => neg_of_mul hK h, fun h => mul_neg' h hK⟩
  rw [hp, hn]
  rcases Int.lt_trichotomy t 0 with h | h | h
  · have h3 := Int.mul_nonneg (show 0 ≤ K by omega) (show 0 ≤ -t - 1 by omega)
    have h4 : K * t = -(K * (-t - 1)) - K := by grind
    omega
  · subst h
    omega
  · have h3 := Int.mul_nonneg (show 0 ≤ K by omega) (show 0 ≤ t - 1 by omega)
    have h4 : K * t = (K * (t - 1)) + K := by grind
    omega
theorem sc_snd (K : Int) (a : P) : (sc K a).2 = K * a.2 := rfl
theorem tu_push (K m u : Int) (p a b : P) : tu (sc K a) (sc K b) (K * p.1 + m, K * p.2 + u) = K * K * tu a b p + K * ((b.1 - a.1) * u - (b.2 - a.2) * m) := by
  unfold tu sc
  grind

/-- bounds of a wall -/
def Bd (B : Int) (a b : P) : Prop := b.1 - a.1 ≤ B ∧ a.1 - b.1 ≤ B ∧ b.2 - a.2 ≤ B ∧ a.2 - b.2 ≤ B
theorem push_s {B : Int} {a b : P} (h : Bd B a b) (hB : 0 ≤ B) :
    let s := (b.1 - a.1) - (b.2 - a.2) * (B + 1)
    s < B * B + 3 * B + 2 ∧ -(B * B + 3 * B + 2) < s ∧ (a.2 < b.2 → s < 0) ∧ (b.2 < a.2 → 0 < s) := by
  obtain ⟨h1, h2, h3, h4⟩ := h
  intro s
  have e1 : (b.2 - a.2) * (B + 1) ≤ B * (B + 1) := Int.mul_le_mul_of_nonneg_right h3 (by omega)
  have e2 : (a.2 - b.2) * (B + 1) ≤ B * (B + 1) := Int.mul_le_mul_of_nonneg_right h4 (by omega)
  have e3 : (a.2 - b.2) * (B + 1) = - ((b.2 - a.2) * (B + 1)) := by grind
  have e4 : B * (B + 1) = B * B + B := by grind
  refine ⟨by omega, by omega, fun hu => ?_, fun hu => ?_⟩
  · have := Int.mul_nonneg (show 0 ≤ b.2 - a.2 - 1 by omega) (show 0 ≤ B + 1 by omega)
    have e5 : (b.2 - a.2) * (B + 1) = (b.2 - a.2 - 1) * (B + 1) + (B + 1) := by grind
    omega
  · have := Int.mul_nonneg (show 0 ≤ a.2 - b.2 - 1 by omega) (show 0 ≤ B + 1 by omega)
    have e5 : (a.2 - b.2) * (B + 1) = (a.2 - b.2 - 1) * (B + 1) + (B + 1) := by grind
    omega
/-- the pushed point is a real point of the multiplied plane -/
theorem cR_real {B : Int} (hB : 0 ≤ B) {p a b : P} (h : Bd B a b) : cs ((B * B + 3 * B + 2) * p.1 + (B + 1), (B * B + 3 * B + 2) * p.2 + 1) (sc (B * B + 3 * B + 2) a) (sc (B * B + 3 * B + 2) b) = cR p a b := by
  obtain ⟨s1, s2, s3, s4⟩ := push_s h hB
  have hBB := Int.mul_nonneg hB hB
  have e := tu_push (B * B + 3 * B + 2) (B + 1) 1 p a b
  rw [Int.mul_one] at e
  generalize hK : B * B + 3 * B + 2 = K at *
  generalize hs : (b.1 - a.1) - (b.2 - a.2) * (B + 1) = s at *
  have hk := push_side (t := tu a b p) (K := K) (s := s) (by omega) s1 s2
  have l1 := push_lt (K := K) (a := a.2) (b := p.2) (by omega)
  have l2 := push_lt (K := K) (a := b.2) (b := p.2) (by omega)
  unfold cs cR
  simp only [e, hk.1, hk.2, sc_snd, l1.1, l1.2, l2.1, l2.2]
  (repeat' split) <;> omega
theorem push_lt' {K a b : Int} (hK : 1 < K) : (K * a < K * b + -1 ↔ a < b) ∧ (K * b + -1 < K * a ↔ b ≤ a) := by
  have h1 : K * a = K * b + K * (a - b) := by grind
  rcases Int.lt_trichotomy a b with h | h | h
  · have h2 : b - a = (b - a - 1) + 1 := by omega
    have h3 := Int.mul_nonneg (show 0 ≤ K by omega) (show 0 ≤ b - a - 1 by omega)
    have h4 : K * (a - b) = - (K * (b - a - 1)) - K := by grind
    omega
  · subst h
    omega
  · have := Int.mul_lt_mul_of_pos_left h (show 0 < K by omega)
    omega
theorem cL_real {B : Int} (hB : 0 ≤ B) {p a b : P} (h : Bd B a b) : cs ((B * B + 3 * B + 2) * p.1 + -(B + 1), (B * B + 3 * B + 2) * p.2 + -1) (sc (B * B + 3 * B + 2) a) (sc (B * B + 3 * B + 2) b) = cL p a b := by
  obtain ⟨s1, s2, s3, s4⟩ := push_s h hB
  have hBB := Int.mul_nonneg hB hB
  have e := tu_push (B * B + 3 * B + 2) (-(B + 1)) (-1) p a b
  have e0 : (b.1 - a.1) * (-1) - (b.2 - a.2) * (-(B + 1)) = -((b.1 - a.1) - (b.2 - a.2) * (B + 1)) := by grind
  rw [e0] at e
  generalize hK : B * B + 3 * B + 2 = K at *
  generalize hs : (b.1 - a.1) - (b.2 - a.2) * (B + 1) = s at *
  have hk := push_side (t := tu a b p) (K := K) (s := -s) (by omega) (by omega) (by omega)
  have l1 := push_lt' (K := K) (a := a.2) (b := p.2) (by omega)
  have l2 := push_lt' (K := K) (a := b.2) (b := p.2) (by omega)
  unfold cs cL
  simp only [e, hk.1, hk.2, sc_snd, l1.1, l1.2, l2.1, l2.2]
  (repeat' split) <;> omega

/-- the sums at the pushed points -/
def wR (v : Nat → P) (n : Nat) (p : P) : Int := sm (fun i => cR p (v i) (v (nx n i))) n
def wL (v : Nat → P) (n : Nat) (p : P) : Int := sm (fun i => cL p (v i) (v (nx n i))) n
theorem push_ne {K a b u : Int} (hK : 1 < K) (hu : u = 1 ∨ u = -1) : K * a ≠ K * b + u := by
  have h1 := push_lt (K := K) (a := a) (b := b) hK
  have h2 := push_lt' (K := K) (a := a) (b := b) hK
  rcases hu with rfl | rfl <;> omega
theorem wR_any {v : Nat → P} {n : Nat} (hs : Simple v n) {B : Int} (hB : 0 ≤ B) (hb : ∀ i, i < n → Bd B (v i) (v (nx n i))) (p : P) : wR v n p = lef v n 0 ∨ wR v n p = lef v n 0 - 1 := by
  have hBB := Int.mul_nonneg hB hB
  have hK : 0 < B * B + 3 * B + 2 := by omega
  have h := wn_any (simple_sc hK hs) ((B * B + 3 * B + 2) * p.1 + (B + 1), (B * B + 3 * B + 2) * p.2 + 1) (fun k hk => push_ne (by omega) (.inl rfl))
  rw [lef_sc hK] at h
  have e : wn (fun i => sc (B * B + 3 * B + 2) (v i)) n ((B * B + 3 * B + 2) * p.1 + (B + 1), (B * B + 3 * B + 2) * p.2 + 1) = wR v n p := sm_congr _ _ n fun i hi => cR_real hB (hb i hi)
  rwa [e] at h
theorem wL_any {v : Nat → P} {n : Nat} (hs : Simple v n) {B : Int} (hB : 0 ≤ B) (hb : ∀ i, i < n → Bd B (v i) (v (nx n i))) (p : P) : wL v n p = lef v n 0 ∨ wL v n p = lef v n 0 - 1 := by
  have hBB := Int.mul_nonneg hB hB
  have hK : 0 < B * B + 3 * B + 2 := by omega
  have h := wn_any (simple_sc hK hs) ((B * B + 3 * B + 2) * p.1 + -(B + 1), (B * B + 3 * B + 2) * p.2 + -1) (fun k hk => push_ne (by omega) (.inr rfl))
  rw [lef_sc hK] at h
  have e : wn (fun i => sc (B * B + 3 * B + 2) (v i)) n ((B * B + 3 * B + 2) * p.1 + -(B + 1), (B * B + 3 * B + 2) * p.2 + -1) = wL v n p := sm_congr _ _ n fun i hi => cL_real hB (hb i hi)
  rwa [e] at h

end Jor
end Go.Proofs.Ytjccilpjaaiicaa

namespace Go.Proofs.Ytjccilpjaaiicaa
namespace Jor

theorem cR_off {p a b : P} (h1 : a.2 ≠ p.2) (h2 : b.2 ≠ p.2) : cR p a b = cs p a b := by
  unfold cR cs
  (repeat' split) <;> omega
theorem cL_off {p a b : P} (h1 : a.2 ≠ p.2) (h2 : b.2 ≠ p.2) (ho : Off p a b) : cL p a b = cs p a b := by
  unfold Off at ho
  unfold cL cs
  (repeat' split) <;> omega
theorem cR_on {p a b : P} (h : tu a b p = 0) : cR p a b = 0 := by
  unfold cR
  rw [h]
  (repeat' split) <;> omega
theorem cL_on {p a b : P} (h : On p a b) : cL p a b = if a.2 < b.2 then 1 else -1 := by
  have h1 := h.1
  have h2 := h.2
  unfold cL
  rw [h2]
  (repeat' split) <;> omega
theorem tu_fst (a b : P) : tu a b a = 0 := by unfold tu; grind
theorem tu_snd (a b : P) : tu a b b = 0 := by unfold tu; grind
/-- at the start of a wall -/
theorem cL_fst {a b : P} (h : a.2 ≠ b.2) : cL a a b = if a.2 < b.2 then 0 else -1 := by
  unfold cL
  rw [tu_fst]
  (repeat' split) <;> omega
theorem cL_snd {a b : P} : cL b a b = if a.2 < b.2 then 1 else 0 := by
  unfold cL
  rw [tu_snd]
  (repeat' split) <;> omega

section
variable {v : Nat → P} {n : Nat}
theorem wR_off {p : P} (hg : ∀ k, k < n → (v k).2 ≠ p.2) : wR v n p = wn v n p :=
  sm_congr _ _ n fun i hi => cR_off (hg i hi) (hg _ (nx_lt (by omega)))
theorem wL_off {p : P} (hg : ∀ k, k < n → (v k).2 ≠ p.2) (ho : ∀ i, i < n → Off p (v i) (v (nx n i))) : wL v n p = wn v n p :=
  sm_congr _ _ n fun i hi => cL_off (hg i hi) (hg _ (nx_lt (by omega))) (ho i hi)
/-- on a wall the two sides differ by its sign -/
theorem wLR_on (hs : Simple v n) {e : Nat} (he : e < n) {p : P} (hg : ∀ k, k < n → (v k).2 ≠ p.2) (hp : On p (v e) (v (nx n e))) : wL v n p - wR v n p = if (v e).2 < (v (nx n e)).2 then 1 else -1 := by
  unfold wL wR
  rw [← sm_sub, sm_one n he, cL_on hp, cR_on hp.2, Int.sub_zero]
  intro i hi hie
  have g1 := hg i hi
  have g2 := hg _ (nx_lt (n := n) (i := i) (by omega))
  rw [cR_off g1 g2, cL_off g1 g2 (hs.off_on he hi hie hp), Int.sub_self]
/-- at a corner -/
theorem wLR_at (hs : Simple v n) {e : Nat} (he : e < n) : wL v n (v (nx n e)) - wR v n (v (nx n e)) = (if (v e).2 < (v (nx n e)).2 then 1 else 0) + (if (v (nx n e)).2 < (v (nx n (nx n e))).2 then 0 else -1) := by
  have h3 := hs.h3
  have h0 : 0 < n := by omega
  have hn := nx_lt (n := n) (i := e) h0
  have hnn := nx_lt (n := n) (i := nx n e) h0
  have n1 : nx n e ≠ e := nx_ne (by omega) he
  have n2 : nx n (nx n e) ≠ nx n e := nx_ne (by omega) hn
  unfold wL wR
  rw [← sm_sub, sm_two he hn (Ne.symm n1), cL_snd, cL_fst (hs.hts _ _ hn hnn (Ne.symm n2)), cR_on (tu_snd _ _), cR_on (tu_fst _ _)]
  · omega
  · intro i hi h1 h2
    have hni := nx_lt (n := n) (i := i) h0
    have a2 : nx n i ≠ nx n e := fun h => h1 ((nx_inj hi he).1 h)
    have g1 := hs.hts i _ hi hn h2
    have g2 := hs.hts _ _ hni hn a2
    rw [cR_off g1 g2, cL_off g1 g2 (hs.off i _ hi hn (Ne.symm h2) (Ne.symm a2)), Int.sub_self]
/-- at a corner, the right side, by the sum at the corner -/
theorem wR_at (hs : Simple v n) {e : Nat} (he : e < n) : wR v n (v (nx n e)) = wn v n (v (nx n e)) := by
  have h3 := hs.h3
  have h0 : 0 < n := by omega
  have hn := nx_lt (n := n) (i := e) h0
  unfold wR wn
  refine sm_congr _ _ n fun i hi => ?_
  have hni := nx_lt (n := n) (i := i) h0
  by_cases h1 : i = e
  · subst h1
    rw [cR_on (tu_snd _ _), cs_self']
  · by_cases h2 : i = nx n e
    · subst h2
      rw [cR_on (tu_fst _ _), cs_self]
    · have a2 : nx n i ≠ nx n e := fun h => h1 ((nx_inj hi he).1 h)
      exact cR_off (hs.hts i _ hi hn h2) (hs.hts _ _ hni hn a2)
end

/-- an extreme corner y between x and w: 1 if it turns inward, -1 if outward; 0 where the walls go on -/
def ext (x y w : P) : Int := if (x.2 < y.2 ∧ w.2 < y.2) ∨ (y.2 < x.2 ∧ y.2 < w.2) then (if tu x y w < 0 then 1 else -1) else 0

theorem wRL_at {v : Nat → P} {n : Nat} (hs : Simple v n) {e : Nat} (he : e < n) : wR v n (v (nx n e)) + wL v n (v (nx n e)) = 2 * lef v n 0 - 1 + ext (v e) (v (nx n e)) (v (nx n (nx n e))) := by
  have h3 := hs.h3
  have h0 : 0 < n := by omega
  have hn := nx_lt (n := n) (i := e) h0
  have hnn := nx_lt (n := n) (i := nx n e) h0
  have n1 : nx n e ≠ e := nx_ne (by omega) he
  have n2 : nx n (nx n e) ≠ nx n e := nx_ne (by omega) hn
  have n3 : nx n (nx n e) ≠ e := fun h => pv_ne_nx h3 he (by rw [← pv_nx hn, h])
  have g0 := hs.hts e (nx n e) he hn (Ne.symm n1)
  have g1 := hs.hts (nx n e) (nx n (nx n e)) hn hnn (Ne.symm n2)
  have g2 := hs.hts (nx n (nx n e)) e hnn he n3
  have o1 := hs.off e (nx n (nx n e)) he hnn n3 n2
  have o2 := hs.off (nx n e) e hn he (Ne.symm n1) (Ne.symm n3)
  have d := wLR_at hs he
  have r := wR_at hs he
  have l := lef_all hs e he
  unfold lef at l
  rw [mid_end hs he] at l
  change _ = lef v n 0 at l
  unfold lo at l
  unfold Off at o1 o2
  unfold ext
  generalize hx : v e = x at *
  generalize hy : v (nx n e) = y at *
  generalize hw : v (nx n (nx n e)) = w at *
  have e2 : tu y w x = tu x y w := by rw [tu_rot]
  have e3 : tu y x w = - tu x y w := tu_swap x y w
  rw [e2] at o2
  rw [e3] at l
  generalize lef v n 0 = lam at *
  generalize wn v n y = a at *
  generalize wR v n y = b at *
  generalize wL v n y = c at *
  generalize tu x y w = t at *
  clear hx hy hw e2 e3
  (repeat' split at l) <;> (repeat' split at d) <;> (repeat' split) <;> omega

end Jor
end Go.Proofs.Ytjccilpjaaiicaa

namespace Go.Proofs.Ytjccilpjaaiicaa
namespace Jor

/-- how many of N numbers from x0 on lie below c -/
theorem cnt_lt (x0 c : Int) : ∀ N : Nat, x0 ≤ c → c ≤ x0 + N → sm (fun j => if x0 + (j : Nat) < c then 1 else 0) N = c - x0
  | 0, h1, h2 => by
    rw [sm]
    omega
  | N + 1, h1, h2 => by
    rw [sm]
    by_cases h : c ≤ x0 + N
    · rw [cnt_lt x0 c N h1 h, if_neg (by omega)]
      omega
    · have e : sm (fun j => if x0 + (j : Nat) < c then 1 else 0) N = sm (fun j => if x0 + (j : Nat) < x0 + N then 1 else 0) N := sm_congr _ _ N fun i hi => by
        rw [if_pos (by omega), if_pos (by omega)]
      rw [e, cnt_lt x0 (x0 + N) N (by omega) (by omega), if_pos (by omega)]
      omega
/-- where a falling line leaves the positive numbers -/
theorem cut {k d : Int} (hd : 0 < d) : ∃ c, ∀ x, 0 < k - d * x ↔ x < c := by
  refine ⟨(k + d - 1) / d, fun x => ?_⟩
  constructor
  · intro h
    have h1 : x + 1 ≤ (k + d - 1) / d := (Int.le_ediv_iff_mul_le hd).2 (by
      have : (x + 1) * d = d * x + d := by grind
      omega)
    omega
  · intro h
    have h1 : x + 1 ≤ (k + d - 1) / d := by omega
    have h2 := (Int.le_ediv_iff_mul_le hd).1 h1
    have : (x + 1) * d = d * x + d := by grind
    omega

/-- heights that differ: rows first, then from right to left -/
def hm (M : Int) (p : P) : P := (p.1, M * p.2 - p.1)
theorem tu_hm (M : Int) (a b c : P) : tu (hm M a) (hm M b) (hm M c) = M * tu a b c := by
  unfold tu hm
  grind
theorem hm_lt {M : Int} {a p : P} (h1 : a.1 - p.1 < M) (h2 : p.1 - a.1 < M) : (hm M a).2 < (hm M p).2 ↔ a.2 < p.2 ∨ (a.2 = p.2 ∧ p.1 < a.1) := by
  unfold hm
  simp only
  have e : M * p.2 = M * a.2 + M * (p.2 - a.2) := by grind
  rcases Int.lt_trichotomy a.2 p.2 with h | h | h
  · have := Int.mul_nonneg (show 0 ≤ M by omega) (show 0 ≤ p.2 - a.2 - 1 by omega)
    have e2 : M * (p.2 - a.2) = M * (p.2 - a.2 - 1) + M := by grind
    omega
  · rw [h]
    omega
  · have := Int.mul_nonneg (show 0 ≤ M by omega) (show 0 ≤ a.2 - p.2 - 1 by omega)
    have e2 : M * (p.2 - a.2) = - (M * (a.2 - p.2 - 1)) - M := by grind
    omega
theorem hm_neg {M : Int} (hM : 0 < M) (a b c : P) : tu (hm M a) (hm M b) (hm M c) < 0 ↔ tu a b c < 0 := by
  rw [tu_hm]
  exact ⟨fun h => neg_of_mul hM (by rw [Int.mul_comm]; exact h), fun h => by rw [Int.mul_comm]; exact mul_neg' h hM⟩
theorem hm_pos {M : Int} (hM : 0 < M) (a b c : P) : 0 < tu (hm M a) (hm M b) (hm M c) ↔ 0 < tu a b c := by
  rw [tu_hm]
  exact ⟨fun h => pos_of_mul hM (by rw [Int.mul_comm]; exact h), fun h => Int.mul_pos hM h⟩

end Jor
end Go.Proofs.Ytjccilpjaaiicaa

namespace Go.Proofs.Ytjccilpjaaiicaa
open Go.RowKit

/-- displacements of at most b, each with its size -/
def dsp : Nat → List (Int × Int × Nat)
  | 0 => [(0, 0, 0)]
  | 1 => [(0, 0, 0), (-1, -1, 1), (-1, 0, 1), (-1, 1, 1), (0, -1, 1), (0, 1, 1), (1, -1, 1), (1, 0, 1), (1, 1, 1)]
  | 2 => [(0, 0, 0), (-1, -1, 1), (-1, 0, 1), (-1, 1, 1), (0, -1, 1), (0, 1, 1), (1, -1, 1), (1, 0, 1), (1, 1, 1), (-2, -2, 2), (-2, -1, 2), (-2, 0, 2), (-2, 1, 2), (-2, 2, 2), (-1, -2, 2), (-1, 2, 2), (0, -2, 2), (0, 2, 2), (1, -2, 2), (1, 2, 2), (2, -2, 2), (2, -1, 2), (2, 0, 2), (2, 1, 2), (2, 2, 2)]
  | _ => [(0, 0, 0), (-1, -1, 1), (-1, 0, 1), (-1, 1, 1), (0, -1, 1), (0, 1, 1), (1, -1, 1), (1, 0, 1), (1, 1, 1), (-2, -2, 2), (-2, -1, 2), (-2, 0, 2), (-2, 1, 2), (-2, 2, 2), (-1, -2, 2), (-1, 2, 2), (0, -2, 2), (0, 2, 2), (1, -2, 2), (1, 2, 2), (2, -2, 2), (2, -1, 2), (2, 0, 2), (2, 1, 2), (2, 2, 2), (-3, -3, 3), (-3, -2, 3), (-3, -1, 3), (-3, 0, 3), (-3, 1, 3), (-3, 2, 3), (-3, 3, 3), (-2, -3, 3), (-2, 3, 3), (-1, -3, 3), (-1, 3, 3), (0, -3, 3), (0, 3, 3), (1, -3, 3), (1, 3, 3), (2, -3, 3), (2, 3, 3), (3, -3, 3), (3, -2, 3), (3, -1, 3), (3, 0, 3), (3, 1, 3), (3, 2, 3), (3, 3, 3)]

/-- the test f at all lists that lie at most b from s -/
def chk : List (Int × Int) → Nat → (List (Int × Int) → Bool) → Bool
  | [], _, f => f []
  | p :: r, b, f => (dsp b).all fun d => chk r (b - d.2.2) fun t => f ((p.1 + d.1, p.2 + d.2.1) :: t)
/-- how far two points are apart -/
def far1 (p q : Int × Int) : Nat := max (q.1 - p.1).natAbs (q.2 - p.2).natAbs
/-- how far two lists are apart -/
def farL : List (Int × Int) → List (Int × Int) → Nat
  | p :: s, q :: l => far1 p q + farL s l
  | _, _ => 0

theorem dsp_all : ∀ b, b < 4 → ∀ i, i < 7 → ∀ j, j < 7 → max ((i : Nat) - 3 : Int).natAbs ((j : Nat) - 3 : Int).natAbs ≤ b → (((i : Nat) - 3 : Int), ((j : Nat) - 3 : Int), max ((i : Nat) - 3 : Int).natAbs ((j : Nat) - 3 : Int).natAbs) ∈ dsp b := by
  have h : ((List.range 4).all fun b => (List.range 7).all fun i => (List.range 7).all fun j => decide (max ((i : Nat) - 3 : Int).natAbs ((j : Nat) - 3 : Int).natAbs ≤ b → (((i : Nat) - 3 : Int), ((j : Nat) - 3 : Int), max ((i : Nat) - 3 : Int).natAbs ((j : Nat) - 3 : Int).natAbs) ∈ dsp b)) = true := by decide +kernel
  intro b hb i hi j hj
  have h1 := List.all_eq_true.1 h b (List.mem_range.2 hb)
  have h2 := List.all_eq_true.1 h1 i (List.mem_range.2 hi)
  have h3 := List.all_eq_true.1 h2 j (List.mem_range.2 hj)
  exact of_decide_eq_true h3
theorem dsp_mem {b : Nat} (hb : b < 4) {x y : Int} (h : max x.natAbs y.natAbs ≤ b) : (x, y, max x.natAbs y.natAbs) ∈ dsp b := by
  have hx : (((x + 3).toNat : Nat) - 3 : Int) = x := by omega
  have hy : (((y + 3).toNat : Nat) - 3 : Int) = y := by omega
  have := dsp_all b hb (x + 3).toNat (by omega) (y + 3).toNat (by omega)
  rw [hx, hy] at this
  exact this h

theorem chk_sound : ∀ (s : List (Int × Int)) (b : Nat) (f : List (Int × Int) → Bool), b < 4 → chk s b f = true → ∀ l, l.length = s.length → farL s l ≤ b → f l = true
  | [], b, f, _, h, l, hl, _ => by
    have e : l = [] := List.eq_nil_of_length_eq_zero (by simpa using hl)
    subst e
    exact h
  | p :: s, b, f, hb, h, l, hl, hf => by
    match l, hl, hf with
    | q :: l, hl, hf =>
      unfold chk at h
      rw [List.all_eq_true] at h
      have hf' : far1 p q + farL s l ≤ b := hf
      have hm := dsp_mem hb (x := q.1 - p.1) (y := q.2 - p.2) (by unfold far1 at hf'; omega)
      have h2 := h _ hm
      have h3 := chk_sound s _ _ (by omega) h2 l (by simpa using hl) (by unfold far1 at hf'; simp only; omega)
      have e1 : p.1 + (q.1 - p.1) = q.1 := by omega
      have e2 : p.2 + (q.2 - p.2) = q.2 := by omega
      simp only [e1, e2] at h3
      exact h3

theorem dsp_head : ∀ b, dsp b = (0, 0, 0) :: (dsp b).drop 1
  | 0 => rfl
  | 1 => rfl
  | 2 => rfl
  | _ + 3 => rfl
/-- the test in two parts: the first point stays, or it does not -/
theorem chk_split (p : Int × Int) (r : List (Int × Int)) (b : Nat) (f : List (Int × Int) → Bool) (h0 : chk r b (fun t => f (p :: t)) = true) (h1 : ((dsp b).drop 1).all (fun d => chk r (b - d.2.2) fun t => f ((p.1 + d.1, p.2 + d.2.1) :: t)) = true) : chk (p :: r) b f = true := by
  unfold chk
  rw [dsp_head b, List.all_cons, h1, Bool.and_true, Nat.sub_zero]
  have e : (fun t => f ((p.1 + (0 : Int), p.2 + (0 : Int)) :: t)) = fun t => f (p :: t) := by
    funext t
    rw [Int.add_zero, Int.add_zero]
  show chk r b (fun t => f ((p.1 + (0 : Int), p.2 + (0 : Int)) :: t)) = true
  rw [e]
  exact h0
theorem all_parts {α : Type} (k : Nat) (l : List α) (f : α → Bool) (h1 : (l.take k).all f = true) (h2 : (l.drop k).all f = true) : l.all f = true := by
  rw [← List.take_append_drop k l, List.all_append, h1, h2]
  rfl

theorem far1_step {p q q' : Int × Int} (h1 : -1 ≤ q'.1 - q.1 ∧ q'.1 - q.1 ≤ 1) (h2 : -1 ≤ q'.2 - q.2 ∧ q'.2 - q.2 ≤ 1) : far1 p q' ≤ far1 p q + 1 := by
  unfold far1
  omega
theorem farL_set : ∀ (s l : List (Int × Int)) (i : Nat) (q' : Int × Int), l.length = s.length → (∀ q, l[i]? = some q → (-1 ≤ q'.1 - q.1 ∧ q'.1 - q.1 ≤ 1) ∧ (-1 ≤ q'.2 - q.2 ∧ q'.2 - q.2 ≤ 1)) → farL s (l.set i q') ≤ farL s l + 1
  | [], l, i, q', hl, _ => by
    have e : l = [] := List.eq_nil_of_length_eq_zero (by simpa using hl)
    subst e
    simp [farL]
  | p :: s, [], i, q', hl, _ => by simp at hl
  | p :: s, q :: l, 0, q', hl, h => by
    have h0 := h q rfl
    have := far1_step (p := p) h0.1 h0.2
    show far1 p q' + farL s l ≤ far1 p q + farL s l + 1
    omega
  | p :: s, q :: l, i + 1, q', hl, h => by
    have := farL_set s l i q' (by simpa using hl) (fun r hr => h r (by simpa using hr))
    show far1 p q + farL s (l.set i q') ≤ far1 p q + farL s l + 1
    omega
theorem farL_self : ∀ s : List (Int × Int), farL s s = 0
  | [] => rfl
  | p :: s => by
    show far1 p p + farL s s = 0
    rw [farL_self s]
    simp [far1]
theorem Reach.far {s j : Nat} {l : List (Int × Int)} (h : Reach s j l) : farL (shp s) l ≤ j := by
  induction h with
  | base => rw [farL_self]; exact Nat.le_refl _
  | stay _ ih => omega
  | @move j l i dx dy hre hi h1 h2 _ ih =>
    have := farL_set (shp s) l i (gx l i + dx, gy l i + dy) hre.len (fun q hq => by
      have e : (gx l i, gy l i) = q := by
        have e2 : (gx l i, gy l i) = l.getD i (0, 0) := rfl
        rw [e2, List.getD_eq_getElem?_getD, hq]
        rfl
      subst e
      simp only
      omega)
    unfold mvd
    omega
/-- a test that holds at all lists near the shapes holds at what may be reached -/
theorem Reach.test {s j : Nat} {l : List (Int × Int)} (h : Reach s j l) (hj : j ≤ 3) (f : List (Int × Int) → Bool) (hf : chk (shp s) 3 f = true) : f l = true :=
  chk_sound (shp s) 3 f (by omega) hf l h.len (by have := h.far; omega)

end Go.Proofs.Ytjccilpjaaiicaa

namespace Go.Proofs.Ytjccilpjaaiicaa
open Go.RowKit

/-- p lies on wall k -/
def onE (l : List (Int × Int)) (px py : Int) (k : Nat) : Bool := onW px py (gx l k) (gy l k) (gx l ((k + 1) % l.length)) (gy l ((k + 1) % l.length))
/-- the turn of wall k to p -/
def turnE (l : List (Int × Int)) (px py : Int) (k : Nat) : Int := turnW (gx l k) (gy l k) (gx l ((k + 1) % l.length)) (gy l ((k + 1) % l.length)) px py
/-- the way from p to the side crosses wall k: the program's words -/
def crI (l : List (Int × Int)) (px py : Int) (k : Nat) : Bool :=
  (decide (py < gy l k) != decide (py < gy l ((k + 1) % l.length))) && (decide (0 < turnE l px py k) == decide (gy l k < gy l ((k + 1) % l.length)))
/-- the reference's words -/
def crS (l : List (Int × Int)) (px py : Int) (k : Nat) : Bool :=
  ((decide (gy l k ≤ py) && decide (py < gy l ((k + 1) % l.length))) && decide (0 < turnE l px py k)) || ((decide (gy l ((k + 1) % l.length) ≤ py) && decide (py < gy l k)) && decide (turnE l px py k < 0))
/-- how often, odd or even, by the first k walls -/
def parTo (f : Nat → Bool) : Nat → Bool
  | 0 => false
  | k + 1 => if f k = true then !parTo f k else parTo f k
theorem parTo_succ (f : Nat → Bool) (k : Nat) : parTo f (k + 1) = if f k = true then !parTo f k else parTo f k := rfl
theorem parTo_congr (f g : Nat → Bool) : ∀ n, (∀ k, k < n → f k = g k) → parTo f n = parTo g n
  | 0, _ => rfl
  | n + 1, h => by
    rw [parTo_succ, parTo_succ, h n (by omega), parTo_congr f g n (fun k hk => h k (by omega))]
def sg (b : Bool) : Int := if b = true then 1 else -1
theorem sg_not (b : Bool) : sg (!b) = -sg b := by cases b <;> rfl
theorem sg_bd (b : Bool) : -1 ≤ sg b ∧ sg b ≤ 1 := by cases b <;> decide
/-- place, as the program gives it -/
def placeV (l : List (Int × Int)) (px py : Int) : Int := if (List.range l.length).any (onE l px py) = true then 1 else if parTo (crI l px py) l.length = true then 2 else 0
/-- the reference's l05Holds -/
def holdsV (l : List (Int × Int)) (px py : Int) : Int := if (List.range l.length).any (onE l px py) = true then 0 else sg (parTo (crS l px py) l.length)

theorem any_on {l : List (Int × Int)} {px py : Int} {k : Nat} (hk : k < l.length) (h : onE l px py k = true) : (List.range l.length).any (onE l px py) = true :=
  List.any_eq_true.2 ⟨k, List.mem_range.2 hk, h⟩
theorem any_off {l : List (Int × Int)} {px py : Int} (h : ∀ k, k < l.length → onE l px py k = false) : (List.range l.length).any (onE l px py) = false := by
  rw [List.any_eq_false]
  intro k hk
  simp [h k (List.mem_range.1 hk)]
theorem placeV_on {l : List (Int × Int)} {px py : Int} {k : Nat} (hk : k < l.length) (h : onE l px py k = true) : placeV l px py = 1 := by simp [placeV, any_on hk h]
theorem holdsV_on {l : List (Int × Int)} {px py : Int} {k : Nat} (hk : k < l.length) (h : onE l px py k = true) : holdsV l px py = 0 := by simp [holdsV, any_on hk h]
theorem placeV_off {l : List (Int × Int)} {px py : Int} (h : ∀ k, k < l.length → onE l px py k = false) : placeV l px py = if parTo (crI l px py) l.length = true then 2 else 0 := by
  simp [placeV, any_off h]
theorem holdsV_off {l : List (Int × Int)} {px py : Int} (h : ∀ k, k < l.length → onE l px py k = false) : holdsV l px py = sg (parTo (crS l px py) l.length) := by
  simp [holdsV, any_off h]

/-- a point on the line through a and b whose row lies between theirs lies between them -/
theorem on_of_line {ax ay bx by_ px py : Int} (ht : turnZ ax ay bx by_ px py = 0) (h : (ay ≤ py ∧ py < by_) ∨ (by_ ≤ py ∧ py < ay)) : min ax bx ≤ px ∧ px ≤ max ax bx := by
  have e : (bx - ax) * (py - ay) = (by_ - ay) * (px - ax) := by unfold turnZ at ht; omega
  rcases h with ⟨h1, h2⟩ | ⟨h1, h2⟩
  · have hD : 0 < by_ - ay := by omega
    rcases Int.le_total ax bx with hx | hx
    · rw [Int.min_eq_left hx, Int.max_eq_right hx]
      constructor
      · apply Int.le_of_not_gt; intro hlt
        have a1 := Int.mul_nonneg (show 0 ≤ bx - ax by omega) (show 0 ≤ py - ay by omega)
        have a2 := Int.mul_pos hD (show 0 < ax - px by omega)
        have a3 : (by_ - ay) * (ax - px) = -((by_ - ay) * (px - ax)) := by rw [← Int.mul_neg]; congr 1; omega
        omega
      · apply Int.le_of_not_gt; intro hlt
        have a1 := Int.mul_nonneg (show 0 ≤ bx - ax by omega) (show 0 ≤ by_ - py by omega)
        have a2 := Int.mul_pos hD (show 0 < px - bx by omega)
        have a3 : (bx - ax) * (by_ - py) = (bx - ax) * (by_ - ay) - (bx - ax) * (py - ay) := by rw [← Int.mul_sub]; congr 1; omega
        have a4 : (by_ - ay) * (px - bx) = (by_ - ay) * (px - ax) - (by_ - ay) * (bx - ax) := by rw [← Int.mul_sub]; congr 1; omega
        have a5 := Int.mul_comm (bx - ax) (by_ - ay)
        omega
    · rw [Int.min_eq_right hx, Int.max_eq_left hx]
      constructor
      · apply Int.le_of_not_gt; intro hlt
        have a1 := Int.mul_nonneg (show 0 ≤ ax - bx by omega) (show 0 ≤ by_ - py by omega)
        have a2 := Int.mul_pos hD (show 0 < bx - px by omega)
        have a3 : (ax - bx) * (by_ - py) = -((bx - ax) * (by_ - ay) - (bx - ax) * (py - ay)) := by rw [← Int.mul_sub, ← Int.neg_mul]; congr 1 <;> omega
        have a4 : (by_ - ay) * (bx - px) = (by_ - ay) * (bx - ax) - (by_ - ay) * (px - ax) := by rw [← Int.mul_sub]; congr 1; omega
        have a5 := Int.mul_comm (bx - ax) (by_ - ay)
        omega
      · apply Int.le_of_not_gt; intro hlt
        have a1 := Int.mul_nonneg (show 0 ≤ ax - bx by omega) (show 0 ≤ py - ay by omega)
        have a2 := Int.mul_pos hD (show 0 < px - ax by omega)
        have a3 : (ax - bx) * (py - ay) = -((bx - ax) * (py - ay)) := by rw [← Int.neg_mul]; congr 1; omega
        omega
  · have hD : 0 < ay - by_ := by omega
    have e' : (bx - ax) * (ay - py) = (ay - by_) * (px - ax) := by
      have b1 : (bx - ax) * (ay - py) = -((bx - ax) * (py - ay)) := by rw [← Int.mul_neg]; congr 1; omega
      have b2 : (ay - by_) * (px - ax) = -((by_ - ay) * (px - ax)) := by rw [← Int.neg_mul]; congr 1; omega
      omega
    rcases Int.le_total ax bx with hx | hx
    · rw [Int.min_eq_left hx, Int.max_eq_right hx]
      constructor
      · apply Int.le_of_not_gt; intro hlt
        have a1 := Int.mul_nonneg (show 0 ≤ bx - ax by omega) (show 0 ≤ ay - py by omega)
        have a2 := Int.mul_pos hD (show 0 < ax - px by omega)
        have a3 : (ay - by_) * (ax - px) = -((ay - by_) * (px - ax)) := by rw [← Int.mul_neg]; congr 1; omega
        omega
      · apply Int.le_of_not_gt; intro hlt
        have a1 := Int.mul_nonneg (show 0 ≤ bx - ax by omega) (show 0 ≤ py - by_ by omega)
        have a2 := Int.mul_pos hD (show 0 < px - bx by omega)
        have a3 : (bx - ax) * (py - by_) = (bx - ax) * (ay - by_) - (bx - ax) * (ay - py) := by rw [← Int.mul_sub]; congr 1; omega
        have a4 : (ay - by_) * (px - bx) = (ay - by_) * (px - ax) - (ay - by_) * (bx - ax) := by rw [← Int.mul_sub]; congr 1; omega
        have a5 := Int.mul_comm (bx - ax) (ay - by_)
        omega
    · rw [Int.min_eq_right hx, Int.max_eq_left hx]
      constructor
      · apply Int.le_of_not_gt; intro hlt
        have a1 := Int.mul_nonneg (show 0 ≤ ax - bx by omega) (show 0 ≤ py - by_ by omega)
        have a2 := Int.mul_pos hD (show 0 < bx - px by omega)
        have a3 : (ax - bx) * (py - by_) = -((bx - ax) * (ay - by_) - (bx - ax) * (ay - py)) := by rw [← Int.mul_sub, ← Int.neg_mul]; congr 1 <;> omega
        have a4 : (ay - by_) * (bx - px) = (ay - by_) * (bx - ax) - (ay - by_) * (px - ax) := by rw [← Int.mul_sub]; congr 1; omega
        have a5 := Int.mul_comm (bx - ax) (ay - by_)
        omega
      · apply Int.le_of_not_gt; intro hlt
        have a1 := Int.mul_nonneg (show 0 ≤ ax - bx by omega) (show 0 ≤ ay - py by omega)
        have a2 := Int.mul_pos hD (show 0 < px - ax by omega)
        have a3 : (ax - bx) * (ay - py) = -((bx - ax) * (ay - py)) := by rw [← Int.neg_mul]; congr 1; omega
        omega

/-- all points lie within M -/
def Small (M : Int) (l : List (Int × Int)) : Prop := ∀ k, k < l.length → within M (gx l k) (gy l k)

theorem cr_eq {l : List (Int × Int)} {px py : Int} {k : Nat} (hs : Small 1000000 l) (hq : within 1000000 px py) (hk : k < l.length) (ho : onE l px py k = false) : crI l px py k = crS l px py k := by
  have hm : (k + 1) % l.length < l.length := Nat.mod_lt _ (by omega)
  have ht : turnE l px py k = turnZ (gx l k) (gy l k) (gx l ((k + 1) % l.length)) (gy l ((k + 1) % l.length)) px py := turnW_eq (hs k hk) (hs _ hm) hq
  have hne : (gy l k ≤ py ∧ py < gy l ((k + 1) % l.length)) ∨ (gy l ((k + 1) % l.length) ≤ py ∧ py < gy l k) → turnE l px py k ≠ 0 := by
    intro h h0
    have hin := on_of_line (ht ▸ h0) h
    unfold onE at ho
    have : onW px py (gx l k) (gy l k) (gx l ((k + 1) % l.length)) (gy l ((k + 1) % l.length)) = true := by
      unfold onW inB
      have h0' : turnW (gx l k) (gy l k) (gx l ((k + 1) % l.length)) (gy l ((k + 1) % l.length)) px py = 0 := h0
      simp only [Bool.and_eq_true, decide_eq_true_eq]
      refine ⟨h0', hin, ?_⟩
      omega
    rw [this] at ho
    cases ho
  unfold crI crS
  generalize turnE l px py k = t at hne
  generalize gy l k = a at hne
  generalize gy l ((k + 1) % l.length) = b at hne
  rw [Bool.eq_iff_iff]
  simp only [Bool.and_eq_true, Bool.or_eq_true, bne_iff_ne, ne_eq, beq_iff_eq, decide_eq_decide, decide_eq_true_eq]
  by_cases h1 : py < a <;> by_cases h2 : py < b <;> simp [h1, h2] <;> omega

theorem place_holds {l : List (Int × Int)} {px py : Int} (hs : Small 1000000 l) (hq : within 1000000 px py) : placeV l px py = holdsV l px py + 1 := by
  unfold placeV holdsV
  cases h : (List.range l.length).any (onE l px py)
  · have ho : ∀ k, k < l.length → onE l px py k = false := fun k hk => by
      have := List.any_eq_false.1 h k (List.mem_range.2 hk)
      simpa using this
    rw [parTo_congr (crI l px py) (crS l px py) l.length (fun k hk => cr_eq hs hq hk (ho k hk))]
    cases parTo (crS l px py) l.length <;> rfl
  · rfl

theorem Fine.small {l : List (Int × Int)} (h : Fine l) : Small 1000000 l := fun k hk => within_more (within_of_pok (h.pok hk)) (by omega)

end Go.Proofs.Ytjccilpjaaiicaa

namespace Go.Proofs.Ytjccilpjaaiicaa
open Go.RowKit


set_option maxRecDepth 100000 in
set_option maxHeartbeats 4000000 in
theorem place_any (A : Option Addr) (l : List (Int × Int)) (c : Nat) (px py : Int) (w : World) (hp : RPts w A l) (hn : l.length ≤ 1048576) :
    Calls Try.prog 42 #[.slice A l.length c, .agg #[.int .i64 px, .int .i64 py]] w fun e w' => e = .returned (.int .i64 (placeV l px py)) ∧ Ext w w' := by
  have HB : Hid (∀ w', Ext (w.alloc (.cells #[.int .i64 px, .int .i64 py] 28)) w' → w'.cell? ⟨w.heap.size, 0, none⟩ = some (.int .i64 px) ∧ w'.cell? ⟨w.heap.size, 1, none⟩ = some (.int .i64 py) ∧ w.heap.size < w'.heap.size) := fun w' hx => by
    and_intros <;> (first | (have hz := hx.size; simp at hz; omega) | ((first | rw [hx.cells _ _ (by first | (simp; done) | (simp; omega))] | rw [hx.frozens _ _ (by first | (simp; done) | (simp; omega))]); (first | (simp [go_sem]; done) | (simp [go_sem, World.cell?_alloc_past]; done) | (simp [go_sem, World.frozen?]; done))))
  go_enter Try.func42, Try.ntmps42
  go_wp2
  go_loopw [5, 11] (fun b i wr => ∃ k : Nat, k ≤ l.length ∧ i = .int .i64 k ∧ b = .bool (parTo (crI l px py) k) ∧ Ext (w.alloc (.cells #[.int .i64 px, .int .i64 py] 28)) wr ∧ Hid (∀ j, j < k → onE l px py j = false)) (fun _ i _ => l.length - (intOf i).toNat)
  case atStart => exact ⟨0, Nat.zero_le _, rfl, rfl, by (repeat (first | exact Ext.refl _ | assumption | apply Ext.alloc | apply Ext.drew | apply Ext.drewN | (refine Ext.trans ?_ (by assumption)))), fun j hj => absurd hj (by omega)⟩
  case round =>
    obtain ⟨k, hk, rfl, rfl, hbl, HN⟩ := hrel
    obtain ⟨wq, rfl⟩ : ∃ wq : World, wq = wr := ⟨_, rfl⟩
    have fb0 := HB.out wq hbl
    by_cases hlt : k < l.length
    · have hm1 : (k + 1) % l.length < l.length := Nat.mod_lt _ (by omega)
      have hpr : RPts wq A l := hp.ext (by (repeat (first | exact Ext.refl _ | assumption | apply Ext.alloc | apply Ext.drew | apply Ext.drewN | (refine Ext.trans ?_ (by assumption)))))
      obtain ⟨b, off, rfl⟩ := hpr.some_ (by omega)
      obtain ⟨hz, hx0, hy0⟩ := hpr.cell hlt
      obtain ⟨_, hx1, hy1⟩ := hpr.cell hm1
      have hne : l ≠ [] := fun e => by rw [e] at hlt; simp at hlt
      obtain ⟨q1, q2, q3, q4, q5⟩ := idx_facts ((k : Int) + 1) (k + 1) l.length (by omega) (by omega) (by omega)
      have HQ : Hid (∀ w', Ext ((wq.alloc (.cells #[.int .i64 (gx l k), .int .i64 (gy l k)] 28)).alloc (.cells #[.int .i64 (gx l ((k + 1) % l.length)), .int .i64 (gy l ((k + 1) % l.length))] 28)) w' → w'.cell? ⟨wq.heap.size, 0, none⟩ = some (.int .i64 (gx l k)) ∧ w'.cell? ⟨wq.heap.size, 1, none⟩ = some (.int .i64 (gy l k)) ∧ wq.heap.size < w'.heap.size ∧ w'.cell? ⟨wq.heap.size + 1, 0, none⟩ = some (.int .i64 (gx l ((k + 1) % l.length))) ∧ w'.cell? ⟨wq.heap.size + 1, 1, none⟩ = some (.int .i64 (gy l ((k + 1) % l.length))) ∧ wq.heap.size + 1 < w'.heap.size) := fun w' hx => by
        and_intros <;> (first | (have hz := hx.size; simp at hz; omega) | ((first | rw [hx.cells _ _ (by first | (simp; done) | (simp; omega))] | rw [hx.frozens _ _ (by first | (simp; done) | (simp; omega))]); (first | (simp [go_sem]; done) | (simp [go_sem, World.cell?_alloc_past]; done) | (simp [go_sem, World.frozen?]; done))))
      cases ho : onE l px py k
      · have HO := hide ho
        unfold onE at ho
        go_wp2_with (go_at_call 51; refine (on_any _ _ _ _ _ _ _).mono ?_; rintro e w1 ⟨rfl, hb1⟩; have fb := HB.out w1 (by (repeat (first | exact Ext.refl _ | assumption | apply Ext.alloc | apply Ext.drew | apply Ext.drewN | (refine Ext.trans ?_ (by assumption))))); have fq := HQ.out w1 (by (repeat (first | exact Ext.refl _ | assumption | apply Ext.alloc | apply Ext.drew | apply Ext.drewN | (refine Ext.trans ?_ (by assumption))))))
        clear fb0 hx0 hy0 hx1 hy1 q1 q2 q3 q4 q5 ho
        cases e1 : decide (py < gy l k)
        · cases e2 : decide (py < gy l ((k + 1) % l.length))
          · have HC := hide (show parTo (crI l px py) (k + 1) = parTo (crI l px py) k by rw [parTo_succ]; unfold crI ; rw [e1, e2]; rfl)
            refine wp_flow (by kernel_rfl) (by kernel_rfl) (fun u => ⟨#[_, _, _, _, _, _, _, _, _, _, _, _, _, _, _, _, _, _, _, _, _, _, _, _, _, _, _, _, u 0, u 1, u 2, u 3, u 4, u 5, u 6, u 7, u 8, u 9, u 10, u 11, u 12, u 13, u 14, u 15, u 16, u 17, u 18, u 19, u 20, u 21, u 22, u 23, _, _, _, _], _⟩) (fun i => List.getD [_, _, _, _, _, _, _, _, _, _, _, _, _, _, _, _, _, _, _, _, _, _, _, _] i undef) [is ?v1_0, is ?v1_1, is ?v1_2, is ?v1_3, is ?v1_4, is ?v1_5, is ?v1_6, is ?v1_7, is ?v1_8, is ?v1_9, is ?v1_10, is ?v1_11, is ?v1_12, is ?v1_13, is ?v1_14, is ?v1_15, is ?v1_16, is ?v1_17, is ?v1_18, is ?v1_19, is ?v1_20, is ?v1_21, is ?v1_22, is ?v1_23] (fun w' => w'.cell? ⟨w.heap.size, 0, none⟩ = some (.int .i64 px) ∧ w'.cell? ⟨w.heap.size, 1, none⟩ = some (.int .i64 py) ∧ w.heap.size < w'.heap.size ∧ w'.cell? ⟨wq.heap.size, 0, none⟩ = some (.int .i64 (gx l k)) ∧ w'.cell? ⟨wq.heap.size, 1, none⟩ = some (.int .i64 (gy l k)) ∧ wq.heap.size < w'.heap.size ∧ w'.cell? ⟨wq.heap.size + 1, 0, none⟩ = some (.int .i64 (gx l ((k + 1) % l.length))) ∧ w'.cell? ⟨wq.heap.size + 1, 1, none⟩ = some (.int .i64 (gy l ((k + 1) % l.length))) ∧ wq.heap.size + 1 < w'.heap.size) _ rfl ?hC1 ?hs1 ?hV1 ?fin1
            case hC1 => exact fun w' hx => (by have hq : Ext _ w' := hx; have hf0 := HB.out w' (by (repeat (first | exact Ext.refl _ | assumption | apply Ext.alloc | apply Ext.drew | apply Ext.drewN | (refine Ext.trans ?_ (by assumption))))); have hf1 := HQ.out w' (by (repeat (first | exact Ext.refl _ | assumption | apply Ext.alloc | apply Ext.drew | apply Ext.drewN | (refine Ext.trans ?_ (by assumption))))); and_intros <;> first | exact hf0 | exact hf0.1 | exact hf0.2.1 | exact hf0.2.2.1 | exact hf0.2.2.2.1 | exact hf0.2.2.2.2.1 | exact hf0.2.2.2.2.2.1 | exact hf0.2.2.2.2.2.2.1 | exact hf0.2.2.2.2.2.2.2.1 | exact hf0.2.2.2.2.2.2.2.2.1 | exact hf0.2.2.2.2.2.2.2.2.2.1 | exact hf0.2.2.2.2.2.2.2.2.2.2.1 | exact hf0.2.2.2.2.2.2.2.2.2.2.2.1 | exact hf0.2.2.2.2.2.2.2.2.2.2.2.2.1 | exact hf0.2.2.2.2.2.2.2.2.2.2.2.2.2.1 | exact hf0.2 | exact hf0.2.2 | exact hf0.2.2.2 | exact hf0.2.2.2.2 | exact hf0.2.2.2.2.2 | exact hf0.2.2.2.2.2.2 | exact hf0.2.2.2.2.2.2.2 | exact hf0.2.2.2.2.2.2.2.2 | exact hf0.2.2.2.2.2.2.2.2.2 | exact hf0.2.2.2.2.2.2.2.2.2.2 | exact hf0.2.2.2.2.2.2.2.2.2.2.2 | exact hf0.2.2.2.2.2.2.2.2.2.2.2.2 | exact hf0.2.2.2.2.2.2.2.2.2.2.2.2.2 | exact hf1 | exact hf1.1 | exact hf1.2.1 | exact hf1.2.2.1 | exact hf1.2.2.2.1 | exact hf1.2.2.2.2.1 | exact hf1.2.2.2.2.2.1 | exact hf1.2.2.2.2.2.2.1 | exact hf1.2.2.2.2.2.2.2.1 | exact hf1.2.2.2.2.2.2.2.2.1 | exact hf1.2.2.2.2.2.2.2.2.2.1 | exact hf1.2.2.2.2.2.2.2.2.2.2.1 | exact hf1.2.2.2.2.2.2.2.2.2.2.2.1 | exact hf1.2.2.2.2.2.2.2.2.2.2.2.2.1 | exact hf1.2.2.2.2.2.2.2.2.2.2.2.2.2.1 | exact hf1.2 | exact hf1.2.2 | exact hf1.2.2.2 | exact hf1.2.2.2.2 | exact hf1.2.2.2.2.2 | exact hf1.2.2.2.2.2.2 | exact hf1.2.2.2.2.2.2.2 | exact hf1.2.2.2.2.2.2.2.2 | exact hf1.2.2.2.2.2.2.2.2.2 | exact hf1.2.2.2.2.2.2.2.2.2.2 | exact hf1.2.2.2.2.2.2.2.2.2.2.2 | exact hf1.2.2.2.2.2.2.2.2.2.2.2.2 | exact hf1.2.2.2.2.2.2.2.2.2.2.2.2.2)
            case hs1 =>
              repeat' (first
                | exact FSteps.nil
                | refine FSteps.cons ?_ ?_
                | (refine FStep.off_ _ _ _ rfl rfl ?_ (fun _ => rfl) ?_; (focus (intro u w hd; simp [vOf, is, Region.binds] at hd; simp [hd])); (intro w'; exact rfl); done)
                | ((first
                    | refine FStep.plain rfl ?_
                    | (refine FStep.on_ _ _ _ rfl rfl ?_ ?_; (focus (intro u w hd; simp [vOf, is, Region.binds] at hd; simp [hd]))))
                   intro u w hW hC hd K hK
                   (try simp [vOf, is, Region.binds] at hd)
                   simp only [upd, Nat.reduceEqDiff, if_true, if_false] at hK
                   (try simp only [hd] at hK)
                   go_simp
                   (first
                     | (refine hK _ _ ?_ ?_; (first | exact rfl); (repeat (first | exact Ext.refl _ | assumption | apply Ext.alloc | apply Ext.drew | apply Ext.drewN | (refine Ext.trans ?_ (by assumption)))))
                     | (go_at_call 34; refine (turn_any _ _ _ _ _ _ _).mono ?_; rintro e w1 ⟨rfl, hb⟩; (try go_simp); refine hK _ _ ?_ ?_; (first | exact rfl); (repeat (first | exact Ext.refl _ | assumption | apply Ext.alloc | apply Ext.drew | apply Ext.drewN | (refine Ext.trans ?_ (by assumption))))))))
            case hV1 => (simp only [List.forall_mem_cons]; simp [stable_is])
            case fin1 =>
              intro u w2 hW2 hC2 hd
              simp only [AllV, is] at hd
              simp only [hd]
              clear hd
              clear hC2 fb fq
              go_wp2
              go_roundw
              case rel => exact ⟨k + 1, by omega, by go_num, by first | (rw [HC.out]; done) | (rw [HC.out]; rfl), by (repeat (first | exact Ext.refl _ | assumption | apply Ext.alloc | apply Ext.drew | apply Ext.drewN | (refine Ext.trans ?_ (by assumption)))), fun j hj => by by_cases e : j = k; (subst e; exact HO.out); exact HN.out j (by omega)⟩
              case measure => simp [intOf]; omega
          · have e4 : decide (gy l k < gy l ((k + 1) % l.length)) = true := by simp at e1 e2 ⊢; omega
            cases e3 : decide (0 < turnW (gx l k) (gy l k) (gx l ((k + 1) % l.length)) (gy l ((k + 1) % l.length)) px py)
            · have HC := hide (show parTo (crI l px py) (k + 1) = parTo (crI l px py) k by rw [parTo_succ]; unfold crI turnE; rw [e1, e2, e3, e4]; rfl)
              refine wp_flow (by kernel_rfl) (by kernel_rfl) (fun u => ⟨#[_, _, _, _, _, _, _, _, _, _, _, _, _, _, _, _, _, _, _, _, _, _, _, _, _, _, _, _, u 0, u 1, u 2, u 3, u 4, u 5, u 6, u 7, u 8, u 9, u 10, u 11, u 12, u 13, u 14, u 15, u 16, u 17, u 18, u 19, u 20, u 21, u 22, u 23, _, _, _, _], _⟩) (fun i => List.getD [_, _, _, _, _, _, _, _, _, _, _, _, _, _, _, _, _, _, _, _, _, _, _, _] i undef) [is ?v2_0, is ?v2_1, is ?v2_2, is ?v2_3, is ?v2_4, is ?v2_5, is ?v2_6, is ?v2_7, is ?v2_8, is ?v2_9, is ?v2_10, is ?v2_11, is ?v2_12, is ?v2_13, is ?v2_14, is ?v2_15, is ?v2_16, is ?v2_17, is ?v2_18, is ?v2_19, is ?v2_20, is ?v2_21, is ?v2_22, is ?v2_23] (fun w' => w'.cell? ⟨w.heap.size, 0, none⟩ = some (.int .i64 px) ∧ w'.cell? ⟨w.heap.size, 1, none⟩ = some (.int .i64 py) ∧ w.heap.size < w'.heap.size ∧ w'.cell? ⟨wq.heap.size, 0, none⟩ = some (.int .i64 (gx l k)) ∧ w'.cell? ⟨wq.heap.size, 1, none⟩ = some (.int .i64 (gy l k)) ∧ wq.heap.size < w'.heap.size ∧ w'.cell? ⟨wq.heap.size + 1, 0, none⟩ = some (.int .i64 (gx l ((k + 1) % l.length))) ∧ w'.cell? ⟨wq.heap.size + 1, 1, none⟩ = some (.int .i64 (gy l ((k + 1) % l.length))) ∧ wq.heap.size + 1 < w'.heap.size) _ rfl ?hC2 ?hs2 ?hV2 ?fin2
              case hC2 => exact fun w' hx => (by have hq : Ext _ w' := hx; have hf0 := HB.out w' (by (repeat (first | exact Ext.refl _ | assumption | apply Ext.alloc | apply Ext.drew | apply Ext.drewN | (refine Ext.trans ?_ (by assumption))))); have hf1 := HQ.out w' (by (repeat (first | exact Ext.refl _ | assumption | apply Ext.alloc | apply Ext.drew | apply Ext.drewN | (refine Ext.trans ?_ (by assumption))))); and_intros <;> first | exact hf0 | exact hf0.1 | exact hf0.2.1 | exact hf0.2.2.1 | exact hf0.2.2.2.1 | exact hf0.2.2.2.2.1 | exact hf0.2.2.2.2.2.1 | exact hf0.2.2.2.2.2.2.1 | exact hf0.2.2.2.2.2.2.2.1 | exact hf0.2.2.2.2.2.2.2.2.1 | exact hf0.2.2.2.2.2.2.2.2.2.1 | exact hf0.2.2.2.2.2.2.2.2.2.2.1 | exact hf0.2.2.2.2.2.2.2.2.2.2.2.1 | exact hf0.2.2.2.2.2.2.2.2.2.2.2.2.1 | exact hf0.2.2.2.2.2.2.2.2.2.2.2.2.2.1 | exact hf0.2 | exact hf0.2.2 | exact hf0.2.2.2 | exact hf0.2.2.2.2 | exact hf0.2.2.2.2.2 | exact hf0.2.2.2.2.2.2 | exact hf0.2.2.2.2.2.2.2 | exact hf0.2.2.2.2.2.2.2.2 | exact hf0.2.2.2.2.2.2.2.2.2 | exact hf0.2.2.2.2.2.2.2.2.2.2 | exact hf0.2.2.2.2.2.2.2.2.2.2.2 | exact hf0.2.2.2.2.2.2.2.2.2.2.2.2 | exact hf0.2.2.2.2.2.2.2.2.2.2.2.2.2 | exact hf1 | exact hf1.1 | exact hf1.2.1 | exact hf1.2.2.1 | exact hf1.2.2.2.1 | exact hf1.2.2.2.2.1 | exact hf1.2.2.2.2.2.1 | exact hf1.2.2.2.2.2.2.1 | exact hf1.2.2.2.2.2.2.2.1 | exact hf1.2.2.2.2.2.2.2.2.1 | exact hf1.2.2.2.2.2.2.2.2.2.1 | exact hf1.2.2.2.2.2.2.2.2.2.2.1 | exact hf1.2.2.2.2.2.2.2.2.2.2.2.1 | exact hf1.2.2.2.2.2.2.2.2.2.2.2.2.1 | exact hf1.2.2.2.2.2.2.2.2.2.2.2.2.2.1 | exact hf1.2 | exact hf1.2.2 | exact hf1.2.2.2 | exact hf1.2.2.2.2 | exact hf1.2.2.2.2.2 | exact hf1.2.2.2.2.2.2 | exact hf1.2.2.2.2.2.2.2 | exact hf1.2.2.2.2.2.2.2.2 | exact hf1.2.2.2.2.2.2.2.2.2 | exact hf1.2.2.2.2.2.2.2.2.2.2 | exact hf1.2.2.2.2.2.2.2.2.2.2.2 | exact hf1.2.2.2.2.2.2.2.2.2.2.2.2 | exact hf1.2.2.2.2.2.2.2.2.2.2.2.2.2)
              case hs2 =>
                repeat' (first
                  | exact FSteps.nil
                  | refine FSteps.cons ?_ ?_
                  | (refine FStep.off_ _ _ _ rfl rfl ?_ (fun _ => rfl) ?_; (focus (intro u w hd; simp [vOf, is, Region.binds] at hd; simp [hd])); (intro w'; exact rfl); done)
                  | ((first
                      | refine FStep.plain rfl ?_
                      | (refine FStep.on_ _ _ _ rfl rfl ?_ ?_; (focus (intro u w hd; simp [vOf, is, Region.binds] at hd; simp [hd]))))
                     intro u w hW hC hd K hK
                     (try simp [vOf, is, Region.binds] at hd)
                     simp only [upd, Nat.reduceEqDiff, if_true, if_false] at hK
                     (try simp only [hd] at hK)
                     go_simp
                     (first
                       | (refine hK _ _ ?_ ?_; (first | exact rfl); (repeat (first | exact Ext.refl _ | assumption | apply Ext.alloc | apply Ext.drew | apply Ext.drewN | (refine Ext.trans ?_ (by assumption)))))
                       | (go_at_call 34; refine (turn_any _ _ _ _ _ _ _).mono ?_; rintro e w1 ⟨rfl, hb⟩; (try go_simp); refine hK _ _ ?_ ?_; (first | exact rfl); (repeat (first | exact Ext.refl _ | assumption | apply Ext.alloc | apply Ext.drew | apply Ext.drewN | (refine Ext.trans ?_ (by assumption))))))))
              case hV2 => (simp only [List.forall_mem_cons]; simp [stable_is])
              case fin2 =>
                intro u w2 hW2 hC2 hd
                simp only [AllV, is] at hd
                simp only [hd]
                clear hd
                clear hC2 fb fq
                go_wp2
                go_roundw
                case rel => exact ⟨k + 1, by omega, by go_num, by first | (rw [HC.out]; done) | (rw [HC.out]; rfl), by (repeat (first | exact Ext.refl _ | assumption | apply Ext.alloc | apply Ext.drew | apply Ext.drewN | (refine Ext.trans ?_ (by assumption)))), fun j hj => by by_cases e : j = k; (subst e; exact HO.out); exact HN.out j (by omega)⟩
                case measure => simp [intOf]; omega
            · have HC := hide (show parTo (crI l px py) (k + 1) = !parTo (crI l px py) k by rw [parTo_succ]; unfold crI turnE; rw [e1, e2, e3, e4]; rfl)
              refine wp_flow (by kernel_rfl) (by kernel_rfl) (fun u => ⟨#[_, _, _, _, _, _, _, _, _, _, _, _, _, _, _, _, _, _, _, _, _, _, _, _, _, _, _, _, u 0, u 1, u 2, u 3, u 4, u 5, u 6, u 7, u 8, u 9, u 10, u 11, u 12, u 13, u 14, u 15, u 16, u 17, u 18, u 19, u 20, u 21, u 22, u 23, _, _, _, _], _⟩) (fun i => List.getD [_, _, _, _, _, _, _, _, _, _, _, _, _, _, _, _, _, _, _, _, _, _, _, _] i undef) [is ?v3_0, is ?v3_1, is ?v3_2, is ?v3_3, is ?v3_4, is ?v3_5, is ?v3_6, is ?v3_7, is ?v3_8, is ?v3_9, is ?v3_10, is ?v3_11, is ?v3_12, is ?v3_13, is ?v3_14, is ?v3_15, is ?v3_16, is ?v3_17, is ?v3_18, is ?v3_19, is ?v3_20, is ?v3_21, is ?v3_22, is ?v3_23] (fun w' => w'.cell? ⟨w.heap.size, 0, none⟩ = some (.int .i64 px) ∧ w'.cell? ⟨w.heap.size, 1, none⟩ = some (.int .i64 py) ∧ w.heap.size < w'.heap.size ∧ w'.cell? ⟨wq.heap.size, 0, none⟩ = some (.int .i64 (gx l k)) ∧ w'.cell? ⟨wq.heap.size, 1, none⟩ = some (.int .i64 (gy l k)) ∧ wq.heap.size < w'.heap.size ∧ w'.cell? ⟨wq.heap.size + 1, 0, none⟩ = some (.int .i64 (gx l ((k + 1) % l.length))) ∧ w'.cell? ⟨wq.heap.size + 1, 1, none⟩ = some (.int .i64 (gy l ((k + 1) % l.length))) ∧ wq.heap.size + 1 < w'.heap.size) _ rfl ?hC3 ?hs3 ?hV3 ?fin3
              case hC3 => exact fun w' hx => (by have hq : Ext _ w' := hx; have hf0 := HB.out w' (by (repeat (first | exact Ext.refl _ | assumption | apply Ext.alloc | apply Ext.drew | apply Ext.drewN | (refine Ext.trans ?_ (by assumption))))); have hf1 := HQ.out w' (by (repeat (first | exact Ext.refl _ | assumption | apply Ext.alloc | apply Ext.drew | apply Ext.drewN | (refine Ext.trans ?_ (by assumption))))); and_intros <;> first | exact hf0 | exact hf0.1 | exact hf0.2.1 | exact hf0.2.2.1 | exact hf0.2.2.2.1 | exact hf0.2.2.2.2.1 | exact hf0.2.2.2.2.2.1 | exact hf0.2.2.2.2.2.2.1 | exact hf0.2.2.2.2.2.2.2.1 | exact hf0.2.2.2.2.2.2.2.2.1 | exact hf0.2.2.2.2.2.2.2.2.2.1 | exact hf0.2.2.2.2.2.2.2.2.2.2.1 | exact hf0.2.2.2.2.2.2.2.2.2.2.2.1 | exact hf0.2.2.2.2.2.2.2.2.2.2.2.2.1 | exact hf0.2.2.2.2.2.2.2.2.2.2.2.2.2.1 | exact hf0.2 | exact hf0.2.2 | exact hf0.2.2.2 | exact hf0.2.2.2.2 | exact hf0.2.2.2.2.2 | exact hf0.2.2.2.2.2.2 | exact hf0.2.2.2.2.2.2.2 | exact hf0.2.2.2.2.2.2.2.2 | exact hf0.2.2.2.2.2.2.2.2.2 | exact hf0.2.2.2.2.2.2.2.2.2.2 | exact hf0.2.2.2.2.2.2.2.2.2.2.2 | exact hf0.2.2.2.2.2.2.2.2.2.2.2.2 | exact hf0.2.2.2.2.2.2.2.2.2.2.2.2.2 | exact hf1 | exact hf1.1 | exact hf1.2.1 | exact hf1.2.2.1 | exact hf1.2.2.2.1 | exact hf1.2.2.2.2.1 | exact hf1.2.2.2.2.2.1 | exact hf1.2.2.2.2.2.2.1 | exact hf1.2.2.2.2.2.2.2.1 | exact hf1.2.2.2.2.2.2.2.2.1 | exact hf1.2.2.2.2.2.2.2.2.2.1 | exact hf1.2.2.2.2.2.2.2.2.2.2.1 | exact hf1.2.2.2.2.2.2.2.2.2.2.2.1 | exact hf1.2.2.2.2.2.2.2.2.2.2.2.2.1 | exact hf1.2.2.2.2.2.2.2.2.2.2.2.2.2.1 | exact hf1.2 | exact hf1.2.2 | exact hf1.2.2.2 | exact hf1.2.2.2.2 | exact hf1.2.2.2.2.2 | exact hf1.2.2.2.2.2.2 | exact hf1.2.2.2.2.2.2.2 | exact hf1.2.2.2.2.2.2.2.2 | exact hf1.2.2.2.2.2.2.2.2.2 | exact hf1.2.2.2.2.2.2.2.2.2.2 | exact hf1.2.2.2.2.2.2.2.2.2.2.2 | exact hf1.2.2.2.2.2.2.2.2.2.2.2.2 | exact hf1.2.2.2.2.2.2.2.2.2.2.2.2.2)
              case hs3 =>
                repeat' (first
                  | exact FSteps.nil
                  | refine FSteps.cons ?_ ?_
                  | (refine FStep.off_ _ _ _ rfl rfl ?_ (fun _ => rfl) ?_; (focus (intro u w hd; simp [vOf, is, Region.binds] at hd; simp [hd])); (intro w'; exact rfl); done)
                  | ((first
                      | refine FStep.plain rfl ?_
                      | (refine FStep.on_ _ _ _ rfl rfl ?_ ?_; (focus (intro u w hd; simp [vOf, is, Region.binds] at hd; simp [hd]))))
                     intro u w hW hC hd K hK
                     (try simp [vOf, is, Region.binds] at hd)
                     simp only [upd, Nat.reduceEqDiff, if_true, if_false] at hK
                     (try simp only [hd] at hK)
                     go_simp
                     (first
                       | (refine hK _ _ ?_ ?_; (first | exact rfl); (repeat (first | exact Ext.refl _ | assumption | apply Ext.alloc | apply Ext.drew | apply Ext.drewN | (refine Ext.trans ?_ (by assumption)))))
                       | (go_at_call 34; refine (turn_any _ _ _ _ _ _ _).mono ?_; rintro e w1 ⟨rfl, hb⟩; (try go_simp); refine hK _ _ ?_ ?_; (first | exact rfl); (repeat (first | exact Ext.refl _ | assumption | apply Ext.alloc | apply Ext.drew | apply Ext.drewN | (refine Ext.trans ?_ (by assumption))))))))
              case hV3 => (simp only [List.forall_mem_cons]; simp [stable_is])
              case fin3 =>
                intro u w2 hW2 hC2 hd
                simp only [AllV, is] at hd
                simp only [hd]
                clear hd
                clear hC2 fb fq
                go_wp2
                go_roundw
                case rel => exact ⟨k + 1, by omega, by go_num, by first | (rw [HC.out]; done) | (rw [HC.out]; rfl), by (repeat (first | exact Ext.refl _ | assumption | apply Ext.alloc | apply Ext.drew | apply Ext.drewN | (refine Ext.trans ?_ (by assumption)))), fun j hj => by by_cases e : j = k; (subst e; exact HO.out); exact HN.out j (by omega)⟩
                case measure => simp [intOf]; omega
        · cases e2 : decide (py < gy l ((k + 1) % l.length))
          · have e4 : decide (gy l k < gy l ((k + 1) % l.length)) = false := by simp at e1 e2 ⊢; omega
            cases e3 : decide (0 < turnW (gx l k) (gy l k) (gx l ((k + 1) % l.length)) (gy l ((k + 1) % l.length)) px py)
            · have HC := hide (show parTo (crI l px py) (k + 1) = !parTo (crI l px py) k by rw [parTo_succ]; unfold crI turnE; rw [e1, e2, e3, e4]; rfl)
              refine wp_flow (by kernel_rfl) (by kernel_rfl) (fun u => ⟨#[_, _, _, _, _, _, _, _, _, _, _, _, _, _, _, _, _, _, _, _, _, _, _, _, _, _, _, _, u 0, u 1, u 2, u 3, u 4, u 5, u 6, u 7, u 8, u 9, u 10, u 11, u 12, u 13, u 14, u 15, u 16, u 17, u 18, u 19, u 20, u 21, u 22, u 23, _, _, _, _], _⟩) (fun i => List.getD [_, _, _, _, _, _, _, _, _, _, _, _, _, _, _, _, _, _, _, _, _, _, _, _] i undef) [is ?v4_0, is ?v4_1, is ?v4_2, is ?v4_3, is ?v4_4, is ?v4_5, is ?v4_6, is ?v4_7, is ?v4_8, is ?v4_9, is ?v4_10, is ?v4_11, is ?v4_12, is ?v4_13, is ?v4_14, is ?v4_15, is ?v4_16, is ?v4_17, is ?v4_18, is ?v4_19, is ?v4_20, is ?v4_21, is ?v4_22, is ?v4_23] (fun w' => w'.cell? ⟨w.heap.size, 0, none⟩ = some (.int .i64 px) ∧ w'.cell? ⟨w.heap.size, 1, none⟩ = some (.int .i64 py) ∧ w.heap.size < w'.heap.size ∧ w'.cell? ⟨wq.heap.size, 0, none⟩ = some (.int .i64 (gx l k)) ∧ w'.cell? ⟨wq.heap.size, 1, none⟩ = some (.int .i64 (gy l k)) ∧ wq.heap.size < w'.heap.size ∧ w'.cell? ⟨wq.heap.size + 1, 0, none⟩ = some (.int .i64 (gx l ((k + 1) % l.length))) ∧ w'.cell? ⟨wq.heap.size + 1, 1, none⟩ = some (.int .i64 (gy l ((k + 1) % l.length))) ∧ wq.heap.size + 1 < w'.heap.size) _ rfl ?hC4 ?hs4 ?hV4 ?fin4
              case hC4 => exact fun w' hx => (by have hq : Ext _ w' := hx; have hf0 := HB.out w' (by (repeat (first | exact Ext.refl _ | assumption | apply Ext.alloc | apply Ext.drew | apply Ext.drewN | (refine Ext.trans ?_ (by assumption))))); have hf1 := HQ.out w' (by (repeat (first | exact Ext.refl _ | assumption | apply Ext.alloc | apply Ext.drew | apply Ext.drewN | (refine Ext.trans ?_ (by assumption))))); and_intros <;> first | exact hf0 | exact hf0.1 | exact hf0.2.1 | exact hf0.2.2.1 | exact hf0.2.2.2.1 | exact hf0.2.2.2.2.1 | exact hf0.2.2.2.2.2.1 | exact hf0.2.2.2.2.2.2.1 | exact hf0.2.2.2.2.2.2.2.1 | exact hf0.2.2.2.2.2.2.2.2.1 | exact hf0.2.2.2.2.2.2.2.2.2.1 | exact hf0.2.2.2.2.2.2.2.2.2.2.1 | exact hf0.2.2.2.2.2.2.2.2.2.2.2.1 | exact hf0.2.2.2.2.2.2.2.2.2.2.2.2.1 | exact hf0.2.2.2.2.2.2.2.2.2.2.2.2.2.1 | exact hf0.2 | exact hf0.2.2 | exact hf0.2.2.2 | exact hf0.2.2.2.2 | exact hf0.2.2.2.2.2 | exact hf0.2.2.2.2.2.2 | exact hf0.2.2.2.2.2.2.2 | exact hf0.2.2.2.2.2.2.2.2 | exact hf0.2.2.2.2.2.2.2.2.2 | exact hf0.2.2.2.2.2.2.2.2.2.2 | exact hf0.2.2.2.2.2.2.2.2.2.2.2 | exact hf0.2.2.2.2.2.2.2.2.2.2.2.2 | exact hf0.2.2.2.2.2.2.2.2.2.2.2.2.2 | exact hf1 | exact hf1.1 | exact hf1.2.1 | exact hf1.2.2.1 | exact hf1.2.2.2.1 | exact hf1.2.2.2.2.1 | exact hf1.2.2.2.2.2.1 | exact hf1.2.2.2.2.2.2.1 | exact hf1.2.2.2.2.2.2.2.1 | exact hf1.2.2.2.2.2.2.2.2.1 | exact hf1.2.2.2.2.2.2.2.2.2.1 | exact hf1.2.2.2.2.2.2.2.2.2.2.1 | exact hf1.2.2.2.2.2.2.2.2.2.2.2.1 | exact hf1.2.2.2.2.2.2.2.2.2.2.2.2.1 | exact hf1.2.2.2.2.2.2.2.2.2.2.2.2.2.1 | exact hf1.2 | exact hf1.2.2 | exact hf1.2.2.2 | exact hf1.2.2.2.2 | exact hf1.2.2.2.2.2 | exact hf1.2.2.2.2.2.2 | exact hf1.2.2.2.2.2.2.2 | exact hf1.2.2.2.2.2.2.2.2 | exact hf1.2.2.2.2.2.2.2.2.2 | exact hf1.2.2.2.2.2.2.2.2.2.2 | exact hf1.2.2.2.2.2.2.2.2.2.2.2 | exact hf1.2.2.2.2.2.2.2.2.2.2.2.2 | exact hf1.2.2.2.2.2.2.2.2.2.2.2.2.2)
              case hs4 =>
                repeat' (first
                  | exact FSteps.nil
                  | refine FSteps.cons ?_ ?_
                  | (refine FStep.off_ _ _ _ rfl rfl ?_ (fun _ => rfl) ?_; (focus (intro u w hd; simp [vOf, is, Region.binds] at hd; simp [hd])); (intro w'; exact rfl); done)
                  | ((first
                      | refine FStep.plain rfl ?_
                      | (refine FStep.on_ _ _ _ rfl rfl ?_ ?_; (focus (intro u w hd; simp [vOf, is, Region.binds] at hd; simp [hd]))))
                     intro u w hW hC hd K hK
                     (try simp [vOf, is, Region.binds] at hd)
                     simp only [upd, Nat.reduceEqDiff, if_true, if_false] at hK
                     (try simp only [hd] at hK)
                     go_simp
                     (first
                       | (refine hK _ _ ?_ ?_; (first | exact rfl); (repeat (first | exact Ext.refl _ | assumption | apply Ext.alloc | apply Ext.drew | apply Ext.drewN | (refine Ext.trans ?_ (by assumption)))))
                       | (go_at_call 34; refine (turn_any _ _ _ _ _ _ _).mono ?_; rintro e w1 ⟨rfl, hb⟩; (try go_simp); refine hK _ _ ?_ ?_; (first | exact rfl); (repeat (first | exact Ext.refl _ | assumption | apply Ext.alloc | apply Ext.drew | apply Ext.drewN | (refine Ext.trans ?_ (by assumption))))))))
              case hV4 => (simp only [List.forall_mem_cons]; simp [stable_is])
              case fin4 =>
                intro u w2 hW2 hC2 hd
                simp only [AllV, is] at hd
                simp only [hd]
                clear hd
                clear hC2 fb fq
                go_wp2
                go_roundw
                case rel => exact ⟨k + 1, by omega, by go_num, by first | (rw [HC.out]; done) | (rw [HC.out]; rfl), by (repeat (first | exact Ext.refl _ | assumption | apply Ext.alloc | apply Ext.drew | apply Ext.drewN | (refine Ext.trans ?_ (by assumption)))), fun j hj => by by_cases e : j = k; (subst e; exact HO.out); exact HN.out j (by omega)⟩
                case measure => simp [intOf]; omega
            · have HC := hide (show parTo (crI l px py) (k + 1) = parTo (crI l px py) k by rw [parTo_succ]; unfold crI turnE; rw [e1, e2, e3, e4]; rfl)
              refine wp_flow (by kernel_rfl) (by kernel_rfl) (fun u => ⟨#[_, _, _, _, _, _, _, _, _, _, _, _, _, _, _, _, _, _, _, _, _, _, _, _, _, _, _, _, u 0, u 1, u 2, u 3, u 4, u 5, u 6, u 7, u 8, u 9, u 10, u 11, u 12, u 13, u 14, u 15, u 16, u 17, u 18, u 19, u 20, u 21, u 22, u 23, _, _, _, _], _⟩) (fun i => List.getD [_, _, _, _, _, _, _, _, _, _, _, _, _, _, _, _, _, _, _, _, _, _, _, _] i undef) [is ?v5_0, is ?v5_1, is ?v5_2, is ?v5_3, is ?v5_4, is ?v5_5, is ?v5_6, is ?v5_7, is ?v5_8, is ?v5_9, is ?v5_10, is ?v5_11, is ?v5_12, is ?v5_13, is ?v5_14, is ?v5_15, is ?v5_16, is ?v5_17, is ?v5_18, is ?v5_19, is ?v5_20, is ?v5_21, is ?v5_22, is ?v5_23] (fun w' => w'.cell? ⟨w.heap.size, 0, none⟩ = some (.int .i64 px) ∧ w'.cell? ⟨w.heap.size, 1, none⟩ = some (.int .i64 py) ∧ w.heap.size < w'.heap.size ∧ w'.cell? ⟨wq.heap.size, 0, none⟩ = some (.int .i64 (gx l k)) ∧ w'.cell? ⟨wq.heap.size, 1, none⟩ = some (.int .i64 (gy l k)) ∧ wq.heap.size < w'.heap.size ∧ w'.cell? ⟨wq.heap.size + 1, 0, none⟩ = some (.int .i64 (gx l ((k + 1) % l.length))) ∧ w'.cell? ⟨wq.heap.size + 1, 1, none⟩ = some (.int .i64 (gy l ((k + 1) % l.length))) ∧ wq.heap.size + 1 < w'.heap.size) _ rfl ?hC5 ?hs5 ?hV5 ?fin5
              case hC5 => exact fun w' hx => (by have hq : Ext _ w' := hx; have hf0 := HB.out w' (by (repeat (first | exact Ext.refl _ | assumption | apply Ext.alloc | apply Ext.drew | apply Ext.drewN | (refine Ext.trans ?_ (by assumption))))); have hf1 := HQ.out w' (by (repeat (first | exact Ext.refl _ | assumption | apply Ext.alloc | apply Ext.drew | apply Ext.drewN | (refine Ext.trans ?_ (by assumption))))); and_intros <;> first | exact hf0 | exact hf0.1 | exact hf0.2.1 | exact hf0.2.2.1 | exact hf0.2.2.2.1 | exact hf0.2.2.2.2.1 | exact hf0.2.2.2.2.2.1 | exact hf0.2.2.2.2.2.2.1 | exact hf0.2.2.2.2.2.2.2.1 | exact hf0.2.2.2.2.2.2.2.2.1 | exact hf0.2.2.2.2.2.2.2.2.2.1 | exact hf0.2.2.2.2.2.2.2.2.2.2.1 | exact hf0.2.2.2.2.2.2.2.2.2.2.2.1 | exact hf0.2.2.2.2.2.2.2.2.2.2.2.2.1 | exact hf0.2.2.2.2.2.2.2.2.2.2.2.2.2.1 | exact hf0.2 | exact hf0.2.2 | exact hf0.2.2.2 | exact hf0.2.2.2.2 | exact hf0.2.2.2.2.2 | exact hf0.2.2.2.2.2.2 | exact hf0.2.2.2.2.2.2.2 | exact hf0.2.2.2.2.2.2.2.2 | exact hf0.2.2.2.2.2.2.2.2.2 | exact hf0.2.2.2.2.2.2.2.2.2.2 | exact hf0.2.2.2.2.2.2.2.2.2.2.2 | exact hf0.2.2.2.2.2.2.2.2.2.2.2.2 | exact hf0.2.2.2.2.2.2.2.2.2.2.2.2.2 | exact hf1 | exact hf1.1 | exact hf1.2.1 | exact hf1.2.2.1 | exact hf1.2.2.2.1 | exact hf1.2.2.2.2.1 | exact hf1.2.2.2.2.2.1 | exact hf1.2.2.2.2.2.2.1 | exact hf1.2.2.2.2.2.2.2.1 | exact hf1.2.2.2.2.2.2.2.2.1 | exact hf1.2.2.2.2.2.2.2.2.2.1 | exact hf1.2.2.2.2.2.2.2.2.2.2.1 | exact hf1.2.2.2.2.2.2.2.2.2.2.2.1 | exact hf1.2.2.2.2.2.2.2.2.2.2.2.2.1 | exact hf1.2.2.2.2.2.2.2.2.2.2.2.2.2.1 | exact hf1.2 | exact hf1.2.2 | exact hf1.2.2.2 | exact hf1.2.2.2.2 | exact hf1.2.2.2.2.2 | exact hf1.2.2.2.2.2.2 | exact hf1.2.2.2.2.2.2.2 | exact hf1.2.2.2.2.2.2.2.2 | exact hf1.2.2.2.2.2.2.2.2.2 | exact hf1.2.2.2.2.2.2.2.2.2.2 | exact hf1.2.2.2.2.2.2.2.2.2.2.2 | exact hf1.2.2.2.2.2.2.2.2.2.2.2.2 | exact hf1.2.2.2.2.2.2.2.2.2.2.2.2.2)
              case hs5 =>
                repeat' (first
                  | exact FSteps.nil
                  | refine FSteps.cons ?_ ?_
                  | (refine FStep.off_ _ _ _ rfl rfl ?_ (fun _ => rfl) ?_; (focus (intro u w hd; simp [vOf, is, Region.binds] at hd; simp [hd])); (intro w'; exact rfl); done)
                  | ((first
                      | refine FStep.plain rfl ?_
                      | (refine FStep.on_ _ _ _ rfl rfl ?_ ?_; (focus (intro u w hd; simp [vOf, is, Region.binds] at hd; simp [hd]))))
                     intro u w hW hC hd K hK
                     (try simp [vOf, is, Region.binds] at hd)
                     simp only [upd, Nat.reduceEqDiff, if_true, if_false] at hK
                     (try simp only [hd] at hK)
                     go_simp
                     (first
                       | (refine hK _ _ ?_ ?_; (first | exact rfl); (repeat (first | exact Ext.refl _ | assumption | apply Ext.alloc | apply Ext.drew | apply Ext.drewN | (refine Ext.trans ?_ (by assumption)))))
                       | (go_at_call 34; refine (turn_any _ _ _ _ _ _ _).mono ?_; rintro e w1 ⟨rfl, hb⟩; (try go_simp); refine hK _ _ ?_ ?_; (first | exact rfl); (repeat (first | exact Ext.refl _ | assumption | apply Ext.alloc | apply Ext.drew | apply Ext.drewN | (refine Ext.trans ?_ (by assumption))))))))
              case hV5 => (simp only [List.forall_mem_cons]; simp [stable_is])
              case fin5 =>
                intro u w2 hW2 hC2 hd
                simp only [AllV, is] at hd
                simp only [hd]
                clear hd
                clear hC2 fb fq
                go_wp2
                go_roundw
                case rel => exact ⟨k + 1, by omega, by go_num, by first | (rw [HC.out]; done) | (rw [HC.out]; rfl), by (repeat (first | exact Ext.refl _ | assumption | apply Ext.alloc | apply Ext.drew | apply Ext.drewN | (refine Ext.trans ?_ (by assumption)))), fun j hj => by by_cases e : j = k; (subst e; exact HO.out); exact HN.out j (by omega)⟩
                case measure => simp [intOf]; omega
          · have HC := hide (show parTo (crI l px py) (k + 1) = parTo (crI l px py) k by rw [parTo_succ]; unfold crI ; rw [e1, e2]; rfl)
            refine wp_flow (by kernel_rfl) (by kernel_rfl) (fun u => ⟨#[_, _, _, _, _, _, _, _, _, _, _, _, _, _, _, _, _, _, _, _, _, _, _, _, _, _, _, _, u 0, u 1, u 2, u 3, u 4, u 5, u 6, u 7, u 8, u 9, u 10, u 11, u 12, u 13, u 14, u 15, u 16, u 17, u 18, u 19, u 20, u 21, u 22, u 23, _, _, _, _], _⟩) (fun i => List.getD [_, _, _, _, _, _, _, _, _, _, _, _, _, _, _, _, _, _, _, _, _, _, _, _] i undef) [is ?v6_0, is ?v6_1, is ?v6_2, is ?v6_3, is ?v6_4, is ?v6_5, is ?v6_6, is ?v6_7, is ?v6_8, is ?v6_9, is ?v6_10, is ?v6_11, is ?v6_12, is ?v6_13, is ?v6_14, is ?v6_15, is ?v6_16, is ?v6_17, is ?v6_18, is ?v6_19, is ?v6_20, is ?v6_21, is ?v6_22, is ?v6_23] (fun w' => w'.cell? ⟨w.heap.size, 0, none⟩ = some (.int .i64 px) ∧ w'.cell? ⟨w.heap.size, 1, none⟩ = some (.int .i64 py) ∧ w.heap.size < w'.heap.size ∧ w'.cell? ⟨wq.heap.size, 0, none⟩ = some (.int .i64 (gx l k)) ∧ w'.cell? ⟨wq.heap.size, 1, none⟩ = some (.int .i64 (gy l k)) ∧ wq.heap.size < w'.heap.size ∧ w'.cell? ⟨wq.heap.size + 1, 0, none⟩ = some (.int .i64 (gx l ((k + 1) % l.length))) ∧ w'.cell? ⟨wq.heap.size + 1, 1, none⟩ = some (.int .i64 (gy l ((k + 1) % l.length))) ∧ wq.heap.size + 1 < w'.heap.size) _ rfl ?hC6 ?hs6 ?hV6 ?fin6
            case hC6 => exact fun w' hx => (by have hq : Ext _ w' := hx; have hf0 := HB.out w' (by (repeat (first | exact Ext.refl _ | assumption | apply Ext.alloc | apply Ext.drew | apply Ext.drewN | (refine Ext.trans ?_ (by assumption))))); have hf1 := HQ.out w' (by (repeat (first | exact Ext.refl _ | assumption | apply Ext.alloc | apply Ext.drew | apply Ext.drewN | (refine Ext.trans ?_ (by assumption))))); and_intros <;> first | exact hf0 | exact hf0.1 | exact hf0.2.1 | exact hf0.2.2.1 | exact hf0.2.2.2.1 | exact hf0.2.2.2.2.1 | exact hf0.2.2.2.2.2.1 | exact hf0.2.2.2.2.2.2.1 | exact hf0.2.2.2.2.2.2.2.1 | exact hf0.2.2.2.2.2.2.2.2.1 | exact hf0.2.2.2.2.2.2.2.2.2.1 | exact hf0.2.2.2.2.2.2.2.2.2.2.1 | exact hf0.2.2.2.2.2.2.2.2.2.2.2.1 | exact hf0.2.2.2.2.2.2.2.2.2.2.2.2.1 | exact hf0.2.2.2.2.2.2.2.2.2.2.2.2.2.1 | exact hf0.2 | exact hf0.2.2 | exact hf0.2.2.2 | exact hf0.2.2.2.2 | exact hf0.2.2.2.2.2 | exact hf0.2.2.2.2.2.2 | exact hf0.2.2.2.2.2.2.2 | exact hf0.2.2.2.2.2.2.2.2 | exact hf0.2.2.2.2.2.2.2.2.2 | exact hf0.2.2.2.2.2.2.2.2.2.2 | exact hf0.2.2.2.2.2.2.2.2.2.2.2 | exact hf0.2.2.2.2.2.2.2.2.2.2.2.2 | exact hf0.2.2.2.2.2.2.2.2.2.2.2.2.2 | exact hf1 | exact hf1.1 | exact hf1.2.1 | exact hf1.2.2.1 | exact hf1.2.2.2.1 | exact hf1.2.2.2.2.1 | exact hf1.2.2.2.2.2.1 | exact hf1.2.2.2.2.2.2.1 | exact hf1.2.2.2.2.2.2.2.1 | exact hf1.2.2.2.2.2.2.2.2.1 | exact hf1.2.2.2.2.2.2.2.2.2.1 | exact hf1.2.2.2.2.2.2.2.2.2.2.1 | exact hf1.2.2.2.2.2.2.2.2.2.2.2.1 | exact hf1.2.2.2.2.2.2.2.2.2.2.2.2.1 | exact hf1.2.2.2.2.2.2.2.2.2.2.2.2.2.1 | exact hf1.2 | exact hf1.2.2 | exact hf1.2.2.2 | exact hf1.2.2.2.2 | exact hf1.2.2.2.2.2 | exact hf1.2.2.2.2.2.2 | exact hf1.2.2.2.2.2.2.2 | exact hf1.2.2.2.2.2.2.2.2 | exact hf1.2.2.2.2.2.2.2.2.2 | exact hf1.2.2.2.2.2.2.2.2.2.2 | exact hf1.2.2.2.2.2.2.2.2.2.2.2 | exact hf1.2.2.2.2.2.2.2.2.2.2.2.2 | exact hf1.2.2.2.2.2.2.2.2.2.2.2.2.2)
            case hs6 =>
              repeat' (first
                | exact FSteps.nil
                | refine FSteps.cons ?_ ?_
                | (refine FStep.off_ _ _ _ rfl rfl ?_ (fun _ => rfl) ?_; (focus (intro u w hd; simp [vOf, is, Region.binds] at hd; simp [hd])); (intro w'; exact rfl); done)
                | ((first
                    | refine FStep.plain rfl ?_
                    | (refine FStep.on_ _ _ _ rfl rfl ?_ ?_; (focus (intro u w hd; simp [vOf, is, Region.binds] at hd; simp [hd]))))
                   intro u w hW hC hd K hK
                   (try simp [vOf, is, Region.binds] at hd)
                   simp only [upd, Nat.reduceEqDiff, if_true, if_false] at hK
                   (try simp only [hd] at hK)
                   go_simp
                   (first
                     | (refine hK _ _ ?_ ?_; (first | exact rfl); (repeat (first | exact Ext.refl _ | assumption | apply Ext.alloc | apply Ext.drew | apply Ext.drewN | (refine Ext.trans ?_ (by assumption)))))
                     | (go_at_call 34; refine (turn_any _ _ _ _ _ _ _).mono ?_; rintro e w1 ⟨rfl, hb⟩; (try go_simp); refine hK _ _ ?_ ?_; (first | exact rfl); (repeat (first | exact Ext.refl _ | assumption | apply Ext.alloc | apply Ext.drew | apply Ext.drewN | (refine Ext.trans ?_ (by assumption))))))))
            case hV6 => (simp only [List.forall_mem_cons]; simp [stable_is])
            case fin6 =>
              intro u w2 hW2 hC2 hd
              simp only [AllV, is] at hd
              simp only [hd]
              clear hd
              clear hC2 fb fq
              go_wp2
              go_roundw
              case rel => exact ⟨k + 1, by omega, by go_num, by first | (rw [HC.out]; done) | (rw [HC.out]; rfl), by (repeat (first | exact Ext.refl _ | assumption | apply Ext.alloc | apply Ext.drew | apply Ext.drewN | (refine Ext.trans ?_ (by assumption)))), fun j hj => by by_cases e : j = k; (subst e; exact HO.out); exact HN.out j (by omega)⟩
              case measure => simp [intOf]; omega
      · have HO := hide (placeV_on hlt ho)
        unfold onE at ho
        go_wp2_with (go_at_call 51; refine (on_any _ _ _ _ _ _ _).mono ?_; rintro e w1 ⟨rfl, hb1⟩)
        go_ret
        exact ⟨ret_int (by rw [HO.out]), by (repeat (first | exact Ext.refl _ | assumption | apply Ext.alloc | apply Ext.drew | apply Ext.drewN | (refine Ext.trans ?_ (by assumption))))⟩
    · have e : k = l.length := by omega
      have E := hide e
      clear e
      have HV := hide (placeV_off (fun j hj => HN.out j (by omega)))
      cases hpar : parTo (crI l px py) k
      all_goals
        have HP := hide hpar
        go_wp2
        go_ret
        exact ⟨ret_int (by rw [HV.out, ← E.out, HP.out]; rfl), by (repeat (first | exact Ext.refl _ | assumption | apply Ext.alloc | apply Ext.drew | apply Ext.drewN | (refine Ext.trans ?_ (by assumption))))⟩


set_option maxRecDepth 100000 in
set_option maxHeartbeats 4000000 in
theorem sHolds_any (A : Option Addr) (l : List (Int × Int)) (c : Nat) (px py : Int) (w : World) (hp : RPts w A l) (hn : l.length ≤ 1048576) :
    Calls Try.prog 57 #[.slice A l.length c, .agg #[.int .i64 px, .int .i64 py]] w fun e w' => e = .returned (.int .i64 (holdsV l px py)) ∧ Ext w w' := by
  have HB : Hid (∀ w', Ext (w.alloc (.cells #[.int .i64 px, .int .i64 py] 28)) w' → w'.cell? ⟨w.heap.size, 0, none⟩ = some (.int .i64 px) ∧ w'.cell? ⟨w.heap.size, 1, none⟩ = some (.int .i64 py) ∧ w.heap.size < w'.heap.size) := fun w' hx => by
    and_intros <;> (first | (have hz := hx.size; simp at hz; omega) | ((first | rw [hx.cells _ _ (by first | (simp; done) | (simp; omega))] | rw [hx.frozens _ _ (by first | (simp; done) | (simp; omega))]); (first | (simp [go_sem]; done) | (simp [go_sem, World.cell?_alloc_past]; done) | (simp [go_sem, World.frozen?]; done))))
  go_enter Try.func57, Try.ntmps57
  go_wp2
  go_loopw [5, 7] (fun b i wr => ∃ k : Nat, k ≤ l.length ∧ i = .int .i64 k ∧ b = .int .i64 (sg (parTo (crS l px py) k)) ∧ Ext (w.alloc (.cells #[.int .i64 px, .int .i64 py] 28)) wr ∧ Hid (∀ j, j < k → onE l px py j = false)) (fun _ i _ => l.length - (intOf i).toNat)
  case atStart => exact ⟨0, Nat.zero_le _, rfl, rfl, by (repeat (first | exact Ext.refl _ | assumption | apply Ext.alloc | apply Ext.drew | apply Ext.drewN | (refine Ext.trans ?_ (by assumption)))), fun j hj => absurd hj (by omega)⟩
  case round =>
    obtain ⟨k, hk, rfl, rfl, hbl, HN⟩ := hrel
    obtain ⟨wq, rfl⟩ : ∃ wq : World, wq = wr := ⟨_, rfl⟩
    have fb0 := HB.out wq hbl
    by_cases hlt : k < l.length
    · have hm1 : (k + 1) % l.length < l.length := Nat.mod_lt _ (by omega)
      have hpr : RPts wq A l := hp.ext (by (repeat (first | exact Ext.refl _ | assumption | apply Ext.alloc | apply Ext.drew | apply Ext.drewN | (refine Ext.trans ?_ (by assumption)))))
      obtain ⟨b, off, rfl⟩ := hpr.some_ (by omega)
      obtain ⟨hz, hx0, hy0⟩ := hpr.cell hlt
      obtain ⟨_, hx1, hy1⟩ := hpr.cell hm1
      have hne : l ≠ [] := fun e => by rw [e] at hlt; simp at hlt
      obtain ⟨q1, q2, q3, q4, q5⟩ := idx_facts ((k : Int) + 1) (k + 1) l.length (by omega) (by omega) (by omega)
      have HQ : Hid (∀ w', Ext ((wq.alloc (.cells #[.int .i64 (gx l k), .int .i64 (gy l k)] 28)).alloc (.cells #[.int .i64 (gx l ((k + 1) % l.length)), .int .i64 (gy l ((k + 1) % l.length))] 28)) w' → w'.cell? ⟨wq.heap.size, 0, none⟩ = some (.int .i64 (gx l k)) ∧ w'.cell? ⟨wq.heap.size, 1, none⟩ = some (.int .i64 (gy l k)) ∧ wq.heap.size < w'.heap.size ∧ w'.cell? ⟨wq.heap.size + 1, 0, none⟩ = some (.int .i64 (gx l ((k + 1) % l.length))) ∧ w'.cell? ⟨wq.heap.size + 1, 1, none⟩ = some (.int .i64 (gy l ((k + 1) % l.length))) ∧ wq.heap.size + 1 < w'.heap.size) := fun w' hx => by
        and_intros <;> (first | (have hz := hx.size; simp at hz; omega) | ((first | rw [hx.cells _ _ (by first | (simp; done) | (simp; omega))] | rw [hx.frozens _ _ (by first | (simp; done) | (simp; omega))]); (first | (simp [go_sem]; done) | (simp [go_sem, World.cell?_alloc_past]; done) | (simp [go_sem, World.frozen?]; done))))
      cases ho : onE l px py k
      · have HO := hide ho
        unfold onE at ho
        cases e1 : decide (py < gy l k)
        · have f1 : decide (gy l k ≤ py) = true := by simp at e1 ⊢; omega
          cases e2 : decide (py < gy l ((k + 1) % l.length))
          · have f2 : decide (gy l ((k + 1) % l.length) ≤ py) = true := by simp at e2 ⊢; omega
            have HC := hide (show sg (parTo (crS l px py) (k + 1)) = sg (parTo (crS l px py) k) by rw [parTo_succ]; unfold crS ; rw [f1, e2, f2, e1]; first | rfl | exact sg_not _)
            have hsg := sg_bd (parTo (crS l px py) k)
            go_wp2_with (first | (go_at_call 67; refine (sbet_any _ _ _ _ _ _ _).mono ?_; rintro e w1 ⟨rfl, hb1⟩; have fb := HB.out w1 (by (repeat (first | exact Ext.refl _ | assumption | apply Ext.alloc | apply Ext.drew | apply Ext.drewN | (refine Ext.trans ?_ (by assumption))))); have fq := HQ.out w1 (by (repeat (first | exact Ext.refl _ | assumption | apply Ext.alloc | apply Ext.drew | apply Ext.drewN | (refine Ext.trans ?_ (by assumption)))))) | (go_at_call 54; refine (sturn_any _ _ _ _ _ _ _).mono ?_; rintro e w2 ⟨rfl, hb2⟩; have fb2 := HB.out w2 (by (repeat (first | exact Ext.refl _ | assumption | apply Ext.alloc | apply Ext.drew | apply Ext.drewN | (refine Ext.trans ?_ (by assumption))))); have fq2 := HQ.out w2 (by (repeat (first | exact Ext.refl _ | assumption | apply Ext.alloc | apply Ext.drew | apply Ext.drewN | (refine Ext.trans ?_ (by assumption)))))))
            go_roundw
            case rel => exact ⟨k + 1, by omega, by go_num, by rw [HC.out], by (repeat (first | exact Ext.refl _ | assumption | apply Ext.alloc | apply Ext.drew | apply Ext.drewN | (refine Ext.trans ?_ (by assumption)))), fun j hj => by by_cases e : j = k; (subst e; exact HO.out); exact HN.out j (by omega)⟩
            case measure => simp [intOf]; omega
          · have f2 : decide (gy l ((k + 1) % l.length) ≤ py) = false := by simp at e2 ⊢; omega
            cases e3 : decide (0 < turnW (gx l k) (gy l k) (gx l ((k + 1) % l.length)) (gy l ((k + 1) % l.length)) px py)
            · have HC := hide (show sg (parTo (crS l px py) (k + 1)) = sg (parTo (crS l px py) k) by rw [parTo_succ]; unfold crS turnE; rw [f1, e2, e3, f2]; first | rfl | exact sg_not _)
              have hsg := sg_bd (parTo (crS l px py) k)
              go_wp2_with (first | (go_at_call 67; refine (sbet_any _ _ _ _ _ _ _).mono ?_; rintro e w1 ⟨rfl, hb1⟩; have fb := HB.out w1 (by (repeat (first | exact Ext.refl _ | assumption | apply Ext.alloc | apply Ext.drew | apply Ext.drewN | (refine Ext.trans ?_ (by assumption))))); have fq := HQ.out w1 (by (repeat (first | exact Ext.refl _ | assumption | apply Ext.alloc | apply Ext.drew | apply Ext.drewN | (refine Ext.trans ?_ (by assumption)))))) | (go_at_call 54; refine (sturn_any _ _ _ _ _ _ _).mono ?_; rintro e w2 ⟨rfl, hb2⟩; have fb2 := HB.out w2 (by (repeat (first | exact Ext.refl _ | assumption | apply Ext.alloc | apply Ext.drew | apply Ext.drewN | (refine Ext.trans ?_ (by assumption))))); have fq2 := HQ.out w2 (by (repeat (first | exact Ext.refl _ | assumption | apply Ext.alloc | apply Ext.drew | apply Ext.drewN | (refine Ext.trans ?_ (by assumption)))))))
              go_roundw
              case rel => exact ⟨k + 1, by omega, by go_num, by rw [HC.out], by (repeat (first | exact Ext.refl _ | assumption | apply Ext.alloc | apply Ext.drew | apply Ext.drewN | (refine Ext.trans ?_ (by assumption)))), fun j hj => by by_cases e : j = k; (subst e; exact HO.out); exact HN.out j (by omega)⟩
              case measure => simp [intOf]; omega
            · have HC := hide (show sg (parTo (crS l px py) (k + 1)) = -sg (parTo (crS l px py) k) by rw [parTo_succ]; unfold crS turnE; rw [f1, e2, e3]; first | rfl | exact sg_not _)
              have hsg := sg_bd (parTo (crS l px py) k)
              go_wp2_with (first | (go_at_call 67; refine (sbet_any _ _ _ _ _ _ _).mono ?_; rintro e w1 ⟨rfl, hb1⟩; have fb := HB.out w1 (by (repeat (first | exact Ext.refl _ | assumption | apply Ext.alloc | apply Ext.drew | apply Ext.drewN | (refine Ext.trans ?_ (by assumption))))); have fq := HQ.out w1 (by (repeat (first | exact Ext.refl _ | assumption | apply Ext.alloc | apply Ext.drew | apply Ext.drewN | (refine Ext.trans ?_ (by assumption)))))) | (go_at_call 54; refine (sturn_any _ _ _ _ _ _ _).mono ?_; rintro e w2 ⟨rfl, hb2⟩; have fb2 := HB.out w2 (by (repeat (first | exact Ext.refl _ | assumption | apply Ext.alloc | apply Ext.drew | apply Ext.drewN | (refine Ext.trans ?_ (by assumption))))); have fq2 := HQ.out w2 (by (repeat (first | exact Ext.refl _ | assumption | apply Ext.alloc | apply Ext.drew | apply Ext.drewN | (refine Ext.trans ?_ (by assumption)))))))
              go_roundw
              case rel => exact ⟨k + 1, by omega, by go_num, by rw [HC.out], by (repeat (first | exact Ext.refl _ | assumption | apply Ext.alloc | apply Ext.drew | apply Ext.drewN | (refine Ext.trans ?_ (by assumption)))), fun j hj => by by_cases e : j = k; (subst e; exact HO.out); exact HN.out j (by omega)⟩
              case measure => simp [intOf]; omega
        · have f1 : decide (gy l k ≤ py) = false := by simp at e1 ⊢; omega
          cases e2 : decide (py < gy l ((k + 1) % l.length))
          · have f2 : decide (gy l ((k + 1) % l.length) ≤ py) = true := by simp at e2 ⊢; omega
            cases e3 : decide (turnW (gx l k) (gy l k) (gx l ((k + 1) % l.length)) (gy l ((k + 1) % l.length)) px py < 0)
            · have HC := hide (show sg (parTo (crS l px py) (k + 1)) = sg (parTo (crS l px py) k) by rw [parTo_succ]; unfold crS turnE; rw [f1, f2, e1, e3]; first | rfl | exact sg_not _)
              have hsg := sg_bd (parTo (crS l px py) k)
              go_wp2_with (first | (go_at_call 67; refine (sbet_any _ _ _ _ _ _ _).mono ?_; rintro e w1 ⟨rfl, hb1⟩; have fb := HB.out w1 (by (repeat (first | exact Ext.refl _ | assumption | apply Ext.alloc | apply Ext.drew | apply Ext.drewN | (refine Ext.trans ?_ (by assumption))))); have fq := HQ.out w1 (by (repeat (first | exact Ext.refl _ | assumption | apply Ext.alloc | apply Ext.drew | apply Ext.drewN | (refine Ext.trans ?_ (by assumption)))))) | (go_at_call 54; refine (sturn_any _ _ _ _ _ _ _).mono ?_; rintro e w2 ⟨rfl, hb2⟩; have fb2 := HB.out w2 (by (repeat (first | exact Ext.refl _ | assumption | apply Ext.alloc | apply Ext.drew | apply Ext.drewN | (refine Ext.trans ?_ (by assumption))))); have fq2 := HQ.out w2 (by (repeat (first | exact Ext.refl _ | assumption | apply Ext.alloc | apply Ext.drew | apply Ext.drewN | (refine Ext.trans ?_ (by assumption)))))))
              go_roundw
              case rel => exact ⟨k + 1, by omega, by go_num, by rw [HC.out], by (repeat (first | exact Ext.refl _ | assumption | apply Ext.alloc | apply Ext.drew | apply Ext.drewN | (refine Ext.trans ?_ (by assumption)))), fun j hj => by by_cases e : j = k; (subst e; exact HO.out); exact HN.out j (by omega)⟩
              case measure => simp [intOf]; omega
            · have HC := hide (show sg (parTo (crS l px py) (k + 1)) = -sg (parTo (crS l px py) k) by rw [parTo_succ]; unfold crS turnE; rw [f1, f2, e1, e3]; first | rfl | exact sg_not _)
              have hsg := sg_bd (parTo (crS l px py) k)
              go_wp2_with (first | (go_at_call 67; refine (sbet_any _ _ _ _ _ _ _).mono ?_; rintro e w1 ⟨rfl, hb1⟩; have fb := HB.out w1 (by (repeat (first | exact Ext.refl _ | assumption | apply Ext.alloc | apply Ext.drew | apply Ext.drewN | (refine Ext.trans ?_ (by assumption))))); have fq := HQ.out w1 (by (repeat (first | exact Ext.refl _ | assumption | apply Ext.alloc | apply Ext.drew | apply Ext.drewN | (refine Ext.trans ?_ (by assumption)))))) | (go_at_call 54; refine (sturn_any _ _ _ _ _ _ _).mono ?_; rintro e w2 ⟨rfl, hb2⟩; have fb2 := HB.out w2 (by (repeat (first | exact Ext.refl _ | assumption | apply Ext.alloc | apply Ext.drew | apply Ext.drewN | (refine Ext.trans ?_ (by assumption))))); have fq2 := HQ.out w2 (by (repeat (first | exact Ext.refl _ | assumption | apply Ext.alloc | apply Ext.drew | apply Ext.drewN | (refine Ext.trans ?_ (by assumption)))))))
              go_roundw
              case rel => exact ⟨k + 1, by omega, by go_num, by rw [HC.out], by (repeat (first | exact Ext.refl _ | assumption | apply Ext.alloc | apply Ext.drew | apply Ext.drewN | (refine Ext.trans ?_ (by assumption)))), fun j hj => by by_cases e : j = k; (subst e; exact HO.out); exact HN.out j (by omega)⟩
              case measure => simp [intOf]; omega
          · have f2 : decide (gy l ((k + 1) % l.length) ≤ py) = false := by simp at e2 ⊢; omega
            have HC := hide (show sg (parTo (crS l px py) (k + 1)) = sg (parTo (crS l px py) k) by rw [parTo_succ]; unfold crS ; rw [f1, f2]; first | rfl | exact sg_not _)
            have hsg := sg_bd (parTo (crS l px py) k)
            go_wp2_with (first | (go_at_call 67; refine (sbet_any _ _ _ _ _ _ _).mono ?_; rintro e w1 ⟨rfl, hb1⟩; have fb := HB.out w1 (by (repeat (first | exact Ext.refl _ | assumption | apply Ext.alloc | apply Ext.drew | apply Ext.drewN | (refine Ext.trans ?_ (by assumption))))); have fq := HQ.out w1 (by (repeat (first | exact Ext.refl _ | assumption | apply Ext.alloc | apply Ext.drew | apply Ext.drewN | (refine Ext.trans ?_ (by assumption)))))) | (go_at_call 54; refine (sturn_any _ _ _ _ _ _ _).mono ?_; rintro e w2 ⟨rfl, hb2⟩; have fb2 := HB.out w2 (by (repeat (first | exact Ext.refl _ | assumption | apply Ext.alloc | apply Ext.drew | apply Ext.drewN | (refine Ext.trans ?_ (by assumption))))); have fq2 := HQ.out w2 (by (repeat (first | exact Ext.refl _ | assumption | apply Ext.alloc | apply Ext.drew | apply Ext.drewN | (refine Ext.trans ?_ (by assumption)))))))
            go_roundw
            case rel => exact ⟨k + 1, by omega, by go_num, by rw [HC.out], by (repeat (first | exact Ext.refl _ | assumption | apply Ext.alloc | apply Ext.drew | apply Ext.drewN | (refine Ext.trans ?_ (by assumption)))), fun j hj => by by_cases e : j = k; (subst e; exact HO.out); exact HN.out j (by omega)⟩
            case measure => simp [intOf]; omega
      · have HO := hide (holdsV_on hlt ho)
        unfold onE at ho
        go_wp2_with (go_at_call 67; refine (sbet_any _ _ _ _ _ _ _).mono ?_; rintro e w1 ⟨rfl, hb1⟩)
        go_ret
        exact ⟨ret_int (by rw [HO.out]), by (repeat (first | exact Ext.refl _ | assumption | apply Ext.alloc | apply Ext.drew | apply Ext.drewN | (refine Ext.trans ?_ (by assumption))))⟩
    · have e : k = l.length := by omega
      have E := hide e
      clear e
      have HV := hide (holdsV_off (fun j hj => HN.out j (by omega)))
      go_wp2
      go_ret
      exact ⟨ret_int (by rw [HV.out, ← E.out]), by (repeat (first | exact Ext.refl _ | assumption | apply Ext.alloc | apply Ext.drew | apply Ext.drewN | (refine Ext.trans ?_ (by assumption))))⟩

/-- PlaceIn, as both texts give it -/
def placeInV (l : List (Int × Int)) (px py : Int) : Int := if pok px py = true then (if roomB l = true then placeV l px py else 0) else 0

theorem place_fine {l : List (Int × Int)} {px py : Int} (hr : roomB l = true) (hq : pok px py = true) : placeV l px py = holdsV l px py + 1 :=
  place_holds (roomB_fine hr).1.small (within_more (within_of_pok hq) (by omega))
theorem holdsV_bd (l : List (Int × Int)) (px py : Int) : holdsV l px py = -1 ∨ holdsV l px py = 0 ∨ holdsV l px py = 1 := by
  unfold holdsV
  split
  · exact .inr (.inl rfl)
  · cases parTo (crS l px py) l.length
    · exact .inl rfl
    · exact .inr (.inr rfl)

set_option maxHeartbeats 800000 in
theorem PlaceIn_any (A : Option Addr) (l : List (Int × Int)) (c : Nat) (px py : Int) (w : World) (hp : RPts w A l) (hn : l.length ≤ 1048576) :
    Calls Try.prog 45 #[.agg #[.slice A l.length c], .agg #[.int .i64 px, .int .i64 py]] w fun e w' => e = .returned (.int .i64 (placeInV l px py)) ∧ Ext w w' := by
  have HB : Hid (∀ w', Ext ((w.alloc (.cells #[.slice A l.length c] 26)).alloc (.cells #[.int .i64 px, .int .i64 py] 28)) w' → w'.cell? ⟨w.heap.size, 0, none⟩ = some (.slice A l.length c) ∧ w.heap.size < w'.heap.size ∧ w'.cell? ⟨w.heap.size + 1, 0, none⟩ = some (.int .i64 px) ∧ w'.cell? ⟨w.heap.size + 1, 1, none⟩ = some (.int .i64 py) ∧ w.heap.size + 1 < w'.heap.size) := fun w' hx => by
    and_intros <;> (first | (have hz := hx.size; simp at hz; omega) | ((first | rw [hx.cells _ _ (by first | (simp; done) | (simp; omega))] | rw [hx.frozens _ _ (by first | (simp; done) | (simp; omega))]); (first | (simp [go_sem]; done) | (simp [go_sem, World.cell?_alloc_past]; done) | (simp [go_sem, World.frozen?]; done))))
  unfold placeInV
  cases hq : pok px py
  · go_enter Try.func45, Try.ntmps45
    go_wp2_with ((go_at_call 41; refine (pok_any _ _ _).mono ?_; rintro e w1 ⟨rfl, hb⟩; have hcc := HB.out w1 (by (repeat (first | exact Ext.refl _ | assumption | apply Ext.alloc | apply Ext.drew | apply Ext.drewN | (refine Ext.trans ?_ (by assumption)))))))
    go_ret
    exact ⟨rfl, by (repeat (first | exact Ext.refl _ | assumption | apply Ext.alloc | apply Ext.drew | apply Ext.drewN | (refine Ext.trans ?_ (by assumption))))⟩
  · cases hr : roomB l
    all_goals
      go_enter Try.func45, Try.ntmps45
      go_wp2_with (first | (go_at_call 41; refine (pok_any _ _ _).mono ?_; rintro e w1 ⟨rfl, hb⟩; have h1 := HB.out w1 (by (repeat (first | exact Ext.refl _ | assumption | apply Ext.alloc | apply Ext.drew | apply Ext.drewN | (refine Ext.trans ?_ (by assumption)))))) | (go_at_call 17; refine (RoomOk_any _ _ _ _ (hp.ext (by (repeat (first | exact Ext.refl _ | assumption | apply Ext.alloc | apply Ext.drew | apply Ext.drewN | (refine Ext.trans ?_ (by assumption)))))) hn).mono ?_; rintro e w2 ⟨rfl, hb2⟩; have h2 := HB.out w2 (by (repeat (first | exact Ext.refl _ | assumption | apply Ext.alloc | apply Ext.drew | apply Ext.drewN | (refine Ext.trans ?_ (by assumption)))))) | (go_at_call 42; refine (place_any _ _ _ _ _ _ (hp.ext (by (repeat (first | exact Ext.refl _ | assumption | apply Ext.alloc | apply Ext.drew | apply Ext.drewN | (refine Ext.trans ?_ (by assumption)))))) hn).mono ?_; rintro e w3 ⟨rfl, hb3⟩))
      go_ret
      exact ⟨rfl, by (repeat (first | exact Ext.refl _ | assumption | apply Ext.alloc | apply Ext.drew | apply Ext.drewN | (refine Ext.trans ?_ (by assumption))))⟩

/-- IsIn, as both texts give it -/
def isInV (l : List (Int × Int)) (px py : Int) : Bool := placeInV l px py != 0

set_option maxHeartbeats 800000 in
theorem IsIn_any (A : Option Addr) (l : List (Int × Int)) (c : Nat) (px py : Int) (w : World) (hp : RPts w A l) (hn : l.length ≤ 1048576) :
    Calls Try.prog 23 #[.agg #[.slice A l.length c], .agg #[.int .i64 px, .int .i64 py]] w fun e w' => e = .returned (.bool (isInV l px py)) ∧ Ext w w' := by
  unfold isInV
  go_enter Try.func23, Try.ntmps23
  go_wp2_with (go_at_call 45; refine (PlaceIn_any _ _ _ _ _ _ (hp.ext (by (repeat (first | exact Ext.refl _ | assumption | apply Ext.alloc | apply Ext.drew | apply Ext.drewN | (refine Ext.trans ?_ (by assumption)))))) hn).mono ?_; rintro e w1 ⟨rfl, hb⟩)
  go_ret
  exact ⟨rfl, by (repeat (first | exact Ext.refl _ | assumption | apply Ext.alloc | apply Ext.drew | apply Ext.drewN | (refine Ext.trans ?_ (by assumption))))⟩

end Go.Proofs.Ytjccilpjaaiicaa

namespace Go.Proofs.Ytjccilpjaaiicaa
open Go.RowKit

/-- one wall's cells -/
def wallA (l : List (Int × Int)) (k : Nat) : Array Value := #[.int .i64 (gx l k), .int .i64 (gy l k), .int .i64 (gx l (nx l k)), .int .i64 (gy l (nx l k))]
/-- WallOf, as both texts give it -/
def WallOfV (l : List (Int × Int)) (k : Int) : Value := .agg (if hasC l k = true then wallA l k.toNat else #[.int .i64 0, .int .i64 0, .int .i64 0, .int .i64 0])

end Go.Proofs.Ytjccilpjaaiicaa

namespace Go.Proofs.Ytjccilpjaaiicaa
open Go.RowKit

/-- the first wall of l from k on, of d, that p lies on -/
def firstOn (l : List (Int × Int)) (px py : Int) : Nat → Nat → Int
  | _, 0 => -1
  | k, d + 1 => if onE l px py k = true then (k : Int) else firstOn l px py (k + 1) d
/-- WallAt, as both texts give it -/
def wallAtV (l : List (Int × Int)) (px py : Int) : Int := if pok px py = true then (if roomB l = true then firstOn l px py 0 l.length else -1) else -1

theorem firstOn_at (l : List (Int × Int)) (px py : Int) : ∀ d k m, k ≤ m → m < k + d → (∀ j, k ≤ j → j < m → onE l px py j = false) → onE l px py m = true → firstOn l px py k d = (m : Int)
  | 0, k, m, h1, h2, _, _ => by omega
  | d + 1, k, m, h1, h2, h3, h4 => by
    unfold firstOn
    by_cases e : k = m
    · subst e; rw [if_pos h4]
    · rw [if_neg (by rw [h3 k (Nat.le_refl _) (by omega)]; decide)]
      exact firstOn_at l px py d (k + 1) m (by omega) (by omega) (fun j a b => h3 j (by omega) b) h4
theorem firstOn_no (l : List (Int × Int)) (px py : Int) : ∀ d k, (∀ j, k ≤ j → j < k + d → onE l px py j = false) → firstOn l px py k d = -1
  | 0, _, _ => rfl
  | d + 1, k, h => by
    unfold firstOn
    rw [if_neg (by rw [h k (Nat.le_refl _) (by omega)]; decide)]
    exact firstOn_no l px py d (k + 1) (fun j a b => h j (by omega) (by omega))

theorem wallAt_on {l : List (Int × Int)} {px py : Int} {m : Nat} (hr : roomB l = true) (hq : pok px py = true) (hm : m < l.length) (h : ∀ j, j < m → onE l px py j = false) (h4 : onE l px py m = true) : wallAtV l px py = m := by
  unfold wallAtV
  rw [if_pos hq, if_pos hr]
  exact firstOn_at l px py l.length 0 m (by omega) (by omega) (fun j _ b => h j b) h4
theorem wallAt_no {l : List (Int × Int)} {px py : Int} (hr : roomB l = true) (hq : pok px py = true) (h : ∀ j, j < l.length → onE l px py j = false) : wallAtV l px py = -1 := by
  unfold wallAtV
  rw [if_pos hq, if_pos hr]
  exact firstOn_no l px py l.length 0 (fun j _ b => h j (by omega))
theorem wallAt_not {l : List (Int × Int)} {px py : Int} (h : placeInV l px py ≠ 1) : wallAtV l px py = -1 := by
  unfold placeInV at h
  unfold wallAtV
  by_cases hq : pok px py = true
  · rw [if_pos hq] at h ⊢
    by_cases hr : roomB l = true
    · rw [if_pos hr] at h ⊢
      refine firstOn_no l px py l.length 0 (fun j _ b => ?_)
      cases ho : onE l px py j with
      | false => rfl
      | true => exact absurd (placeV_on (by omega) ho) h
    · rw [if_neg hr]
  · rw [if_neg hq]
theorem placeIn_one {l : List (Int × Int)} {px py : Int} (h : placeInV l px py = 1) : roomB l = true ∧ pok px py = true := by
  unfold placeInV at h
  by_cases hq : pok px py = true
  · rw [if_pos hq] at h
    by_cases hr : roomB l = true
    · exact ⟨hr, hq⟩
    · rw [if_neg hr] at h; cases h
  · rw [if_neg hq] at h; cases h

/-- the ends of a valid room's wall differ -/
theorem room_wok {l : List (Int × Int)} (hr : roomB l = true) {k : Nat} (hk : k < l.length) : wok (gx l k) (gy l k) (gx l (nx l k)) (gy l (nx l k)) = true := by
  have hf := (roomB_fine hr).1
  have h1 := hf.pok hk
  have h2 := hf.pok (nx_lt hk)
  have ht : ¬ tn l k = 0 := by
    intro h0
    have := roomB_row hk (rowI_turn h0)
    rw [hr] at this
    cases this
  unfold wok pok2 neB
  rw [h1, h2]
  simp only [Bool.and_self, Bool.true_and, Bool.not_eq_true', Bool.and_eq_false_iff, beq_eq_false_iff_ne]
  refine Classical.byContradiction fun hc => ht ?_
  have e1 : gx l (nx l k) = gx l k := by omega
  have e2 : gy l (nx l k) = gy l k := by omega
  unfold tn turnW
  rw [e1, e2, Int.sub_self, Int.sub_self]
  have z : wrap64 0 = 0 := w64 0 (by omega) (by omega)
  rw [z, Int.zero_mul, Int.zero_mul, z, Int.sub_self, z]

theorem onWall_room {l : List (Int × Int)} {px py : Int} (hr : roomB l = true) (hq : pok px py = true) {k : Nat} (hk : k < l.length) : onWallV (gx l k) (gy l k) (gx l (nx l k)) (gy l (nx l k)) px py = onE l px py k := by
  have hf := (roomB_fine hr).1
  unfold onWallV BetV pok3
  rw [room_wok hr hk, hq, hf.pok hk, hf.pok (nx_lt hk)]
  rfl

end Go.Proofs.Ytjccilpjaaiicaa

namespace Go.Proofs.Ytjccilpjaaiicaa
open Go.RowKit

def neg : Int → Bool
  | .negSucc _ => true
  | .ofNat _ => false
theorem neg_iff (x : Int) : neg x = true ↔ x < 0 := by
  cases x with
  | ofNat n => simp [neg]
  | negSucc n => simp [neg]
/-- the turn at the corner behind i -/
def tz (l : List (Int × Int)) (i : Nat) : Int := turnZ (gx l i) (gy l i) (gx l (nx l i)) (gy l (nx l i)) (gx l ((i + 2) % l.length)) (gy l ((i + 2) % l.length))
def flg (a b : Int × Int) : List (Int × Int) → List ((Int × Int) × Bool)
  | [] => []
  | c :: r => (b, neg (turnZ a.1 a.2 b.1 b.2 c.1 c.2)) :: flg b c r
def flags : List (Int × Int) → List ((Int × Int) × Bool)
  | a :: b :: r => flg a b (r ++ [a, b])
  | _ => []
/-- q is lower than p, in three directions -/
def low0 (p q : Int × Int) : Bool := neg (q.2 - p.2) || (!neg (p.2 - q.2) && neg (q.1 - p.1))
def low1 (p q : Int × Int) : Bool := neg (q.1 - p.1) || (!neg (p.1 - q.1) && neg (p.2 - q.2))
def low2 (p q : Int × Int) : Bool := neg (p.2 - q.2) || (!neg (q.2 - p.2) && neg (p.1 - q.1))
def exts (l : List (Int × Int)) (p : Int × Int) : Bool := l.any (low0 p) && (l.any (low1 p) && l.any (low2 p))
def pass (l : List (Int × Int)) (a b : Int × Int) : List (Int × Int) → Nat → Nat
  | [], n => n
  | c :: r, n => cond (neg (turnZ a.1 a.2 b.1 b.2 c.1 c.2)) (cond (exts l b) (pass l b c r (n + 1)) 1000) (pass l b c r n)
def zero : Int → Bool
  | .ofNat 0 => true
  | _ => false
theorem zero_iff (x : Int) : zero x = true ↔ x = 0 := by
  cases x with
  | ofNat n =>
    cases n with
    | zero => exact ⟨fun _ => rfl, fun _ => rfl⟩
    | succ n => exact ⟨fun h => (by cases h), fun h => (by cases h)⟩
  | negSucc n => exact ⟨fun h => (by cases h), fun h => (by cases h)⟩
def rct (a : Int × Int) : List (Int × Int) → Bool
  | [] => true
  | b :: r => (zero (a.1 - b.1) || zero (a.2 - b.2)) && rct b r
/-- what is asked of a room's corners -/
def goodB : List (Int × Int) → Bool
  | a :: b :: r => Nat.ble (pass (a :: b :: r) a b (r ++ [a, b]) 0 + 3) (r.length + 2) && cond (rct a (b :: r ++ [a])) (Nat.beq (r.length + 2) (2 * pass (a :: b :: r) a b (r ++ [a, b]) 0 + 4)) true
  | _ => false
def crossZ (a b c d : Int × Int) : Bool := decide (sgn (turnZ c.1 c.2 d.1 d.2 a.1 a.2) * sgn (turnZ c.1 c.2 d.1 d.2 b.1 b.2) < 0) && decide (sgn (turnZ a.1 a.2 b.1 b.2 c.1 c.2) * sgn (turnZ a.1 a.2 b.1 b.2 d.1 d.2) < 0)
def onZB (p a b : Int × Int) : Bool := decide (turnZ a.1 a.2 b.1 b.2 p.1 p.2 = 0) && (inB p.1 (min a.1 b.1) (max a.1 b.1) && inB p.2 (min a.2 b.2) (max a.2 b.2))
def pt (l : List (Int × Int)) (i : Nat) : Int × Int := (gx l i, gy l i)
def meetZ (l : List (Int × Int)) (i k : Nat) : Bool := crossZ (pt l i) (pt l (nx l i)) (pt l k) (pt l (nx l k)) || (onZB (pt l i) (pt l k) (pt l (nx l k)) || (onZB (pt l (nx l i)) (pt l k) (pt l (nx l k)) || (onZB (pt l k) (pt l i) (pt l (nx l i)) || onZB (pt l (nx l k)) (pt l i) (pt l (nx l i)))))
/-- no room -/
def badB (l : List (Int × Int)) : Bool := (List.range l.length).any (fun i => decide (tz l i = 0) || (List.range l.length).any fun k => askI l i k && meetZ l i k) || decide (areaZ l ≤ 0)
/-- the test -/
def cornT (l : List (Int × Int)) : Bool := cond (goodB l) true (badB l)

theorem tn_tz {l : List (Int × Int)} (hf : Fine l) {i : Nat} (hi : i < l.length) : tn l i = tz l i := by
  have h0 : 0 < l.length := by omega
  have w : ∀ k, k < l.length → within 1000000 (gx l k) (gy l k) := fun k hk => within_more (within_of_pok (hf.pok hk)) (by omega)
  exact turnW_eq (w i hi) (w _ (nx_lt hi)) (w _ (Nat.mod_lt _ h0))
theorem bad_room {l : List (Int × Int)} (h : badB l = true) : roomB l = false := by
  rw [Bool.eq_false_iff]
  intro hr
  obtain ⟨h1, h2, h3, h4, h5⟩ := (roomB_iff l).1 hr
  have hf := (roomB_fine hr).1
  have w : ∀ k, k < l.length → within 1000000 (gx l k) (gy l k) := fun k hk => within_more (within_of_pok (hf.pok hk)) (by omega)
  unfold badB at h
  rw [Bool.or_eq_true, List.any_eq_true, decide_eq_true_eq] at h
  rcases h with ⟨i, hi, h⟩ | h
  · rw [List.mem_range] at hi
    rw [Bool.or_eq_true, decide_eq_true_eq, List.any_eq_true] at h
    rcases h with h | ⟨k, hk, h⟩
    · exact h3 i hi (by rw [tn_tz hf hi]; exact h)
    · rw [List.mem_range] at hk
      rw [Bool.and_eq_true] at h
      have hm := h4 i k hi hk (askS_of_askI hi hk h.1)
      have w1 := w i hi
      have w2 := w _ (nx_lt hi)
      have w3 := w k hk
      have w4 := w _ (nx_lt hk)
      have e : mt l i k = meetZ l i k := by
        unfold mt meetV meetZ crossB sideB crossZ onZB onW pt
        rw [room_wok hr hi, room_wok hr hk, turnW_eq w3 w4 w1, turnW_eq w3 w4 w2, turnW_eq w1 w2 w3, turnW_eq w1 w2 w4]
        rfl
      rw [e, h.2] at hm
      cases hm
  · omega

/-! ## What the test says -/
theorem flg_get : ∀ (r : List (Int × Int)) (a b : Int × Int) (i : Nat), i < r.length → (flg a b r)[i]? = some ((a :: b :: r).getD (i + 1) (0, 0), neg (turnZ (gx (a :: b :: r) i) (gy (a :: b :: r) i) (gx (a :: b :: r) (i + 1)) (gy (a :: b :: r) (i + 1)) (gx (a :: b :: r) (i + 2)) (gy (a :: b :: r) (i + 2))))
  | c :: r, a, b, 0, _ => rfl
  | c :: r, a, b, i + 1, h => by
    have := flg_get r b c i (by simpa using h)
    exact this
theorem flg_length : ∀ (r : List (Int × Int)) (a b : Int × Int), (flg a b r).length = r.length
  | [], _, _ => rfl
  | c :: r, a, b => by simp [flg, flg_length r b c]
theorem getD_twice (l : List (Int × Int)) (h2 : 2 ≤ l.length) {i : Nat} (hi : i < l.length + 2) : (l ++ l.take 2).getD i (0, 0) = l.getD (i % l.length) (0, 0) := by
  rw [List.getD_eq_getElem?_getD, List.getD_eq_getElem?_getD]
  rcases Nat.lt_or_ge i l.length with h | h
  · rw [List.getElem?_append_left h, Nat.mod_eq_of_lt h]
  · rw [List.getElem?_append_right h, List.getElem?_take, if_pos (by omega), Nat.mod_eq_sub_mod h, Nat.mod_eq_of_lt (by omega)]
theorem flags_get {l : List (Int × Int)} (h2 : 2 ≤ l.length) {i : Nat} (hi : i < l.length) : (flags l)[i]? = some (pt l (nx l i), neg (tz l i)) := by
  match l, h2 with
  | a :: b :: r, h2 =>
    have hx : a :: b :: (r ++ [a, b]) = (a :: b :: r) ++ (a :: b :: r).take 2 := rfl
    have h := flg_get (r ++ [a, b]) a b i (by simp at hi ⊢; omega)
    unfold flags
    rw [h]
    have g : ∀ k, k < (a :: b :: r).length + 2 → (a :: b :: (r ++ [a, b])).getD k (0, 0) = (a :: b :: r).getD (k % (a :: b :: r).length) (0, 0) := fun k hk => by rw [hx]; exact getD_twice _ h2 hk
    have e0 := g i (by omega)
    have e1 := g (i + 1) (by omega)
    have e2 := g (i + 2) (by omega)
    rw [Nat.mod_eq_of_lt hi] at e0
    unfold tz pt nx gx gy
    rw [e0, e1, e2]
theorem pass_sound (l : List (Int × Int)) : ∀ (r : List (Int × Int)) (a b : Int × Int) (n : Nat), pass l a b r n < 1000 → pass l a b r n = n + (flg a b r).countP (fun e => e.2) ∧ ∀ e, e ∈ flg a b r → e.2 = true → exts l e.1 = true
  | [], _, _, n, _ => ⟨rfl, fun e he => by cases he⟩
  | c :: r, a, b, n, h => by
    unfold pass at h ⊢
    unfold flg
    cases hn : neg (turnZ a.1 a.2 b.1 b.2 c.1 c.2)
    · rw [hn] at h
      obtain ⟨h1, h2⟩ := pass_sound l r b c n h
      refine ⟨by rw [List.countP_cons_of_neg (by simp)]; exact h1, fun e he hee => ?_⟩
      rcases List.mem_cons.1 he with rfl | he
      · cases hee
      · exact h2 e he hee
    · rw [hn] at h
      cases hx : exts l b
      · rw [hx] at h
        exact absurd h (by simp)
      · rw [hx] at h
        obtain ⟨h1, h2⟩ := pass_sound l r b c (n + 1) h
        refine ⟨by rw [List.countP_cons_of_pos (by simp)]; show pass l b c r (n + 1) = _; rw [h1]; omega, fun e he hee => ?_⟩
        rcases List.mem_cons.1 he with rfl | he
        · exact hx
        · exact h2 e he hee
theorem rct_get : ∀ (r : List (Int × Int)) (a : Int × Int), (∀ i, i < r.length → gx (a :: r) i = gx (a :: r) (i + 1) ∨ gy (a :: r) i = gy (a :: r) (i + 1)) → rct a r = true
  | [], _, _ => rfl
  | b :: r, a, h => by
    unfold rct
    rw [Bool.and_eq_true, Bool.or_eq_true, zero_iff, zero_iff]
    refine ⟨?_, rct_get r b fun i hi => h (i + 1) (by simpa using hi)⟩
    have h0 := h 0 (by simp)
    have h1 : a.1 = b.1 ∨ a.2 = b.2 := h0
    omega
/-- the walls run along the axes -/
def rectP (l : List (Int × Int)) : Prop := ∀ i, i < l.length → gx l i = gx l (nx l i) ∨ gy l i = gy l (nx l i)
/-- how many corners stick in -/
def rcount (l : List (Int × Int)) : Nat := (List.range l.length).countP fun i => neg (tz l i)
theorem flags_map {l : List (Int × Int)} (h2 : 2 ≤ l.length) : flags l = (List.range l.length).map fun i => (pt l (nx l i), neg (tz l i)) := by
  have hlen : (flags l).length = l.length := by
    match l, h2 with
    | a :: b :: r, _ => simp [flags, flg_length]
  apply List.ext_getElem?
  intro i
  by_cases hi : i < l.length
  · rw [flags_get h2 hi, List.getElem?_map, List.getElem?_range hi]
    rfl
  · rw [List.getElem?_eq_none (by omega), List.getElem?_eq_none (by simp; omega)]
theorem good_sound {l : List (Int × Int)} (h10 : l.length ≤ 10) (h : goodB l = true) : rcount l + 3 ≤ l.length ∧ (∀ i, i < l.length → tz l i < 0 → exts l (pt l (nx l i)) = true) ∧ (rectP l → l.length = 2 * rcount l + 4) := by
  match l, h10, h with
  | a :: b :: r, h10, h =>
    unfold goodB at h
    rw [Bool.and_eq_true, Nat.ble_eq] at h
    obtain ⟨h1, h3⟩ := h
    have hl : (a :: b :: r).length = r.length + 2 := rfl
    obtain ⟨h4, h5⟩ := pass_sound (a :: b :: r) (r ++ [a, b]) a b 0 (by omega)
    have hfl : flg a b (r ++ [a, b]) = flags (a :: b :: r) := rfl
    have hfm := flags_map (l := a :: b :: r) (by simp)
    rw [hfl, hfm] at h4 h5
    have hc : ((List.range (a :: b :: r).length).map fun i => (pt (a :: b :: r) (nx (a :: b :: r) i), neg (tz (a :: b :: r) i))).countP (fun e => e.2) = rcount (a :: b :: r) := by
      rw [List.countP_map]
      rfl
    rw [hc, Nat.zero_add] at h4
    rw [h4] at h1 h3
    refine ⟨by omega, fun i hi ht => ?_, fun hp => ?_⟩
    · have h6 := h5 (pt (a :: b :: r) (nx (a :: b :: r) i), neg (tz (a :: b :: r) i)) (List.mem_map.2 ⟨i, List.mem_range.2 hi, rfl⟩) ((neg_iff _).2 ht)
      exact h6
    · have hr : rct a (b :: r ++ [a]) = true := by
        refine rct_get _ a fun i hi => ?_
        have hx : a :: (b :: r ++ [a]) = ((a :: b :: r) ++ [a]) := rfl
        have g : ∀ k, k < (a :: b :: r).length + 1 → (a :: (b :: r ++ [a])).getD k (0, 0) = (a :: b :: r).getD (k % (a :: b :: r).length) (0, 0) := fun k hk => by
          rw [hx, List.getD_eq_getElem?_getD, List.getD_eq_getElem?_getD]
          rcases Nat.lt_or_ge k (a :: b :: r).length with h | h
          · rw [List.getElem?_append_left h, Nat.mod_eq_of_lt h]
          · have e : k = (a :: b :: r).length := by omega
            rw [e, List.getElem?_append_right (Nat.le_refl _), Nat.mod_self, Nat.sub_self]
            rfl
        have hi' : i < (a :: b :: r).length := by simpa using hi
        have h0 := hp i hi'
        have e0 := g i (by omega)
        have e1 := g (i + 1) (by omega)
        rw [Nat.mod_eq_of_lt hi'] at e0
        unfold gx gy at *
        rw [e0, e1]
        exact h0
      rw [hr] at h3
      have := Nat.eq_of_beq_eq_true h3
      omega

end Go.Proofs.Ytjccilpjaaiicaa

namespace Go.Proofs.Ytjccilpjaaiicaa
namespace Jor

theorem room_z {l : List (Int × Int)} (hr : roomB l = true) : (3 ≤ l.length ∧ l.length ≤ 10) ∧ (∀ i, i < l.length → tz l i ≠ 0) ∧ (∀ i k, i < l.length → k < l.length → askI l i k = true → meetZ l i k = false) ∧ 0 < areaZ l := by
  have h1 := ((roomB_iff l).1 hr).1
  have h2 : badB l = false := by
    cases hb : badB l
    · rfl
    · rw [bad_room hb] at hr
      cases hr
  unfold badB at h2
  rw [Bool.or_eq_false_iff, decide_eq_false_iff_not, List.any_eq_false] at h2
  obtain ⟨h2, h3⟩ := h2
  have h4 : ∀ i, i < l.length → tz l i ≠ 0 ∧ ∀ k, k < l.length → askI l i k = true → meetZ l i k = false := by
    intro i hi
    have h := h2 i (List.mem_range.2 hi)
    rw [Bool.not_eq_true, Bool.or_eq_false_iff, decide_eq_false_iff_not, List.any_eq_false] at h
    refine ⟨h.1, fun k hk ha => ?_⟩
    have q := h.2 k (List.mem_range.2 hk)
    rw [ha, Bool.true_and, Bool.not_eq_true] at q
    exact q
  exact ⟨h1, fun i hi => (h4 i hi).1, fun i k hi hk => (h4 i hi).2 k hk, by omega⟩

/-- walls that are no neighbours -/
def ApartZ (a b c d : P) : Prop := crossZ a b c d = false ∧ onZB a c d = false ∧ onZB b c d = false ∧ onZB c a b = false ∧ onZB d a b = false
theorem ApartZ.symm {a b c d : P} (h : ApartZ a b c d) : ApartZ c d a b := by
  obtain ⟨h1, h2, h3, h4, h5⟩ := h
  refine ⟨?_, h4, h5, h2, h3⟩
  unfold crossZ at *
  rw [Bool.and_comm]
  exact h1
theorem room_apart {l : List (Int × Int)} (hr : roomB l = true) {i k : Nat} (hi : i < l.length) (hk : k < l.length) (h1 : k ≠ i) (h2 : nx l.length i ≠ k) (h3 : nx l.length k ≠ i) : ApartZ (pt l i) (pt l (nx l.length i)) (pt l k) (pt l (nx l.length k)) := by
  have hz := (room_z hr).2.2.1
  have main : ∀ i k, i < l.length → k < l.length → i < k → nx l.length i ≠ k → nx l.length k ≠ i → ApartZ (pt l i) (pt l (nx l.length i)) (pt l k) (pt l (nx l.length k)) := by
    intro i k hi hk hik h2 h3
    have ha : askI l i k = true := by
      unfold askI
      rw [nx_val hi] at h2
      rw [Bool.and_eq_true, decide_eq_true_eq, Bool.not_eq_true', beq_eq_false_iff_ne]
      refine ⟨?_, h3⟩
      split at h2 <;> omega
    have hm := hz i k hi hk ha
    unfold meetZ at hm
    simp only [Bool.or_eq_false_iff] at hm
    exact hm
  rcases Nat.lt_or_gt_of_ne h1 with h | h
  · exact (main k i hk hi h h3 h2).symm
  · exact main i k hi hk h h2 h3

theorem between {d s u t : Int} (hd : 0 < d) (h0 : 0 ≤ s) (h1 : s ≤ d) (h : d * u = t * s) : min 0 t ≤ u ∧ u ≤ max 0 t := by
  rcases Int.le_total 0 t with ht | ht
  · have e1 := Int.mul_nonneg ht h0
    have e2 := Int.mul_le_mul_of_nonneg_left h1 ht
    rw [Int.mul_comm t d] at e2
    have k1 : 0 ≤ u := Int.le_of_mul_le_mul_left (a := d) (by rw [Int.mul_zero]; omega) hd
    have k2 : u ≤ t := Int.le_of_mul_le_mul_left (a := d) (by omega) hd
    omega
  · have e1 := Int.mul_nonneg (show 0 ≤ -t by omega) h0
    have e2 := Int.mul_le_mul_of_nonneg_left h1 (show 0 ≤ -t by omega)
    rw [Int.neg_mul] at e1
    rw [Int.neg_mul, Int.neg_mul, Int.mul_comm t d] at e2
    have k1 : u ≤ 0 := Int.le_of_mul_le_mul_left (a := d) (by rw [Int.mul_zero]; omega) hd
    have k2 : t ≤ u := Int.le_of_mul_le_mul_left (a := d) (by omega) hd
    omega
/-- near: less than M apart from left to right -/
def Nr (M : Int) (a p : P) : Prop := a.1 - p.1 < M ∧ p.1 - a.1 < M
theorem off_hm {M : Int} (hM : 0 < M) {a b p : P} (n1 : Nr M a p) (n2 : Nr M b p) (h : onZB p a b = false) : Off (hm M p) (hm M a) (hm M b) := by
  intro hh h0
  have ht : tu a b p = 0 := by
    have k1 := hm_neg hM a b p
    have k2 := hm_pos hM a b p
    omega
  rw [hm_lt n1.1 n1.2, hm_lt n2.2 n2.1, hm_lt n2.1 n2.2, hm_lt n1.2 n1.1] at hh
  have hon : onZB p a b = true := by
    unfold onZB inB
    have ht' : turnZ a.1 a.2 b.1 b.2 p.1 p.2 = 0 := ht
    rw [ht']
    simp only [decide_true, Bool.true_and, Bool.and_eq_true, decide_eq_true_eq]
    unfold tu at ht
    by_cases hy : a.2 = b.2
    · omega
    · rcases Int.lt_or_gt_of_ne hy with g | g
      · have := between (d := b.2 - a.2) (s := p.2 - a.2) (u := p.1 - a.1) (t := b.1 - a.1) (by omega) (by omega) (by omega) (by omega)
        omega
      · have := between (d := a.2 - b.2) (s := p.2 - b.2) (u := p.1 - b.1) (t := a.1 - b.1) (by omega) (by omega) (by omega) (by grind)
        omega
  rw [h] at hon
  cases hon

end Jor
end Go.Proofs.Ytjccilpjaaiicaa

namespace Go.Proofs.Ytjccilpjaaiicaa
namespace Jor

theorem tu_row (a b : P) (x y : Int) : tu a b (x, y) = (b.1 - a.1) * (y - a.2) + (b.2 - a.2) * a.1 - (b.2 - a.2) * x := by
  unfold tu
  grind
theorem tu_mirror (a b : P) (x y : Int) : tu a b (x, a.2 + b.2 - y) = - tu a b (a.1 + b.1 - x, y) := by
  unfold tu
  grind
/-- a row between the ends of a rising wall, and its mirror -/
theorem row_pair {a b : P} {y x0 : Int} {N : Nat} (hab : a.2 < b.2) (h1 : a.2 < y) (h2 : y < b.2) (ha : x0 ≤ a.1 ∧ a.1 < x0 + N) (hb : x0 ≤ b.1 ∧ b.1 < x0 + N) :
    sm (fun j => if 0 < tu a b (x0 + (j : Nat), y) then 1 else 0) N + sm (fun j => if 0 ≤ tu a b (x0 + (j : Nat), a.2 + b.2 - y) then 1 else 0) N = a.1 + b.1 + 1 - 2 * x0 := by
  obtain ⟨c, hc⟩ := cut (k := (b.1 - a.1) * (y - a.2) + (b.2 - a.2) * a.1) (d := b.2 - a.2) (by omega)
  have hc' : ∀ x, 0 < tu a b (x, y) ↔ x < c := fun x => by rw [tu_row]; exact hc x
  have e1 : sm (fun j => if 0 < tu a b (x0 + (j : Nat), y) then (1 : Int) else 0) N = sm (fun j => if x0 + (j : Nat) < c then 1 else 0) N := sm_congr _ _ N fun i _ => by simp only [hc']
  have e2 : sm (fun j => if 0 ≤ tu a b (x0 + (j : Nat), a.2 + b.2 - y) then (1 : Int) else 0) N = sm (fun j => if x0 + (j : Nat) < a.1 + b.1 - c + 1 then 1 else 0) N := sm_congr _ _ N fun i _ => by
    have h := hc' (a.1 + b.1 - (x0 + (i : Nat)))
    rw [tu_mirror]
    by_cases q : x0 + (i : Nat) < a.1 + b.1 - c + 1
    · rw [if_pos q, if_pos (by omega)]
    · rw [if_neg q, if_neg (by omega)]
  have m1 : ¬ 0 < tu a b (max a.1 b.1, y) := by
    unfold tu
    simp only
    rcases Int.le_total a.1 b.1 with g | g
    · rw [Int.max_eq_right g]
      have := Int.mul_nonneg (show 0 ≤ b.1 - a.1 by omega) (show 0 ≤ b.2 - y by omega)
      have e : (b.1 - a.1) * (y - a.2) - (b.2 - a.2) * (b.1 - a.1) = - ((b.1 - a.1) * (b.2 - y)) := by grind
      omega
    · rw [Int.max_eq_left g]
      have := Int.mul_nonneg (show 0 ≤ a.1 - b.1 by omega) (show 0 ≤ y - a.2 by omega)
      have e : (b.1 - a.1) * (y - a.2) - (b.2 - a.2) * (a.1 - a.1) = - ((a.1 - b.1) * (y - a.2)) := by grind
      omega
  have m2 : 0 < tu a b (min a.1 b.1 - 1, y) := by
    unfold tu
    simp only
    rcases Int.le_total a.1 b.1 with g | g
    · rw [Int.min_eq_left g]
      have := Int.mul_nonneg (show 0 ≤ b.1 - a.1 by omega) (show 0 ≤ y - a.2 by omega)
      have e : (b.1 - a.1) * (y - a.2) - (b.2 - a.2) * (a.1 - 1 - a.1) = (b.1 - a.1) * (y - a.2) + (b.2 - a.2) := by grind
      omega
    · rw [Int.min_eq_right g]
      have := Int.mul_nonneg (show 0 ≤ a.1 - b.1 by omega) (show 0 ≤ b.2 - y by omega)
      have e : (b.1 - a.1) * (y - a.2) - (b.2 - a.2) * (b.1 - 1 - a.1) = (a.1 - b.1) * (b.2 - y) + (b.2 - a.2) := by grind
      omega
  rw [hc'] at m1 m2
  rw [e1, e2, cnt_lt x0 c N (by omega) (by omega), cnt_lt x0 (a.1 + b.1 - c + 1) N (by omega) (by omega)]
  omega

theorem sm_rev (f : Nat → Int) : ∀ n, sm (fun i => f (n - 1 - i)) n = sm f n
  | 0 => rfl
  | n + 1 => by
    have h := sm_split (fun i => f (n + 1 - 1 - i)) 1 n
    rw [Nat.add_comm 1 n] at h
    rw [h, sm]
    have e : sm (fun i => f (n + 1 - 1 - (1 + i))) n = sm (fun i => f (n - 1 - i)) n := sm_congr _ _ n fun i _ => by
      show f (n + 1 - 1 - (1 + i)) = f (n - 1 - i)
      congr 1
      omega
    rw [e, sm_rev f n, sm, sm]
    simp only [Nat.add_sub_cancel, Nat.sub_zero]
    omega
theorem sm_const (c : Int) : ∀ n : Nat, sm (fun _ => c) n = n * c
  | 0 => by simp [sm]
  | n + 1 => by
    rw [sm, sm_const c n]
    grind

/-- what a wall counts at a place -/
def cc (M : Int) (a b : P) (p : P) : Int := cR (hm M p) (hm M a) (hm M b) + cL (hm M p) (hm M a) (hm M b)
/-- a row of the box -/
def row (M : Int) (a b : P) (x0 : Int) (N : Nat) (y : Int) : Int := sm (fun j => cc M a b (x0 + (j : Nat), y)) N
section
variable {M : Int} (hM : 0 < M) {a b p : P} (na : Nr M a p) (nb : Nr M b p) (hab : a.2 < b.2)
include hM na nb hab
omit hab in
theorem cc_mid (h1 : a.2 < p.2) (h2 : p.2 < b.2) : cc M a b p = (if 0 < tu a b p then 1 else 0) + (if 0 ≤ tu a b p then 1 else 0) := by
  have k1 := hm_lt na.1 na.2
  have k2 := hm_lt nb.1 nb.2
  have k3 := hm_lt na.2 na.1
  have k4 := hm_lt nb.2 nb.1
  have k5 := hm_neg hM a b p
  have k6 := hm_pos hM a b p
  unfold cc cR cL
  (repeat' split) <;> omega
theorem cc_low (h1 : p.2 = a.2) : cc M a b p = (if p.1 < a.1 then 1 else 0) + (if p.1 < a.1 then 1 else 0) := by
  have k1 := hm_lt na.1 na.2
  have k2 := hm_lt nb.1 nb.2
  have k3 := hm_lt na.2 na.1
  have k4 := hm_lt nb.2 nb.1
  have k5 := hm_neg hM a b p
  have k6 := hm_pos hM a b p
  have e : tu a b p = (a.1 - p.1) * (b.2 - a.2) := by unfold tu; rw [h1]; grind
  have k7 : 0 < tu a b p ↔ p.1 < a.1 := by
    rw [e]
    exact ⟨fun h => by have := pos_of_mul (show 0 < b.2 - a.2 by omega) h; omega, fun h => Int.mul_pos (by omega) (by omega)⟩
  have k8 : tu a b p < 0 ↔ a.1 < p.1 := by
    rw [e]
    exact ⟨fun h => by have := neg_of_mul (show 0 < b.2 - a.2 by omega) h; omega, fun h => mul_neg' (by omega) (by omega)⟩
  unfold cc cR cL
  (repeat' split) <;> omega
theorem cc_high (h1 : p.2 = b.2) : cc M a b p = (if p.1 = b.1 then 1 else 0) := by
  have k1 := hm_lt na.1 na.2
  have k2 := hm_lt nb.1 nb.2
  have k3 := hm_lt na.2 na.1
  have k4 := hm_lt nb.2 nb.1
  have k5 := hm_neg hM a b p
  have k6 := hm_pos hM a b p
  have e : tu a b p = (b.1 - p.1) * (b.2 - a.2) := by unfold tu; rw [h1]; grind
  have k7 : 0 < tu a b p ↔ p.1 < b.1 := by
    rw [e]
    exact ⟨fun h => by have := pos_of_mul (show 0 < b.2 - a.2 by omega) h; omega, fun h => Int.mul_pos (by omega) (by omega)⟩
  have k8 : tu a b p < 0 ↔ b.1 < p.1 := by
    rw [e]
    exact ⟨fun h => by have := neg_of_mul (show 0 < b.2 - a.2 by omega) h; omega, fun h => mul_neg' (by omega) (by omega)⟩
  unfold cc cR cL
  (repeat' split) <;> omega
omit hM in
theorem cc_out (h1 : p.2 < a.2 ∨ b.2 < p.2) : cc M a b p = 0 := by
  have k1 := hm_lt na.1 na.2
  have k2 := hm_lt nb.1 nb.2
  have k3 := hm_lt na.2 na.1
  have k4 := hm_lt nb.2 nb.1
  unfold cc cR cL
  (repeat' split) <;> omega
end

end Jor
end Go.Proofs.Ytjccilpjaaiicaa

namespace Go.Proofs.Ytjccilpjaaiicaa
namespace Jor

section
variable {M : Int} {a b : P} {x0 : Int} {N : Nat} (hM : 0 < M) (hN : (N : Int) ≤ M) (ha : x0 ≤ a.1 ∧ a.1 < x0 + N) (hb : x0 ≤ b.1 ∧ b.1 < x0 + N) (hab : a.2 < b.2)
include hN ha in
theorem nr_col {j : Nat} (hj : j < N) (y : Int) : Nr M a (x0 + (j : Nat), y) := by
  unfold Nr
  simp only
  omega
include hM hN ha hb hab
omit hM in
theorem row_out {y : Int} (h : y < a.2 ∨ b.2 < y) : row M a b x0 N y = 0 := by
  unfold row
  rw [sm_congr _ (fun _ => 0) N fun j hj => cc_out (nr_col hN ha hj y) (nr_col hN hb hj y) hab h, sm_zero]
theorem row_low : row M a b x0 N a.2 = 2 * (a.1 - x0) := by
  unfold row
  rw [sm_congr _ _ N fun j hj => cc_low hM (nr_col hN ha hj a.2) (nr_col hN hb hj a.2) hab rfl, sm_add]
  simp only
  rw [cnt_lt x0 a.1 N (by omega) (by omega)]
  omega
theorem row_high : row M a b x0 N b.2 = 1 := by
  unfold row
  obtain ⟨d, hd⟩ : ∃ d : Nat, b.1 = x0 + d := ⟨(b.1 - x0).toNat, by omega⟩
  rw [sm_congr _ _ N fun j hj => cc_high hM (nr_col hN ha hj b.2) (nr_col hN hb hj b.2) hab rfl]
  simp only
  rw [sm_one (d := d) N (by omega) ?_, if_pos (by omega)]
  intro i hi hne
  rw [if_neg (by omega)]
omit hab in
theorem row_mid {y : Int} (h1 : a.2 < y) (h2 : y < b.2) : row M a b x0 N y = sm (fun j => if 0 < tu a b (x0 + (j : Nat), y) then 1 else 0) N + sm (fun j => if 0 ≤ tu a b (x0 + (j : Nat), y) then 1 else 0) N := by
  unfold row
  rw [← sm_add]
  exact sm_congr _ _ N fun j hj => cc_mid hM (nr_col hN ha hj y) (nr_col hN hb hj y) h1 h2
theorem rows_mid (D : Nat) (hD : b.2 = a.2 + D + 1) : sm (fun i => row M a b x0 N (a.2 + 1 + (i : Nat))) D = D * (a.1 + b.1 + 1 - 2 * x0) := by
  rw [sm_congr _ _ D fun i hi => row_mid hM hN ha hb (y := a.2 + 1 + (i : Nat)) (by omega) (by omega), sm_add]
  rw [← sm_rev (fun i => sm (fun j => if 0 ≤ tu a b (x0 + (j : Nat), a.2 + 1 + (i : Nat)) then (1 : Int) else 0) N) D, ← sm_add, ← sm_const (a.1 + b.1 + 1 - 2 * x0) D]
  refine sm_congr _ _ D fun i hi => ?_
  have h := row_pair (y := a.2 + 1 + (i : Nat)) hab (by omega) (by omega) ha hb
  have e : a.2 + 1 + ((D - 1 - i : Nat) : Int) = a.2 + b.2 - (a.2 + 1 + (i : Nat)) := by omega
  show _ + sm (fun j => if 0 ≤ tu a b (x0 + (j : Nat), a.2 + 1 + ((D - 1 - i : Nat) : Int)) then (1 : Int) else 0) N = _
  rw [e]
  exact h
/-- a rising wall's sum over the box -/
theorem rise {y0 : Int} {H : Nat} (hy : y0 ≤ a.2) (hy2 : b.2 < y0 + H) : sm (fun k => row M a b x0 N (y0 + (k : Nat))) H = (b.2 - a.2) * (a.1 + b.1 + 1 - 2 * x0) + (a.1 - b.1) := by
  obtain ⟨A, hA⟩ : ∃ A : Nat, a.2 = y0 + A := ⟨(a.2 - y0).toNat, by omega⟩
  obtain ⟨D, hD⟩ : ∃ D : Nat, b.2 = a.2 + D + 1 := ⟨(b.2 - a.2 - 1).toNat, by omega⟩
  obtain ⟨C, hC⟩ : ∃ C : Nat, H = A + (1 + (D + (1 + C))) := ⟨H - A - D - 2, by omega⟩
  subst hC
  have z1 : sm (fun k => row M a b x0 N (y0 + (k : Nat))) A = 0 := by
    rw [sm_congr _ (fun _ => 0) A fun k hk => row_out hN ha hb hab (.inl (by omega)), sm_zero]
  have z2 : sm (fun k => row M a b x0 N (y0 + ((A + (1 + (D + (1 + k))) : Nat) : Int))) C = 0 := by
    rw [sm_congr _ (fun _ => 0) C fun k hk => row_out hN ha hb hab (.inr (by omega)), sm_zero]
  have z3 : sm (fun k => row M a b x0 N (y0 + ((A + (1 + k) : Nat) : Int))) D = D * (a.1 + b.1 + 1 - 2 * x0) := by
    rw [← rows_mid hM hN ha hb hab D hD]
    exact sm_congr _ _ D fun k hk => by rw [show y0 + ((A + (1 + k) : Nat) : Int) = a.2 + 1 + (k : Nat) by omega]
  have z4 : row M a b x0 N (y0 + ((A + 0 : Nat) : Int)) = 2 * (a.1 - x0) := by
    rw [show y0 + ((A + 0 : Nat) : Int) = a.2 by omega]
    exact row_low hM hN ha hb hab
  have z5 : row M a b x0 N (y0 + ((A + (1 + (D + 0)) : Nat) : Int)) = 1 := by
    rw [show y0 + ((A + (1 + (D + 0)) : Nat) : Int) = b.2 by omega]
    exact row_high hM hN ha hb hab
  rw [sm_split, sm_split, sm_split, sm_split, z1, z2, z3]
  simp only [sm]
  rw [z4, z5]
  have e : b.2 - a.2 = (D : Int) + 1 := by omega
  rw [e]
  grind
end

end Jor
end Go.Proofs.Ytjccilpjaaiicaa

namespace Go.Proofs.Ytjccilpjaaiicaa
namespace Jor

theorem cR_swap (p a b : P) : cR p b a = - cR p a b := by
  unfold cR
  rw [tu_swap a b p]
  (repeat' split) <;> omega
theorem cL_swap (p a b : P) : cL p b a = - cL p a b := by
  unfold cL
  rw [tu_swap a b p]
  (repeat' split) <;> omega
theorem cc_swap (M : Int) (a b p : P) : cc M b a p = - cc M a b p := by
  unfold cc
  rw [cR_swap (hm M p) (hm M a), cL_swap (hm M p) (hm M a)]
  omega
theorem sm_neg (f : Nat → Int) : ∀ n, sm (fun i => - f i) n = - sm f n
  | 0 => rfl
  | n + 1 => by rw [sm, sm, sm_neg f n]; omega
theorem row_swap (M : Int) (a b : P) (x0 : Int) (N : Nat) (y : Int) : row M b a x0 N y = - row M a b x0 N y := by
  unfold row
  rw [← sm_neg]
  exact sm_congr _ _ N fun j _ => cc_swap M a b _
/-- the sum over the box -/
def box (M : Int) (x0 y0 : Int) (N H : Nat) (a b : P) : Int := sm (fun k => row M a b x0 N (y0 + (k : Nat))) H
theorem box_swap (M : Int) (x0 y0 : Int) (N H : Nat) (a b : P) : box M x0 y0 N H b a = - box M x0 y0 N H a b := by
  unfold box
  rw [← sm_neg]
  exact sm_congr _ _ H fun j _ => row_swap M a b x0 N _

section
variable {M : Int} {a b p : P} (hM : 0 < M) (na : Nr M a p) (nb : Nr M b p) (hab : a.2 = b.2) (hx : b.1 < a.1)
include hM na nb hab hx
theorem cc_level : cc M a b p = if p.2 = a.2 ∧ b.1 ≤ p.1 ∧ p.1 < a.1 then 1 else 0 := by
  have k1 := hm_lt na.1 na.2
  have k2 := hm_lt nb.1 nb.2
  have k3 := hm_lt na.2 na.1
  have k4 := hm_lt nb.2 nb.1
  have k5 := hm_neg hM a b p
  have k6 := hm_pos hM a b p
  have k7 : p.2 = a.2 → tu a b p = 0 := fun h => by
    unfold tu
    rw [h, hab]
    grind
  unfold cc cR cL
  (repeat' split) <;> omega
end

section
variable {M : Int} {a b : P} {x0 y0 : Int} {N H : Nat} (hM : 0 < M) (hN : (N : Int) ≤ M) (ha : x0 ≤ a.1 ∧ a.1 < x0 + N) (hb : x0 ≤ b.1 ∧ b.1 < x0 + N) (ya : y0 ≤ a.2 ∧ a.2 < y0 + H) (yb : y0 ≤ b.2 ∧ b.2 < y0 + H)
include hM hN ha hb ya yb
theorem box_level (hab : a.2 = b.2) (hx : b.1 < a.1) : box M x0 y0 N H a b = a.1 - b.1 := by
  obtain ⟨d, hd⟩ : ∃ d : Nat, a.2 = y0 + d := ⟨(a.2 - y0).toNat, by omega⟩
  unfold box
  rw [sm_one (d := d) H (by omega) ?_]
  · unfold row
    rw [sm_congr _ (fun j => (if x0 + (j : Nat) < a.1 then 1 else 0) - (if x0 + (j : Nat) < b.1 then 1 else 0)) N ?_, sm_sub, cnt_lt x0 a.1 N (by omega) (by omega), cnt_lt x0 b.1 N (by omega) (by omega)]
    · omega
    · intro j hj
      rw [cc_level hM (nr_col hN ha hj _) (nr_col hN hb hj _) hab hx]
      simp only
      (repeat' split) <;> omega
  · intro k hk hne
    unfold row
    rw [sm_congr _ (fun _ => 0) N ?_, sm_zero]
    intro j hj
    rw [cc_level hM (nr_col hN ha hj _) (nr_col hN hb hj _) hab hx, if_neg]
    simp only
    omega
theorem box_any (hne : a ≠ b) : box M x0 y0 N H a b = (b.2 - a.2) * (a.1 + b.1 + 1 - 2 * x0) + (a.1 - b.1) := by
  rcases Int.lt_trichotomy a.2 b.2 with h | h | h
  · exact rise hM hN ha hb h ya.1 yb.2
  · have e : (b.2 - a.2) * (a.1 + b.1 + 1 - 2 * x0) = 0 := by rw [h, Int.sub_self, Int.zero_mul]
    rw [e]
    rcases Int.lt_trichotomy a.1 b.1 with g | g | g
    · rw [box_swap, box_level hM hN hb ha yb ya h.symm g]
      omega
    · exact absurd (Prod.ext g h) hne
    · rw [box_level hM hN ha hb ya yb h g]
      omega
  · rw [box_swap]
    have := rise hM hN hb ha h yb.1 ya.2
    unfold box
    rw [this]
    grind
end

end Jor
end Go.Proofs.Ytjccilpjaaiicaa

namespace Go.Proofs.Ytjccilpjaaiicaa
namespace Jor

theorem sgm (a x : Int) : (0 < a → (0 < x → 0 < a * x) ∧ (x < 0 → a * x < 0) ∧ (x = 0 → a * x = 0)) ∧ (a < 0 → (0 < x → a * x < 0) ∧ (x < 0 → 0 < a * x) ∧ (x = 0 → a * x = 0)) ∧ (a = 0 → a * x = 0) := by
  refine ⟨fun h => ⟨fun g => Int.mul_pos h g, fun g => ?_, fun g => by rw [g, Int.mul_zero]⟩, fun h => ⟨fun g => mul_neg' h g, fun g => ?_, fun g => by rw [g, Int.mul_zero]⟩, fun h => by rw [h, Int.zero_mul]⟩
  · rw [Int.mul_comm]; exact mul_neg' g h
  · have := Int.mul_pos (show 0 < -a by omega) (show 0 < -x by omega)
    rw [Int.neg_mul, Int.mul_neg, Int.neg_neg] at this
    exact this

/-- a wall's count by the heights of its ends over the point, and the side -/
def rr (α β z : Int) : Int := if α ≤ 0 ∧ 0 < β ∧ 0 < z then 1 else if β ≤ 0 ∧ 0 < α ∧ z < 0 then -1 else 0
def ll (α β z : Int) : Int := if α < 0 ∧ 0 ≤ β ∧ 0 ≤ z then 1 else if β < 0 ∧ 0 ≤ α ∧ z ≤ 0 then -1 else 0
theorem cR_rr (p a b : P) : cR p a b = rr (a.2 - p.2) (b.2 - p.2) (tu a b p) := by
  unfold cR rr
  (repeat' split) <;> omega
theorem cL_ll (p a b : P) : cL p a b = ll (a.2 - p.2) (b.2 - p.2) (tu a b p) := by
  unfold cL ll
  (repeat' split) <;> omega
def sg3 (x : Int) : Int := if 0 < x then 1 else if x < 0 then -1 else 0
theorem sg3_cases (x : Int) : (sg3 x = 1 ∧ 0 < x) ∨ (sg3 x = -1 ∧ x < 0) ∨ (sg3 x = 0 ∧ x = 0) := by
  unfold sg3
  (repeat' split) <;> omega
theorem rr_sg (α β z : Int) : rr α β z = rr (sg3 α) (sg3 β) (sg3 z) := by
  rcases sg3_cases α with ⟨e1, h1⟩ | ⟨e1, h1⟩ | ⟨e1, h1⟩ <;> rcases sg3_cases β with ⟨e2, h2⟩ | ⟨e2, h2⟩ | ⟨e2, h2⟩ <;> rcases sg3_cases z with ⟨e3, h3⟩ | ⟨e3, h3⟩ | ⟨e3, h3⟩ <;> (rw [e1, e2, e3]; unfold rr; (repeat' split) <;> omega)
theorem ll_sg (α β z : Int) : ll α β z = ll (sg3 α) (sg3 β) (sg3 z) := by
  rcases sg3_cases α with ⟨e1, h1⟩ | ⟨e1, h1⟩ | ⟨e1, h1⟩ <;> rcases sg3_cases β with ⟨e2, h2⟩ | ⟨e2, h2⟩ | ⟨e2, h2⟩ <;> rcases sg3_cases z with ⟨e3, h3⟩ | ⟨e3, h3⟩ | ⟨e3, h3⟩ <;> (rw [e1, e2, e3]; unfold ll; (repeat' split) <;> omega)
theorem sg3_mul (a x : Int) : sg3 (a * x) = sg3 a * sg3 x := by
  have h := sgm a x
  have e := sg3_cases (a * x)
  generalize a * x = p at *
  rcases sg3_cases a with ⟨e1, h1⟩ | ⟨e1, h1⟩ | ⟨e1, h1⟩ <;> rcases sg3_cases x with ⟨e2, h2⟩ | ⟨e2, h2⟩ | ⟨e2, h2⟩ <;> (rw [e1, e2]; omega)
/-- the same in signs alone -/
def CoreP (a b c x y z : Int) : Prop :=
  (rr a b z + rr b c x + rr c a y = 0 ∨ (rr a b z + rr b c x + rr c a y = 1 ∧ 0 ≤ x ∧ 0 ≤ y ∧ 0 ≤ z)) ∧ (ll a b z + ll b c x + ll c a y = 0 ∨ (ll a b z + ll b c x + ll c a y = 1 ∧ 0 ≤ x ∧ 0 ≤ y ∧ 0 ≤ z)) ∧
    (0 < x → 0 < y → 0 < z → rr a b z + rr b c x + rr c a y = 1 ∧ ll a b z + ll b c x + ll c a y = 1) ∧
    (0 < x → 0 < y → z = 0 → (a < 0 ∧ 0 < b ∧ rr a b z + rr b c x + rr c a y = 0 ∧ ll a b z + ll b c x + ll c a y = 1) ∨ (b < 0 ∧ 0 < a ∧ rr a b z + rr b c x + rr c a y = 1 ∧ ll a b z + ll b c x + ll c a y = 0))
def HypP (a b c x y z : Int) : Prop := ¬ (a = 0 ∧ b = 0) ∧ ¬ (b = 0 ∧ c = 0) ∧ ¬ (c = 0 ∧ a = 0) ∧ (0 < x ∨ 0 < y ∨ 0 < z) ∧ ¬ (0 ≤ a * x ∧ 0 ≤ b * y ∧ 0 ≤ c * z ∧ (0 < a * x ∨ 0 < b * y ∨ 0 < c * z)) ∧ ¬ (a * x ≤ 0 ∧ b * y ≤ 0 ∧ c * z ≤ 0 ∧ (a * x < 0 ∨ b * y < 0 ∨ c * z < 0))
instance (a b c x y z : Int) : Decidable (CoreP a b c x y z) := by unfold CoreP; infer_instance
instance (a b c x y z : Int) : Decidable (HypP a b c x y z) := by unfold HypP; infer_instance
def S3 : List Int := [1, -1, 0]
theorem core_all : (S3.all fun a => S3.all fun b => S3.all fun c => S3.all fun x => S3.all fun y => S3.all fun z => decide (HypP a b c x y z → CoreP a b c x y z)) = true := by decide +kernel
theorem sg3_mem (x : Int) : sg3 x ∈ S3 := by
  unfold S3
  rcases sg3_cases x with ⟨e, _⟩ | ⟨e, _⟩ | ⟨e, _⟩ <;> simp [e]
theorem core {α β γ x y z : Int} (h : α * x + β * y + γ * z = 0) (hs : 0 < x + y + z) (n1 : α ≠ β) (n2 : β ≠ γ) (n3 : γ ≠ α) :
    (rr α β z + rr β γ x + rr γ α y = 0 ∨ (rr α β z + rr β γ x + rr γ α y = 1 ∧ 0 ≤ x ∧ 0 ≤ y ∧ 0 ≤ z)) ∧ (ll α β z + ll β γ x + ll γ α y = 0 ∨ (ll α β z + ll β γ x + ll γ α y = 1 ∧ 0 ≤ x ∧ 0 ≤ y ∧ 0 ≤ z)) ∧
    (0 < x → 0 < y → 0 < z → rr α β z + rr β γ x + rr γ α y = 1 ∧ ll α β z + ll β γ x + ll γ α y = 1) ∧
    (0 < x → 0 < y → z = 0 → (α < 0 ∧ 0 < β ∧ rr α β z + rr β γ x + rr γ α y = 0 ∧ ll α β z + ll β γ x + ll γ α y = 1) ∨ (β < 0 ∧ 0 < α ∧ rr α β z + rr β γ x + rr γ α y = 1 ∧ ll α β z + ll β γ x + ll γ α y = 0)) := by
  have hA := core_all
  simp only [List.all_eq_true, decide_eq_true_eq] at hA
  have hC := hA _ (sg3_mem α) _ (sg3_mem β) _ (sg3_mem γ) _ (sg3_mem x) _ (sg3_mem y) _ (sg3_mem z)
  have c1 := sg3_cases α
  have c2 := sg3_cases β
  have c3 := sg3_cases γ
  have c4 := sg3_cases x
  have c5 := sg3_cases y
  have c6 := sg3_cases z
  have hH : HypP (sg3 α) (sg3 β) (sg3 γ) (sg3 x) (sg3 y) (sg3 z) := by
    unfold HypP
    rw [← sg3_mul, ← sg3_mul, ← sg3_mul]
    have d1 := sg3_cases (α * x)
    have d2 := sg3_cases (β * y)
    have d3 := sg3_cases (γ * z)
    generalize α * x = px at *
    generalize β * y = py at *
    generalize γ * z = pz at *
    clear hC hA
    refine ⟨by omega, by omega, by omega, by omega, by omega, by omega⟩
  have hK := hC hH
  unfold CoreP at hK
  rw [← rr_sg, ← rr_sg, ← rr_sg, ← ll_sg, ← ll_sg, ← ll_sg] at hK
  clear hC hA hH h
  generalize rr α β z + rr β γ x + rr γ α y = R at *
  generalize ll α β z + ll β γ x + ll γ α y = Lq at *
  obtain ⟨k1, k2, k3, k4⟩ := hK
  refine ⟨by clear k2 k3 k4; omega, by clear k1 k3 k4; omega, by clear k1 k2 k4; omega, by clear k1 k2 k3; omega⟩

/-! ## A triangle -/
def tR (p a b c : P) : Int := cR p a b + cR p b c + cR p c a
def tL (p a b c : P) : Int := cL p a b + cL p b c + cL p c a
/-- p lies in the closed triangle -/
def In (p a b c : P) : Prop := 0 ≤ tu a b p ∧ 0 ≤ tu b c p ∧ 0 ≤ tu c a p
theorem bary0 (p a b c : P) : (a.2 - p.2) * tu b c p + (b.2 - p.2) * tu c a p + (c.2 - p.2) * tu a b p = 0 := by unfold tu; grind
theorem bary1 (p a b c : P) : tu b c p + tu c a p + tu a b p = tu a b c := by unfold tu; grind
section
variable {p a b c : P} (ht : 0 < tu a b c) (n1 : a.2 ≠ b.2) (n2 : b.2 ≠ c.2) (n3 : c.2 ≠ a.2)
include ht n1 n2 n3
theorem tri_core : (tR p a b c = 0 ∨ (tR p a b c = 1 ∧ In p a b c)) ∧ (tL p a b c = 0 ∨ (tL p a b c = 1 ∧ In p a b c)) ∧
    (0 < tu b c p → 0 < tu c a p → 0 < tu a b p → tR p a b c = 1 ∧ tL p a b c = 1) ∧
    (0 < tu b c p → 0 < tu c a p → tu a b p = 0 → (a.2 < p.2 ∧ p.2 < b.2 ∧ tR p a b c = 0 ∧ tL p a b c = 1) ∨ (b.2 < p.2 ∧ p.2 < a.2 ∧ tR p a b c = 1 ∧ tL p a b c = 0)) := by
  have h := core (bary0 p a b c) (by rw [bary1]; exact ht) (by omega) (by omega) (by omega)
  rw [← cR_rr, ← cR_rr, ← cR_rr, ← cL_ll, ← cL_ll, ← cL_ll] at h
  unfold tR tL In
  obtain ⟨k1, k2, k3, k4⟩ := h
  refine ⟨by clear k2 k3 k4; omega, by clear k1 k3 k4; omega, k3, fun g1 g2 g3 => ?_⟩
  have := k4 g1 g2 g3
  clear k1 k2 k3 k4
  omega
theorem tR_nn : 0 ≤ tR p a b c := by have := (tri_core (p := p) ht n1 n2 n3).1; omega
theorem tL_nn : 0 ≤ tL p a b c := by have := (tri_core (p := p) ht n1 n2 n3).2.1; omega
/-- at the three corners together -/
theorem tri_corners : (tR a a b c + tL a a b c) + (tR b a b c + tL b a b c) + (tR c a b c + tL c a b c) = 1 := by
  have e1 : tu b c a = tu a b c := tu_rot a b c
  have e2 : tu c a b = tu a b c := by rw [tu_rot, tu_rot]
  have q : ∀ x y z : P, 0 < tu y z x → cR x y z + cL x y z = (if y.2 ≤ x.2 ∧ x.2 < z.2 then 1 else 0) + (if y.2 < x.2 ∧ x.2 ≤ z.2 then 1 else 0) := fun x y z h => by
    unfold cR cL
    have r : ¬ tu y z x < 0 := by omega
    have r2 : ¬ tu y z x ≤ 0 := by omega
    have r3 : 0 ≤ tu y z x := by omega
    simp only [h, r, r2, r3, and_true, and_false, if_false]
  have q1 := q a b c (by rw [e1]; exact ht)
  have q2 := q b c a (by rw [e2]; exact ht)
  have q3 := q c a b ht
  have f1 := cR_on (tu_fst a b)
  have f2 := cR_on (tu_snd a b)
  have f3 := cR_on (tu_fst b c)
  have f4 := cR_on (tu_snd b c)
  have f5 := cR_on (tu_fst c a)
  have f6 := cR_on (tu_snd c a)
  have g1 := cL_fst n1
  have g2 := cL_snd (a := a) (b := b)
  have g3 := cL_fst n2
  have g4 := cL_snd (a := b) (b := c)
  have g5 := cL_fst n3
  have g6 := cL_snd (a := c) (b := a)
  unfold tR tL
  rw [f1, f2, f3, f4, f5, f6, g1, g2, g3, g4, g5, g6]
  clear f1 f2 f3 f4 f5 f6 g1 g2 g3 g4 g5 g6 q e1 e2 ht
  have w : ∀ r1 l1 r2 l2 r3 l3 s t u : Int, r1 + l1 = s → r2 + l2 = t → r3 + l3 = u → r1 + l1 + (r2 + l2) + (r3 + l3) = s + t + u := by omega
  have w2 := w _ _ _ _ _ _ _ _ _ q1 q2 q3
  clear w q1 q2 q3
  generalize cR a b c = x1 at *
  generalize cL a b c = x2 at *
  generalize cR b c a = x3 at *
  generalize cL b c a = x4 at *
  generalize cR c a b = x5 at *
  generalize cL c a b = x6 at *
  rcases Int.lt_or_gt_of_ne n1 with h1 | h1 <;> rcases Int.lt_or_gt_of_ne n2 with h2 | h2 <;> rcases Int.lt_or_gt_of_ne n3 with h3 | h3 <;> clear n1 n2 n3 <;> (first | (exfalso; omega) | skip) <;>
    (repeat (first | rw [if_pos (by omega)] at w2 | rw [if_neg (by omega)] at w2)) <;> (repeat (first | rw [if_pos (by omega)] | rw [if_neg (by omega)])) <;> omega
end

end Jor
end Go.Proofs.Ytjccilpjaaiicaa

