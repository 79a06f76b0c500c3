/-
  Points on a straight way: the square of the distance from its start orders them, and 'between' is said by that order. No program in sight.
-/
import Derived.Test.YtanagdlikoinaaaJ1
namespace Go.Proofs.Ytanagdlikoinaaa
open Go.RowKit

/-- c lies on the straight way from a to b -/
def OnZ (a b c : Int × Int) : Prop := turnZ a.1 a.2 b.1 b.2 c.1 c.2 = 0 ∧ (min a.1 b.1 ≤ c.1 ∧ c.1 ≤ max a.1 b.1) ∧ (min a.2 b.2 ≤ c.2 ∧ c.2 ≤ max a.2 b.2)
def DD (a b : Int × Int) : Int := (b.1 - a.1) * (b.1 - a.1) + (b.2 - a.2) * (b.2 - a.2)
def tt (a b c : Int × Int) : Int := (c.1 - a.1) * (b.1 - a.1) + (c.2 - a.2) * (b.2 - a.2)
/-- the square of the distance from a -/
def kk (a c : Int × Int) : Int := sqZ a.1 a.2 c.1 c.2

theorem sq_nn (x : Int) : 0 ≤ x * x := by
  rcases Int.le_total 0 x with h | h
  · exact Int.mul_nonneg h h
  · have := Int.mul_nonneg (show 0 ≤ -x by omega) (show 0 ≤ -x by omega)
    rwa [Int.neg_mul_neg] at this
theorem sq_pos' {x : Int} (h : x ≠ 0) : 0 < x * x := by
  rcases Int.lt_or_gt_of_ne h with h | h
  · have := Int.mul_pos (show 0 < -x by omega) (show 0 < -x by omega)
    rwa [Int.neg_mul_neg] at this
  · exact Int.mul_pos h h
theorem DD_pos {a b : Int × Int} (h : a ≠ b) : 0 < DD a b := by
  unfold DD
  have h1 := sq_nn (b.1 - a.1)
  have h2 := sq_nn (b.2 - a.2)
  by_cases e : b.1 - a.1 = 0
  · have e2 : b.2 - a.2 ≠ 0 := fun e2 => h (Prod.ext (by omega) (by omega))
    have := sq_pos' e2
    omega
  · have := sq_pos' e
    omega

theorem prod_nn {a b c : Int} (h : min a b ≤ c ∧ c ≤ max a b) : 0 ≤ (c - a) * (b - a) := by
  rcases Int.le_total a b with h1 | h1
  · exact Int.mul_nonneg (by omega) (by omega)
  · have := Int.mul_nonneg (show 0 ≤ -(c - a) by omega) (show 0 ≤ -(b - a) by omega)
    rwa [Int.neg_mul_neg] at this

theorem tt_nn {a b c : Int × Int} (h : OnZ a b c) : 0 ≤ tt a b c := by
  have h1 := prod_nn h.2.1
  have h2 := prod_nn h.2.2
  unfold tt
  omega
theorem ttx {a b c : Int × Int} (h : OnZ a b c) : (c.1 - a.1) * DD a b = tt a b c * (b.1 - a.1) := by
  have e := h.1
  unfold turnZ at e
  unfold DD tt
  grind
theorem tty {a b c : Int × Int} (h : OnZ a b c) : (c.2 - a.2) * DD a b = tt a b c * (b.2 - a.2) := by
  have e := h.1
  unfold turnZ at e
  unfold DD tt
  grind
theorem kk_tt {a b c : Int × Int} (h : OnZ a b c) : kk a c * DD a b = tt a b c * tt a b c := by
  have e := h.1
  unfold turnZ at e
  unfold DD tt kk sqZ
  grind

theorem sq_le_iff {s t : Int} (hs : 0 ≤ s) (ht : 0 ≤ t) : s * s ≤ t * t ↔ s ≤ t := by
  constructor
  · intro h
    apply Int.le_of_not_gt
    intro hlt
    have h1 := Int.mul_pos (show 0 < s - t by omega) (show 0 < s + t by omega)
    have e : (s - t) * (s + t) = s * s - t * t := by grind
    omega
  · intro h
    have h1 := Int.mul_nonneg (show 0 ≤ t - s by omega) (show 0 ≤ t + s by omega)
    have e : (t - s) * (t + s) = t * t - s * s := by grind
    omega

theorem kk_le_iff {a b x y : Int × Int} (hab : a ≠ b) (hx : OnZ a b x) (hy : OnZ a b y) : kk a x ≤ kk a y ↔ tt a b x ≤ tt a b y := by
  have hD := DD_pos hab
  rw [← sq_le_iff (tt_nn hx) (tt_nn hy), ← kk_tt hx, ← kk_tt hy]
  constructor
  · intro h; exact Int.mul_le_mul_of_nonneg_right h (by omega)
  · intro h; exact Int.le_of_mul_le_mul_right h hD

theorem kk_inj {a b x y : Int × Int} (hab : a ≠ b) (hx : OnZ a b x) (hy : OnZ a b y) (h : kk a x = kk a y) : x = y := by
  have hD := DD_pos hab
  have h1 := (kk_le_iff hab hx hy).1 (by omega)
  have h2 := (kk_le_iff hab hy hx).1 (by omega)
  have ht : tt a b x = tt a b y := by omega
  have x1 := ttx hx
  have y1 := ttx hy
  have x2 := tty hx
  have y2 := tty hy
  rw [ht, ← y1] at x1
  rw [ht, ← y2] at x2
  have e1 := Int.eq_of_mul_eq_mul_right (by omega) x1
  have e2 := Int.eq_of_mul_eq_mul_right (by omega) x2
  exact Prod.ext (by omega) (by omega)

/-- between by the order: between on the line -/
theorem onz_of_kk {a b x y z : Int × Int} (hab : a ≠ b) (hx : OnZ a b x) (hy : OnZ a b y) (hz : OnZ a b z) (h1 : kk a x ≤ kk a z) (h2 : kk a z ≤ kk a y) : OnZ x y z := by
  have hD := DD_pos hab
  have t1 := (kk_le_iff hab hx hz).1 h1
  have t2 := (kk_le_iff hab hz hy).1 h2
  have x1 := ttx hx
  have y1 := ttx hy
  have z1 := ttx hz
  have x2 := tty hx
  have y2 := tty hy
  have z2 := tty hz
  refine ⟨?_, ?_, ?_⟩
  · have e1 : (y.1 - x.1) * DD a b = (tt a b y - tt a b x) * (b.1 - a.1) := by grind
    have e2 : (y.2 - x.2) * DD a b = (tt a b y - tt a b x) * (b.2 - a.2) := by grind
    have e3 : (z.1 - x.1) * DD a b = (tt a b z - tt a b x) * (b.1 - a.1) := by grind
    have e4 : (z.2 - x.2) * DD a b = (tt a b z - tt a b x) * (b.2 - a.2) := by grind
    have e : turnZ x.1 x.2 y.1 y.2 z.1 z.2 * (DD a b * DD a b) = 0 := by
      unfold turnZ
      have a1 : (y.1 - x.1) * (z.2 - x.2) * (DD a b * DD a b) = ((y.1 - x.1) * DD a b) * ((z.2 - x.2) * DD a b) := by grind
      have a2 : (y.2 - x.2) * (z.1 - x.1) * (DD a b * DD a b) = ((y.2 - x.2) * DD a b) * ((z.1 - x.1) * DD a b) := by grind
      rw [Int.sub_mul, a1, a2, e1, e2, e3, e4]
      grind
    rcases Int.mul_eq_zero.1 e with h | h
    · exact h
    · exfalso
      have := Int.mul_pos hD hD
      omega
  · have e3 : (z.1 - x.1) * DD a b = (tt a b z - tt a b x) * (b.1 - a.1) := by grind
    have e4 : (y.1 - z.1) * DD a b = (tt a b y - tt a b z) * (b.1 - a.1) := by grind
    rcases Int.le_total 0 (b.1 - a.1) with h | h
    · have p1 := Int.mul_nonneg (show 0 ≤ tt a b z - tt a b x by omega) h
      have p2 := Int.mul_nonneg (show 0 ≤ tt a b y - tt a b z by omega) h
      rw [← e3] at p1
      rw [← e4] at p2
      have q1 := Int.nonneg_of_mul_nonneg_left p1 hD
      have q2 := Int.nonneg_of_mul_nonneg_left p2 hD
      omega
    · have p1 := Int.mul_nonneg (show 0 ≤ tt a b z - tt a b x by omega) (show 0 ≤ -(b.1 - a.1) by omega)
      have p2 := Int.mul_nonneg (show 0 ≤ tt a b y - tt a b z by omega) (show 0 ≤ -(b.1 - a.1) by omega)
      rw [Int.mul_neg, ← e3, ← Int.neg_mul] at p1
      rw [Int.mul_neg, ← e4, ← Int.neg_mul] at p2
      have q1 := Int.nonneg_of_mul_nonneg_left p1 hD
      have q2 := Int.nonneg_of_mul_nonneg_left p2 hD
      omega
  · have e3 : (z.2 - x.2) * DD a b = (tt a b z - tt a b x) * (b.2 - a.2) := by grind
    have e4 : (y.2 - z.2) * DD a b = (tt a b y - tt a b z) * (b.2 - a.2) := by grind
    rcases Int.le_total 0 (b.2 - a.2) with h | h
    · have p1 := Int.mul_nonneg (show 0 ≤ tt a b z - tt a b x by omega) h
      have p2 := Int.mul_nonneg (show 0 ≤ tt a b y - tt a b z by omega) h
      rw [← e3] at p1
      rw [← e4] at p2
      have q1 := Int.nonneg_of_mul_nonneg_left p1 hD
      have q2 := Int.nonneg_of_mul_nonneg_left p2 hD
      omega
    · have p1 := Int.mul_nonneg (show 0 ≤ tt a b z - tt a b x by omega) (show 0 ≤ -(b.2 - a.2) by omega)
      have p2 := Int.mul_nonneg (show 0 ≤ tt a b y - tt a b z by omega) (show 0 ≤ -(b.2 - a.2) by omega)
      rw [Int.mul_neg, ← e3, ← Int.neg_mul] at p1
      rw [Int.mul_neg, ← e4, ← Int.neg_mul] at p2
      have q1 := Int.nonneg_of_mul_nonneg_left p1 hD
      have q2 := Int.nonneg_of_mul_nonneg_left p2 hD
      omega

theorem same_way {D d p q s : Int} (hD : 0 < D) (hs : 0 ≤ s) (e : (q - p) * D = s * d) {z : Int} (h : min p q ≤ z ∧ z ≤ max p q) : 0 ≤ (z - p) * d ∧ 0 ≤ (q - z) * d := by
  rcases Int.lt_trichotomy d 0 with hd | hd | hd
  · have p1 := Int.mul_nonneg hs (show 0 ≤ -d by omega)
    rw [Int.mul_neg, ← e, ← Int.neg_mul] at p1
    have q1 := Int.nonneg_of_mul_nonneg_left p1 hD
    have r1 := Int.mul_nonneg (show 0 ≤ -(z - p) by omega) (show 0 ≤ -d by omega)
    have r2 := Int.mul_nonneg (show 0 ≤ -(q - z) by omega) (show 0 ≤ -d by omega)
    rw [Int.neg_mul_neg] at r1 r2
    exact ⟨r1, r2⟩
  · subst hd; simp
  · have p1 := Int.mul_nonneg hs (show 0 ≤ d by omega)
    rw [← e] at p1
    have q1 := Int.nonneg_of_mul_nonneg_left p1 hD
    exact ⟨Int.mul_nonneg (by omega) (by omega), Int.mul_nonneg (by omega) (by omega)⟩

/-- between on the line: between by the order -/
theorem kk_of_onz {a b x y z : Int × Int} (hab : a ≠ b) (hx : OnZ a b x) (hy : OnZ a b y) (hz : OnZ a b z) (h : kk a x ≤ kk a y) (ho : OnZ x y z) : kk a x ≤ kk a z ∧ kk a z ≤ kk a y := by
  have hD := DD_pos hab
  have t1 := (kk_le_iff hab hx hy).1 h
  rw [kk_le_iff hab hx hz, kk_le_iff hab hz hy]
  have x1 := ttx hx
  have y1 := ttx hy
  have x2 := tty hx
  have y2 := tty hy
  have e1 : (y.1 - x.1) * DD a b = (tt a b y - tt a b x) * (b.1 - a.1) := by grind
  have e2 : (y.2 - x.2) * DD a b = (tt a b y - tt a b x) * (b.2 - a.2) := by grind
  have m1 := same_way hD (by omega) e1 ho.2.1
  have m2 := same_way hD (by omega) e2 ho.2.2
  have u1 : tt a b z - tt a b x = (z.1 - x.1) * (b.1 - a.1) + (z.2 - x.2) * (b.2 - a.2) := by unfold tt; grind
  have u2 : tt a b y - tt a b z = (y.1 - z.1) * (b.1 - a.1) + (y.2 - z.2) * (b.2 - a.2) := by unfold tt; grind
  omega

theorem onz_comm {x y z : Int × Int} : OnZ x y z ↔ OnZ y x z := by
  have e : turnZ y.1 y.2 x.1 x.2 z.1 z.2 = - turnZ x.1 x.2 y.1 y.2 z.1 z.2 := by unfold turnZ; grind
  unfold OnZ
  rw [e, Int.min_comm y.1 x.1, Int.min_comm y.2 x.2, Int.max_comm y.1 x.1, Int.max_comm y.2 x.2]
  constructor <;> (intro h; exact ⟨by omega, h.2⟩)

theorem onW_iff {a b c : Int × Int} (ha : within 1000000 a.1 a.2) (hb : within 1000000 b.1 b.2) (hc : within 1000000 c.1 c.2) : onW c.1 c.2 a.1 a.2 b.1 b.2 = true ↔ OnZ a b c := by
  unfold onW OnZ inB
  rw [turnW_eq ha hb hc]
  simp

theorem onz_start (a b : Int × Int) : OnZ a b a := by
  refine ⟨by unfold turnZ; grind, by omega, by omega⟩
theorem onz_end (a b : Int × Int) : OnZ a b b := by
  refine ⟨by unfold turnZ; grind, by omega, by omega⟩
theorem onz_same {a c : Int × Int} (h : OnZ a a c) : c = a := Prod.ext (by have := h.2.1; omega) (by have := h.2.2; omega)

/-! ## A list, sorted by a key, and the same list as it comes -/

section
variable {α : Type} {d : α}
/-- p_i is before p_j by the key, for i < j -/
def SortedK (K : α → Int) (d : α) (s : List α) : Prop := ∀ i j, i < j → j < s.length → K (s.getD i d) ≤ K (s.getD j d)
/-- no other one lies strictly between x and y -/
def Next (K : α → Int) (c : List α) (x y : α) : Prop := x ∈ c ∧ y ∈ c ∧ K x < K y ∧ ∀ z, z ∈ c → ¬ (K x < K z ∧ K z < K y)

theorem getD_mem {c : List α} {i : Nat} (h : i < c.length) : c.getD i d ∈ c := by
  rw [List.getD_eq_getElem?_getD, List.getElem?_eq_getElem h]
  exact List.getElem_mem h
theorem mem_getD {c : List α} {x : α} (h : x ∈ c) : ∃ i, i < c.length ∧ c.getD i d = x := by
  obtain ⟨i, hi, e⟩ := List.mem_iff_getElem.1 h
  refine ⟨i, hi, ?_⟩
  rw [List.getD_eq_getElem?_getD, List.getElem?_eq_getElem hi]
  exact e
theorem nodup_getD {c : List α} (hn : c.Nodup) {i j : Nat} (hi : i < c.length) (hj : j < c.length) (h : c.getD i d = c.getD j d) : i = j := by
  rw [List.getD_eq_getElem?_getD, List.getElem?_eq_getElem hi, List.getD_eq_getElem?_getD, List.getElem?_eq_getElem hj] at h
  have h : c[i] = c[j] := h
  have hp := List.pairwise_iff_getElem.1 hn
  rcases Nat.lt_trichotomy i j with h1 | h1 | h1
  · exact absurd h (hp i j hi hj h1)
  · exact h1
  · exact absurd h.symm (hp j i hj hi h1)

theorem sorted_next {K : α → Int} {Q : α → α → Prop} {c s : List α} (hp : s.Perm c) (hn : c.Nodup) (hK : ∀ x y, x ∈ c → y ∈ c → K x = K y → x = y) (hs : SortedK K d s) :
    (∀ i, i + 1 < s.length → Q (s.getD i d) (s.getD (i + 1) d)) ↔ ∀ x y, Next K c x y → Q x y := by
  have hm : ∀ x, x ∈ s ↔ x ∈ c := fun x => hp.mem_iff
  have hns : s.Nodup := hp.nodup_iff.2 hn
  constructor
  · rintro h x y ⟨hx, hy, hlt, hno⟩
    obtain ⟨p, hp1, rfl⟩ := mem_getD (d := d) ((hm x).2 hx)
    obtain ⟨q, hq1, rfl⟩ := mem_getD (d := d) ((hm y).2 hy)
    rcases Nat.lt_trichotomy p q with h1 | h1 | h1
    · rcases Nat.lt_or_ge (p + 1) q with h2 | h2
      · exfalso
        have k1 := hs p (p + 1) (by omega) (by omega)
        have k2 := hs (p + 1) q (by omega) (by omega)
        have hz : s.getD (p + 1) d ∈ c := (hm _).1 (getD_mem (by omega))
        refine hno _ hz ⟨?_, ?_⟩
        · rcases Int.lt_or_le (K (s.getD p d)) (K (s.getD (p + 1) d)) with h3 | h3
          · exact h3
          · have := nodup_getD hns hp1 (by omega) (hK _ _ hx hz (by omega))
            omega
        · rcases Int.lt_or_le (K (s.getD (p + 1) d)) (K (s.getD q d)) with h3 | h3
          · exact h3
          · have := nodup_getD hns (by omega) hq1 (hK _ _ hz hy (by omega))
            omega
      · obtain rfl : q = p + 1 := by omega
        exact h p hq1
    · subst h1; omega
    · have := hs q p h1 hp1
      omega
  · intro h i hi
    have hx : s.getD i d ∈ c := (hm _).1 (getD_mem (by omega))
    have hy : s.getD (i + 1) d ∈ c := (hm _).1 (getD_mem hi)
    refine h _ _ ⟨hx, hy, ?_, ?_⟩
    · rcases Int.lt_or_le (K (s.getD i d)) (K (s.getD (i + 1) d)) with h3 | h3
      · exact h3
      · have h4 := hs i (i + 1) (by omega) hi
        have := nodup_getD hns (by omega) hi (hK _ _ hx hy (by omega))
        omega
    · rintro z hz ⟨h1, h2⟩
      obtain ⟨r, hr, rfl⟩ := mem_getD (d := d) ((hm z).2 hz)
      rcases Nat.lt_or_ge i r with h3 | h3
      · rcases Nat.lt_or_ge (i + 1) r with h4 | h4
        · have := hs (i + 1) r h4 hr
          omega
        · obtain rfl : r = i + 1 := by omega
          omega
      · rcases Nat.lt_or_ge r i with h4 | h4
        · have := hs r i h4 (by omega)
          omega
        · obtain rfl : r = i := by omega
          omega

theorem pairs_next {K : α → Int} {Q : α → α → Prop} {B : α → α → α → Prop} {c : List α} (hn : c.Nodup) (hK : ∀ x y, x ∈ c → y ∈ c → K x = K y → x = y) (hQ : ∀ x y, Q x y → Q y x)
    (hB : ∀ z x y, B z x y → B z y x) (h1 : ∀ x y z, x ∈ c → y ∈ c → z ∈ c → K x ≤ K z → K z ≤ K y → B z x y) (h2 : ∀ x y z, x ∈ c → y ∈ c → z ∈ c → K x ≤ K y → B z x y → K x ≤ K z ∧ K z ≤ K y) :
    (∀ i k, i < c.length → k < i → (∀ j, j < c.length → j ≠ i → j ≠ k → ¬ B (c.getD j d) (c.getD i d) (c.getD k d)) → Q (c.getD i d) (c.getD k d)) ↔ ∀ x y, Next K c x y → Q x y := by
  constructor
  · rintro h x y ⟨hx, hy, hlt, hno⟩
    obtain ⟨p, hp1, rfl⟩ := mem_getD (d := d) hx
    obtain ⟨q, hq1, rfl⟩ := mem_getD (d := d) hy
    have free : ∀ j, j < c.length → j ≠ p → j ≠ q → ¬ B (c.getD j d) (c.getD p d) (c.getD q d) := fun j hj n1 n2 hb => by
      have hz := getD_mem (d := d) hj
      obtain ⟨k1, k2⟩ := h2 _ _ _ hx hy hz (by omega) hb
      refine hno _ hz ⟨?_, ?_⟩
      · rcases Int.lt_or_le (K (c.getD p d)) (K (c.getD j d)) with h3 | h3
        · exact h3
        · exact absurd (nodup_getD hn hj hp1 (hK _ _ hz hx (by omega))) n1
      · rcases Int.lt_or_le (K (c.getD j d)) (K (c.getD q d)) with h3 | h3
        · exact h3
        · exact absurd (nodup_getD hn hj hq1 (hK _ _ hz hy (by omega))) n2
    rcases Nat.lt_trichotomy p q with h3 | h3 | h3
    · exact hQ _ _ (h q p hq1 h3 (fun j hj n1 n2 hb => free j hj n2 n1 (hB _ _ _ hb)))
    · subst h3; omega
    · exact h p q hp1 h3 free
  · intro h i k hi hk free
    have hx := getD_mem (d := d) hi
    have hy : c.getD k d ∈ c := getD_mem (d := d) (by omega)
    have go : ∀ p q, p < c.length → q < c.length → p ≠ q → (∀ j, j < c.length → j ≠ p → j ≠ q → ¬ B (c.getD j d) (c.getD p d) (c.getD q d)) → K (c.getD p d) ≤ K (c.getD q d) → Q (c.getD p d) (c.getD q d) := fun p q hp hq hne hfr hle => by
      have hx := getD_mem (d := d) hp
      have hy := getD_mem (d := d) hq
      refine h _ _ ⟨hx, hy, ?_, ?_⟩
      · rcases Int.lt_or_le (K (c.getD p d)) (K (c.getD q d)) with h3 | h3
        · exact h3
        · exact absurd (nodup_getD hn hp hq (hK _ _ hx hy (by omega))) hne
      · rintro z hz ⟨g1, g2⟩
        obtain ⟨j, hj, rfl⟩ := mem_getD (d := d) hz
        refine hfr j hj (fun e => by subst e; omega) (fun e => by subst e; omega) (h1 _ _ _ hx hy hz (by omega) (by omega))
    rcases Int.le_total (K (c.getD i d)) (K (c.getD k d)) with h3 | h3
    · exact go i k hi (by omega) (by omega) free h3
    · exact hQ _ _ (go k i (by omega) hi (by omega) (fun j hj n1 n2 hb => free j hj n2 n1 (hB _ _ _ hb)) h3)
end

end Go.Proofs.Ytanagdlikoinaaa
