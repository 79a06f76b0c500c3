/-
  What lies in one closed triangle of a room sees each other. No program in sight.
-/
import Derived.Test.YtjccilpjaaiicaaInTri
import Derived.Test.YtjccilpjaaiicaaDiagL
namespace Go.Proofs.Ytjccilpjaaiicaa
namespace Jor

theorem crs_of {a b c d : P} (h : crossZ a b c d = true) : Crs a b c d := by
  unfold crossZ at h
  rw [Bool.and_eq_true, decide_eq_true_eq, decide_eq_true_eq] at h
  have k : ∀ x y : Int, sgn x * sgn y < 0 → (x < 0 ∧ 0 < y) ∨ (0 < x ∧ y < 0) := fun x y hh => by
    unfold sgn at hh
    by_cases h1 : 0 < x <;> by_cases h2 : x < 0 <;> by_cases h3 : 0 < y <;> by_cases h4 : y < 0 <;> simp [h1, h2, h3, h4] at hh <;> omega
  exact ⟨k _ _ h.1, k _ _ h.2⟩
/-- a place between x and y -/
def mix (α β : Int) (x y : P) : P := (β * x.1 + α * y.1, β * x.2 + α * y.2)
theorem tu_mix (α β : Int) (a b x y : P) : tu (sc (α + β) a) (sc (α + β) b) (mix α β x y) = (α + β) * (β * tu a b x + α * tu a b y) := by
  unfold tu sc mix
  grind
theorem hm_sc (M D : Int) (a : P) : hm M (sc D a) = sc D (hm M a) := by
  unfold hm sc
  simp only
  congr 1
  grind
theorem hm_mix (M α β : Int) (x y : P) : hm M (mix α β x y) = mix α β (hm M x) (hm M y) := by
  unfold hm mix
  simp only
  congr 1
  grind
theorem tu_bd {a b c : P} (ha : within 40 a.1 a.2) (hb : within 40 b.1 b.2) (hc : within 40 c.1 c.2) : -20000 ≤ tu a b c ∧ tu a b c ≤ 20000 := by
  unfold within at ha hb hc
  have h1 := mul_bd (b.1 - a.1) (c.2 - a.2) 80 80 (by omega) (by omega) (by omega) (by omega)
  have h2 := mul_bd (b.2 - a.2) (c.1 - a.1) 80 80 (by omega) (by omega) (by omega) (by omega)
  unfold tu
  omega
section
variable {l : List P} (hr : roomB l = true) {ts : List T3} (h : Trg (hv l) l.length ts)
include hr h
theorem w40 {k : Nat} (hk : k < l.length) : within 40 (pt l k).1 (pt l k).2 := by
  have _ := h
  have := room_bd hr hk
  exact this
/-- no wall crosses the way between two points of a closed triangle -/
theorem no_cross1 {t : T3} (ht : t ∈ ts) {x y : P} (hx : within 40 x.1 x.2) (hy : within 40 y.1 y.2) (ix : InT (hv l) (hm MM x) t) (iy : InT (hv l) (hm MM y) t) {k : Nat} (hk : k < l.length) (s1 : 0 < tu (pt l k) (pt l (nx l.length k)) x) (s2 : tu (pt l k) (pt l (nx l.length k)) y < 0) (s3 : (tu x y (pt l k) < 0 ∧ 0 < tu x y (pt l (nx l.length k))) ∨ (0 < tu x y (pt l k) ∧ tu x y (pt l (nx l.length k)) < 0)) : False := by
  have h3 := (room_z hr).1.1
  have hn := nx_lt (n := l.length) (i := k) (by omega)
  have wc := w40 hr h hk
  have wd := w40 hr h hn
  obtain ⟨α, hα⟩ : ∃ α, α = tu (pt l k) (pt l (nx l.length k)) x := ⟨_, rfl⟩
  obtain ⟨β, hβ⟩ : ∃ β, β = - tu (pt l k) (pt l (nx l.length k)) y := ⟨_, rfl⟩
  have bα := tu_bd wc wd hx
  have bβ := tu_bd wc wd hy
  have hD : 0 < α + β := by omega
  have hs := h.sc hD
  have hM : (0 : Int) < MM := by decide
  -- the point where the wall meets the way, in the multiplied plane
  obtain ⟨p, hp⟩ : ∃ p, p = mix α β (hm MM x) (hm MM y) := ⟨_, rfl⟩
  have tuMM : ∀ a b c : P, tu (hm MM a) (hm MM b) (hm MM c) = MM * tu a b c := tu_hm MM
  have hin : InT (fun i => Jor.sc (α + β) (hv l i)) p t := by
    obtain ⟨x1, x2, x3⟩ := ix
    obtain ⟨y1, y2, y3⟩ := iy
    have k : ∀ a b : P, 0 ≤ tu a b (hm MM x) → 0 ≤ tu a b (hm MM y) → 0 ≤ tu (Jor.sc (α + β) a) (Jor.sc (α + β) b) p := fun a b ha hb => by
      rw [hp, tu_mix]
      have q1 := Int.mul_nonneg (show 0 ≤ β by omega) ha
      have q2 := Int.mul_nonneg (show 0 ≤ α by omega) hb
      exact Int.mul_nonneg (by omega) (by omega)
    exact ⟨k _ _ x1 y1, k _ _ x2 y2, k _ _ x3 y3⟩
  have e0 : tu (Jor.sc (α + β) (hv l k)) (Jor.sc (α + β) (hv l (nx l.length k))) p = 0 := by
    rw [hp, tu_mix]
    unfold hv
    rw [tuMM, tuMM, ← hα]
    have : tu (pt l k) (pt l (nx l.length k)) y = -β := by omega
    rw [this]
    have e : β * (MM * α) + α * (MM * -β) = 0 := by grind
    rw [e, Int.mul_zero]
  have hne := (simple_room hr).hts k (nx l.length k) hk hn (Ne.symm (nx_ne (by omega) hk))
  have hon : On p (Jor.sc (α + β) (hv l k)) (Jor.sc (α + β) (hv l (nx l.length k))) := by
    refine ⟨?_, e0⟩
    have f0 := aff0 x y (pt l k) (pt l (nx l.length k))
    have sgnc : tu x y (pt l k) < 0 ∧ 0 < tu x y (pt l (nx l.length k)) := by omega
    have g1 : MM * (p.2 - (α + β) * (hv l k).2) = MM * (- tu x y (pt l k) * ((hv l (nx l.length k)).2 - (hv l k).2)) := by
      have f := aff (hm MM x) (hm MM y) (hv l k) (hv l (nx l.length k)) (hv l k).2
      unfold hv at f ⊢
      rw [tuMM, tuMM, tuMM, tuMM, ← hα] at f
      have : tu (pt l k) (pt l (nx l.length k)) y = -β := by omega
      rw [this] at f
      rw [hp]
      unfold mix
      simp only
      grind
    have g2 : MM * (p.2 - (α + β) * (hv l (nx l.length k)).2) = MM * (tu x y (pt l (nx l.length k)) * ((hv l k).2 - (hv l (nx l.length k)).2)) := by
      have f := aff (hm MM x) (hm MM y) (hv l k) (hv l (nx l.length k)) (hv l (nx l.length k)).2
      unfold hv at f ⊢
      rw [tuMM, tuMM, tuMM, tuMM, ← hα] at f
      have : tu (pt l k) (pt l (nx l.length k)) y = -β := by omega
      rw [this] at f
      rw [hp]
      unfold mix
      simp only
      grind
    have g1' := Int.eq_of_mul_eq_mul_left (by decide) g1
    have g2' := Int.eq_of_mul_eq_mul_left (by decide) g2
    have m1 := sgm (- tu x y (pt l k)) ((hv l (nx l.length k)).2 - (hv l k).2)
    have m2 := sgm (tu x y (pt l (nx l.length k))) ((hv l k).2 - (hv l (nx l.length k)).2)
    have c1 : (Jor.sc (α + β) (hv l k)).2 = (α + β) * (hv l k).2 := rfl
    have c2 : (Jor.sc (α + β) (hv l (nx l.length k))).2 = (α + β) * (hv l (nx l.length k)).2 := rfl
    rw [c1, c2]
    clear hin hs ix iy hα hβ hp e0 g1 g2 f0 s3 tuMM
    omega
  have hg : ∀ j, j < l.length → (Jor.sc (α + β) (hv l j)).2 ≠ p.2 := by
    intro j hj e
    have e2 : Jor.sc (α + β) (hv l j) = hm MM (Jor.sc (α + β) (pt l j)) := (hm_sc MM (α + β) (pt l j)).symm
    have e3 : p = hm MM (mix α β x y) := by rw [hp, hm_mix]
    have wj := w40 hr h hj
    have hnr : Nr MM (Jor.sc (α + β) (pt l j)) (mix α β x y) := by
      unfold within at wj hx hy
      have m1 := mul_bd β ((pt l j).1 - x.1) 20000 80 (by omega) (by omega) (by omega) (by omega)
      have m2 := mul_bd α ((pt l j).1 - y.1) 20000 80 (by omega) (by omega) (by omega) (by omega)
      have e4 : (α + β) * (pt l j).1 - (β * x.1 + α * y.1) = β * ((pt l j).1 - x.1) + α * ((pt l j).1 - y.1) := by grind
      unfold Nr mix Jor.sc MM
      simp only
      omega
    have e5 : Jor.sc (α + β) (pt l j) = mix α β x y := by
      by_cases e6 : Jor.sc (α + β) (pt l j) = mix α β x y
      · exact e6
      · rw [e2, e3] at e
        exact absurd e (hm_ne hM hnr e6)
    have e7 : Jor.sc (α + β) (hv l j) = p := by rw [e2, e5, e3]
    have j1 : j ≠ k := by rintro rfl; have := hon.1; rw [← e7] at this; omega
    have j2 : j ≠ nx l.length k := by rintro rfl; have := hon.1; rw [← e7] at this; omega
    have := hs.hs.off k j hk hj j1 j2
    rw [e7] at this
    exact this hon.1 hon.2
  obtain ⟨c, hrot, _⟩ := hs.on_wall ht hin hg hk hon
  have iy' := (hrot.inT (hv l) (hm MM y)).1 iy
  have := iy'.1
  unfold hv at this
  rw [tuMM] at this
  have := mul_neg' s2 hM
  rw [Int.mul_comm] at this
  omega
theorem no_cross {t : T3} (ht : t ∈ ts) {x y : P} (hx : within 40 x.1 x.2) (hy : within 40 y.1 y.2) (ix : InT (hv l) (hm MM x) t) (iy : InT (hv l) (hm MM y) t) {k : Nat} (hk : k < l.length) : ¬ Crs (pt l k) (pt l (nx l.length k)) x y := by
  rintro ⟨h1, h2⟩
  rcases h2 with ⟨s1, s2⟩ | ⟨s1, s2⟩
  · exact no_cross1 hr h ht hy hx iy ix hk s2 s1 (by rw [tu_swap x y, tu_swap x y]; omega)
  · exact no_cross1 hr h ht hx hy ix iy hk s1 s2 h1
end

end Jor
end Go.Proofs.Ytjccilpjaaiicaa
