/-
  Closed triangles of a room and the points in the room. No program in sight.
-/
import Derived.Test.YtanagdlikoinaaaJ5
import Derived.Test.YtanagdlikoinaaaJ4
namespace Go.Proofs.Ytanagdlikoinaaa
namespace Jor

theorem placeIn_at {l : List P} (hr : roomB l = true) {x y : Int} (hq : pok x y = true) : placeInV l x y = placeV l x y := by
  unfold placeInV
  rw [if_pos hq, if_pos hr]
theorem in_hm {M : Int} (hM : 0 < M) {p a b c : P} : In (hm M p) (hm M a) (hm M b) (hm M c) ↔ In p a b c := by
  have h1 := hm_neg hM a b p
  have h2 := hm_neg hM b c p
  have h3 := hm_neg hM c a p
  unfold In
  omega
/-- a coordinate of a closed triangle's point lies between the corners' -/
theorem in_ge {p a b c : P} (ht : 0 < tu a b c) (h : In p a b c) (f : P → Int) (hf : tu b c p * f a + tu c a p * f b + tu a b p * f c = tu a b c * f p) {x : Int} (ha : x ≤ f a) (hb : x ≤ f b) (hc : x ≤ f c) : x ≤ f p := by
  obtain ⟨h1, h2, h3⟩ := h
  have e := bary1 p a b c
  have k1 := Int.mul_nonneg h2 (show 0 ≤ f a - x by omega)
  have k2 := Int.mul_nonneg h3 (show 0 ≤ f b - x by omega)
  have k3 := Int.mul_nonneg h1 (show 0 ≤ f c - x by omega)
  have k4 : tu a b c * (f p - x) = tu b c p * (f a - x) + tu c a p * (f b - x) + tu a b p * (f c - x) := by
    rw [Int.mul_sub, ← hf, ← e]
    grind
  rcases Int.lt_or_le (f p) x with g | g
  · have := Int.mul_pos ht (show 0 < x - f p by omega)
    have e2 : tu a b c * (x - f p) = - (tu a b c * (f p - x)) := by grind
    omega
  · exact g
theorem in_between {p a b c : P} (ht : 0 < tu a b c) (h : In p a b c) : (∀ x, x ≤ a.1 → x ≤ b.1 → x ≤ c.1 → x ≤ p.1) ∧ (∀ x, a.1 < x → b.1 < x → c.1 < x → p.1 < x) ∧ (∀ x, x ≤ a.2 → x ≤ b.2 → x ≤ c.2 → x ≤ p.2) ∧ (∀ x, a.2 < x → b.2 < x → c.2 < x → p.2 < x) := by
  have e1 := bary_fst a b c p
  have e2 := bary_snd a b c p
  refine ⟨fun x k1 k2 k3 => in_ge ht h (fun q => q.1) e1 k1 k2 k3, fun x k1 k2 k3 => ?_, fun x k1 k2 k3 => in_ge ht h (fun q => q.2) e2 k1 k2 k3, fun x k1 k2 k3 => ?_⟩
  · have := in_ge ht h (fun q => -q.1) (by grind) (x := 1 - x) (by omega) (by omega) (by omega)
    omega
  · have := in_ge ht h (fun q => -q.2) (by grind) (x := 1 - x) (by omega) (by omega) (by omega)
    omega
/-- a point inside lies in some closed triangle -/
theorem inside_tri {q : List P} {ts : List T3} (h : Trg (hv q) q.length ts) (hs : Sml q) {p : P} (hp : within 1000 p.1 p.2) (h2 : placeV q p.1 p.2 = 2) : ∃ t, t ∈ ts ∧ InT (hv q) (hm MM p) t := by
  have hof := off_of_ne (show placeV q p.1 p.2 ≠ 1 by omega)
  rcases place_wn h hs hp hof with ⟨k1, _⟩ | ⟨_, k2⟩
  · have w1 := wR_off (v := hv q) (n := q.length) (off_walls hs hp hof).2
    have hsum := h.sumR (hm MM p)
    obtain ⟨t, ht, hpos⟩ := ss_pos (f := trR (hv q) (hm MM p)) ts (by omega)
    refine ⟨t, ht, ?_⟩
    have c := (h.core ht (rot_self t) (hm MM p)).1
    rcases c with c | c
    · omega
    · exact c.2
  · omega
/-- outside the box all points are outside -/
theorem out_box {l : List P} (hr : roomB l = true) {ts : List T3} (h : Trg (hv l) l.length ts) {p : P} (hq : pok p.1 p.2 = true) (hp : placeV l p.1 p.2 ≠ 0) : (bY l ≤ p.2 ∧ p.2 < bY l + bH l) ∧ bX l ≤ p.1 ∧ p.1 < bX l + bN l := by
  have h3 := (room_z hr).1.1
  have hw : within 1000 p.1 p.2 := within_more (within_of_pok hq) (by decide)
  have hs := room_sml hr
  rcases placeV_cases l p.1 p.2 with e | e | e
  · exact absurd e hp
  · obtain ⟨k, hk, ho⟩ := placeV_one.1 e
    rw [onE_onZ hs hw hk] at ho
    unfold onZB inB at ho
    simp only [Bool.and_eq_true, decide_eq_true_eq] at ho
    have b1 := in_box hr hk
    have b2 := in_box hr (nx_lt (n := l.length) (i := k) (by omega))
    omega
  · obtain ⟨t, ht, hin⟩ := inside_tri h hs hw e
    obtain ⟨l1, l2, l3⟩ := h.lt ht (rot_self t)
    have hin2 := (in_hm (by decide)).1 hin
    have hpos := (hm_pos (M := MM) (by decide) _ _ _).1 (h.pos t ht)
    have hb := in_between hpos hin2
    have b1 := in_box hr l1
    have b2 := in_box hr l2
    have b3 := in_box hr l3
    exact ⟨⟨hb.2.2.1 _ b1.2.2.1 b2.2.2.1 b3.2.2.1, hb.2.2.2 _ b1.2.2.2 b2.2.2.2 b3.2.2.2⟩, hb.1 _ b1.1 b2.1 b3.1, hb.2.1 _ b1.2.1 b2.2.1 b3.2.1⟩
/-- the floor's points are those in the room -/
theorem isIn_floor {l : List P} (hr : roomB l = true) {ts : List T3} (h : Trg (hv l) l.length ts) {x y : Int} (hq : pok x y = true) : isInV l x y = decide ((x, y) ∈ floorL l) := by
  unfold isInV
  rw [placeIn_at hr hq, Bool.eq_iff_iff, bne_iff_ne, decide_eq_true_eq, mem_floor]
  constructor
  · intro hp
    have := out_box hr h (p := (x, y)) hq hp
    exact ⟨this.1, this.2.1, this.2.2, hp⟩
  · intro hh
    exact hh.2.2.2
theorem corner_place {l : List P} (hr : roomB l = true) {k : Nat} (hk : k < l.length) : placeV l (pt l k).1 (pt l k).2 = 1 := by
  have hb := room_bd hr hk
  refine placeV_one.2 ⟨k, hk, ?_⟩
  rw [onE_onZ (room_sml hr) (by unfold within; omega) hk]
  unfold onZB inB
  have h1 : turnZ (pt l k).1 (pt l k).2 (pt l (nx l.length k)).1 (pt l (nx l.length k)).2 (pt l k).1 (pt l k).2 = 0 := tu_fst _ _
  rw [h1]
  simp only [decide_true, Bool.true_and, Bool.and_eq_true, decide_eq_true_eq]
  omega
theorem corner_floor {l : List P} (hr : roomB l = true) {k : Nat} (hk : k < l.length) : pt l k ∈ floorL l := by
  have b := in_box hr hk
  rw [mem_floor, corner_place hr hk]
  exact ⟨⟨b.2.2.1, b.2.2.2⟩, b.1, b.2.1, by decide⟩

end Jor
end Go.Proofs.Ytanagdlikoinaaa
