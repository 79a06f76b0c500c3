/-
  Twice the area of a room, counted over its floor. No program in sight.
-/
import Derived.Test.YtjccilpjaaiicaaJ5
namespace Go.Proofs.Ytjccilpjaaiicaa
namespace Jor

theorem sm_swap (f : Nat → Nat → Int) (m : Nat) : ∀ n, sm (fun i => sm (fun j => f i j) m) n = sm (fun j => sm (fun i => f i j) n) m
  | 0 => (sm_zero m).symm
  | n + 1 => by
    show sm (fun i => sm (fun j => f i j) m) n + sm (fun j => f n j) m = sm (fun j => sm (fun i => f i j) n + f n j) m
    rw [sm_add, sm_swap f m n]
/-- a sum over a box -/
def bx (x0 y0 : Int) (N H : Nat) (F : P → Int) : Int := sm (fun k => sm (fun j => F (x0 + (j : Nat), y0 + (k : Nat))) N) H
section
variable {x0 y0 : Int} {N H : Nat}
theorem bx_congr {F G : P → Int} (h : ∀ p : P, x0 ≤ p.1 → p.1 < x0 + N → y0 ≤ p.2 → p.2 < y0 + H → F p = G p) : bx x0 y0 N H F = bx x0 y0 N H G :=
  sm_congr _ _ H fun k hk => sm_congr _ _ N fun j hj => h _ (by simp only; omega) (by simp only; omega) (by simp only; omega) (by simp only; omega)
theorem bx_add (F G : P → Int) : bx x0 y0 N H (fun p => F p + G p) = bx x0 y0 N H F + bx x0 y0 N H G := by
  unfold bx
  rw [← sm_add]
  exact sm_congr _ _ H fun k _ => sm_add _ _ N
theorem bx_mul (c : Int) (F : P → Int) : bx x0 y0 N H (fun p => c * F p) = c * bx x0 y0 N H F := by
  unfold bx
  rw [← sm_mul]
  exact sm_congr _ _ H fun k _ => sm_mul c _ N
theorem bx_sm (F : Nat → P → Int) (n : Nat) : bx x0 y0 N H (fun p => sm (fun i => F i p) n) = sm (fun i => bx x0 y0 N H (F i)) n := by
  unfold bx
  rw [sm_swap (fun i k => sm (fun j => F i (x0 + (j : Nat), y0 + (k : Nat))) N) H n]
  exact sm_congr _ _ H fun k _ => (sm_swap (fun i j => F i (x0 + (j : Nat), y0 + (k : Nat))) N n).symm
/-- one place of the box -/
theorem bx_one (q : P) (c : Int) (h1 : x0 ≤ q.1) (h2 : q.1 < x0 + N) (h3 : y0 ≤ q.2) (h4 : q.2 < y0 + H) : bx x0 y0 N H (fun p => if p = q then c else 0) = c := by
  obtain ⟨a, ha⟩ : ∃ a : Nat, q.1 = x0 + a := ⟨(q.1 - x0).toNat, by omega⟩
  obtain ⟨b, hb⟩ : ∃ b : Nat, q.2 = y0 + b := ⟨(q.2 - y0).toNat, by omega⟩
  unfold bx
  rw [sm_one (d := b) H (by omega) ?_, sm_one (d := a) N (by omega) ?_]
  · exact if_pos (Prod.ext ha.symm hb.symm)
  · intro i hi hne
    refine if_neg ?_
    intro e
    have := congrArg Prod.fst e
    simp only at this
    omega
  · intro i hi hne
    rw [sm_congr _ (fun _ => 0) N ?_, sm_zero]
    intro j hj
    refine if_neg ?_
    intro e
    have := congrArg Prod.snd e
    simp only at this
    omega
end

/-! ## A room's box -/
def bX (l : List P) : Int := loX l l.length
def bY (l : List P) : Int := loY l l.length
def bN (l : List P) : Nat := (hiX l l.length - loX l l.length + 1).toNat
def bH (l : List P) : Nat := (hiY l l.length - loY l l.length + 1).toNat
/-- a sum over a room's box -/
def rx (l : List P) (F : P → Int) : Int := bx (bX l) (bY l) (bN l) (bH l) F
section
variable {l : List P} (hr : roomB l = true)
include hr
theorem box_nums : (-40 ≤ bX l ∧ bX l ≤ 40) ∧ (-40 ≤ bY l ∧ bY l ≤ 40) ∧ bX l + (bN l : Int) ≤ 41 ∧ bY l + (bH l : Int) ≤ 41 ∧ (bN l : Int) ≤ 81 ∧ (bH l : Int) ≤ 81 := by
  obtain ⟨hf, h3⟩ := roomB_fine hr
  have h := box_bd hf (by omega) l.length (Nat.le_refl _)
  unfold bX bY bN bH
  omega
theorem in_box {k : Nat} (hk : k < l.length) : bX l ≤ (pt l k).1 ∧ (pt l k).1 < bX l + bN l ∧ bY l ≤ (pt l k).2 ∧ (pt l k).2 < bY l + bH l := by
  have _ := hr
  have h := box_in (l := l) l.length k hk
  unfold bX bY bN bH pt
  simp only
  omega
/-- the sum of all the pushed points' sums is twice the area -/
theorem area_box : rx l (fun p => wR (hv l) l.length (hm MM p) + wL (hv l) l.length (hm MM p)) = areaZ l := by
  have h3 := (room_z hr).1.1
  have hb := box_nums hr
  have e1 : rx l (fun p => wR (hv l) l.length (hm MM p) + wL (hv l) l.length (hm MM p)) = sm (fun i => box MM (bX l) (bY l) (bN l) (bH l) (pt l i) (pt l (nx l.length i))) l.length := by
    have e2 : ∀ p, wR (hv l) l.length (hm MM p) + wL (hv l) l.length (hm MM p) = sm (fun i => cc MM (pt l i) (pt l (nx l.length i)) p) l.length := fun p => by
      unfold wR wL
      rw [← sm_add]
      rfl
    unfold rx
    rw [bx_congr fun p _ _ _ _ => e2 p, bx_sm]
    rfl
  rw [e1]
  have e3 : ∀ i, i < l.length → box MM (bX l) (bY l) (bN l) (bH l) (pt l i) (pt l (nx l.length i)) = (gx l i * gy l (Go.Proofs.Ytjccilpjaaiicaa.nx l i) - gy l i * gx l (Go.Proofs.Ytjccilpjaaiicaa.nx l i)) + ((gx l ((i + 1) % l.length) * gy l ((i + 1) % l.length) - gx l i * gy l i) + ((1 - 2 * bX l) * (gy l ((i + 1) % l.length) - gy l i) + (-1) * (gx l ((i + 1) % l.length) - gx l i))) := fun i hi => by
    have hn := nx_lt (n := l.length) (i := i) (by omega)
    have b1 := in_box hr hi
    have b2 := in_box hr hn
    rw [box_any (by decide) (by unfold MM; omega) ⟨b1.1, b1.2.1⟩ ⟨b2.1, b2.2.1⟩ ⟨b1.2.2.1, b1.2.2.2⟩ ⟨b2.2.2.1, b2.2.2.2⟩ (pt_ne hr hi hn (Ne.symm (nx_ne (by omega) hi)))]
    unfold pt nx Go.Proofs.Ytjccilpjaaiicaa.nx
    simp only
    grind
  rw [sm_congr _ _ _ e3, sm_add, sm_add, sm_add, sm_mul, sm_mul, sm_trip (gy l) (by omega), sm_trip (gx l) (by omega), sm_trip (fun i => gx l i * gy l i) (by omega)]
  unfold areaZ
  rw [areaTo_sm]
  omega
end
theorem room_sml {l : List P} (hr : roomB l = true) : Sml l := fun k hk => within_more (within_of_pok ((roomB_fine hr).1.pok hk)) (by decide)
/-- on a wall, but no corner of it -/
theorem on_of_onE {q : List P} (hs : Sml q) {p : P} (hp : within 1000 p.1 p.2) {k : Nat} (hk : k < q.length) (ho : onE q p.1 p.2 k = true) (h1 : p ≠ pt q k) (h2 : p ≠ pt q (nx q.length k)) : On (hm MM p) (hv q k) (hv q (nx q.length k)) := by
  have n1 := nr_sml hs hp hk
  have n2 := nr_sml hs hp (nx_lt (n := q.length) (i := k) (by omega))
  rw [onE_onZ hs hp hk] at ho
  have a1 := hm_lt (M := MM) n1.1 n1.2
  have a2 := hm_lt (M := MM) n1.2 n1.1
  have a3 := hm_lt (M := MM) n2.1 n2.2
  have a4 := hm_lt (M := MM) n2.2 n2.1
  have a5 := hm_neg (M := MM) (by decide) (pt q k) (pt q (nx q.length k)) p
  have a6 := hm_pos (M := MM) (by decide) (pt q k) (pt q (nx q.length k)) p
  unfold On hv
  generalize pt q k = a at *
  generalize pt q (nx q.length k) = b at *
  unfold onZB inB at ho
  simp only [Bool.and_eq_true, decide_eq_true_eq] at ho
  obtain ⟨ht, hx, hy⟩ := ho
  have ht' : tu a b p = 0 := ht
  refine ⟨?_, by omega⟩
  rw [a1, a2, a3, a4]
  have p1 : ¬ (p.1 = a.1 ∧ p.2 = a.2) := fun h => h1 (Prod.ext h.1 h.2)
  have p2 : ¬ (p.1 = b.1 ∧ p.2 = b.2) := fun h => h2 (Prod.ext h.1 h.2)
  by_cases e : a.2 = b.2
  · omega
  · have l1 : p.2 = a.2 → p.1 = a.1 := fun h => by
      have e2 : (a.1 - p.1) * (b.2 - a.2) = 0 := by rw [← ht']; unfold tu; rw [h]; grind
      rcases Int.mul_eq_zero.1 e2 with g | g <;> omega
    have l2 : p.2 = b.2 → p.1 = b.1 := fun h => by
      have e2 : (b.1 - p.1) * (b.2 - a.2) = 0 := by rw [← ht']; unfold tu; rw [h]; grind
      rcases Int.mul_eq_zero.1 e2 with g | g <;> omega
    omega
/-- on no wall, or on one and no corner, or a corner -/
theorem place_sum {l : List P} (hr : roomB l = true) {ts : List T3} (h : Trg (hv l) l.length ts) {p : P} (hp : within 1000 p.1 p.2) : wR (hv l) l.length (hm MM p) + wL (hv l) l.length (hm MM p) = 2 * (if placeV l p.1 p.2 = 2 then 1 else 0) + ((if placeV l p.1 p.2 = 1 then 1 else 0) + sm (fun j => if p = pt l j then wR (hv l) l.length (hv l j) + wL (hv l) l.length (hv l j) + -1 else 0) l.length) := by
  have hs := room_sml hr
  have hR := h.upR (hm MM p)
  have hL := h.upL (hm MM p)
  have hR0 : 0 ≤ wR (hv l) l.length (hm MM p) := by
    rw [← h.sumR]
    exact ss_nn ts fun t ht => (h.nn ht _).1
  have hL0 : 0 ≤ wL (hv l) l.length (hm MM p) := by
    rw [← h.sumL]
    exact ss_nn ts fun t ht => (h.nn ht _).2
  by_cases hc : ∃ j, j < l.length ∧ p = pt l j
  · obtain ⟨j, hj, rfl⟩ := hc
    have e1 : placeV l (pt l j).1 (pt l j).2 = 1 := by
      refine placeV_one.2 ⟨j, hj, ?_⟩
      rw [onE_onZ hs hp hj]
      unfold onZB inB
      have h1 : turnZ (pt l j).1 (pt l j).2 (pt l (nx l.length j)).1 (pt l (nx l.length j)).2 (pt l j).1 (pt l j).2 = 0 := tu_fst _ _
      rw [h1]
      simp only [decide_true, Bool.true_and, Bool.and_eq_true, decide_eq_true_eq]
      omega
    rw [e1, sm_one (d := j) l.length hj fun i hi hne => if_neg (pt_ne hr hj hi (Ne.symm hne)), if_pos rfl, if_neg (by decide), if_pos rfl]
    unfold hv
    omega
  · have z : sm (fun j => if p = pt l j then wR (hv l) l.length (hv l j) + wL (hv l) l.length (hv l j) + -1 else 0) l.length = 0 := by
      rw [sm_congr _ (fun _ => 0) _ fun j hj => if_neg fun e => hc ⟨j, hj, e⟩, sm_zero]
    rw [z]
    by_cases ho : placeV l p.1 p.2 = 1
    · obtain ⟨k, hk, hk2⟩ := placeV_one.1 ho
      have hn := nx_lt (n := l.length) (i := k) (by omega)
      have hon := on_of_onE hs hp hk hk2 (fun e => hc ⟨_, hk, e⟩) (fun e => hc ⟨_, hn, e⟩)
      have d := wLR_on h.hs hk (p := hm MM p) (fun j hj => hm_ne (by decide) (nr_sml hs hp hj) fun e => hc ⟨_, hj, e.symm⟩) hon
      rw [ho, if_neg (by decide), if_pos rfl]
      split at d <;> omega
    · have hof := off_walls hs hp (off_of_ne ho)
      have w1 := wR_off (v := hv l) (n := l.length) hof.2
      have w2 := wL_off (v := hv l) (n := l.length) hof.2 hof.1
      rcases place_wn h hs hp (off_of_ne ho) with ⟨k1, k2⟩ | ⟨k1, k2⟩
      · rw [k2, if_pos rfl, if_neg (by decide)]
        omega
      · rw [k2, if_neg (by decide), if_neg (by decide)]
        omega
/-- Pick -/
theorem pick {l : List P} (hr : roomB l = true) {ts : List T3} (h : Trg (hv l) l.length ts) : areaZ l = 2 * rx l (fun p => if placeV l p.1 p.2 = 2 then 1 else 0) + rx l (fun p => if placeV l p.1 p.2 = 1 then 1 else 0) - 2 := by
  have hb := box_nums hr
  rw [← area_box hr]
  have e1 : rx l (fun p => wR (hv l) l.length (hm MM p) + wL (hv l) l.length (hm MM p)) = rx l (fun p => 2 * (if placeV l p.1 p.2 = 2 then 1 else 0) + ((if placeV l p.1 p.2 = 1 then 1 else 0) + sm (fun j => if p = pt l j then wR (hv l) l.length (hv l j) + wL (hv l) l.length (hv l j) + -1 else 0) l.length)) := by
    refine bx_congr fun p h1 h2 h3 h4 => place_sum hr h ?_
    unfold within
    omega
  rw [e1]
  unfold rx
  rw [bx_add, bx_add, bx_mul, bx_sm, sm_congr _ (fun j => wR (hv l) l.length (hv l j) + wL (hv l) l.length (hv l j) + -1) _ fun j hj => ?_, sm_add, h.corners, sm_const]
  · omega
  · have b1 := in_box hr hj
    exact bx_one _ _ b1.1 b1.2.1 b1.2.2.1 b1.2.2.2

/-! ## The floor -/
theorem rowL_length (l : List P) (y x : Int) : ∀ n, ((rowL l y x n).length : Int) = sm (fun j => if placeV l (x + (j : Nat)) y ≠ 0 then 1 else 0) n
  | 0 => rfl
  | n + 1 => by
    rw [rowL_succ, sm, ← rowL_length l y x n]
    by_cases e : placeV l (x + (n : Nat)) y = 0
    · rw [if_neg (by simp [e]), if_neg (by simp [e])]
      omega
    · rw [if_pos (by simp [e]), if_pos e, List.length_append]
      simp
theorem rowsL_length (l : List P) (y x : Int) (m : Nat) : ∀ n, ((rowsL l y x m n).length : Int) = bx x y m n (fun p => if placeV l p.1 p.2 ≠ 0 then 1 else 0)
  | 0 => rfl
  | n + 1 => by
    have ih := rowsL_length l y x m n
    rw [rowsL_succ, List.length_append, Int.natCast_add, ih, rowL_length]
    rfl
theorem floor_length (l : List P) : ((floorL l).length : Int) = rx l (fun p => if placeV l p.1 p.2 = 2 then 1 else 0) + rx l (fun p => if placeV l p.1 p.2 = 1 then 1 else 0) := by
  unfold floorL
  rw [rowsL_length]
  unfold rx
  rw [← bx_add]
  refine bx_congr fun p _ _ _ _ => ?_
  rcases placeV_cases l p.1 p.2 with e | e | e <;> rw [e] <;> rfl
theorem mem_rowL {l : List P} {y x : Int} {p : P} : ∀ n, p ∈ rowL l y x n ↔ p.2 = y ∧ x ≤ p.1 ∧ p.1 < x + n ∧ placeV l p.1 p.2 ≠ 0
  | 0 => by
    simp only [rowL, List.not_mem_nil, false_iff]
    omega
  | n + 1 => by
    have ih := mem_rowL (l := l) (y := y) (x := x) (p := p) n
    rw [rowL_succ]
    split
    · rename_i h
      rw [List.mem_append, ih, List.mem_singleton]
      have h' : placeV l (x + n) y ≠ 0 := by simpa using h
      constructor
      · rintro (h1 | rfl)
        · refine ⟨h1.1, h1.2.1, by omega, h1.2.2.2⟩
        · exact ⟨rfl, by simp only; omega, by simp only; omega, h'⟩
      · rintro ⟨h1, h2, h3, h4⟩
        by_cases e : p.1 = x + n
        · exact .inr (Prod.ext e h1)
        · exact .inl ⟨h1, h2, by omega, h4⟩
    · rename_i h
      rw [ih]
      have h' : placeV l (x + n) y = 0 := by simpa using h
      constructor
      · rintro ⟨h1, h2, h3, h4⟩
        exact ⟨h1, h2, by omega, h4⟩
      · rintro ⟨h1, h2, h3, h4⟩
        refine ⟨h1, h2, ?_, h4⟩
        by_cases e : p.1 = x + n
        · rw [h1, e] at h4
          exact absurd h' h4
        · omega
theorem mem_rowsL {l : List P} {y x : Int} {m : Nat} {p : P} : ∀ n, p ∈ rowsL l y x m n ↔ (y ≤ p.2 ∧ p.2 < y + n) ∧ x ≤ p.1 ∧ p.1 < x + m ∧ placeV l p.1 p.2 ≠ 0
  | 0 => by
    simp only [rowsL, List.not_mem_nil, false_iff]
    omega
  | n + 1 => by
    have ih := mem_rowsL (l := l) (y := y) (x := x) (m := m) (p := p) n
    rw [rowsL_succ, List.mem_append, ih, mem_rowL]
    constructor
    · rintro (⟨h1, h2⟩ | ⟨h1, h2⟩)
      · exact ⟨by omega, h2⟩
      · exact ⟨by omega, h2⟩
    · rintro ⟨h1, h2⟩
      by_cases e : p.2 = y + n
      · exact .inr ⟨e, h2⟩
      · exact .inl ⟨by omega, h2⟩
theorem mem_floor {l : List P} {p : P} : p ∈ floorL l ↔ (bY l ≤ p.2 ∧ p.2 < bY l + bH l) ∧ bX l ≤ p.1 ∧ p.1 < bX l + bN l ∧ placeV l p.1 p.2 ≠ 0 := mem_rowsL _

end Jor
end Go.Proofs.Ytjccilpjaaiicaa
