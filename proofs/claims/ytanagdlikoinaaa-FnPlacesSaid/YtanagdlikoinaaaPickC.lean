/-
  What FnAreas and FnPlaces ask of a drawn room. No program in sight.
-/
import Derived.Test.YtanagdlikoinaaaPickB
import Derived.Test.YtanagdlikoinaaaInTri
import Derived.Test.YtanagdlikoinaaaTriR
import Derived.Test.YtanagdlikoinaaaCountIn
import Derived.Test.YtanagdlikoinaaaJ4
namespace Go.Proofs.Ytanagdlikoinaaa
namespace Jor

theorem lat_pos {a b c d : Int} (h : wok a b c d = true) : 1 ≤ latV a b c d := by
  unfold latV
  rw [if_pos h]
  have hb := (wok_bd h).2
  have : 0 < Nat.gcd (a - c).natAbs (b - d).natAbs := by
    rcases Nat.eq_zero_or_pos (Nat.gcd (a - c).natAbs (b - d).natAbs) with h | h
    · rw [Nat.gcd_eq_zero_iff] at h
      omega
    · exact h
  omega
theorem sm_ge {f : Nat → Int} : ∀ n, (∀ i, i < n → 1 ≤ f i) → (n : Int) ≤ sm f n
  | 0, _ => Int.le_refl _
  | n + 1, h => by
    have := sm_ge n fun i hi => h i (by omega)
    have := h n (by omega)
    rw [sm]
    omega
/-- the inner points -/
def inI (l : List P) : Int := rx l (fun p => if placeV l p.1 p.2 = 2 then 1 else 0)
theorem areas_plain {L : List P} (hD : Drawn L) : roomB L = true ∧ innerV L = inI L ∧ innerV L + edgeV L = (floorL L).length ∧ areaZ L = 2 * innerV L + edgeV L - 2 ∧ 0 < areaZ L ∧ (L.length : Int) ≤ edgeV L := by
  obtain ⟨hr, ts, hc, h⟩ := drawn_trg hD
  have hp := pick hr h
  have he := edge_count hr
  have hf := floor_length L
  have hI : innerV L = inI L := by
    unfold innerV
    rw [if_pos hr]
    have e : areaZ L - edgeV L + 2 = 2 * inI L := by
      unfold inI
      omega
    rw [e]
    exact Int.mul_tdiv_cancel_left _ (by decide)
  have hge : (L.length : Int) ≤ edgeV L := by
    unfold edgeV
    rw [if_pos hr, edgeTo_sm]
    exact sm_ge _ fun i hi => lat_pos (room_wok hr hi)
  refine ⟨hr, hI, ?_, ?_, (room_z hr).2.2.2, hge⟩
  · rw [hI]
    unfold inI
    omega
  · rw [hI]
    unfold inI
    omega

/-! ## FnPlaces -/
/-- a sum over a list of points -/
def ls (G : P → Int) : List P → Int
  | [] => 0
  | p :: r => G p + ls G r
theorem ls_append (G : P → Int) : ∀ a b, ls G (a ++ b) = ls G a + ls G b
  | [], b => by simp [ls]
  | p :: a, b => by simp only [List.cons_append, ls, ls_append G a b]; omega
theorem ls_row (G : P → Int) (l : List P) (y x : Int) : ∀ n, ls G (rowL l y x n) = sm (fun j => if placeV l (x + (j : Nat)) y ≠ 0 then G (x + (j : Nat), y) else 0) n
  | 0 => rfl
  | n + 1 => by
    rw [rowL_succ, sm, ← ls_row G l y x n]
    by_cases e : placeV l (x + (n : Nat)) y = 0
    · rw [if_neg (by simp [e]), if_neg (by simp [e])]
      omega
    · rw [if_pos (by simp [e]), if_pos e, ls_append]
      simp [ls]
theorem ls_rows (G : P → Int) (l : List P) (y x : Int) (m : Nat) : ∀ n, ls G (rowsL l y x m n) = bx x y m n (fun p => if placeV l p.1 p.2 ≠ 0 then G p else 0)
  | 0 => rfl
  | n + 1 => by
    have ih := ls_rows G l y x m n
    rw [rowsL_succ, ls_append, ih, ls_row]
    rfl
theorem ls_floor (G : P → Int) (l : List P) : ls G (floorL l) = rx l (fun p => if placeV l p.1 p.2 ≠ 0 then G p else 0) := ls_rows G l _ _ _ _
theorem ls_sm (G : P → Int) : ∀ f : List P, ls G f = sm (fun k => G (gx f k, gy f k)) f.length
  | [] => rfl
  | p :: r => by
    have h := sm_split (fun k => G (gx (p :: r) k, gy (p :: r) k)) 1 r.length
    rw [List.length_cons, Nat.add_comm r.length 1, h, ls, ls_sm G r]
    have e : sm (fun k => G (gx (p :: r) (1 + k), gy (p :: r) (1 + k))) r.length = sm (fun k => G (gx r k, gy r k)) r.length := sm_congr _ _ _ fun i _ => by
      rw [Nat.add_comm 1 i]
      rfl
    rw [e]
    have e2 : sm (fun k => G (gx (p :: r) k, gy (p :: r) k)) 1 = G p := by
      show (0 : Int) + G p = G p
      omega
    omega
/-- how many of the first k points of f lie on a wall of l -/
def wto (l f : List P) (k : Nat) : Int := sm (fun i => if placeV l (gx f i) (gy f i) = 1 then 1 else 0) k
theorem wto_all {l : List P} (hr : roomB l = true) : wto l (floorL l) (floorL l).length = edgeV l := by
  have h1 := ls_sm (fun p => if placeV l p.1 p.2 = 1 then 1 else 0) (floorL l)
  have h2 := ls_floor (fun p => if placeV l p.1 p.2 = 1 then 1 else 0) l
  unfold wto
  rw [← edge_count hr, ← h1, h2]
  refine bx_congr fun p _ _ _ _ => ?_
  rcases placeV_cases l p.1 p.2 with e | e | e <;> rw [e] <;> rfl
theorem g_pt (f : List P) (k : Nat) : (gx f k, gy f k) = pt f k := rfl
theorem floor_at {l : List P} (hr : roomB l = true) {k : Nat} (hk : k < (floorL l).length) : pok (gx (floorL l) k) (gy (floorL l) k) = true ∧ placeV l (gx (floorL l) k) (gy (floorL l) k) ≠ 0 := by
  have h := mem_floor.1 (g_mem hk)
  have hb := box_nums hr
  simp only at h
  exact ⟨(pok_iff _ _).2 (by omega), h.2.2.2⟩
theorem firstOn_nn (l : List P) (x y : Int) : ∀ d k, (∃ j, k ≤ j ∧ j < k + d ∧ onE l x y j = true) → 0 ≤ firstOn l x y k d
  | 0, k, h => by obtain ⟨j, h1, h2, _⟩ := h; omega
  | d + 1, k, h => by
    unfold firstOn
    by_cases e : onE l x y k = true
    · rw [if_pos e]
      omega
    · rw [if_neg e]
      refine firstOn_nn l x y d (k + 1) ?_
      obtain ⟨j, h1, h2, h3⟩ := h
      refine ⟨j, ?_, by omega, h3⟩
      rcases Nat.lt_or_ge k j with g | g
      · omega
      · have : j = k := by omega
        subst this
        exact absurd h3 e
theorem wallAt_nn {l : List P} (hr : roomB l = true) {x y : Int} (hq : pok x y = true) : decide (0 ≤ wallAtV l x y) = decide (placeV l x y = 1) := by
  rw [decide_eq_decide]
  constructor
  · intro h
    by_cases e : placeV l x y = 1
    · exact e
    · rw [wallAt_no hr hq (off_of_ne e)] at h
      omega
  · intro h
    obtain ⟨k, hk, ho⟩ := placeV_one.1 h
    unfold wallAtV
    rw [if_pos hq, if_pos hr]
    exact firstOn_nn l x y _ _ ⟨k, Nat.zero_le _, by omega, ho⟩
theorem floor_three {l : List P} (hr : roomB l = true) : 3 ≤ (floorL l).length := by
  have h3 := (room_z hr).1.1
  have he := edge_count hr
  have hf := floor_length l
  have hI : 0 ≤ rx l (fun p => if placeV l p.1 p.2 = 2 then 1 else 0) := by
    have nn : ∀ (f : Nat → Int) n, (∀ i, i < n → 0 ≤ f i) → 0 ≤ sm f n := by
      intro f n
      induction n with
      | zero => intro _; exact Int.le_refl _
      | succ n ih =>
        intro hh
        have := ih fun i hi => hh i (by omega)
        have := hh n (by omega)
        rw [sm]
        omega
    exact nn _ _ fun k _ => nn _ _ fun j _ => by
      show (0 : Int) ≤ (if placeV l (bX l + (j : Nat)) (bY l + (k : Nat)) = 2 then 1 else 0)
      split <;> omega
  have hge : (l.length : Int) ≤ edgeV l := by
    unfold edgeV
    rw [if_pos hr, edgeTo_sm]
    exact sm_ge _ fun i hi => lat_pos (room_wok hr hi)
  omega
/-- a far point -/
theorem far_out {L : List P} (hD : Drawn L) : placeInV L 39 39 = 0 := by
  obtain ⟨hr, ts, hc, h⟩ := drawn_trg hD
  have h3 := (room_z hr).1.1
  rw [placeIn_at hr (by decide)]
  by_cases e : placeV L 39 39 = 0
  · exact e
  · have hb := out_box hr h (p := (39, 39)) (by decide) e
    -- the box lies within 15
    have hbd := hD.facts.2
    have hle : bX L + (bN L : Int) ≤ 16 := by
      have key : ∀ k, hiX L k ≤ 15 := by
        intro k
        induction k with
        | zero => exact ((hbd _ (g_mem (show 0 < L.length by omega))).1).2
        | succ k ih =>
          rw [hiX_max]
          by_cases hk : k < L.length
          · have := ((hbd _ (g_mem hk)).1).2
            simp only at this
            omega
          · have : gx L k = 0 := by
              unfold gx
              rw [List.getD_eq_getElem?_getD, List.getElem?_eq_none (by omega)]
              rfl
            omega
      have := key L.length
      have hbx := box_bd (roomB_fine hr).1 (show 0 < L.length by omega) L.length (Nat.le_refl _)
      unfold bX bN
      omega
    simp only at hb
    omega
theorem cntTo_all {l f : List P} (hr : roomB l = true) : ∀ k, k ≤ f.length → (∀ i, i < f.length → pok (gx f i) (gy f i) = true ∧ placeV l (gx f i) (gy f i) ≠ 0) → cntTo l f k = k
  | 0, _, _ => rfl
  | k + 1, hk, h => by
    have ih := cntTo_all hr k (by omega) h
    have h1 := h k (by omega)
    have h2 : isInV l (gx f k) (gy f k) = true := by
      unfold isInV
      rw [placeIn_at hr h1.1, bne_iff_ne]
      exact h1.2
    rw [cntTo_succ, if_pos h2, ih]
    omega
/-- an inner point -/
theorem inner_some {l : List P} (h : inI l ≠ 0) : ∃ p, p ∈ floorL l ∧ placeV l p.1 p.2 = 2 := by
  by_cases hx : ∃ p, p ∈ floorL l ∧ placeV l p.1 p.2 = 2
  · exact hx
  · refine absurd ?_ h
    have e : inI l = bx (bX l) (bY l) (bN l) (bH l) (fun _ => 0) := by
      refine bx_congr fun p h1 h2 h3 h4 => if_neg fun e => hx ⟨p, mem_floor.2 ⟨⟨h3, h4⟩, h1, h2, by rw [e]; decide⟩, e⟩
    rw [e]
    unfold bx
    rw [sm_congr _ (fun _ => 0) _ fun k _ => sm_zero _, sm_zero]

end Jor
end Go.Proofs.Ytanagdlikoinaaa
