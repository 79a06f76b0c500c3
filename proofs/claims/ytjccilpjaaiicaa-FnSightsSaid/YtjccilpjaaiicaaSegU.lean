/-
  Who lies in one closed triangle of a room sees each other; the triangles' inner walls are diagonals. No program in sight.
-/
import Derived.Test.YtjccilpjaaiicaaSegT
namespace Go.Proofs.Ytjccilpjaaiicaa
namespace Jor

/-- along a straight way a turn lies between those at its ends -/
theorem onz_ge {a b p u w : P} (ho : OnZ a b p) (ha : 0 ≤ tu u w a) (hb : 0 ≤ tu u w b) : 0 ≤ tu u w p := by
  by_cases hab : a = b
  · subst hab
    rw [onz_same ho]
    exact ha
  · have hD := DD_pos hab
    have t1 := tt_nn ho
    have t2 := tt_nn (onz_comm.1 ho)
    have e1 := ttx ho
    have e2 := tty ho
    have e3 : tt b a p = DD a b - tt a b p := by
      unfold tt DD
      grind
    rw [e3] at t2
    have q1 := Int.mul_nonneg t1 hb
    have q2 := Int.mul_nonneg t2 ha
    have e4 : tu u w p * DD a b = tt a b p * tu u w b + (DD a b - tt a b p) * tu u w a := by
      have f1 : p.1 * DD a b = tt a b p * (b.1 - a.1) + a.1 * DD a b := by grind
      have f2 : p.2 * DD a b = tt a b p * (b.2 - a.2) + a.2 * DD a b := by grind
      have f3 : tu u w p * DD a b = (w.1 - u.1) * (p.2 * DD a b - u.2 * DD a b) - (w.2 - u.2) * (p.1 * DD a b - u.1 * DD a b) := by unfold tu; grind
      rw [f3, f1, f2]
      unfold tu
      grind
    rcases Int.lt_or_le (tu u w p) 0 with g | g
    · have := mul_neg' g hD
      omega
    · exact g
theorem onz_in {a b p x y z : P} (ho : OnZ a b p) (ha : In a x y z) (hb : In b x y z) : In p x y z := ⟨onz_ge ho ha.1 hb.1, onz_ge ho ha.2.1 hb.2.1, onz_ge ho ha.2.2 hb.2.2⟩

/-! ## The doubled room -/
theorem pt_dbl (l : List P) (i : Nat) : pt (dbl l) i = sc 2 (pt l i) := by
  have e : (dbl l).getD i (0, 0) = (2 * (l.getD i (0, 0)).1, 2 * (l.getD i (0, 0)).2) := by
    unfold dbl dblTo
    rw [List.take_length, List.getD_eq_getElem?_getD, List.getElem?_map, List.getD_eq_getElem?_getD]
    cases l[i]? with
    | none => rfl
    | some p => rfl
  exact e
theorem hv_dbl (l : List P) : hv (dbl l) = fun i => sc 2 (hv l i) := by
  funext i
  unfold hv
  rw [pt_dbl, hm_sc]
theorem trg_dbl {l : List P} {ts : List T3} (h : Trg (hv l) l.length ts) : Trg (hv (dbl l)) (dbl l).length ts := by
  rw [hv_dbl, dbl_length]
  exact h.sc (by decide)
theorem sml_dbl {l : List P} (hr : roomB l = true) : Sml (dbl l) := fun k hk => by
  rw [dbl_length] at hk
  have hb := room_bd hr hk
  have e : pt (dbl l) k = sc 2 (pt l k) := pt_dbl l k
  have e1 : gx (dbl l) k = 2 * (pt l k).1 := congrArg Prod.fst e
  have e2 : gy (dbl l) k = 2 * (pt l k).2 := congrArg Prod.snd e
  rw [e1, e2]
  unfold within
  omega
/-- the sum of two points, the middle in the doubled plane -/
def mid2 (x y : P) : P := (x.1 + y.1, x.2 + y.2)
theorem tu_mid (a b x y : P) : tu (sc 2 a) (sc 2 b) (mid2 x y) = 2 * (tu a b x + tu a b y) := by
  unfold tu sc mid2
  grind
section
variable {l : List P} (hr : roomB l = true) {ts : List T3} (h : Trg (hv l) l.length ts)
include hr h
/-- the corners of a triangle, in the plane's own heights -/
theorem in_pt {t : T3} {a b c : Nat} (hrot : Rot t a b c) {p : P} : InT (hv l) (hm MM p) t ↔ In p (pt l a) (pt l b) (pt l c) := by
  have _ := hr
  have _ := h
  rw [hrot.inT]
  exact in_hm (by decide)
theorem pos_pt {t : T3} (ht : t ∈ ts) {a b c : Nat} (hrot : Rot t a b c) : 0 < tu (pt l a) (pt l b) (pt l c) := by
  have _ := hr
  exact (hm_pos (M := MM) (by decide) _ _ _).1 (h.tu_pos ht hrot)
theorem in_dbl {t : T3} {a b c : Nat} (hrot : Rot t a b c) {p : P} : InT (hv (dbl l)) (hm MM p) t ↔ In p (sc 2 (pt l a)) (sc 2 (pt l b)) (sc 2 (pt l c)) := by
  have _ := hr
  have _ := h
  rw [hrot.inT]
  unfold hv
  rw [pt_dbl, pt_dbl, pt_dbl]
  have h1 := hm_neg (M := MM) (by decide) (sc 2 (pt l a)) (sc 2 (pt l b)) p
  have h2 := hm_neg (M := MM) (by decide) (sc 2 (pt l b)) (sc 2 (pt l c)) p
  have h3 := hm_neg (M := MM) (by decide) (sc 2 (pt l c)) (sc 2 (pt l a)) p
  unfold In
  omega
theorem mid_in2 {t : T3} (ht : t ∈ ts) {x y : P} (ix : InT (hv l) (hm MM x) t) (iy : InT (hv l) (hm MM y) t) : InT (hv (dbl l)) (hm MM (mid2 x y)) t := by
  have _ := ht
  rw [in_pt hr h (rot_self t)] at ix iy
  rw [in_dbl hr h (rot_self t)]
  obtain ⟨x1, x2, x3⟩ := ix
  obtain ⟨y1, y2, y3⟩ := iy
  unfold In
  rw [tu_mid, tu_mid, tu_mid]
  omega
/-- the middle of two points of a closed triangle lies in the room -/
theorem mid_place {t : T3} (ht : t ∈ ts) {x y : P} (hx : pok x.1 x.2 = true) (hy : pok y.1 y.2 = true) (ix : InT (hv l) (hm MM x) t) (iy : InT (hv l) (hm MM y) t) : placeV (dbl l) (x.1 + y.1) (x.2 + y.2) ≠ 0 := by
  intro h0
  have hd := trg_dbl h
  have hs := sml_dbl hr
  have w1 := within_of_pok hx
  have w2 := within_of_pok hy
  have hw : within 1000 (mid2 x y).1 (mid2 x y).2 := by
    unfold within at *
    unfold mid2
    simp only
    omega
  have hof := off_of_ne (q := dbl l) (x := (mid2 x y).1) (y := (mid2 x y).2) (by
    show placeV (dbl l) (x.1 + y.1) (x.2 + y.2) ≠ 1
    omega)
  obtain ⟨o1, o2⟩ := off_walls hs hw hof
  have k := hd.in_off ht (mid_in2 hr h ht ix iy) o2 o1
  have h1 : placeV (dbl l) (mid2 x y).1 (mid2 x y).2 = 0 := h0
  rcases place_wn hd hs hw hof with ⟨_, k2⟩ | ⟨k1, _⟩ <;> omega
/-- two points of a closed triangle see each other -/
theorem sees_in {t : T3} (ht : t ∈ ts) {x y : P} (hx : pok x.1 x.2 = true) (hy : pok y.1 y.2 = true) (ix : InT (hv l) (hm MM x) t) (iy : InT (hv l) (hm MM y) t) : seesV l x.1 x.2 y.1 y.2 = true := by
  have hf := (roomB_fine hr).1
  have h3 := (room_z hr).1.1
  unfold seesV
  rw [Bool.and_eq_true]
  constructor
  · unfold clearTo
    rw [List.all_eq_true]
    intro k hk
    rw [List.mem_range] at hk
    have hn := nx_lt (n := l.length) (i := k) (by omega)
    rw [Bool.not_eq_true', Bool.eq_false_iff]
    intro hc
    have wx := within_more (within_of_pok hx) (N := 1000000) (by decide)
    have wy := within_more (within_of_pok hy) (N := 1000000) (by decide)
    have wc : within 1000000 (pt l k).1 (pt l k).2 := within_more (w40 hr h hk) (by decide)
    have wd : within 1000000 (pt l (nx l.length k)).1 (pt l (nx l.length k)).2 := within_more (w40 hr h hn) (by decide)
    have e : crsE l x.1 x.2 y.1 y.2 k = crossZ (pt l k) (pt l (nx l.length k)) x y := by
      have e1 : crsE l x.1 x.2 y.1 y.2 k = crossB (pt l k).1 (pt l k).2 (pt l (nx l.length k)).1 (pt l (nx l.length k)).2 x.1 x.2 y.1 y.2 := rfl
      rw [e1]
      unfold crossB sideB crossZ
      rw [turnW_eq wx wy wc, turnW_eq wx wy wd, turnW_eq wc wd wx, turnW_eq wc wd wy]
    rw [e] at hc
    exact no_cross hr h ht (within_of_pok hx) (within_of_pok hy) ix iy hk (crs_of hc)
  · rw [goodTo_iff]
    intro i k hi hk _
    have c1 := cuts_on (l := l) hf hx hy _ (g_mem hi)
    have c2 := cuts_on (l := l) hf hx hy _ (g_mem (show k < (cuts l x.1 x.2 y.1 y.2).length by omega))
    rw [in_pt hr h (rot_self t)] at ix iy
    have i1 := (in_pt hr h (rot_self t)).2 (onz_in c1.2 ix iy)
    have i2 := (in_pt hr h (rot_self t)).2 (onz_in c2.2 ix iy)
    have hm := mid_place hr h ht c1.1 c2.1 i1 i2
    have e := mid_holds hf c1.1 c2.1
    unfold midP at e
    have hb := holds_bd (dbl l) (gx (cuts l x.1 x.2 y.1 y.2) i + gx (cuts l x.1 x.2 y.1 y.2) k) (gy (cuts l x.1 x.2 y.1 y.2) i + gy (cuts l x.1 x.2 y.1 y.2) k)
    unfold midS
    simp only at hm e
    omega
theorem in_corner {t : T3} (ht : t ∈ ts) {a b c : Nat} (hrot : Rot t a b c) : InT (hv l) (hm MM (pt l a)) t := by
  have hp := pos_pt hr h ht hrot
  rw [in_pt hr h hrot]
  unfold In
  rw [tu_fst, tu_snd, tu_rot]
  omega
/-- an inner wall of a triangle is a diagonal -/
theorem diag_of {t : T3} (ht : t ∈ ts) {i k c : Nat} (hrot : Rot t i k c) (hnb : nbr l.length i k = false) : dgN l i k = true := by
  have hf := (roomB_fine hr).1
  have h3 := (room_z hr).1.1
  obtain ⟨hi, hk, hc⟩ := h.lt ht hrot
  obtain ⟨n1, n2, n3⟩ := h.ne ht hrot
  have hp := pos_pt hr h ht hrot
  have pi := hf.pok hi
  have pk := hf.pok hk
  have ii := in_corner hr h ht hrot
  have ik := in_corner hr h ht hrot.rot
  have hsee := sees_in hr h ht (x := pt l i) (y := pt l k) pi pk ii ik
  have hnb' : nbB l i k = false := hnb
  have hcuts : (cuts l (gx l i) (gy l i) (gx l k) (gy l k)).length = 2 := by
    unfold cuts cutsTo
    rw [List.take_length]
    have e : l.filter (fun p => cutB (gx l i) (gy l i) (gx l k) (gy l k) p.1 p.2) = [] := by
      rw [List.filter_eq_nil_iff]
      intro p hpm hcut
      have hpp := pok_mem hf hpm
      obtain ⟨c1, c2, c3⟩ := (cutB_iff pi pk hpp).1 hcut
      obtain ⟨j, hj, e1, e2⟩ := mem_g hpm
      have ep : pt l j = p := Prod.ext e1 e2
      have hin : InT (hv l) (hm MM p) t := by
        rw [in_pt hr h hrot] at ii ik ⊢
        exact onz_in c3 ii ik
      rw [← ep] at hin c1 c2 c3
      obtain ⟨a, b, hj2⟩ := h.no_corner ht hj hin
      have k : j = i ∨ j = k ∨ j = c := by
        rcases hrot with e1 | e1 | e1 <;> rcases hj2 with e2 | e2 | e2 <;> (rw [e1] at e2; simp only [Prod.mk.injEq] at e2; omega)
      rcases k with rfl | rfl | rfl
      · exact c1 rfl
      · exact c2 rfl
      · have : tu (pt l i) (pt l k) (pt l j) = 0 := c3.1
        omega
    rw [e]
    rfl
  have hmid : midP l (gx l i) (gy l i) (gx l k) (gy l k) = 2 := by
    have hne0 : placeV (dbl l) ((pt l i).1 + (pt l k).1) ((pt l i).2 + (pt l k).2) ≠ 0 := mid_place hr h ht (x := pt l i) (y := pt l k) pi pk ii ik
    have hne1 : placeV (dbl l) ((pt l i).1 + (pt l k).1) ((pt l i).2 + (pt l k).2) ≠ 1 := by
      intro h1
      have hd := trg_dbl h
      have hs := sml_dbl hr
      have w1 := within_of_pok pi
      have w2 := within_of_pok pk
      have hw : within 1000 (mid2 (pt l i) (pt l k)).1 (mid2 (pt l i) (pt l k)).2 := by
        unfold within at *
        unfold mid2 pt
        simp only
        omega
      obtain ⟨w, hwl, how⟩ := placeV_one.1 h1
      have t1 : tu (sc 2 (pt l k)) (sc 2 (pt l c)) (mid2 (pt l i) (pt l k)) = 2 * tu (pt l i) (pt l k) (pt l c) := by
        rw [tu_mid, tu_fst, tu_rot]
        omega
      have t2 : tu (sc 2 (pt l c)) (sc 2 (pt l i)) (mid2 (pt l i) (pt l k)) = 2 * tu (pt l i) (pt l k) (pt l c) := by
        rw [tu_mid, tu_snd, tu_rot, tu_rot]
        omega
      have t0 : tu (sc 2 (pt l i)) (sc 2 (pt l k)) (mid2 (pt l i) (pt l k)) = 0 := by
        rw [tu_mid, tu_fst, tu_snd]
        rfl
      -- no corner
      have hnc : ∀ j, j < l.length → mid2 (pt l i) (pt l k) ≠ sc 2 (pt l j) := by
        intro j hj e
        have hin : InT (hv l) (hm MM (pt l j)) t := by
          have := mid_in2 hr h ht ii ik
          rw [in_dbl hr h hrot, e] at this
          rw [in_pt hr h hrot]
          obtain ⟨q1, q2, q3⟩ := this
          rw [tu_sc] at q1 q2 q3
          unfold In
          omega
        obtain ⟨a, b, hj2⟩ := h.no_corner ht hj hin
        have k : j = i ∨ j = k ∨ j = c := by
          rcases hrot with e1 | e1 | e1 <;> rcases hj2 with e2 | e2 | e2 <;> (rw [e1] at e2; simp only [Prod.mk.injEq] at e2; omega)
        have hne := pt_ne hr hi hk n1
        have f1 := congrArg Prod.fst e
        have f2 := congrArg Prod.snd e
        unfold mid2 sc at f1 f2
        simp only at f1 f2
        rcases k with rfl | rfl | rfl
        · exact hne (Prod.ext (by omega) (by omega))
        · exact hne (Prod.ext (by omega) (by omega))
        · rw [e, tu_sc] at t0
          omega
      have hwl' : w < l.length := by rw [← dbl_length l]; exact hwl
      have hn := nx_lt (n := l.length) (i := w) (by omega)
      have hon := on_of_onE hs hw hwl how (by rw [pt_dbl]; exact hnc w hwl') (by rw [pt_dbl, dbl_length]; exact hnc _ hn)
      have hg : ∀ j, j < (dbl l).length → (hv (dbl l) j).2 ≠ (hm MM (mid2 (pt l i) (pt l k))).2 := fun j hj => hm_ne (by decide) (nr_sml hs hw hj) (by
        rw [pt_dbl]
        exact (hnc j (by rw [← dbl_length l]; exact hj)).symm)
      obtain ⟨d, hd1, hd2⟩ := hd.on_wall ht (mid_in2 hr h ht ii ik) hg hwl hon
      rw [dbl_length] at hd1 hd2
      have hz : tu (sc 2 (pt l w)) (sc 2 (pt l (nx l.length w))) (mid2 (pt l i) (pt l k)) = 0 := by
        have := hd2.2.2
        unfold hv at this
        rw [pt_dbl, pt_dbl, tu_hm] at this
        rcases Int.mul_eq_zero.1 this with q | q
        · exact absurd q (by decide)
        · exact q
      have k3 : (w = i ∧ nx l.length w = k) ∨ (w = k ∧ nx l.length w = c) ∨ (w = c ∧ nx l.length w = i) := by
        rcases hrot with e1 | e1 | e1 <;> rcases hd1 with e2 | e2 | e2 <;> (rw [e1] at e2; simp only [Prod.mk.injEq] at e2; omega)
      rcases k3 with ⟨q1, q2⟩ | ⟨q1, q2⟩ | ⟨q1, q2⟩
      · rw [q1] at q2
        unfold nbr at hnb
        have : ((i + 1) % l.length == k) = true := beq_iff_eq.2 q2
        rw [this] at hnb
        cases hnb
      · rw [q2, q1, t1] at hz
        omega
      · rw [q2, q1, t2] at hz
        omega
    have := placeV_cases (dbl l) ((pt l i).1 + (pt l k).1) ((pt l i).2 + (pt l k).2)
    show placeV (dbl l) ((pt l i).1 + (pt l k).1) ((pt l i).2 + (pt l k).2) = 2
    omega
  unfold dgN
  rw [hnb', hcuts, hmid]
  have e : seesV l (gx l i) (gy l i) (gx l k) (gy l k) = true := hsee
  rw [e]
  simp [n1]
end

end Jor
end Go.Proofs.Ytjccilpjaaiicaa
