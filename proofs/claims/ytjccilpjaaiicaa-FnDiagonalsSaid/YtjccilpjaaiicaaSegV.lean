/-
  What FnSights asks of a drawn room and two points of its floor. No program in sight.
-/
import Derived.Test.YtjccilpjaaiicaaJ5
import Derived.Test.YtjccilpjaaiicaaTriR
import Derived.Test.YtjccilpjaaiicaaSeenP
import Derived.Test.YtjccilpjaaiicaaJ6
namespace Go.Proofs.Ytjccilpjaaiicaa
namespace Jor

/-! ## Sight goes both ways -/
theorem crsE_crs {l : List P} (hr : roomB l = true) {x y : P} (hx : pok x.1 x.2 = true) (hy : pok y.1 y.2 = true) {k : Nat} (hk : k < l.length) : crsE l x.1 x.2 y.1 y.2 k = true ↔ Crs (pt l k) (pt l (nx l.length k)) x y := by
  have hn := nx_lt (n := l.length) (i := k) (by omega)
  have wx := within_more (within_of_pok hx) (N := 1000000) (by decide)
  have wy := within_more (within_of_pok hy) (N := 1000000) (by decide)
  have wc : within 1000000 (pt l k).1 (pt l k).2 := within_more (show within 40 (pt l k).1 (pt l k).2 from room_bd hr hk) (by decide)
  have wd : within 1000000 (pt l (nx l.length k)).1 (pt l (nx l.length k)).2 := within_more (show within 40 (pt l (nx l.length k)).1 (pt l (nx l.length k)).2 from room_bd hr hn) (by decide)
  have e : crsE l x.1 x.2 y.1 y.2 k = crossZ (pt l k) (pt l (nx l.length k)) x y := by
    have e1 : crsE l x.1 x.2 y.1 y.2 k = crossB (pt l k).1 (pt l k).2 (pt l (nx l.length k)).1 (pt l (nx l.length k)).2 x.1 x.2 y.1 y.2 := rfl
    rw [e1]
    unfold crossB sideB crossZ
    rw [turnW_eq wx wy wc, turnW_eq wx wy wd, turnW_eq wc wd wx, turnW_eq wc wd wy]
  rw [e]
  constructor
  · exact crs_of
  · intro h
    cases hc : crossZ (pt l k) (pt l (nx l.length k)) x y
    · exact absurd h (not_crs_of hc)
    · rfl
/-- the way is free between neighbours among the points c -/
def GoodC (l c : List P) : Prop := ∀ p q, p ∈ c → q ∈ c → p ≠ q → (∀ z, z ∈ c → z ≠ p → z ≠ q → ¬ OnZ p q z) → 0 ≤ holdsV (dbl l) (p.1 + q.1) (p.2 + q.2)
theorem good_iff {l c : List P} (hn : c.Nodup) (hc : ∀ p, p ∈ c → pok p.1 p.2 = true) : goodTo l c c.length = true ↔ GoodC l c := by
  rw [goodTo_iff]
  have hd : ∀ i, c.getD i (0, 0) = (gx c i, gy c i) := fun i => rfl
  constructor
  · intro h p q hp hq hpq hf
    obtain ⟨i, hi, e1⟩ := mem_getD (d := (0, 0)) hp
    obtain ⟨k, hk, e2⟩ := mem_getD (d := (0, 0)) hq
    have main : ∀ i k, i < c.length → k < c.length → k < i → (∀ z, z ∈ c → z ≠ c.getD i (0, 0) → z ≠ c.getD k (0, 0) → ¬ OnZ (c.getD i (0, 0)) (c.getD k (0, 0)) z) → 0 ≤ holdsV (dbl l) ((c.getD i (0, 0)).1 + (c.getD k (0, 0)).1) ((c.getD i (0, 0)).2 + (c.getD k (0, 0)).2) := by
      intro i k hi hk hki hf
      refine h i k hi hki ((freeB_iff hc hi hk).2 fun j hj n1 n2 => ?_)
      exact hf _ (getD_mem hj) (fun e => n1 (nodup_getD hn hj hi e)) (fun e => n2 (nodup_getD hn hj hk e))
    subst e1 e2
    rcases Nat.lt_trichotomy k i with g | g | g
    · exact main i k hi hk g hf
    · subst g
      exact absurd rfl hpq
    · have := main k i hk hi g fun z h1 h2 h3 h4 => hf z h1 h3 h2 (onz_comm.1 h4)
      rw [Int.add_comm, Int.add_comm (c.getD i (0, 0)).2]
      exact this
  · intro h i k hi hk hf
    have hk' : k < c.length := by omega
    refine h (c.getD i (0, 0)) (c.getD k (0, 0)) (getD_mem hi) (getD_mem hk') (fun e => ?_) fun z hz n1 n2 => ?_
    · have := nodup_getD hn hi hk' e
      omega
    · obtain ⟨j, hj, rfl⟩ := mem_getD (d := (0, 0)) hz
      refine (freeB_iff hc hi hk').1 hf j hj ?_ ?_
      · rintro rfl; exact n1 rfl
      · rintro rfl; exact n2 rfl
theorem good_congr {l c c' : List P} (h : ∀ p, p ∈ c ↔ p ∈ c') : GoodC l c → GoodC l c' := fun hg p q hp hq hpq hf => hg p q ((h p).2 hp) ((h q).2 hq) hpq fun z hz => hf z ((h z).1 hz)
theorem mem_cuts {l : List P} {x y p : P} : p ∈ cuts l x.1 x.2 y.1 y.2 ↔ p = x ∨ p = y ∨ (p ∈ l ∧ cutB x.1 x.2 y.1 y.2 p.1 p.2 = true) := by
  unfold cuts cutsTo
  rw [List.take_length, List.mem_cons, List.mem_cons, List.mem_filter]
theorem mem_cuts_comm {l : List P} (hr : roomB l = true) {x y : P} (hx : pok x.1 x.2 = true) (hy : pok y.1 y.2 = true) (p : P) : p ∈ cuts l x.1 x.2 y.1 y.2 ↔ p ∈ cuts l y.1 y.2 x.1 x.2 := by
  have hf := (roomB_fine hr).1
  have key : ∀ x y : P, pok x.1 x.2 = true → pok y.1 y.2 = true → p ∈ cuts l x.1 x.2 y.1 y.2 → p ∈ cuts l y.1 y.2 x.1 x.2 := by
    intro x y hx hy h
    rcases mem_cuts.1 h with h | h | ⟨h1, h2⟩
    · exact mem_cuts.2 (.inr (.inl h))
    · exact mem_cuts.2 (.inl h)
    · obtain ⟨a, b, c⟩ := (cutB_iff hx hy (pok_mem hf h1)).1 h2
      exact mem_cuts.2 (.inr (.inr ⟨h1, (cutB_iff hy hx (pok_mem hf h1)).2 ⟨b, a, onz_comm.1 c⟩⟩))
  exact ⟨key x y hx hy, key y x hy hx⟩
theorem sees_comm1 {l : List P} (hr : roomB l = true) {x y : P} (hx : pok x.1 x.2 = true) (hy : pok y.1 y.2 = true) (h : seesV l x.1 x.2 y.1 y.2 = true) : seesV l y.1 y.2 x.1 x.2 = true := by
  have hf := (roomB_fine hr).1
  by_cases hxy : x = y
  · subst hxy
    exact h
  · unfold seesV at h ⊢
    rw [Bool.and_eq_true] at h ⊢
    obtain ⟨h1, h2⟩ := h
    constructor
    · unfold clearTo at h1 ⊢
      rw [List.all_eq_true] at h1 ⊢
      intro k hk
      have hk' := List.mem_range.1 hk
      have h3 := h1 k hk
      rw [Bool.not_eq_true', Bool.eq_false_iff, ne_eq, crsE_crs hr hx hy hk'] at h3
      rw [Bool.not_eq_true', Bool.eq_false_iff, ne_eq, crsE_crs hr hy hx hk']
      exact fun hc => h3 (crs_swap.1 hc)
    · have n1 := cuts_nodup hr hx hy (show ((x.1, x.2) : P) ≠ (y.1, y.2) from hxy)
      have n2 := cuts_nodup hr hy hx (show ((y.1, y.2) : P) ≠ (x.1, x.2) from Ne.symm hxy)
      rw [good_iff n1 fun p hp => (cuts_on hf hx hy p hp).1] at h2
      rw [good_iff n2 fun p hp => (cuts_on hf hy hx p hp).1]
      exact good_congr (mem_cuts_comm hr hx hy) h2
theorem sees_comm {l : List P} (hr : roomB l = true) {x y : P} (hx : pok x.1 x.2 = true) (hy : pok y.1 y.2 = true) : seesV l x.1 x.2 y.1 y.2 = seesV l y.1 y.2 x.1 x.2 := by
  rw [Bool.eq_iff_iff]
  exact ⟨sees_comm1 hr hx hy, sees_comm1 hr hy hx⟩

/-! ## A point in the room lies in a closed triangle -/
section
variable {l : List P} (hr : roomB l = true) {ts : List T3} (h : Trg (hv l) l.length ts)
include hr h
theorem some_tri {p : P} (hp : pok p.1 p.2 = true) (hin : placeV l p.1 p.2 ≠ 0) : ∃ t, t ∈ ts ∧ InT (hv l) (hm MM p) t := by
  have hs := room_sml hr
  have hw : within 1000 p.1 p.2 := within_more (within_of_pok hp) (by decide)
  rcases placeV_cases l p.1 p.2 with e | e | e
  · exact absurd e hin
  · obtain ⟨k, hk, ho⟩ := placeV_one.1 e
    obtain ⟨t, ht, he⟩ := h.cert.wall k hk
    obtain ⟨c, hrot⟩ := rot_of_eds he
    refine ⟨t, ht, (in_pt hr h hrot).2 ?_⟩
    have hpos := pos_pt hr h ht hrot
    have hn := nx_lt (n := l.length) (i := k) (by omega)
    have hoz : OnZ (pt l k) (pt l (nx l.length k)) p := by
      rw [onE_onZ hs hw hk] at ho
      unfold onZB inB at ho
      simp only [Bool.and_eq_true, decide_eq_true_eq] at ho
      exact ho
    refine onz_in hoz ?_ ?_
    · unfold In
      rw [tu_fst, tu_snd, tu_rot]
      omega
    · unfold In
      rw [tu_snd, tu_fst, tu_rot, tu_rot]
      omega
  · exact inside_tri h hs hw e
theorem sees_self {p : P} (hp : pok p.1 p.2 = true) (hin : placeV l p.1 p.2 ≠ 0) : seesV l p.1 p.2 p.1 p.2 = true := by
  obtain ⟨t, ht, hi⟩ := some_tri hr h hp hin
  exact sees_in hr h ht hp hp hi hi
theorem sees_three {p : P} (hp : pok p.1 p.2 = true) (hin : placeV l p.1 p.2 ≠ 0) : ∃ i k, i < l.length ∧ k < l.length ∧ i ≠ k ∧ seesV l p.1 p.2 (gx l i) (gy l i) = true ∧ seesV l p.1 p.2 (gx l k) (gy l k) = true := by
  obtain ⟨t, ht, hi⟩ := some_tri hr h hp hin
  have hr0 := rot_self t
  obtain ⟨l1, l2, _⟩ := h.lt ht hr0
  have hf := (roomB_fine hr).1
  exact ⟨_, _, l1, l2, (h.ne ht hr0).1, sees_in hr h ht (x := p) (y := pt l t.1) hp (hf.pok l1) hi (in_corner hr h ht hr0), sees_in hr h ht (x := p) (y := pt l t.2.1) hp (hf.pok l2) hi (in_corner hr h ht hr0.rot)⟩
end
theorem csL_sm (l : List P) (ax ay : Int) : ∀ n, ((csL l ax ay n).length : Int) = sm (fun i => if seesV l ax ay (gx l i) (gy l i) = true then 1 else 0) n
  | 0 => rfl
  | n + 1 => by
    rw [csL_succ, sm, ← csL_sm l ax ay n]
    split
    · rw [List.length_append]; simp
    · omega
theorem sm_two_le {f : Nat → Int} (hf : ∀ i, 0 ≤ f i) {a b : Nat} (hab : a ≠ b) : ∀ n, (a < n → f a ≤ sm f n) ∧ (a < n → b < n → f a + f b ≤ sm f n) ∧ (b < n → f b ≤ sm f n) ∧ 0 ≤ sm f n
  | 0 => ⟨fun h => by omega, fun h => by omega, fun h => by omega, Int.le_refl _⟩
  | n + 1 => by
    obtain ⟨i1, i2, i3, i4⟩ := sm_two_le hf hab n
    have h0 := hf n
    rw [sm]
    refine ⟨fun h => ?_, fun h h' => ?_, fun h => ?_, by omega⟩
    · by_cases e : a = n
      · subst e; omega
      · have := i1 (by omega); omega
    · by_cases e : a = n
      · subst e; have := i3 (by omega); omega
      · by_cases e2 : b = n
        · subst e2; have := i1 (by omega); omega
        · have := i2 (by omega) (by omega); omega
    · by_cases e : b = n
      · subst e; omega
      · have := i3 (by omega); omega

/-! ## A convex room -/
theorem sm_nn0 {f : Nat → Int} : ∀ n, (∀ i, i < n → 0 ≤ f i) → sm f n = 0 → ∀ i, i < n → f i = 0
  | n + 1, h, h0, i, hi => by
    have hge : 0 ≤ sm f n := by
      have key : ∀ m, m ≤ n → 0 ≤ sm f m := by
        intro m
        induction m with
        | zero => intro _; exact Int.le_refl _
        | succ m ih => intro hm; have := ih (by omega); have := h m (by omega); rw [sm]; omega
      exact key n (Nat.le_refl _)
    have hn := h n (by omega)
    rw [sm] at h0
    by_cases e : i = n
    · subst e; omega
    · exact sm_nn0 n (fun i hi => h i (by omega)) (by omega) i (by omega)
/-- a point left of all walls of a convex polygon and on none has walls right of it -/
theorem half_wn {v : Nat → P} {n : Nat} (hs : Simple v n) (hc : ∀ i, i < n → 0 < tu (v i) (v (nx n i)) (v (nx n (nx n i)))) {p : P} (hg : ∀ k, k < n → (v k).2 ≠ p.2) (ho : ∀ i, i < n → Off p (v i) (v (nx n i))) (hh : ∀ i, i < n → 0 ≤ tu (v i) (v (nx n i)) p) : wn v n p ≠ 0 := by
  intro h0
  have h3 := hs.h3
  have hz := sm_nn0 n (fun i hi => by
    have := hh i hi
    unfold cs
    (repeat' split) <;> omega) h0
  -- no wall goes up past the point
  have hup : ∀ i, i < n → ¬ ((v i).2 < p.2 ∧ p.2 < (v (nx n i)).2) := by
    intro i hi hs2
    have h1 := hz i hi
    have h2 := hh i hi
    have h4 := ho i hi (.inl hs2)
    unfold cs at h1
    rw [if_pos ⟨hs2.1, hs2.2, by omega⟩] at h1
    omega
  have id1 : ∀ a m b : P, (p.2 - m.2) * tu a m b = (a.2 - m.2) * tu m b p + (b.2 - m.2) * tu a m p := fun a m b => by unfold tu; grind
  have corner : ∀ m, m < n → (∀ k, k < n → k ≠ m → (v m).2 < (v k).2 ∧ p.2 < (v m).2 ∨ (v k).2 < (v m).2 ∧ (v m).2 < p.2) → False := by
    intro m hm hall
    have hp := pv_lt (n := n) (i := m) (by omega)
    have hn := nx_lt (n := n) (i := m) (by omega)
    have e := nx_pv hm
    have q1 := hc (pv n m) hp
    have q2 := hh (pv n m) hp
    have q3 := hh m hm
    rw [e] at q1 q2
    have g1 := hall (pv n m) hp (pv_ne (by omega) hm)
    have g2 := hall (nx n m) hn (nx_ne (by omega) hm)
    have i1 := id1 (v (pv n m)) (v m) (v (nx n m))
    rcases g1 with g1 | g1
    · have s1 := Int.mul_nonneg (show 0 ≤ (v (pv n m)).2 - (v m).2 by omega) q3
      have s2 := Int.mul_nonneg (show 0 ≤ (v (nx n m)).2 - (v m).2 by omega) q2
      have s3 := mul_neg' (show p.2 - (v m).2 < 0 by omega) q1
      omega
    · have s1 := Int.mul_nonneg (show 0 ≤ -((v (pv n m)).2 - (v m).2) by omega) q3
      have s2 := Int.mul_nonneg (show 0 ≤ -((v (nx n m)).2 - (v m).2) by omega) q2
      have s3 := Int.mul_pos (show 0 < p.2 - (v m).2 by omega) q1
      rw [Int.neg_mul] at s1 s2
      omega
  by_cases hab : ∃ k, k < n ∧ p.2 < (v k).2
  · -- all corners lie above
    obtain ⟨k, hk, hka⟩ := hab
    have back : ∀ j, j < n → p.2 < (v j).2 → p.2 < (v (pv n j)).2 := by
      intro j hj hj2
      have hp := pv_lt (n := n) (i := j) (by omega)
      have h1 := hup (pv n j) hp
      rw [nx_pv hj] at h1
      have := hg (pv n j) hp
      omega
    have allA : ∀ d j, j < n → p.2 < (v j).2 → ∀ i, i < n → (i + d) % n = j → p.2 < (v i).2 := by
      intro d
      induction d with
      | zero =>
        intro j hj hj2 i hi e
        rw [Nat.add_zero, Nat.mod_eq_of_lt hi] at e
        subst e
        exact hj2
      | succ d ih =>
        intro j hj hj2 i hi e
        have hp := pv_lt (n := n) (i := j) (by omega)
        refine ih (pv n j) hp (back j hj hj2) i hi ?_
        have hb : (i + d) % n < n := Nat.mod_lt _ (by omega)
        have e2 : nx n ((i + d) % n) = j := by
          unfold nx
          rw [Nat.mod_add_mod]
          exact e
        rw [← e2, pv_nx hb]
    have hall : ∀ i, i < n → p.2 < (v i).2 := fun i hi => allA (k + n - i) k hk hka i hi (by
      rw [show i + (k + n - i) = k + n by omega, Nat.add_mod_right, Nat.mod_eq_of_lt hk])
    obtain ⟨m, hm, _, hmax⟩ := argmax (fun i => -(v i).2) (fun _ => true) n ⟨0, by omega, rfl⟩
    refine corner m hm fun k hk hne => .inl ⟨?_, hall m hm⟩
    have h1 := hmax k hk rfl
    have h2 := hs.hts k m hk hm hne
    omega
  · obtain ⟨m, hm, _, hmax⟩ := argmax (fun i => (v i).2) (fun _ => true) n ⟨0, by omega, rfl⟩
    refine corner m hm fun k hk hne => .inr ⟨?_, ?_⟩
    · have h1 := hmax k hk rfl
      have h2 := hs.hts k m hk hm hne
      omega
    · have h1 := hg m hm
      have h2 : ¬ p.2 < (v m).2 := fun h => hab ⟨m, hm, h⟩
      omega
theorem turn_tz {l : List P} (hf : Fine l) {k : Nat} (hk : k < l.length) : turnAt l k = tz l ((k + l.length - 1) % l.length) := by
  have h0 : 0 < l.length := by omega
  have e1 : Go.Proofs.Ytjccilpjaaiicaa.nx l ((k + l.length - 1) % l.length) = k := by
    unfold Go.Proofs.Ytjccilpjaaiicaa.nx
    rw [Nat.mod_add_mod, show k + l.length - 1 + 1 = k + l.length by omega, Nat.add_mod_right, Nat.mod_eq_of_lt hk]
  have e2 : ((k + l.length - 1) % l.length + 2) % l.length = (k + 1) % l.length := by
    rw [Nat.mod_add_mod, show k + l.length - 1 + 2 = k + 1 + l.length by omega, Nat.add_mod_right]
  rw [← tn_tz hf (Nat.mod_lt _ h0)]
  unfold turnAt tn
  rw [e1, e2]
theorem conv_tz {l : List P} (h : convV l = true) : ∀ i, i < l.length → ¬ tz l i < 0 := by
  intro i hi ht
  unfold convV at h
  rw [Bool.and_eq_true, beq_iff_eq] at h
  obtain ⟨hr, hz⟩ := h
  have hf := (roomB_fine hr).1
  have h0 : 0 < l.length := by omega
  have e : reflV l = [] := List.eq_nil_of_length_eq_zero (by omega)
  unfold reflV at e
  rw [if_pos hr] at e
  have hmem : (((i + 1) % l.length : Nat) : Int) ∈ reflL l l.length := by
    unfold reflL
    refine List.mem_map.2 ⟨(i + 1) % l.length, List.mem_filter.2 ⟨List.mem_range.2 (Nat.mod_lt _ h0), ?_⟩, rfl⟩
    unfold reflB
    rw [decide_eq_true_eq, turn_tz hf (Nat.mod_lt _ h0)]
    have e1 : ((i + 1) % l.length + l.length - 1) % l.length = i := by
      have := pv_nx hi
      unfold pv nx at this
      exact this
    rw [e1]
    exact ht
  rw [e] at hmem
  cases hmem
theorem convex_sees {L : List P} (hD : Drawn L) (hcv : convV L = true) {x y : P} (hx : pok x.1 x.2 = true) (hy : pok y.1 y.2 = true) (ix : placeV L x.1 x.2 ≠ 0) (iy : placeV L y.1 y.2 ≠ 0) : seesV L x.1 x.2 y.1 y.2 = true := by
  obtain ⟨hr, ts, hc, h⟩ := drawn_trg hD
  have hf := (roomB_fine hr).1
  have h3 := (room_z hr).1.1
  have hH := drawn_convex hD (conv_tz hcv)
  have htz := (room_z hr).2.1
  -- points in the room lie left of all walls
  have hin : ∀ p : P, pok p.1 p.2 = true → placeV L p.1 p.2 ≠ 0 → ∀ k, k < L.length → 0 ≤ tu (pt L k) (pt L (nx L.length k)) p := by
    intro p hp hpl k hk
    obtain ⟨t, ht, hi⟩ := some_tri hr h hp hpl
    obtain ⟨l1, l2, l3⟩ := h.lt ht (rot_self t)
    exact in_ge (pos_pt hr h ht (rot_self t)) ((in_pt hr h (rot_self t)).1 hi) (fun q => tu (pt L k) (pt L (nx L.length k)) q) (bary_tu _ _ _ _ _ _) (hH k _ hk l1) (hH k _ hk l2) (hH k _ hk l3)
  have hX := hin x hx ix
  have hY := hin y hy iy
  unfold seesV
  rw [Bool.and_eq_true]
  constructor
  · unfold clearTo
    rw [List.all_eq_true]
    intro k hk
    have hk' := List.mem_range.1 hk
    rw [Bool.not_eq_true', Bool.eq_false_iff, ne_eq, crsE_crs hr hx hy hk']
    rintro ⟨_, h2⟩
    have := hX k hk'
    have := hY k hk'
    omega
  · rw [goodTo_iff]
    intro i k hi hk _
    have c1 := cuts_on (l := L) hf hx hy _ (g_mem hi)
    have c2 := cuts_on (l := L) hf hx hy _ (g_mem (show k < (cuts L x.1 x.2 y.1 y.2).length by omega))
    have e := mid_holds hf c1.1 c2.1
    unfold midP at e
    have hb := holds_bd (dbl L) (gx (cuts L x.1 x.2 y.1 y.2) i + gx (cuts L x.1 x.2 y.1 y.2) k) (gy (cuts L x.1 x.2 y.1 y.2) i + gy (cuts L x.1 x.2 y.1 y.2) k)
    unfold midS
    simp only at e
    have hm : placeV (dbl L) (gx (cuts L x.1 x.2 y.1 y.2) i + gx (cuts L x.1 x.2 y.1 y.2) k) (gy (cuts L x.1 x.2 y.1 y.2) i + gy (cuts L x.1 x.2 y.1 y.2) k) ≠ 0 := by
      obtain ⟨a, ha⟩ : ∃ a : P, a = (gx (cuts L x.1 x.2 y.1 y.2) i, gy (cuts L x.1 x.2 y.1 y.2) i) := ⟨_, rfl⟩
      obtain ⟨b, hb⟩ : ∃ b : P, b = (gx (cuts L x.1 x.2 y.1 y.2) k, gy (cuts L x.1 x.2 y.1 y.2) k) := ⟨_, rfl⟩
      rw [← ha] at c1
      rw [← hb] at c2
      have e1 : placeV (dbl L) (gx (cuts L x.1 x.2 y.1 y.2) i + gx (cuts L x.1 x.2 y.1 y.2) k) (gy (cuts L x.1 x.2 y.1 y.2) i + gy (cuts L x.1 x.2 y.1 y.2) k) = placeV (dbl L) (mid2 a b).1 (mid2 a b).2 := by rw [ha, hb]; rfl
      rw [e1]
      intro h0
      have hd := trg_dbl h
      have hs := sml_dbl hr
      have w1 := within_of_pok c1.1
      have w2 := within_of_pok c2.1
      have hw : within 1000 (mid2 a b).1 (mid2 a b).2 := by
        unfold within at *
        unfold mid2
        simp only
        omega
      have hof := off_of_ne (q := dbl L) (x := (mid2 a b).1) (y := (mid2 a b).2) (by omega)
      obtain ⟨o1, o2⟩ := off_walls hs hw hof
      have hwn : wn (hv (dbl L)) (dbl L).length (hm MM (mid2 a b)) = 0 := by
        rcases place_wn hd hs hw hof with ⟨_, k2⟩ | ⟨k1, _⟩
        · omega
        · exact k1
      refine half_wn hd.hs ?_ o2 o1 ?_ hwn
      · intro j hj
        rw [dbl_length] at hj ⊢
        unfold hv
        rw [pt_dbl, pt_dbl, pt_dbl, hm_pos (by decide), sc_pos (by decide)]
        have e2 : (j + 2) % L.length = nx L.length (nx L.length j) := by
          unfold nx
          rw [Nat.mod_add_mod]
        have t1 := htz j hj
        have t2 := conv_tz hcv j hj
        rw [tz_tu, e2] at t1 t2
        omega
      · intro j hj
        rw [dbl_length] at hj ⊢
        have q1 := onz_ge c1.2 (hX j hj) (hY j hj)
        have q2 := onz_ge c2.2 (hX j hj) (hY j hj)
        have q3 : 0 ≤ tu (sc 2 (pt L j)) (sc 2 (pt L (nx L.length j))) (mid2 a b) := by rw [tu_mid]; omega
        unfold hv
        rw [pt_dbl, pt_dbl]
        have q4 := hm_neg (M := MM) (by decide) (sc 2 (pt L j)) (sc 2 (pt L (nx L.length j))) (mid2 a b)
        omega
    omega

/-! ## FnSights -/
theorem floor_three_pos {L : List P} (hD : Drawn L) : 0 < (floorL L).length := by
  have hr := hD.facts.1
  have h3 := (room_z hr).1.1
  have := corner_floor hr (k := 0) (by omega)
  exact List.length_pos_of_mem this
theorem firstP_neg (p : Nat → Bool) : ∀ d k, (∀ j, k ≤ j → j < k + d → p j = false) ∨ 0 ≤ firstP p k d
  | 0, k => .inl fun j h1 h2 => by omega
  | d + 1, k => by
    unfold firstP
    by_cases e : p k = true
    · rw [if_pos e]
      exact .inr (by omega)
    · rw [if_neg e]
      rcases firstP_neg p d (k + 1) with h | h
      · refine .inl fun j h1 h2 => ?_
        by_cases e2 : j = k
        · subst e2; simpa using e
        · exact h j (by omega) (by omega)
      · exact .inr h
theorem sights_plain {L : List P} (hD : Drawn L) {x y x' y' : Int} (h1 : (x, y) ∈ floorL L) (h2 : (x', y') ∈ floorL L) : roomB L = true ∧ seesB L x' y' x y = seesB L x y x' y' ∧ seesB L x y x y = true ∧ (convV L = true → seesB L x y x' y' = true) ∧ (¬ blockV L x y x' y' < 0 → seesB L x y x' y' = false) ∧ fto (sbV L x y) x' y' (sbV L x y).length = seesB L x y x' y' ∧ 2 ≤ (csV L x y).length ∧ (csV L x y).length ≤ L.length := by
  obtain ⟨hr, ts, hc, h⟩ := drawn_trg hD
  have p1 := floor_pok hr _ h1
  have p2 := floor_pok hr _ h2
  have i1 : placeV L x y ≠ 0 := (mem_floor.1 h1).2.2.2
  have i2 : placeV L x' y' ≠ 0 := (mem_floor.1 h2).2.2.2
  simp only at p1 p2
  have in1 : isInV L x y = true := isIn_iff.2 ⟨p1, hr, by rw [bne_iff_ne]; exact i1⟩
  have in2 : isInV L x' y' = true := isIn_iff.2 ⟨p2, hr, by rw [bne_iff_ne]; exact i2⟩
  have e0 : seesB L x y x' y' = seesV L x y x' y' := by unfold seesB; rw [in1, in2]; rfl
  have e1 : seesB L x' y' x y = seesV L x' y' x y := by unfold seesB; rw [in1, in2]; rfl
  have e2 : seesB L x y x y = seesV L x y x y := by unfold seesB; rw [in1]; rfl
  refine ⟨hr, ?_, ?_, fun hcv => ?_, fun hb => ?_, ?_, ?_, csV_le L x y⟩
  · rw [e0, e1]
    exact (sees_comm hr (x := (x, y)) (y := (x', y')) p1 p2).symm
  · rw [e2]
    exact sees_self hr h (p := (x, y)) p1 i1
  · rw [e0]
    exact convex_sees hD hcv (x := (x, y)) (y := (x', y')) p1 p2 i1 i2
  · rw [e0]
    unfold blockV at hb
    split at hb
    · omega
    · rcases firstP_neg (crsE L x y x' y') L.length 0 with hn | hn
      · rw [firstP_no _ _ _ hn] at hb
        omega
      · by_cases hex : ∃ k, k < L.length ∧ crsE L x y x' y' k = true
        · obtain ⟨k, hk, hk2⟩ := hex
          exact seesV_cross hk hk2
        · have : firstP (crsE L x y x' y') 0 L.length = -1 := firstP_no _ _ _ fun j _ hj => by
            cases e : crsE L x y x' y' j
            · rfl
            · exact absurd ⟨j, by omega, e⟩ hex
          omega
  · rw [fto_mem, e0, Bool.eq_iff_iff, decide_eq_true_eq]
    unfold sbV
    rw [if_pos in1]
    unfold sbL
    rw [List.take_length, List.mem_filter]
    constructor
    · intro hh; exact hh.2
    · intro hh; exact ⟨h2, hh⟩
  · obtain ⟨i, k, hi, hk, hne, s1, s2⟩ := sees_three hr h (p := (x, y)) p1 i1
    unfold csV
    rw [if_pos in1]
    have e := csL_sm L x y L.length
    have hle := (sm_two_le (f := fun i => if seesV L x y (gx L i) (gy L i) = true then 1 else 0) (fun i => by show (0 : Int) ≤ (if seesV L x y (gx L i) (gy L i) = true then 1 else 0); split <;> omega) hne L.length).2.1 hi hk
    simp only at s1 s2 hle
    rw [if_pos s1, if_pos s2] at hle
    omega

end Jor
end Go.Proofs.Ytjccilpjaaiicaa
