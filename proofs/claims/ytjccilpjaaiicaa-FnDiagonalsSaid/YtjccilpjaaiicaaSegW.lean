/-
  What FnDiagonals asks of a drawn room and two of its corners. No program in sight.
-/
import Derived.Test.YtjccilpjaaiicaaSegV
import Derived.Test.YtjccilpjaaiicaaCutP
import Derived.Test.YtjccilpjaaiicaaDgOf
import Derived.Test.YtjccilpjaaiicaaJ6
namespace Go.Proofs.Ytjccilpjaaiicaa
namespace Jor

theorem filter_len {α : Type} (p q : α → Bool) : ∀ l : List α, (∀ x, x ∈ l → p x = q x) → (l.filter p).length = (l.filter q).length
  | [], _ => rfl
  | x :: r, h => by
    have h0 := h x (List.mem_cons_self ..)
    have ih := filter_len p q r fun y hy => h y (List.mem_cons_of_mem _ hy)
    rw [List.filter_cons, List.filter_cons, h0]
    split
    · rw [List.length_cons, List.length_cons, ih]
    · exact ih
/-- a diagonal is one both ways -/
theorem dgN_comm {l : List P} (hr : roomB l = true) {i k : Nat} (hi : i < l.length) (hk : k < l.length) : dgN l i k = dgN l k i := by
  have hf := (roomB_fine hr).1
  have p1 := hf.pok hi
  have p2 := hf.pok hk
  have e1 : (i == k) = (k == i) := by rw [Bool.eq_iff_iff, beq_iff_eq, beq_iff_eq]; exact eq_comm
  have e2 : nbB l i k = nbB l k i := by unfold nbB; rw [Bool.or_comm]
  have e3 : (cuts l (gx l i) (gy l i) (gx l k) (gy l k)).length = (cuts l (gx l k) (gy l k) (gx l i) (gy l i)).length := by
    unfold cuts cutsTo
    rw [List.take_length]
    simp only [List.length_cons]
    rw [filter_len _ (fun p => cutB (gx l k) (gy l k) (gx l i) (gy l i) p.1 p.2) l]
    intro p hp
    have hpp := pok_mem hf hp
    rw [Bool.eq_iff_iff, cutB_iff p1 p2 hpp, cutB_iff p2 p1 hpp]
    constructor
    · rintro ⟨a, b, c⟩; exact ⟨b, a, onz_comm.1 c⟩
    · rintro ⟨a, b, c⟩; exact ⟨b, a, onz_comm.1 c⟩
  have e4 : seesV l (gx l i) (gy l i) (gx l k) (gy l k) = seesV l (gx l k) (gy l k) (gx l i) (gy l i) := sees_comm hr (x := pt l i) (y := pt l k) p1 p2
  have e5 : midP l (gx l i) (gy l i) (gx l k) (gy l k) = midP l (gx l k) (gy l k) (gx l i) (gy l i) := by unfold midP; rw [Int.add_comm, Int.add_comm (gy l i)]
  unfold dgN
  rw [e1, e2, e3, e4, e5]
theorem diagB_nat {l : List P} (hr : roomB l = true) {i k : Nat} (hi : i < l.length) (hk : k < l.length) : diagB l i k = dgN l i k := by
  unfold diagB inB
  rw [hr, Int.toNat_natCast, Int.toNat_natCast]
  have h1 : decide ((0 : Int) ≤ (i : Int)) = true := by simp
  have h2 : decide ((i : Int) ≤ (l.length : Int) - 1) = true := by simp; omega
  have h3 : decide ((0 : Int) ≤ (k : Int)) = true := by simp
  have h4 : decide ((k : Int) ≤ (l.length : Int) - 1) = true := by simp; omega
  rw [h1, h2, h3, h4]
  rfl
theorem mem_dgTo {l : List P} {p : P} : ∀ m, p ∈ dgTo l m ↔ ∃ i k : Nat, i < m ∧ k < l.length ∧ i < k ∧ dgN l i k = true ∧ p = ((i : Int), (k : Int))
  | 0 => by
    simp only [dgTo, List.not_mem_nil, false_iff]
    rintro ⟨i, k, h, _⟩
    omega
  | m + 1 => by
    rw [dgTo, List.mem_append, mem_dgTo m]
    unfold dgRow
    constructor
    · rintro (⟨i, k, h1, h2⟩ | h)
      · exact ⟨i, k, by omega, h2⟩
      · obtain ⟨k, hk, e⟩ := List.mem_map.1 h
        obtain ⟨h1, h2⟩ := List.mem_filter.1 hk
        rw [Bool.and_eq_true, decide_eq_true_eq] at h2
        exact ⟨m, k, by omega, List.mem_range.1 h1, h2.1, h2.2, e.symm⟩
    · rintro ⟨i, k, h1, h2, h3, h4, h5⟩
      by_cases e : i = m
      · subst e
        exact .inr (List.mem_map.2 ⟨k, List.mem_filter.2 ⟨List.mem_range.2 h2, by rw [h4]; simp [h3]⟩, h5.symm⟩)
      · exact .inl ⟨i, k, by omega, h2, h3, h4, h5⟩
theorem listed {l : List P} (hr : roomB l = true) {i k : Nat} (hi : i < l.length) (hk : k < l.length) : fto (dgV l) (min (i : Int) k) (max (i : Int) k) (dgV l).length = dgN l i k := by
  rw [fto_mem, Bool.eq_iff_iff, decide_eq_true_eq]
  unfold dgV
  rw [if_pos hr, mem_dgTo]
  constructor
  · rintro ⟨a, b, h1, h2, h3, h4, h5⟩
    have e1 := congrArg Prod.fst h5
    have e2 := congrArg Prod.snd h5
    simp only at e1 e2
    rcases Nat.le_total i k with g | g
    · have : i = a := by omega
      have : k = b := by omega
      subst i k
      exact h4
    · have : k = a := by omega
      have : i = b := by omega
      subst i k
      rw [dgN_comm hr hi hk]
      exact h4
  · intro h
    have hne : i ≠ k := by
      rintro rfl
      unfold dgN at h
      simp at h
    rcases Nat.lt_or_gt_of_ne hne with g | g
    · exact ⟨i, k, hi, hk, g, h, Prod.ext (by simp only; omega) (by simp only; omega)⟩
    · exact ⟨k, i, hk, hi, g, by rw [dgN_comm hr hk hi]; exact h, Prod.ext (by simp only; omega) (by simp only; omega)⟩
/-! ## How many -/
theorem dgTo_count (l : List P) : ∀ m, (dgTo l m).length = ((List.range m).flatMap fun i => (List.range l.length).map fun k => (i, k)).countP (fun e => decide (e.1 < e.2) && dgN l e.1 e.2)
  | 0 => rfl
  | m + 1 => by
    rw [dgTo, List.length_append, dgTo_count l m, List.range_succ, List.flatMap_append, List.countP_append, List.flatMap_cons, List.flatMap_nil, List.append_nil, List.countP_map]
    unfold dgRow
    rw [List.length_map, ← List.countP_eq_length_filter]
    rfl
theorem count_mono {α : Type} (p q : α → Bool) : ∀ l : List α, (∀ x, x ∈ l → p x = true → q x = true) → l.countP p ≤ l.countP q
  | [], _ => Nat.le_refl _
  | x :: r, h => by
    have ih := count_mono p q r fun y hy => h y (List.mem_cons_of_mem _ hy)
    have h0 := h x (List.mem_cons_self ..)
    rw [List.countP_cons, List.countP_cons]
    cases hp : p x
    · simp
      omega
    · rw [h0 hp]
      simp
      omega
theorem many {l : List P} (hr : roomB l = true) {ts : List T3} (hc : Cert l.length ts) (h : Trg (hv l) l.length ts) : l.length ≤ (dgV l).length + 3 := by
  have h1 := hc.chords
  unfold dgV
  rw [if_pos hr, dgTo_count]
  have h2 := count_mono (fun e => chd l.length ts e.1 e.2) (fun e => decide (e.1 < e.2) && dgN l e.1 e.2) (prs l.length) fun e _ he => by
    unfold chd at he
    simp only [Bool.and_eq_true, decide_eq_true_eq, Bool.not_eq_true'] at he
    obtain ⟨a, b, c⟩ := he
    obtain ⟨t, ht, hte⟩ := hasE_iff.1 c
    obtain ⟨d, hd⟩ := rot_of_eds hte
    rw [Bool.and_eq_true, decide_eq_true_eq]
    exact ⟨a, diag_of hr h ht hd b⟩
  unfold prs at h1 h2
  omega
/-! ## The parts of a cut room -/
theorem getD_rot {l : List P} {m k j : Nat} (hj : j < k) : (rotL l m k).getD j (0, 0) = l.getD ((m + j) % l.length) (0, 0) := by
  unfold rotL
  rw [List.getD_eq_getElem?_getD, List.getElem?_map, List.getElem?_range hj]
  rfl
/-- what the wall behind corner m adds to the area -/
def crw (l : List P) (m : Nat) : Int := gx l m * gy l ((m + 1) % l.length) - gy l m * gx l ((m + 1) % l.length)
theorem area_part {l : List P} {i k : Nat} (hi : i < l.length) (hk : k < l.length) : areaZ (stL l i k) = sm (fun j => crw l ((i + j) % l.length)) (gap l.length i k) + (gx l k * gy l i - gy l k * gx l i) := by
  have hg := gap_lt hi hk
  have he := gap_end hi hk
  unfold areaZ
  rw [areaTo_sm, stL_length, sm]
  have hx : ∀ j, j < gap l.length i k + 1 → gx (stL l i k) j = gx l ((i + j) % l.length) ∧ gy (stL l i k) j = gy l ((i + j) % l.length) := fun j hj => by
    have e := getD_rot (l := l) (m := i) hj
    exact ⟨congrArg Prod.fst e, congrArg Prod.snd e⟩
  have hn : ∀ j, Go.Proofs.Ytjccilpjaaiicaa.nx (stL l i k) j = (j + 1) % (gap l.length i k + 1) := fun j => by unfold Go.Proofs.Ytjccilpjaaiicaa.nx; rw [stL_length]
  have e1 : sm (fun j => gx (stL l i k) j * gy (stL l i k) (Go.Proofs.Ytjccilpjaaiicaa.nx (stL l i k) j) - gy (stL l i k) j * gx (stL l i k) (Go.Proofs.Ytjccilpjaaiicaa.nx (stL l i k) j)) (gap l.length i k) = sm (fun j => crw l ((i + j) % l.length)) (gap l.length i k) := sm_congr _ _ _ fun j hj => by
    rw [hn, Nat.mod_eq_of_lt (show j + 1 < gap l.length i k + 1 by omega), (hx j (by omega)).1, (hx j (by omega)).2, (hx (j + 1) (by omega)).1, (hx (j + 1) (by omega)).2]
    unfold crw
    rw [mod_step]
  rw [e1, hn, Nat.mod_self, (hx _ (Nat.lt_succ_self _)).1, (hx _ (Nat.lt_succ_self _)).2, (hx 0 (by omega)).1, (hx 0 (by omega)).2, he, Nat.add_zero, Nat.mod_eq_of_lt hi]
theorem gap_sum {n i k : Nat} (hi : i < n) (hk : k < n) (hne : i ≠ k) : gap n i k + gap n k i = n := by
  unfold gap
  split <;> split <;> omega
theorem area_cut {l : List P} {i k : Nat} (hi : i < l.length) (hk : k < l.length) (hne : i ≠ k) : areaZ (stL l i k) + areaZ (stL l k i) = areaZ l := by
  have hs := gap_sum hi hk hne
  have he := gap_end hi hk
  have h1 := sm_split (fun j => crw l ((i + j) % l.length)) (gap l.length i k) (gap l.length k i)
  have h2 := sm_rot (crw l) hi
  have h3 : sm (fun j => crw l ((i + (gap l.length i k + j)) % l.length)) (gap l.length k i) = sm (fun j => crw l ((k + j) % l.length)) (gap l.length k i) := sm_congr _ _ _ fun j _ => by
    rw [← Nat.add_assoc, ← Nat.mod_add_mod (i + gap l.length i k), he]
  have h4 : areaZ l = sm (crw l) l.length := by
    unfold areaZ
    rw [areaTo_sm]
    rfl
  rw [hs] at h1
  rw [area_part hi hk, area_part hk hi, h4]
  have e1 := Int.mul_comm (gx l k) (gy l i)
  have e2 := Int.mul_comm (gy l k) (gx l i)
  omega
theorem dbl_room {l : List P} (hr : roomB l = true) : dblV l = areaZ l := by
  unfold dblV
  rw [if_pos (roomB_fine hr).1.2, if_pos (roomB_fine hr).1.1]
/-! ## FnDiagonals -/
theorem diagonals_plain {L : List P} (hD : Drawn L) {i k : Nat} (hi : i < L.length) (hk : k < L.length) : roomB L = true ∧ diagB L k i = diagB L i k ∧ fto (dgV L) (min (i : Int) k) (max (i : Int) k) (dgV L).length = diagB L i k ∧ (diagB L i k = true → seesB L (gx L i) (gy L i) (gx L k) (gy L k) = true) ∧ (cutOk L i k = true → diagB L i k = true) ∧ L.length ≤ (dgV L).length + 3 ∧ (cutOk L i k = true → dblV (cutA L i k) + dblV (cutB2 L i k) = dblV L ∧ (cutA L i k).length + (cutB2 L i k).length = L.length + 2 ∧ roomB (cutA L i k) = true ∧ roomB (cutB2 L i k) = true) := by
  obtain ⟨hr, ts, hc, h⟩ := drawn_trg hD
  have hf := (roomB_fine hr).1
  refine ⟨hr, ?_, ?_, fun hd => ?_, fun ho => ?_, many hr hc h, fun ho => ?_⟩
  · rw [diagB_nat hr hi hk, diagB_nat hr hk hi, dgN_comm hr hi hk]
  · rw [listed hr hi hk, diagB_nat hr hi hk]
  · rw [diagB_nat hr hi hk] at hd
    unfold dgN at hd
    simp only [Bool.and_eq_true] at hd
    have in1 : isInV L (gx L i) (gy L i) = true := isIn_iff.2 ⟨hf.pok hi, hr, by rw [show placeV L (gx L i) (gy L i) = 1 from corner_place hr hi]; rfl⟩
    have in2 : isInV L (gx L k) (gy L k) = true := isIn_iff.2 ⟨hf.pok hk, hr, by rw [show placeV L (gx L k) (gy L k) = 1 from corner_place hr hk]; rfl⟩
    unfold seesB
    rw [in1, in2, hd.2.2.1]
    rfl
  · unfold cutOk at ho
    rw [Bool.and_eq_true] at ho
    exact ho.1
  · have ho' := ho
    unfold cutOk at ho'
    simp only [Bool.and_eq_true, Int.toNat_natCast] at ho'
    obtain ⟨hd, r1, r2⟩ := ho'
    have hne : i ≠ k := by
      rintro rfl
      rw [diagB_nat hr hi hi] at hd
      unfold dgN at hd
      simp at hd
    have e1 : cutA L i k = stL L i k := by unfold cutA; rw [if_pos ho, Int.toNat_natCast, Int.toNat_natCast]
    have e2 : cutB2 L i k = stL L k i := by unfold cutB2; rw [if_pos ho, Int.toNat_natCast, Int.toNat_natCast]
    rw [e1, e2, dbl_room r1, dbl_room r2, dbl_room hr, stL_length, stL_length]
    have := gap_sum hi hk hne
    exact ⟨area_cut hi hk hne, by omega, r1, r2⟩

end Jor
end Go.Proofs.Ytjccilpjaaiicaa
