/-
  Diagonals, in plain words of both texts, and that the two agree. No program in sight.
-/
import Derived.Test.YtjccilpjaaiicaaJ5
namespace Go.Proofs.Ytjccilpjaaiicaa
open Go.RowKit

/-- the corners i and k follow each other -/
def nbB (l : List (Int × Int)) (i k : Nat) : Bool := (i + 1) % l.length == k || (k + 1) % l.length == i
/-- the program's diagonal, for two corners of a valid room -/
def dgN (l : List (Int × Int)) (i k : Nat) : Bool := !(i == k || nbB l i k) && ((cuts l (gx l i) (gy l i) (gx l k) (gy l k)).length == 2 && (seesV l (gx l i) (gy l i) (gx l k) (gy l k) && (midP l (gx l i) (gy l i) (gx l k) (gy l k) == 2)))
/-- the reference's -/
def dgS (l : List (Int × Int)) (i k : Nat) : Bool := !((i == k || nbB l i k) || !seesV l (gx l i) (gy l i) (gx l k) (gy l k)) && (freeB l i k && decide (0 < holdsV (dbl l) (gx l i + gx l k) (gy l i + gy l k)))
/-- IsDiagonal, as both texts give it -/
def diagB (l : List (Int × Int)) (i k : Int) : Bool := roomB l && (inB i 0 ((l.length : Int) - 1) && (inB k 0 ((l.length : Int) - 1) && dgN l i.toNat k.toNat))

theorem cuts_two {l : List (Int × Int)} (hr : roomB l = true) {i k : Nat} (hi : i < l.length) (hk : k < l.length) : ((cuts l (gx l i) (gy l i) (gx l k) (gy l k)).length == 2) = freeB l i k := by
  have hf := (roomB_fine hr).1
  have hn := room_nodup hr
  have hw : ∀ j, j < l.length → within 1000000 (gx l j) (gy l j) := fun j hj => within_more (within_of_pok (hf.pok hj)) (by omega)
  have ne : ∀ j m, j < l.length → m < l.length → j ≠ m → (gx l j, gy l j) ≠ (gx l m, gy l m) := fun j m hj hm h e => h (nodup_getD (d := ((0, 0) : Int × Int)) hn hj hm e)
  have hlen : (cuts l (gx l i) (gy l i) (gx l k) (gy l k)).length = 2 + (l.filter (fun p => cutB (gx l i) (gy l i) (gx l k) (gy l k) p.1 p.2)).length := by
    unfold cuts cutsTo
    rw [List.take_length]
    simp only [List.length_cons]
    omega
  rw [Bool.eq_iff_iff, hlen]
  unfold freeB freeTo
  rw [List.all_eq_true]
  simp only [List.mem_range, beq_iff_eq, Bool.or_eq_true, Bool.not_eq_true']
  constructor
  · intro h j hj
    have h0 : l.filter (fun p => cutB (gx l i) (gy l i) (gx l k) (gy l k) p.1 p.2) = [] := List.length_eq_zero_iff.1 (by omega)
    rw [List.filter_eq_nil_iff] at h0
    have h1 := h0 _ (g_mem hj)
    rw [cutB_iff (p := (gx l j, gy l j)) (hf.pok hi) (hf.pok hk) (hf.pok hj)] at h1
    by_cases e1 : j = i
    · exact .inl e1
    · by_cases e2 : j = k
      · exact .inr (.inl e2)
      · refine .inr (.inr ?_)
        rw [Bool.eq_false_iff]
        intro ho
        exact h1 ⟨ne j i hj hi e1, ne j k hj hk e2, (onW_iff (a := (gx l i, gy l i)) (b := (gx l k, gy l k)) (c := (gx l j, gy l j)) (hw i hi) (hw k hk) (hw j hj)).1 ho⟩
  · intro h
    have h0 : l.filter (fun p => cutB (gx l i) (gy l i) (gx l k) (gy l k) p.1 p.2) = [] := by
      rw [List.filter_eq_nil_iff]
      intro p hp hc
      obtain ⟨j, hj, e1, e2⟩ := mem_g hp
      have ep : p = (gx l j, gy l j) := Prod.ext e1.symm e2.symm
      subst ep
      obtain ⟨n1, n2, ho⟩ := (cutB_iff (p := (gx l j, gy l j)) (hf.pok hi) (hf.pok hk) (hf.pok hj)).1 hc
      rcases h j hj with h1 | h1 | h1
      · subst h1; exact n1 rfl
      · subst h1; exact n2 rfl
      · have := (onW_iff (a := (gx l i, gy l i)) (b := (gx l k, gy l k)) (c := (gx l j, gy l j)) (hw i hi) (hw k hk) (hw j hj)).2 ho
        rw [h1] at this
        cases this
    rw [h0]
    rfl

theorem dg_eq {l : List (Int × Int)} (hr : roomB l = true) {i k : Nat} (hi : i < l.length) (hk : k < l.length) : dgS l i k = dgN l i k := by
  have hf := (roomB_fine hr).1
  have hm := mid_holds hf (p := (gx l i, gy l i)) (q := (gx l k, gy l k)) (hf.pok hi) (hf.pok hk)
  have hb := holds_bd (dbl l) (gx l i + gx l k) (gy l i + gy l k)
  have e : decide (0 < holdsV (dbl l) (gx l i + gx l k) (gy l i + gy l k)) = (midP l (gx l i) (gy l i) (gx l k) (gy l k) == 2) := by
    have hm' : midP l (gx l i) (gy l i) (gx l k) (gy l k) = holdsV (dbl l) (gx l i + gx l k) (gy l i + gy l k) + 1 := hm
    rw [hm', Bool.eq_iff_iff]
    simp only [decide_eq_true_eq, beq_iff_eq]
    omega
  unfold dgS dgN
  rw [cuts_two hr hi hk, e]
  cases (i == k || nbB l i k) <;> cases seesV l (gx l i) (gy l i) (gx l k) (gy l k) <;> cases freeB l i k <;> simp

end Go.Proofs.Ytjccilpjaaiicaa
