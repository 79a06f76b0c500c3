/-
  An argument that is a slice of ints, opened. No program in sight.
-/
import Derived.Test.YtmccffmkfdcmmaaInts
namespace Go.Proofs.Ytmccffmkfdcmmaa
open Go.RowKit

open Go.ChangeShapes Go.WideShapes Go.Joins Go.Deep in
/-- an argument that is a slice of ints -/
theorem open_intS {P : Program} {H : Type} {enc : TypeId × Value → H} {w : World} {base : Nat} {spare : Nat → Bool} {held : Bool} {r : Reach} {b0 : Nat} {t e : TypeId} {v : Value} {d : DataW H} {p : List MemPlace} (hs : P.underlying t = some (.slice e)) (he : P.underlying e = some (.int .i64)) (hC : P.cellsOf e = 1)
    (hv : Value.okWide P w r b0 t v) (h : DataW.Trod enc P w base spare held t v d p) :
    ∃ (A : Option Addr) (l : List Int) (c : Nat), v = .slice A l.length c ∧ l.length ≤ c ∧ c ≤ maxLen ∧ RInts w A l := by
  obtain ⟨a, len, cap, rfl⟩ := okWide_slice hs hv
  obtain ⟨fuel, hf⟩ := h
  rcases open_ints hs he hC hf with ⟨h1, _⟩ | ⟨b, len', cap', zs, h1, _, hlc, hm, hz, _, hcell, hwf⟩
  · simp [Value.cells] at h1
    obtain ⟨rfl, rfl, rfl⟩ := h1
    exact ⟨none, [], 0, rfl, Nat.le_refl _, by unfold maxLen; omega, RInts.nil⟩
  · simp [Value.cells] at h1
    obtain ⟨rfl, rfl, rfl⟩ := h1
    have hzl : len ≤ zs.length := by rw [hz]; split <;> omega
    have hll : (zs.take len).length = len := by rw [List.length_take]; omega
    refine ⟨some b, zs.take len, cap, by rw [hll], by rw [hll]; exact hlc, hm, fun h0 => ?_⟩
    rw [hll] at h0
    obtain ⟨b, off, spot⟩ := b
    have hspot : spot = none := by
      have h1 := hcell 0 (by omega)
      simpa [Addr.add] using World.cell?_spot h1
    subst hspot
    have ad : ∀ (b off j : Nat), (Addr.add ⟨b, off, none⟩ j) = ⟨b, off + j, none⟩ := fun b off j => by
      unfold Addr.add
      split
      · subst_vars; rfl
      · rfl
    refine ⟨b, off, rfl, ?_, fun k hk => ?_⟩
    · have h1 := hcell 0 (by omega)
      rw [ad] at h1
      exact block_lt_of_cell h1
    · rw [hll] at hk
      have h1 := hcell k (by omega)
      rw [ad] at h1
      have e1 : gi (zs.take len) k = zs.getD k 0 := by
        unfold gi
        rw [List.getD_eq_getElem?_getD, List.getElem?_take, if_pos hk, List.getD_eq_getElem?_getD]
      rw [e1]
      exact h1

end Go.Proofs.Ytmccffmkfdcmmaa
