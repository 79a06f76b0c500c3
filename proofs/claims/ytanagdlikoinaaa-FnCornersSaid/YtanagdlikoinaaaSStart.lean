/-
  Contract: the reference's StartAt (the plain part so far).
-/
import Derived.Test.YtanagdlikoinaaaStartAt
namespace Go.Proofs.Ytanagdlikoinaaa
open Go.RowKit

/-- the first k corners from corner m on -/
def rotL (l : List (Int × Int)) (m k : Nat) : List (Int × Int) := (List.range k).map fun j => l.getD ((m + j) % l.length) (0, 0)
theorem rotL_succ (l : List (Int × Int)) (m k : Nat) : rotL l m (k + 1) = rotL l m k ++ [l.getD ((m + k) % l.length) (0, 0)] := by
  unfold rotL
  rw [List.range_succ, List.map_append]
  rfl
theorem rotL_length (l : List (Int × Int)) (m k : Nat) : (rotL l m k).length = k := by simp [rotL]
theorem rotL_full {l : List (Int × Int)} {m : Nat} (hm : m < l.length) : rotL l m l.length = startL l m := by
  apply List.ext_getElem
  · rw [rotL_length, startL_length]
  · intro j h1 h2
    rw [rotL_length] at h1
    simp only [rotL, List.getElem_map, List.getElem_range, startL, List.getElem_append, List.length_drop]
    split
    · rw [Nat.mod_eq_of_lt (by omega), List.getElem_drop]
      simp [List.getD_eq_getElem?_getD, List.getElem?_eq_getElem (show m + j < l.length by omega)]
    · rw [Nat.mod_eq_sub_mod (by omega), Nat.mod_eq_of_lt (by omega), List.getElem_take]
      have e : m + j - l.length = j - (l.length - m) := by omega
      rw [e]
      simp [List.getD_eq_getElem?_getD, List.getElem?_eq_getElem (show j - (l.length - m) < l.length by omega)]

def OneC (w : World) (b : Nat) (T : TypeId) (v : Value) : Prop := w.heap[b]? = some (.cells #[v] T (0, 0))
theorem OneC.ext {w w' : World} {b : Nat} {T : TypeId} {v : Value} (h : OneC w b T v) (hx : Ext w w') : OneC w' b T v := (hx.below.block b (heap_lt h)).trans h
theorem OneC.cell {w : World} {b : Nat} {T : TypeId} {v : Value} (h : OneC w b T v) : b < w.heap.size ∧ w.cell? ⟨b, 0, none⟩ = some v ∧ w.frozen? ⟨b, 0, none⟩ = false := ⟨heap_lt h, by rw [blk_cell h]; rfl, blk_free h 0⟩
theorem OneC.set {w : World} {b : Nat} {T : TypeId} {v : Value} (h : OneC w b T v) (u : Value) : OneC (w.setCell ⟨b, 0, none⟩ u) b T u := by
  unfold OneC at *
  simp [World.setCell, Array.getElem?_modify, h]
theorem OneC.new (w : World) (T : TypeId) (v : Value) : OneC (w.alloc (.cells #[v] T)) w.heap.size T v := heap_alloc_new w _

theorem ownsRow_set {w : World} {base e size n : Nat} {v : Value} {xs : List Value} (h : w.ownsRow base e size v n xs) {p : Addr} (hp : p.block < base) (u : Value) : (w.setCell p u).ownsRow base e size v n xs := by
  obtain ⟨h1, h2⟩ := h
  refine ⟨h1, ?_⟩
  rcases h2 with h2 | ⟨g, cap, cur, hv, hg, hh, h3⟩
  · exact .inl h2
  · exact .inr ⟨g, cap, cur, hv, hg, (Below.heap_setCell _ _ _ _ (by omega)).trans hh, h3⟩
theorem OneC.grown {w w' : World} {b : Nat} {T : TypeId} {v : Value} {row : Option Nat} (h : OneC w b T v) (hg : w.grownBy w' row) (hr : row ≠ some b) : OneC w' b T v := (hg.block b (heap_lt h) (fun e => hr e.symm)).trans h

end Go.Proofs.Ytanagdlikoinaaa
