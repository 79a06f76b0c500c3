/-
  Rows of one-cell values in a block of the call's own (strings): known whole, looked at again. No program in sight.
-/
import Derived.Test.YtkdhgngpapfkdaaDoorBytes
import Derived.Test.YtkdhgngpapfkdaaDoorMark
namespace Go.Proofs.YtkdhgngpapfkdaaDoor
open Go.RowKit

/-- The slice '.slice A xs.length c' reads as xs. -/
def RV (w : World) (A : Option Addr) (xs : List Value) : Prop :=
  0 < xs.length → ∃ b off, A = some ⟨b, off, none⟩ ∧ b < w.heap.size ∧ ∀ k, k < xs.length → w.cell? ⟨b, off + k, none⟩ = xs[k]?
/-- The slice owns xs: its block lies in [lo, hi). -/
def OwnV (w : World) (lo hi : Nat) (T : TypeId) (A : Option Addr) (xs : List Value) : Prop :=
  0 < xs.length → ∃ g cs, A = some ⟨g, 0, none⟩ ∧ lo ≤ g ∧ g < hi ∧ w.heap[g]? = some (.cells cs T (0, 0)) ∧ xs.length ≤ cs.size ∧ ∀ k, k < xs.length → cs[k]? = xs[k]?

theorem hv_lt {w : World} {b : Nat} {o : Obj} (h : w.heap[b]? = some o) : b < w.heap.size := by
  rcases Nat.lt_or_ge b w.heap.size with h2 | h2
  · exact h2
  · rw [Array.getElem?_eq_none h2] at h; cases h

section
variable {w w' : World} {lo hi lo' hi' : Nat} {T : TypeId} {A : Option Addr} {xs : List Value}
theorem RV.ext (h : RV w A xs) (hx : Ext w w') : RV w' A xs := fun hl =>
  let ⟨b, off, e, h1, h2⟩ := h hl
  ⟨b, off, e, Nat.lt_of_lt_of_le h1 hx.size, fun k hk => (hx.cells _ _ h1).trans (h2 k hk)⟩
theorem RV.nil : RV w A [] := fun h => absurd h (by simp)
theorem OwnV.nil : OwnV w lo hi T A [] := fun h => absurd h (by simp)
theorem OwnV.ext (h : OwnV w lo hi T A xs) (hx : Ext w w') : OwnV w' lo hi T A xs := fun hl =>
  let ⟨g, cs, e, h1, h2, h3, h4⟩ := h hl
  ⟨g, cs, e, h1, h2, (hx.below.block g (hv_lt h3)).trans h3, h4⟩
theorem OwnV.more (h : OwnV w lo hi T A xs) (h1 : lo' ≤ lo) (h2 : hi ≤ hi') : OwnV w lo' hi' T A xs := fun hl =>
  let ⟨g, cs, e, a1, a2, h3⟩ := h hl
  ⟨g, cs, e, by omega, by omega, h3⟩
theorem OwnV.r (h : OwnV w lo hi T A xs) : RV w A xs := fun hl => by
  obtain ⟨g, cs, e, a1, a2, h3, h4, h5⟩ := h hl
  exact ⟨g, 0, e, hv_lt h3, fun k hk => by simp [World.cell?, h3, h5 k hk]⟩
theorem OwnV.chg (h : OwnV w lo' hi' T A xs) (hc : Chg lo hi w w') (hd : hi' ≤ lo ∨ hi ≤ lo') : OwnV w' lo' hi' T A xs := fun hl =>
  let ⟨g, cs, e, a1, a2, h3, h4⟩ := h hl
  ⟨g, cs, e, a1, a2, (hc.block g (by omega)).trans h3, h4⟩
theorem OwnV.of_own {base n c : Nat} (h : w.ownsRow base T 1 (.slice A n c) n xs) : n = xs.length ∧ OwnV w base w.heap.size T A xs := by
  have h1 : n = xs.length := by have := h.1; omega
  refine ⟨h1, fun hl => ?_⟩
  rcases h.2 with ⟨_, h2⟩ | ⟨g, cap, cur, hv, hb, hh, hcap, _, hsz, htake⟩
  · omega
  · injection hv with hA _ hc
    subst hA hc
    refine ⟨g, cur, rfl, hb, hv_lt hh, hh, by omega, fun k hk => ?_⟩
    have e1 : xs[k]? = (cur.toList.take (n * 1))[k]? := by rw [htake]
    rw [e1, List.getElem?_take, if_pos (by omega)]
    simp
theorem row_slice {w : World} {base e size n : Nat} {v : Value} {xs : List Value} (h : w.ownsRow base e size v n xs) : ∃ A c, v = .slice A n c := by
  rcases h.2 with ⟨rfl, h2⟩ | ⟨g, cap, cur, hv, _⟩
  · exact ⟨none, 0, by rw [h2]⟩
  · exact ⟨_, _, hv⟩
end

def strs (l : List ByteArray) : List Value := l.map Value.string
theorem strs_append (a b : List ByteArray) : strs (a ++ b) = strs a ++ strs b := by simp [strs]
theorem strs_length (l : List ByteArray) : (strs l).length = l.length := by simp [strs]
theorem strs_get (l : List ByteArray) (k : Nat) (h : k < l.length) : (strs l)[k]? = some (.string (l[k])) := by simp [strs, h]

end Go.Proofs.YtkdhgngpapfkdaaDoor
