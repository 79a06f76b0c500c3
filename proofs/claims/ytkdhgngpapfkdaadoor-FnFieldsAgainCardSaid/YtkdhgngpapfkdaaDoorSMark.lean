/-
  Contracts: what the statements do with rows of strings: compare, mark, look at the marks.
-/
import Derived.Test.YtkdhgngpapfkdaaDoorStr
import Derived.Test.YtkdhgngpapfkdaaDoorFmt
namespace Go.Proofs.YtkdhgngpapfkdaaDoor
open Go.RowKit
open Go.Lib (decDigits)

/-- w' is w with new blocks; of the old ones only those from lo up to hi may have turned. -/
structure Tur (lo hi : Nat) (w w' : World) : Prop where
  os : w'.os = w.os
  tape : w'.tape = w.tape
  output : w'.output = w.output
  size : w.heap.size ≤ w'.heap.size
  block : ∀ k, k < w.heap.size → ¬ (lo ≤ k ∧ k < hi) → w'.heap[k]? = w.heap[k]?
section
variable {lo hi : Nat} {w a b : World}
theorem Tur.of_ext (h : Ext w a) : Tur lo hi w a := ⟨h.below.os, h.below.tape, h.below.output, h.size, fun k hk _ => h.below.block k hk⟩
theorem Tur.refl (w : World) : Tur lo hi w w := Tur.of_ext (Ext.refl w)
theorem Tur.ext (h : Tur lo hi w a) (hx : Ext a b) : Tur lo hi w b :=
  ⟨hx.below.os.trans h.os, hx.below.tape.trans h.tape, hx.below.output.trans h.output, Nat.le_trans h.size hx.size, fun k hk hr => (hx.below.block k (Nat.lt_of_lt_of_le hk h.size)).trans (h.block k hk hr)⟩
theorem Tur.set (h : Tur lo hi w a) {g : Nat} (h1 : lo ≤ g) (h2 : g < hi) (o : Nat) (u : Value) : Tur lo hi w (a.setCell ⟨g, o, none⟩ u) :=
  ⟨h.os, h.tape, h.output, by rw [size_setCell]; exact h.size, fun k hk hr => (Below.heap_setCell _ _ _ _ (fun e => hr (by subst e; exact ⟨h1, h2⟩))).trans (h.block k hk hr)⟩
theorem Tur.ownV {lo' hi' : Nat} {T : TypeId} {A : Option Addr} {xs : List Value} (h : Tur lo hi w a) (ho : OwnV w lo' hi' T A xs) (hr : hi' ≤ lo ∨ hi ≤ lo') : OwnV a lo' hi' T A xs := fun hl =>
  let ⟨g, cs, e, a1, a2, h3, h4⟩ := ho hl
  ⟨g, cs, e, a1, a2, (h.block g (hv_lt h3) (by omega)).trans h3, h4⟩
theorem Tur.below {v : World} (hv : Ext v w) (h : Tur lo hi w a) (hr : v.heap.size ≤ lo) : Below v.heap.size v a :=
  ⟨h.os.trans hv.below.os, h.tape.trans hv.below.tape, h.output.trans hv.below.output, Nat.le_trans hv.size h.size, fun k hk => (h.block k (Nat.lt_of_lt_of_le hk hv.size) (fun hc => by omega)).trans (hv.below.block k hk)⟩
end

/-- block g, a row of one-cell values -/
def OwnVB (w : World) (g : Nat) (T : TypeId) (xs : List Value) : Prop :=
  ∃ cs : Array Value, w.heap[g]? = some (.cells cs T (0, 0)) ∧ xs.length ≤ cs.size ∧ ∀ k, k < xs.length → cs[k]? = xs[k]?
theorem OwnVB.cell {w : World} {g : Nat} {T : TypeId} {xs : List Value} (h : OwnVB w g T xs) {k : Nat} (hk : k < xs.length) : w.cell? ⟨g, k, none⟩ = some xs[k] := by
  obtain ⟨cs, h1, _, h3⟩ := h
  simp [World.cell?, h1, h3 k hk, hk]
theorem OwnVB.frozen {w : World} {g : Nat} {T : TypeId} {xs : List Value} (h : OwnVB w g T xs) (o : Nat) : w.frozen? ⟨g, o, none⟩ = false := by
  obtain ⟨cs, h1, _⟩ := h
  simp [World.frozen?, h1]
theorem OwnVB.ext {w w' : World} {g : Nat} {T : TypeId} {xs : List Value} (h : OwnVB w g T xs) (hx : Ext w w') : OwnVB w' g T xs := by
  obtain ⟨cs, h1, h2⟩ := h
  exact ⟨cs, (hx.below.block g (hv_lt h1)).trans h1, h2⟩
theorem OwnVB.lt {w : World} {g : Nat} {T : TypeId} {xs : List Value} (h : OwnVB w g T xs) : g < w.heap.size := by
  obtain ⟨cs, h1, h2⟩ := h
  exact hv_lt h1
theorem OwnVB.set {w : World} {g : Nat} {T : TypeId} {xs : List Value} (h : OwnVB w g T xs) {k : Nat} (hk : k < xs.length) (u : Value) : OwnVB (w.setCell ⟨g, k, none⟩ u) g T (xs.set k u) := by
  obtain ⟨cs, h1, h2, h3⟩ := h
  refine ⟨cs.setIfInBounds k u, by simp [World.setCell, Array.getElem?_modify, h1], by simpa using h2, fun j hj => ?_⟩
  rw [List.length_set] at hj
  rw [Array.getElem?_setIfInBounds, List.getElem?_set]
  by_cases e : k = j
  · subst e; rw [if_pos rfl, if_pos rfl, if_pos (by omega), if_pos hj]
  · rw [if_neg e, if_neg e]; exact h3 j hj

/-- a mark's text -/
def mtS (k : Nat) : ByteArray := (⟨#[109]⟩ : ByteArray) ++ ⟨(ddz k).toArray⟩
def markV (k0 n : Nat) : List Value := (List.range n).map fun i => .string (mtS (k0 + i))
theorem markV_length (k0 n : Nat) : (markV k0 n).length = n := by simp [markV]
theorem markV_get (k0 n k : Nat) (h : k < n) : (markV k0 n)[k]? = some (.string (mtS (k0 + k))) := by simp [markV, h]
theorem markV_step (k0 : Nat) (xs : List Value) (k : Nat) (h : k < xs.length) : markV k0 (k + 1) ++ xs.drop (k + 1) = (markV k0 k ++ xs.drop k).set k (.string (mtS (k0 + k))) := by
  have e : (markV k0 k).length = k := markV_length k0 k
  rw [List.set_append_right _ _ (by omega), e, Nat.sub_self, List.drop_eq_getElem_cons h, List.set_cons_zero]
  unfold markV
  rw [List.range_succ, List.map_append, List.append_assoc]
  rfl

end Go.Proofs.YtkdhgngpapfkdaaDoor
