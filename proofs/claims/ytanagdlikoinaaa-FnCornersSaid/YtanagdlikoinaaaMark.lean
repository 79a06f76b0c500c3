/-
  Contracts: the laws' marks in a slice of points, and whether they are still there; rooms.
-/
import Derived.Test.YtanagdlikoinaaaJ1
namespace Go.Proofs.Ytanagdlikoinaaa
open Go.RowKit

/-- Blocks in [lo, hi) may have turned, no other; none has come. -/
structure Chg (lo hi : Nat) (w w' : World) : Prop where
  os : w'.os = w.os
  tape : w'.tape = w.tape
  output : w'.output = w.output
  size : w'.heap.size = w.heap.size
  block : ∀ k, ¬ (lo ≤ k ∧ k < hi) → w'.heap[k]? = w.heap[k]?

theorem Chg.refl (lo hi : Nat) (w : World) : Chg lo hi w w := ⟨rfl, rfl, rfl, rfl, fun _ _ => rfl⟩
theorem Chg.set {lo hi : Nat} {a b : World} (h : Chg lo hi a b) {p : Addr} (h1 : lo ≤ p.block) (h2 : p.block < hi) (u : Value) : Chg lo hi a (b.setCell p u) :=
  ⟨h.os, h.tape, h.output, by rw [size_setCell]; exact h.size, fun k hk => (Below.heap_setCell _ _ _ _ (by omega)).trans (h.block k hk)⟩
theorem Chg.below {lo hi B : Nat} {a b : World} (h : Chg lo hi a b) (hB : B ≤ lo) : Below B a b := ⟨h.os, h.tape, h.output, by rw [h.size]; exact Nat.le_refl _, fun k hk => h.block k (by omega)⟩
theorem Chg.far {lo hi : Nat} {a b : World} (h : Chg lo hi a b) {g : Nat} (hg : g < lo ∨ hi ≤ g) (o : Nat) : b.cell? ⟨g, o, none⟩ = a.cell? ⟨g, o, none⟩ := World.cell?_of_block (w := a) (a := ⟨g, o, none⟩) (h.block g (by omega))
theorem OwnS.chg {lo hi lo' hi' : Nat} {a b : World} {T : TypeId} {A : Option Addr} {l : List (Int × Int)} (h : OwnS a lo' hi' T A l) (hc : Chg lo hi a b) (hd : hi' ≤ lo ∨ hi ≤ lo') : OwnS b lo' hi' T A l := fun hl =>
  let ⟨g, e, a1, a2, h3⟩ := h hl
  ⟨g, e, a1, a2, h3.same (hc.block g (by omega))⟩
theorem Pts.chg {lo hi lo' hi' : Nat} {a b : World} {A : Option Addr} {l : List (Int × Int)} (h : Pts a lo' hi' A l) (hc : Chg lo hi a b) (hd : hi' ≤ lo ∨ hi ≤ lo') : Pts b lo' hi' A l := fun hl =>
  let ⟨g, off, e, a1, a2, h3⟩ := h hl
  ⟨g, off, e, a1, a2, fun k hk => ⟨(hc.far (by omega) _).trans (h3 k hk).1, (hc.far (by omega) _).trans (h3 k hk).2⟩⟩

def markL (k0 : Int) (n : Nat) : List (Int × Int) := (List.range n).map fun (i : Nat) => (k0 + 2 * (i : Int), k0 + 2 * (i : Int) + 1)

theorem markL_length (k0 : Int) (n : Nat) : (markL k0 n).length = n := by simp [markL]
theorem gx_markL (k0 : Int) (n k : Nat) (h : k < n) : gx (markL k0 n) k = k0 + 2 * (k : Int) := by simp [gx, markL, List.getD_eq_getElem?_getD, h]
theorem gy_markL (k0 : Int) (n k : Nat) (h : k < n) : gy (markL k0 n) k = k0 + 2 * (k : Int) + 1 := by simp [gy, markL, List.getD_eq_getElem?_getD, h]

theorem markL_step (k0 : Int) (l : List (Int × Int)) (k : Nat) (h : k < l.length) : markL k0 (k + 1) ++ l.drop (k + 1) = (markL k0 k ++ l.drop k).set k (k0 + 2 * (k : Int), k0 + 2 * (k : Int) + 1) := by
  have e : (markL k0 k).length = k := markL_length k0 k
  rw [List.set_append_right _ _ (by omega), e, Nat.sub_self, List.drop_eq_getElem_cons h, List.set_cons_zero]
  unfold markL
  rw [List.range_succ, List.map_append, List.append_assoc]
  rfl

end Go.Proofs.Ytanagdlikoinaaa
