/-
  Contract: the walls of a list of corners.
-/
import Derived.Test.YtnomiefjefopbaaHelp
import Derived.Test.YtnomiefjefopbaaApp
namespace Go.Proofs.Ytnomiefjefopbaa
open Go.RowKit

theorem info_iwall : (Try.prog.info? 32).map (fun i => (i.zero, i.size, i.bytes)) = some (some (.agg #[.int .i64 0, .int .i64 0, .int .i64 0, .int .i64 0]), 4, 32) := by kernel_rfl

def nx (l : List (Int × Int)) (k : Nat) : Nat := (k + 1) % l.length

/-- the cells of the first n walls -/
def flatW (l : List (Int × Int)) (n : Nat) : List Value := (List.range n).flatMap fun k => [.int .i64 (gx l k), .int .i64 (gy l k), .int .i64 (gx l (nx l k)), .int .i64 (gy l (nx l k))]

theorem flatW_succ (l : List (Int × Int)) (n : Nat) : flatW l (n + 1) = flatW l n ++ [.int .i64 (gx l n), .int .i64 (gy l n), .int .i64 (gx l (nx l n)), .int .i64 (gy l (nx l n))] := by
  unfold flatW
  rw [List.range_succ, List.flatMap_append]
  simp

theorem flatW_length (l : List (Int × Int)) (n : Nat) : (flatW l n).length = n * 4 := by
  induction n with
  | zero => rfl
  | succ n ih => rw [flatW_succ, List.length_append, ih]; simp; omega

theorem flatW_get (l : List (Int × Int)) (n k : Nat) (h : k < n) : (flatW l n)[k * 4]? = some (.int .i64 (gx l k)) ∧ (flatW l n)[k * 4 + 1]? = some (.int .i64 (gy l k)) ∧ (flatW l n)[k * 4 + 2]? = some (.int .i64 (gx l (nx l k))) ∧ (flatW l n)[k * 4 + 3]? = some (.int .i64 (gy l (nx l k))) := by
  induction n with
  | zero => omega
  | succ n ih =>
    rw [flatW_succ]
    by_cases e : k = n
    · subst e
      rw [List.getElem?_append_right (by rw [flatW_length]; omega), List.getElem?_append_right (by rw [flatW_length]; omega), List.getElem?_append_right (by rw [flatW_length]; omega), List.getElem?_append_right (by rw [flatW_length]; omega), flatW_length]
      simp
    · obtain ⟨a, b, c, d⟩ := ih (by omega)
      rw [List.getElem?_append_left (by rw [flatW_length]; omega), List.getElem?_append_left (by rw [flatW_length]; omega), List.getElem?_append_left (by rw [flatW_length]; omega), List.getElem?_append_left (by rw [flatW_length]; omega)]
      exact ⟨a, b, c, d⟩

/-- A slice of the walls of l, in a block of its own. -/
def RW (w : World) (A : Option Addr) (l : List (Int × Int)) : Prop :=
  ∀ k, k < l.length → ∃ g, A = some ⟨g, 0, none⟩ ∧ g < w.heap.size ∧ w.cell? ⟨g, k * 4, none⟩ = some (.int .i64 (gx l k)) ∧ w.cell? ⟨g, k * 4 + 1, none⟩ = some (.int .i64 (gy l k)) ∧
    w.cell? ⟨g, k * 4 + 2, none⟩ = some (.int .i64 (gx l (nx l k))) ∧ w.cell? ⟨g, k * 4 + 3, none⟩ = some (.int .i64 (gy l (nx l k)))

theorem RW.ext {w w' : World} {A : Option Addr} {l : List (Int × Int)} (h : RW w A l) (hx : Ext w w') : RW w' A l := fun k hk =>
  let ⟨g, e, h0, h1, h2, h3, h4⟩ := h k hk
  ⟨g, e, Nat.lt_of_lt_of_le h0 hx.size, (hx.cells _ _ h0).trans h1, (hx.cells _ _ h0).trans h2, (hx.cells _ _ h0).trans h3, (hx.cells _ _ h0).trans h4⟩

theorem RW.of_own {w : World} {base e : Nat} {A : Option Addr} {c : Nat} {l : List (Int × Int)} (h : w.ownsRow base e 4 (.slice A l.length c) l.length (flatW l l.length)) : RW w A l := by
  intro k hk
  rcases h.2 with ⟨h1, h2⟩ | ⟨g, cap, cur, hv, hb, hh, _⟩
  · omega
  · injection hv with hA _ hc
    subst hA hc
    obtain ⟨a, b, c, d⟩ := flatW_get l l.length k hk
    have hlt : g < w.heap.size := by
      rcases Nat.lt_or_ge g w.heap.size with h2 | h2
      · exact h2
      · rw [Array.getElem?_eq_none h2] at hh; cases hh
    exact ⟨g, rfl, hlt, (h.cellAt _ (by omega)).trans a, (h.cellAt _ (by omega)).trans b, (h.cellAt _ (by omega)).trans c, (h.cellAt _ (by omega)).trans d⟩

end Go.Proofs.Ytnomiefjefopbaa
