/-
  Contracts: IsNearer of the program and of the reference.
-/
import Derived.Test.YtanagdlikoinaaaJ2
import Derived.Test.YtanagdlikoinaaaJ1
namespace Go.Proofs.Ytanagdlikoinaaa
open Go.RowKit

/-- a slice of three points in a block of its own -/
def SL3 (ax ay bx by_ cx cy : Int) (v : Value) (w : World) : Prop := ∃ b, v = .slice (some ⟨b, 0, none⟩) 3 3 ∧ b < w.heap.size ∧ w.cell? ⟨b, 0, none⟩ = some (.int .i64 ax) ∧ w.cell? ⟨b, 1, none⟩ = some (.int .i64 ay) ∧ w.cell? ⟨b, 2, none⟩ = some (.int .i64 bx) ∧ w.cell? ⟨b, 3, none⟩ = some (.int .i64 by_) ∧ w.cell? ⟨b, 4, none⟩ = some (.int .i64 cx) ∧ w.cell? ⟨b, 5, none⟩ = some (.int .i64 cy)

theorem SL3_stable (ax ay bx by_ cx cy : Int) : Stable (SL3 ax ay bx by_ cx cy) := by
  rintro v w w' ⟨b, rfl, hb, h⟩ hx
  refine ⟨b, rfl, Nat.lt_of_lt_of_le hb hx.size, ?_⟩
  simp only [hx.cells b _ hb]
  exact h

theorem SL3_mk {ax ay bx by_ cx cy : Int} (b : Nat) (w : World) (h : b < w.heap.size) (hc : w.cell? ⟨b, 0, none⟩ = some (.int .i64 ax) ∧ w.cell? ⟨b, 1, none⟩ = some (.int .i64 ay) ∧ w.cell? ⟨b, 2, none⟩ = some (.int .i64 bx) ∧ w.cell? ⟨b, 3, none⟩ = some (.int .i64 by_) ∧ w.cell? ⟨b, 4, none⟩ = some (.int .i64 cx) ∧ w.cell? ⟨b, 5, none⟩ = some (.int .i64 cy)) : SL3 ax ay bx by_ cx cy (.slice (some ⟨b, 0, none⟩) 3 3) w := ⟨b, rfl, h, hc⟩

theorem pointsOkS3 {ax ay bx by_ cx cy : Int} {v : Value} {w : World} (h : SL3 ax ay bx by_ cx cy v w) :
    Calls Try.prog 37 #[v] w fun e w' => e = .returned (.bool (pok3 ax ay bx by_ cx cy)) ∧ Ext w w' := by
  obtain ⟨b, rfl, hb, hc⟩ := h
  exact pointsOk3_any _ _ _ _ _ _ _ _ hb hc

end Go.Proofs.Ytanagdlikoinaaa
