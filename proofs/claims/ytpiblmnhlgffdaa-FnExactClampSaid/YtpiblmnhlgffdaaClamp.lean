/-
  Contracts: Clamp of the program and of the reference.
-/
import Derived.Test.YtpiblmnhlgffdaaPt
namespace Go.Proofs.Ytpiblmnhlgffdaa
open Go.RowKit

/-- Clamp, as both texts give it -/
def clampV (n lo hi : Int) : Int := if hi < lo ∨ n < lo then lo else if hi < n then hi else n

theorem Clamp_any (n lo hi : Int) (w : World) :
    Calls Try.prog 19 #[.int .i64 n, .int .i64 lo, .int .i64 hi] w fun e w' => e = .returned (.int .i64 (clampV n lo hi)) ∧ w = w' := by
  go_enter Try.func19, Try.ntmps19
  go_wp2
  all_goals (go_ret; refine ⟨ret_int ?_, rfl⟩; unfold clampV; (repeat' split) <;> omega)

theorem sClamp_any (n lo hi : Int) (w : World) :
    Calls Try.prog 18 #[.int .i64 n, .int .i64 lo, .int .i64 hi] w fun e w' => e = .returned (.int .i64 (clampV n lo hi)) ∧ w = w' := by
  go_enter Try.func18, Try.ntmps18
  go_wp2
  all_goals (go_ret; refine ⟨ret_int ?_, rfl⟩; unfold clampV; (repeat' split) <;> omega)

theorem clamp_walk (n lo hi : Int) (w : World) : Calls Try.prog 5 #[.int .i64 n, .int .i64 lo, .int .i64 hi] w fun e w' => e = .returned (.bool true) ∧ Below w.heap.size w w' := by
  go_enter Try.func5, Try.ntmps5
  go_wp2_with (first
    | (go_at_call 18; refine (sClamp_any _ _ _ _).mono ?_; rintro e w1 ⟨rfl, rfl⟩)
    | (go_at_call 19; refine (Clamp_any _ _ _ _).mono ?_; rintro e w1 ⟨rfl, rfl⟩))
  go_ret
  exact ⟨rfl, Below.refl _ _⟩

end Go.Proofs.Ytpiblmnhlgffdaa
