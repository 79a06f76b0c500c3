/-
  Contracts: Clamp of the program and of the reference.
-/
import Derived.Test.YtkdhgngpapfkdaaPt
namespace Go.Proofs.Ytkdhgngpapfkdaa
open Go.RowKit

/-- Clamp, as both texts give it -/
def clampV (n lo hi : Int) : Int := if hi < lo ∨ n < lo then lo else if hi < n then hi else n

theorem Clamp_any (n lo hi : Int) (w : World) :
    Calls Try.prog 12 #[.int .i64 n, .int .i64 lo, .int .i64 hi] w fun e w' => e = .returned (.int .i64 (clampV n lo hi)) ∧ w = w' := by
  go_enter Try.func12, Try.ntmps12
  go_wp2
  all_goals (go_ret; refine ⟨ret_int ?_, rfl⟩; unfold clampV; (repeat' split) <;> omega)

end Go.Proofs.Ytkdhgngpapfkdaa
