/-
  Two closed facts of the program that every law's frame names.
-/
import Derived.Test.YtpiblmnhlgffdaaRows
import Derived.Test.YtpiblmnhlgffdaaBase
namespace Go.Proofs.Ytpiblmnhlgffdaa
open Go.ChangeShapes Go.WideShapes Go.ChangeAt Go.RowKit

theorem own : ownKnob Try.prog.godebug = none := by kernel_rfl

theorem laidOut : laidOutB Try.prog = true := by kernel_rfl

end Go.Proofs.Ytpiblmnhlgffdaa
