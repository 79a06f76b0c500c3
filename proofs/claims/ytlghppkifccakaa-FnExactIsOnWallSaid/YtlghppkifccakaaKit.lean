/-
  Two closed facts of the program that every law's frame names.
-/
import Derived.Test.YtlghppkifccakaaRows
import Derived.Test.YtlghppkifccakaaBase
namespace Go.Proofs.Ytlghppkifccakaa
open Go.ChangeShapes Go.WideShapes Go.ChangeAt Go.RowKit

theorem own : ownKnob Try.prog.godebug = none := by kernel_rfl

theorem laidOut : laidOutB Try.prog = true := by kernel_rfl

end Go.Proofs.Ytlghppkifccakaa
