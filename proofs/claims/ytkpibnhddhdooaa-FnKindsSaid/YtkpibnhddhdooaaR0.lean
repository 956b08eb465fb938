/- What every row of the seat wants: two closed facts of the program. -/
import Derived.Test.YtkpibnhddhdooaaRows
import Derived.Test.YtkpibnhddhdooaaJ4
namespace Go.Proofs.Ytkpibnhddhdooaa
open Go.RowKit Go.ChangeShapes Go.WideShapes Go.ChangeAt Go.Joins L
set_option linter.unusedVariables false
namespace R
theorem own : ownKnob Try.prog.godebug = none := by kernel_rfl
theorem laid : laidOutB Try.prog = true := by kernel_rfl
end R

end Go.Proofs.Ytkpibnhddhdooaa
