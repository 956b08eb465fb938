/- What every row of the seat wants: two closed facts of the program. -/
import Derived.Test.YtkpibnhddhdooadGreatRows
import Derived.Test.YtkpibnhddhdooadGreatJ4
namespace Go.Proofs.YtkpibnhddhdooadGreat
open Go.RowKit Go.ChangeShapes Go.WideShapes Go.ChangeAt Go.Joins L
set_option linter.unusedVariables false
namespace R
theorem own : ownKnob Tryz.prog.godebug = none := by kernel_rfl
theorem laid : laidOutB Tryz.prog = true := by kernel_rfl
end R

end Go.Proofs.YtkpibnhddhdooadGreat
