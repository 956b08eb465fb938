/- What every row of the seat wants: two closed facts of the program. -/
import Derived.Test.YtkpibnhddhdooacDoorRows
import Derived.Test.YtkpibnhddhdooacDoorJ4
namespace Go.Proofs.YtkpibnhddhdooacDoor
open Go.RowKit Go.ChangeShapes Go.WideShapes Go.ChangeAt Go.Joins L
set_option linter.unusedVariables false
namespace R
theorem own : ownKnob Tryd.prog.godebug = none := by kernel_rfl
theorem laid : laidOutB Tryd.prog = true := by kernel_rfl
end R

end Go.Proofs.YtkpibnhddhdooacDoor
