/- What the row on reading wants: the world in which the library's variables lie, and these told. -/
import Derived.Test.YtkpibnhddhdooacDoorRL0
import Derived.Test.YtkpibnhddhdooacDoorB4
import Derived.SizedLaws
import Derived.Shelf.Vars
import Derived.Stop.LaidErr
import Derived.ChangeMaps5
namespace Go.Proofs.YtkpibnhddhdooacDoor
open Go.RowKit Go.ChangeShapes Go.WideShapes Go.ChangeAt Go.Joins L
open Go.ChangeMaps (open_string)
set_option linter.unusedVariables false
def cellsDeep : DataW Unit → List Value
  | .agg l => l.flatMap cellsIn
  | _ => []
noncomputable def low : Nat := (World.holding Tryd.prog default ⟨#[], #[], []⟩).heap.size
abbrev synS : ByteArray := { data := #[105, 110, 118, 97, 108, 105, 100, 32, 115, 121, 110, 116, 97, 120] }
abbrev rngS : ByteArray := { data := #[118, 97, 108, 117, 101, 32, 111, 117, 116, 32, 111, 102, 32, 114, 97, 110, 103, 101] }
noncomputable def laidWorld7 (os : Os) : World :=
  let w0 := World.holding Tryd.prog os ⟨#[.cells #[.string synS] 173, .cells #[.string rngS] 173], #[], []⟩
  { w0 with heap := putVar (putVar (putVar (putVar (putVar (putVar (putVar w0.heap 6 (cellsIn Rows.laid_math_bits_deBruijn32tab)) 7 (cellsIn Rows.laid_math_bits_deBruijn64tab)) 1 (cellsIn Rows.laid_internal_strconv_uint64pow10))
      3 (cellsDeep Rows.laid_unicode_utf8_acceptRanges)) 2 (cellsIn Rows.laid_unicode_utf8_first)) 4 [.iface 171 (.pointer (some ⟨low, 0, none⟩))]) 5 [.iface 171 (.pointer (some ⟨low + 1, 0, none⟩))] }
theorem laidWorld7_met (os : Os) (args : Array Value) : laidMet Tryd.prog Rows.fnExactParseProblemRow.laid ((laidWorld7 os).forCall (fun _ _ => 0) ⟨#[], args, []⟩).memory :=
  laidMet_of_run' 10 (by kernel_rfl) (by kernel_rfl)
end Go.Proofs.YtkpibnhddhdooacDoor
