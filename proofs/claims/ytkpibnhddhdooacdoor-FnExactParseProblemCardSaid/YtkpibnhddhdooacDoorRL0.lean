/- What every row of the seat wants: the world in which the library's tables lie, and the tables told. -/
import Derived.Test.YtkpibnhddhdooacDoorR0
import Derived.Test.YtkpibnhddhdooacDoorCards
import Derived.Test.YtkpibnhddhdooacDoorTie
import Derived.Test.YtkpibnhddhdooacDoorB4
import Derived.ChangeSame
import Derived.JoinedAt
import Derived.RowKit3
import Derived.SevenTiedAt
namespace Go.Proofs.YtkpibnhddhdooacDoor
open Go.RowKit Go.ChangeShapes Go.WideShapes Go.ChangeAt Go.Joins L
set_option linter.unusedVariables false
def cellsIn : DataW Unit → List Value
  | .agg l => l.map fun d => match d with
    | .lit (.int k n) => .int k n
    | _ => .nilIface
  | _ => []
def putVar (h : Array Obj) (g : Nat) (cs : List Value) : Array Obj := h.modify g fun
  | .cells _ t z => .cells cs.toArray t z
  | o => o
noncomputable def laidWorld (os : Os) : World :=
  let w0 := World.holding Tryd.prog os ⟨#[], #[], []⟩
  { w0 with heap := putVar (putVar (putVar w0.heap 6 (cellsIn Rows.laid_math_bits_deBruijn32tab)) 7 (cellsIn Rows.laid_math_bits_deBruijn64tab)) 1 (cellsIn Rows.laid_internal_strconv_uint64pow10) }
theorem laidWorld_met (os : Os) (args : Array Value) : laidMet Tryd.prog Rows.fnExactFracTextRow.laid ((laidWorld os).forCall (fun _ _ => 0) ⟨#[], args, []⟩).memory :=
  laidMet_of_run' 8 (by kernel_rfl) (by kernel_rfl)
noncomputable abbrev tabH : AH := upd emp 0 (some ⟨0, powA, false, gPow + 1⟩)
theorem tabH_tab : L.Tab tabH := upd_same _ _ _
theorem gPow_type : (Tryd.prog.globals[gPow]?).map (·.type) = some 157 := by kernel_rfl
theorem tell_start {W : World} (hL : laidMet Tryd.prog Rows.fnExactFracTextRow.laid W) : Tell W (rho0.put 0 ⟨gPow, 0, 0⟩) tabH 1 := by
  have h3 : laidMet Tryd.prog [("math/bits.deBruijn32tab", Rows.laid_math_bits_deBruijn32tab), ("math/bits.deBruijn64tab", Rows.laid_math_bits_deBruijn64tab), ("internal/strconv.uint64pow10", Lib.tabData .u64 Lib.pow10Tab)] W := hL
  exact tell_tab gPow_named (Lib.tabIs_of_head gPow_named gPow_type Tryd.underlying157 Tryd.underlying93 (by kernel_rfl) (by kernel_rfl) (laidMet.tail (laidMet.tail h3))) (Tell.none W)
end Go.Proofs.YtkpibnhddhdooacDoor
