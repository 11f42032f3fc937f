/- Facts of the program that the last texts ask. Conditions: none. -/
import Derived.Test.YtnfmjfheciihjaaGreatDoorQTop
import Derived.Test.YtnfmjfheciihjaaGreatDoorRows
set_option maxRecDepth 8000
set_option maxHeartbeats 16000000
namespace Go.Proofs.YtnfmjfheciihjaaGreatDoor
open Go Go.K Go.ChangeShapes Go.RowKit Go.WideElems
theorem Tryz.own : ownKnob Tryz.prog.godebug = none := by kernel_rfl
theorem Tryz.laidOut : laidOutB Tryz.prog = true := by kernel_rfl
end Go.Proofs.YtnfmjfheciihjaaGreatDoor
