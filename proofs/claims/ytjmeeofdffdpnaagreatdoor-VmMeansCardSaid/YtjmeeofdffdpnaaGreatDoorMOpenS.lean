/- Lemmas. Conditions: those of each theorem. -/
import Derived.Test.YtjmeeofdffdpnaaGreatDoorMTop
import Derived.Test.YtjmeeofdffdpnaaGreatDoorRows
namespace Go.Proofs.YtjmeeofdffdpnaaGreatDoor
open Go Go.K Go.ChangeShapes Go.RowKit Go.WideElems
theorem Tryz.own : ownKnob Tryz.prog.godebug = none := by kernel_rfl
theorem Tryz.laidOut : laidOutB Tryz.prog = true := by kernel_rfl
end Go.Proofs.YtjmeeofdffdpnaaGreatDoor
