/- Lemmas. Conditions: those of each theorem. -/
import Derived.Test.YtnfmjfheciihjaaGreatDoorTTop
import Derived.Test.YtnfmjfheciihjaaGreatDoorRows
namespace Go.Proofs.YtnfmjfheciihjaaGreatDoor
open Go Go.K Go.ChangeShapes Go.RowKit Go.WideElems
theorem Tryz.own : ownKnob Tryz.prog.godebug = none := by kernel_rfl
theorem Tryz.laidOut : laidOutB Tryz.prog = true := by kernel_rfl
end Go.Proofs.YtnfmjfheciihjaaGreatDoor
