/- Facts of the program that the last texts ask. Conditions: none. -/
import Derived.Test.YtjcahklnkakklaaDoorTTop
import Derived.Test.YtjcahklnkakklaaDoorRows
namespace Go.Proofs.YtjcahklnkakklaaDoor
open Go Go.K Go.ChangeShapes Go.RowKit Go.WideElems
theorem Tryd.own : ownKnob Tryd.prog.godebug = none := by kernel_rfl
theorem Tryd.laidOut : laidOutB Tryd.prog = true := by kernel_rfl
end Go.Proofs.YtjcahklnkakklaaDoor
