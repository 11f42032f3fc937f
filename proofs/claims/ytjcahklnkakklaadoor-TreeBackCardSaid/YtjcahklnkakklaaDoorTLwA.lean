/- Walks (part LwA), printed by walk2.py. Conditions: those of each theorem. -/
import Derived.Test.YtjcahklnkakklaaDoorTTrF
import Derived.Test.YtjcahklnkakklaaDoorTPlG
import Derived.Test.YtjcahklnkakklaaDoorTScB
namespace Go.Proofs.YtjcahklnkakklaaDoor
open Go Go.K Go.RowKit

end Go.Proofs.YtjcahklnkakklaaDoor
