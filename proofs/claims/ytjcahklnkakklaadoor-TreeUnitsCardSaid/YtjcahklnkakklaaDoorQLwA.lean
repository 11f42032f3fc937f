/- Walks (part LwA), printed by walk2.py. Conditions: those of each theorem. -/
import Derived.Test.YtjcahklnkakklaaDoorQTrF
import Derived.Test.YtjcahklnkakklaaDoorQPlG
import Derived.Test.YtjcahklnkakklaaDoorQScB
namespace Go.Proofs.YtjcahklnkakklaaDoor
open Go Go.K Go.RowKit

end Go.Proofs.YtjcahklnkakklaaDoor
