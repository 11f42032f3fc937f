/- Lemmas. Conditions: those of each theorem. -/
import Derived.Test.YtblfeidlnhdekaaGreatSRnd
import Derived.Test.YtblfeidlnhdekaaGreatSRes
namespace Go.K
open Go Go.RowKit
variable {B : Bs} {Φ Φ' : Hp} {C C' : List Chunk} {W W' : World}
def own (C : List Chunk) : List Nat := C.flatMap (·.fp)
end Go.K
