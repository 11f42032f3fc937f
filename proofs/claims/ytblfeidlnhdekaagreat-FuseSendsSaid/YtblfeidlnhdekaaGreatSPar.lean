/- Lemmas. Conditions: those of each theorem. -/
import Derived.Test.YtblfeidlnhdekaaGreatSRndS
namespace Go.K
open Go Go.RowKit
variable {B : Bs} {Φ Ψ : Hp} {C : List Chunk} {W W' : World}
end Go.K
