/- Lemmas. Conditions: those of each theorem. -/
import Derived.Test.YtblfeidlnhdekaaGreatSAuto
namespace Go.K
open Go
variable {P : Program} {J : Cls} {S : Nat → Value}
end Go.K
