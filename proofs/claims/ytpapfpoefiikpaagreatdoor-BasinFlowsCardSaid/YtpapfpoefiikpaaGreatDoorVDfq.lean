/- Lemmas. Conditions: those of each theorem. -/
import Derived.Test.YtpapfpoefiikpaaGreatDoorVParK
namespace Go.K
open Go Go.RowKit
variable {P : Program} {N : Nat} {D : List Deferred} {f : Nat → Value} {s : List (Nat × Value)} {J J2 : Cls}
end Go.K
