/- Lemmas. Conditions: those of each theorem. -/
import Derived.Test.YtpapfpoefiikpaaGreatDoorVCore13
namespace Go.K
open Go Go.RowKit
section
variable {P : Program} {N : Nat} {D : List Deferred} {Q : Exit → Act → World → Prop} {f : Nat → Value} {s : List (Nat × Value)} {J : Cls}
end
end Go.K
namespace Go.K
open Go Go.RowKit
section
variable {P : Program} {f : Nat → Value} {s : List (Nat × Value)} {J : Cls} {w : World}
end
end Go.K
