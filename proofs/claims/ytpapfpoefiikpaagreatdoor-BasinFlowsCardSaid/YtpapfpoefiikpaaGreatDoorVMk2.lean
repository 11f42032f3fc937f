/- Lemmas. Conditions: those of each theorem. -/
import Derived.Test.YtpapfpoefiikpaaGreatDoorVMks
import Derived.Test.YtpapfpoefiikpaaGreatDoorVAuto3
namespace Go.K
open Go Go.RowKit
section
variable {P : Program} {N : Nat} {D : List Deferred} {Q : Exit → Act → World → Prop} {f : Nat → Value} {s : List (Nat × Value)} {B : Bs} {Φ : Hp} {C : List Chunk}
end
end Go.K
