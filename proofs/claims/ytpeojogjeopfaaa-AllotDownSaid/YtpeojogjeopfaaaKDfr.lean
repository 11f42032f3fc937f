/- Lemmas. Conditions: those of each theorem. -/
import Derived.Test.YtpeojogjeopfaaaKRndS
import Derived.Recover
namespace Go.K
open Go Go.RowKit
variable {B : Bs} {Φ Ψ : Hp} {C : List Chunk} {W W' : World}
end Go.K
namespace Go.K
open Go Go.RowKit
variable {P : Program} {N : Nat} {D : List Deferred} {f : Nat → Value} {s : List (Nat × Value)} {J : Cls}
end Go.K
