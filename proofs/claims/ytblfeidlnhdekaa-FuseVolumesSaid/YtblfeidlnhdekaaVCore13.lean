/- The loop over a map, forked at each step. Conditions: those of each theorem. -/
import Derived.Test.YtblfeidlnhdekaaVCore12
namespace Go.K
open Go Go.RowKit
section
variable {P : Program} {B : Bs} {Φ : Hp} {C : List Chunk} {f : Nat → Value} {s : List (Nat × Value)} {kt : TypeId} {κ β : Type} {L : KL P kt κ} {ew : β → Value}
end
end Go.K
