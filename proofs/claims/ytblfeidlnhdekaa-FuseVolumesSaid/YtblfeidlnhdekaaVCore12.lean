/- Growing a nil slice, clearing a part of a row of structs. Conditions: those of each theorem. -/
import Derived.Test.YtblfeidlnhdekaaVCore10
namespace Go.K
open Go Go.RowKit
section
variable {α : Type} [Inhabited α] [RepE α]
end
end Go.K
