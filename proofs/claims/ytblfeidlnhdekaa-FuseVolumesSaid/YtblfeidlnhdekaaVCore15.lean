/- One more rule for a region whose walk forks: a quiet operation that is taken alone under a guard whose truth is known. Conditions: those of the theorem. -/
import Derived.Test.YtblfeidlnhdekaaVCore14
namespace Go.K
open Go
end Go.K
