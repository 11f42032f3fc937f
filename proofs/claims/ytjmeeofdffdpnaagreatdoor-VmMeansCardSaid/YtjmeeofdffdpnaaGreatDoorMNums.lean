/- Lemmas. Conditions: those of each theorem. -/

namespace Go.K.Nums
end Go.K.Nums
