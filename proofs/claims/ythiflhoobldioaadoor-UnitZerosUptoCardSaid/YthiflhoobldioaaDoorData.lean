/- The data of the layer as Lean structures, printed by typegen.py. Conditions: none. -/
namespace Bt
structure Amount where
  N : Int
  Dim : Int
  deriving Inhabited, DecidableEq
end Bt
