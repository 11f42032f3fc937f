/- Lemmas. Conditions: those of each theorem. -/

namespace Al
def bit : Nat → Nat
  | 0 => 0
  | i + 1 => 2 ^ i
end Al
