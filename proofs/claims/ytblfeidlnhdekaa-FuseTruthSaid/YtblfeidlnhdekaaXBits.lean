/- Plain facts on a product's quotient, bit by bit: no program in sight. Conditions: none. -/

namespace Al
def bit : Nat → Nat
  | 0 => 0
  | i + 1 => 2 ^ i
end Al
