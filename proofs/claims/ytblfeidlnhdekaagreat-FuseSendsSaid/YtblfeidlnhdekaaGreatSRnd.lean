/- Lemmas. Conditions: those of each theorem. -/
import Derived.Test.YtblfeidlnhdekaaGreatSAuto
import Derived.RangeFuncNested
import Derived.RangeFuncBound
import Derived.RangeFuncCalls
import Derived.RangeFuncLeaves
import Derived.TacticsIn
import Derived.OrdersIn
import Derived.LoopNIn
namespace Go.K
open Go Go.RowKit
class Wid (F : Fence) : Prop where
  fn : ∀ f, F.fn f
  depth : F.depth = none
  calls : ∀ {n : Nat} {P : Program} {k : FuncId} {args : Array Value} {w : World} {R : Ending → World → Prop}, Calls P k args w R → CallsIn F n P k args w R
  rows : ∀ {n : Nat} {P : Program} {row : String} {args : Array Value} {w : World} {R : Value → World → Prop}, Rows P row args w R → RowsIn F n P row args w R
theorem rows_wide {n : Nat} {P : Program} {row : String} {args : Array Value} {w : World} {R : Value → World → Prop} (h : Rows P row args w R) : RowsIn Fence.wide n P row args w R := fun c cs _ => by
  obtain ⟨v, w', hR, hs⟩ := h c cs
  exact ⟨v, w', hR, stepsIn_wide.2 hs⟩
instance : Wid Fence.wide := ⟨fun _ => trivial, rfl, fun h => callsIn_wide.2 h, rows_wide⟩
instance {l : Nat} : Wid (Fence.wide.inRound l) := ⟨fun _ => trivial, rfl, fun h => CallsIn.inRound l (callsIn_wide.2 h), fun h => rows_wide h⟩
variable {F : Fence} {n : Nat} {P : Program} {N : Nat} {D : List Deferred} {ops : Array Oper} {Q : Exit → Act → World → Prop} {f : Nat → Value} {s : List (Nat × Value)} {J : Cls}
/-! ### code -/
def AI (F : Fence) (n : Nat) (P : Program) (N : Nat) (D : List Deferred) (c : Code) (Q : Exit → Act → World → Prop) (f : Nat → Value) (s : List (Nat × Value)) (J : Cls) : Prop :=
  ∀ a w, Rel N D (fr f s) a → J.p w → c.wpIn F n P Q a w
end Go.K
