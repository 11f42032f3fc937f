/- Lemmas. Conditions: those of each theorem. -/
import Derived.Test.YtjmeeofdffdpnaaGreatDoorRDrz
import Derived.Test.YtjmeeofdffdpnaaGreatDoorRDfq
namespace Go.K
open Go Go.RowKit
variable {P : Program} {Pn : List PanicEntry → World → Prop} {N : Nat} {D : List Deferred} {ops : Array Oper} {md : Region.Mode} {Q : Exit → Act → World → Prop} {f : Nat → Value} {s : List (Nat × Value)} {J J0 : Cls}
class PanK (D : List Deferred) (sl : Nat) (v : Value) (Q : Exit → Act → World → Prop) (Pn : outParam (List PanicEntry → World → Prop)) : Prop where
  h : ∀ c a w, a.defers = D → a.tmps.getD sl undef = v → Pn c w → Q (.panic c) a w
instance {sl : Nat} {v : Value} [h : PanK D sl v Q Pn] {K : Act → World → Prop} : PanK D sl v (Exit.then K Q) Pn := ⟨fun c a w hd hs hp => h.h c a w hd hs hp⟩
instance {sl : Nat} {v : Value} [h : PanK D sl v Q Pn] {id : Nat} : PanK D sl v (Exit.inBlock id Q) Pn := ⟨fun c a w hd hs hp => h.h c a w hd hs hp⟩
section
variable {B : Bs} {Φ : Hp} {C : List Chunk}
end
end Go.K
