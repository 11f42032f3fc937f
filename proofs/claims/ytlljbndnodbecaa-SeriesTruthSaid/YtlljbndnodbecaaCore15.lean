/- One more rule for a region whose walk forks: a quiet operation that is taken alone under a guard whose truth is known. Conditions: those of the theorem. -/
import Derived.Test.YtlljbndnodbecaaCore14
namespace Go.K
open Go
theorem DT.qeg {P : Program} {N : Nat} {D : List Deferred} {ops : Array Oper} {J0 J : Cls} {I : List (Nat × Value) → Cls → Prop} {t : TrO} {f : Nat → Value} {s : List (Nat × Value)} {d j gd : Nat} {want : Bool} {op : Op} {ty : TypeId} {pos : String} {af : Array Edge} {v : Value}
    (hJ : t ≠ .nil → ∀ w, J.p w → J0.p w) (hd : Nat.blt d N = true) (hy : (ops[j]?).bind (·.dst) = some gd) (hb : fr f s gd = .bool want) (hq : Qt P J f s ⟨some d, op, ty, pos, af, some (j, want)⟩ v) (k : DT P N D ops J0 I t f ((d, v) :: s) J) :
    DT P N D ops J0 I (.e ⟨some d, op, ty, pos, af, some (j, want)⟩ t) f s J :=
  DT.effg (X := Unit) (fun _ => v) (fun _ => J) (fun hr _ => hJ hr) hd hy hb (fun w hw => effX_mono (fun _ _ ⟨e, hb⟩ => ⟨(), e, J.ext _ _ hw hb⟩) (effX_of_quietX (hq w hw))) (fun _ => k)
end Go.K
