/- Lemmas. Conditions: those of each theorem. -/
import Derived.Test.YtpapfpoefiikpaaGreatDoorVDrz
import Derived.Test.YtpapfpoefiikpaaGreatDoorVOwnG
namespace Go.K
open Go Go.RowKit
section
variable {P : Program} {N : Nat} {D : List Deferred} {Q : Exit → Act → World → Prop} {f : Nat → Value} {s : List (Nat × Value)} {B : Bs} {Φ : Hp} {C : List Chunk}
theorem StP.madeM {K : List Chunk} {w W : World} (h : StP B Φ C w) (k : StP ⟨w, hp w, []⟩ (hp w) K W) : StP B Φ (K ++ C) W := StP.frameL (A := []) h { k.less h.phi with orig := fun _ _ e _ => e }
end
end Go.K
