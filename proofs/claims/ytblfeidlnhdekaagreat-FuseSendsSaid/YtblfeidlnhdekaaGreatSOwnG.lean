/- Lemmas. Conditions: those of each theorem. -/
import Derived.Test.YtblfeidlnhdekaaGreatSParK
namespace Go.K
open Go Go.RowKit
variable {B : Bs} {Φ Ψ : Hp} {C : List Chunk} {W W' w : World}
theorem StP.less (h : StP B Ψ C w) (hl : Hp.le Φ Ψ) : StP B Φ C w := { h with
  phi := fun b o e => h.phi b o (hl b o e)
  orig := fun b o e hlt => h.orig b o (hl b o e) hlt
  away := fun b hb => by
    refine ⟨?_, (h.away b hb).2⟩
    cases he : Φ b with
    | none => rfl
    | some o =>
      have := hl b o he
      rw [(h.away b hb).1] at this
      cases this }
section
variable {P : Program} {f : Nat → Value} {s : List (Nat × Value)} {dst : Option Nat} {ty : TypeId} {pos : String} {af : Array Edge} {g : Option (Nat × Bool)} {x y z : Operand} {t kt et : TypeId} {κ β : Type} {L : KL P kt κ} {ew : β → Value}
end
end Go.K
