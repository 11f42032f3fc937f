/- Growing a nil slice, clearing a part of a row of structs. Conditions: those of each theorem. -/
import Derived.Test.YtjcahklnkakklaaDoorTCore10
namespace Go.K
open Go Go.RowKit
section
variable {α : Type} [Inhabited α] [RepE α]
end
/-- a nil row of the call's own -/
theorem StP.nilRow {B : Bs} {Φ : Hp} {C : List Chunk} {w : World} (h : StP B Φ C w) (T sz : Nat) : StP B Φ (.row (.slice none 0 0) T sz 0 [] :: C) w :=
  { h with
    sat := fun d hd => by
      rcases List.mem_cons.1 hd with h1 | h1
      · subst h1; exact row_nil
      · exact h.sat d h1
    sep := List.pairwise_cons.2 ⟨fun d _ b hb => by simp [Chunk.row, blks] at hb, h.sep⟩
    away := fun b hb => h.away b (by simpa [Chunk.row, blks] using hb) }
end Go.K
namespace Go.K
open Go Go.RowKit
section
variable {P : Program} {B : Bs} {Φ : Hp} {C : List Chunk} {f : Nat → Value} {s : List (Nat × Value)} {kt : TypeId} {κ β : Type} {L : KL P kt κ} {ew : β → Value}
end
end Go.K
