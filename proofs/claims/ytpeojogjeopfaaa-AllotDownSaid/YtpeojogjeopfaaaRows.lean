/-
  No cell of these rows narrows 'for every input' (looked for: loops, veiled, ifaces, maps, wideKeys, modest, calm, conditions, laid).
  DERIVED. THE GIVEN ROWS OF THIS SEAT. 6 by the template 'for every input the law returns true; each argument reads behind the call as it read before'; 0 by the template 'total and deterministic' (their statements: YtpeojogjeopfaaaTotals.lean).
  GIVEN WITH THE SEED: the statements are not yours to turn. If you find one false, say at which input.
  Laid BY PROGRAM, IN A SANDBOX (cutbox-rows.mjs): the forced cells as the released guide's own fill.sh prints them over the translation 2d982f056f00dd76… (all of the seat's roots in one cut). By AI agents, Wed Nov 11 2026. No macro, syntax, notation, axiom, sorry.
-/
import Derived.Test.YtpeojogjeopfaaaChecked
import GoSem.Claim
import GoSem.ClaimJoined
import GoSem.ClaimMapViews
import Derived.JoinedTies
import Derived.KernelRfl
namespace Go.Proofs.Ytpeojogjeopfaaa
/- THE CELL 'sum', in the pinned program and in every row, IS THE sha256 OF THE DUMP (.gsa) THAT YtpeojogjeopfaaaProg.lean LOADS. Nothing in Lean hashes anything: it is a label: what it is worth is what the hold of that sum in a sandbox is worth. -/
noncomputable def Try.pinned : Pinned := { name := "ytpeojogjeopfaaa", sum := "2d982f056f00dd7672474187f3d5c635b0e990b20e7c476f02152b5f25657867", checked := Try.checked }
namespace Rows
def none {H : Type} : Left H := { results := [], args := [] }

/-- 'bournelaw37.AllotTells': WHATEVER THE INPUT: true; the input reads as it did. -/
def allotTellsSpec : ChangeSpec := { name := "allotTells", fn := fun _ => fun
  | [d1, d2, d3, d4, d5] => { results := [.lit (.bool true)], args := [d1, d2, d3, d4, d5] }
  | _ => none }
def allotTellsRow : OpenClaim := { program := "ytpeojogjeopfaaa", sum := "2d982f056f00dd7672474187f3d5c635b0e990b20e7c476f02152b5f25657867", func := "bourne/bournelaw37.AllotTells", spec := "allotTells", named := ["math/bits.divideError", "math/bits.overflowError"], plainKeys := false, apart := false }
def AllotTellsSaid : Prop := allotTellsRow.holds Try.pinned (OpenSpec.ofChange allotTellsSpec)

/-- ITS FALSE NEIGHBOUR: 'it returns false'. Refute it at one input. -/
def allotTellsWrong : ChangeSpec := { name := "allotTells", fn := fun _ => fun
  | [d1, d2, d3, d4, d5] => { results := [.lit (.bool false)], args := [d1, d2, d3, d4, d5] }
  | _ => none }
def AllotTellsWrongFalsely : Prop := allotTellsRow.holds Try.pinned (OpenSpec.ofChange allotTellsWrong)

/-- 'bournelaw37.AllotStops': WHATEVER THE INPUT: true; the input reads as it did. -/
def allotStopsSpec : ChangeSpec := { name := "allotStops", fn := fun _ => fun
  | [d1, d2, d3] => { results := [.lit (.bool true)], args := [d1, d2, d3] }
  | _ => none }
def allotStopsRow : OpenClaim := { program := "ytpeojogjeopfaaa", sum := "2d982f056f00dd7672474187f3d5c635b0e990b20e7c476f02152b5f25657867", func := "bourne/bournelaw37.AllotStops", spec := "allotStops", named := ["math/bits.divideError", "math/bits.overflowError"], plainKeys := false, apart := false }
def AllotStopsSaid : Prop := allotStopsRow.holds Try.pinned (OpenSpec.ofChange allotStopsSpec)

/-- ITS FALSE NEIGHBOUR: 'it returns false'. Refute it at one input. -/
def allotStopsWrong : ChangeSpec := { name := "allotStops", fn := fun _ => fun
  | [d1, d2, d3] => { results := [.lit (.bool false)], args := [d1, d2, d3] }
  | _ => none }
def AllotStopsWrongFalsely : Prop := allotStopsRow.holds Try.pinned (OpenSpec.ofChange allotStopsWrong)

/-- 'bournelaw37.AllotFirst': WHATEVER THE INPUT: true; the input reads as it did. -/
def allotFirstSpec : ChangeSpec := { name := "allotFirst", fn := fun _ => fun
  | [d1, d2, d3, d4] => { results := [.lit (.bool true)], args := [d1, d2, d3, d4] }
  | _ => none }
def allotFirstRow : OpenClaim := { program := "ytpeojogjeopfaaa", sum := "2d982f056f00dd7672474187f3d5c635b0e990b20e7c476f02152b5f25657867", func := "bourne/bournelaw37.AllotFirst", spec := "allotFirst", named := ["math/bits.divideError", "math/bits.overflowError"], plainKeys := false, apart := false }
def AllotFirstSaid : Prop := allotFirstRow.holds Try.pinned (OpenSpec.ofChange allotFirstSpec)

/-- ITS FALSE NEIGHBOUR: 'it returns false'. Refute it at one input. -/
def allotFirstWrong : ChangeSpec := { name := "allotFirst", fn := fun _ => fun
  | [d1, d2, d3, d4] => { results := [.lit (.bool false)], args := [d1, d2, d3, d4] }
  | _ => none }
def AllotFirstWrongFalsely : Prop := allotFirstRow.holds Try.pinned (OpenSpec.ofChange allotFirstWrong)

/-- 'bournelaw37.AllotAside': WHATEVER THE INPUT: true; the input reads as it did. -/
def allotAsideSpec : ChangeSpec := { name := "allotAside", fn := fun _ => fun
  | [d1, d2, d3, d4] => { results := [.lit (.bool true)], args := [d1, d2, d3, d4] }
  | _ => none }
def allotAsideRow : OpenClaim := { program := "ytpeojogjeopfaaa", sum := "2d982f056f00dd7672474187f3d5c635b0e990b20e7c476f02152b5f25657867", func := "bourne/bournelaw37.AllotAside", spec := "allotAside", named := ["math/bits.divideError", "math/bits.overflowError"], plainKeys := false, apart := false }
def AllotAsideSaid : Prop := allotAsideRow.holds Try.pinned (OpenSpec.ofChange allotAsideSpec)

/-- ITS FALSE NEIGHBOUR: 'it returns false'. Refute it at one input. -/
def allotAsideWrong : ChangeSpec := { name := "allotAside", fn := fun _ => fun
  | [d1, d2, d3, d4] => { results := [.lit (.bool false)], args := [d1, d2, d3, d4] }
  | _ => none }
def AllotAsideWrongFalsely : Prop := allotAsideRow.holds Try.pinned (OpenSpec.ofChange allotAsideWrong)

/-- 'bournelaw37.AllotBacks': WHATEVER THE INPUT: true; the input reads as it did. -/
def allotBacksSpec : ChangeSpec := { name := "allotBacks", fn := fun _ => fun
  | [d1, d2, d3] => { results := [.lit (.bool true)], args := [d1, d2, d3] }
  | _ => none }
def allotBacksRow : OpenClaim := { program := "ytpeojogjeopfaaa", sum := "2d982f056f00dd7672474187f3d5c635b0e990b20e7c476f02152b5f25657867", func := "bourne/bournelaw37.AllotBacks", spec := "allotBacks", named := ["math/bits.divideError", "math/bits.overflowError"], plainKeys := false, apart := false }
def AllotBacksSaid : Prop := allotBacksRow.holds Try.pinned (OpenSpec.ofChange allotBacksSpec)

/-- ITS FALSE NEIGHBOUR: 'it returns false'. Refute it at one input. -/
def allotBacksWrong : ChangeSpec := { name := "allotBacks", fn := fun _ => fun
  | [d1, d2, d3] => { results := [.lit (.bool false)], args := [d1, d2, d3] }
  | _ => none }
def AllotBacksWrongFalsely : Prop := allotBacksRow.holds Try.pinned (OpenSpec.ofChange allotBacksWrong)

/-- 'bournelaw37.AllotDown': WHATEVER THE INPUT: true; the input reads as it did. -/
def allotDownSpec : ChangeSpec := { name := "allotDown", fn := fun _ => fun
  | [d1, d2] => { results := [.lit (.bool true)], args := [d1, d2] }
  | _ => none }
def allotDownRow : OpenClaim := { program := "ytpeojogjeopfaaa", sum := "2d982f056f00dd7672474187f3d5c635b0e990b20e7c476f02152b5f25657867", func := "bourne/bournelaw37.AllotDown", spec := "allotDown", unfollowed := true, recurses := true, named := ["math/bits.divideError", "math/bits.overflowError"], plainKeys := false, apart := false }
def AllotDownSaid : Prop := allotDownRow.holds Try.pinned (OpenSpec.ofChange allotDownSpec)

/-- ITS FALSE NEIGHBOUR: 'it returns false'. Refute it at one input. -/
def allotDownWrong : ChangeSpec := { name := "allotDown", fn := fun _ => fun
  | [d1, d2] => { results := [.lit (.bool false)], args := [d1, d2] }
  | _ => none }
def AllotDownWrongFalsely : Prop := allotDownRow.holds Try.pinned (OpenSpec.ofChange allotDownWrong)

/- THE SECOND FORM. 'bulk': how many values and letters a reading holds, each counted each time it is reached (what is shared counts as often as it is met; a slice's spare places count too). A statement '..UptoSaid' is the law's where the arguments, and the package variables that the reading takes, are together of bulk at most 1048576: NARROWER than '..Said'. Prove '..Said' where nothing that the law and all that it calls make is longer than what came in: it says more and counts as full. Else prove '..UptoSaid'. A law counts once. -/
mutual
def uptoBulk {H : Type} : DataW H → Nat
  | .lit (.string bytes) => bytes.length + 1
  | .lit _ => 1
  | .nil => 1
  | .ptr d => uptoBulk d + 1
  | .slice elems spare => uptoBulkAll elems + uptoBulkAll spare + 1
  | .agg parts => uptoBulkAll parts + 1
  | .iface _ d => uptoBulk d + 1
  | .map entries => uptoBulkEntries entries + 1
  | .held _ => 1
def uptoBulkAll {H : Type} : List (DataW H) → Nat
  | [] => 0
  | d :: r => uptoBulk d + uptoBulkAll r
def uptoBulkEntries {H : Type} : List (Lit × DataW H) → Nat
  | [] => 0
  | x :: r => uptoBulkEntry x + uptoBulkEntries r
def uptoBulkEntry {H : Type} : Lit × DataW H → Nat
  | (.string bytes, d) => bytes.length + uptoBulk d + 1
  | (_, d) => uptoBulk d + 1
 end
def uptoSmall : (H : Type) → List (DataW H) → Bool := fun _ ds => decide (uptoBulkAll ds ≤ 1048576)
def OpenSpec.upto (s : _root_.Go.ChangeSpec) : _root_.Go.OpenSpec := { _root_.Go.OpenSpec.ofChange s with cond := some uptoSmall }

/-- 'bournelaw37.AllotTells', WHERE WHAT IT READS IS OF BULK AT MOST 1048576: true; the input reads as it did. -/
def allotTellsUptoRow : OpenClaim := { program := "ytpeojogjeopfaaa", sum := "2d982f056f00dd7672474187f3d5c635b0e990b20e7c476f02152b5f25657867", func := "bourne/bournelaw37.AllotTells", spec := "allotTells", named := ["math/bits.divideError", "math/bits.overflowError"], plainKeys := false, apart := false, narrowed := true }
def AllotTellsUptoSaid : Prop := allotTellsUptoRow.holds Try.pinned (OpenSpec.upto allotTellsSpec)

/-- 'bournelaw37.AllotStops', WHERE WHAT IT READS IS OF BULK AT MOST 1048576: true; the input reads as it did. -/
def allotStopsUptoRow : OpenClaim := { program := "ytpeojogjeopfaaa", sum := "2d982f056f00dd7672474187f3d5c635b0e990b20e7c476f02152b5f25657867", func := "bourne/bournelaw37.AllotStops", spec := "allotStops", named := ["math/bits.divideError", "math/bits.overflowError"], plainKeys := false, apart := false, narrowed := true }
def AllotStopsUptoSaid : Prop := allotStopsUptoRow.holds Try.pinned (OpenSpec.upto allotStopsSpec)

/-- 'bournelaw37.AllotFirst', WHERE WHAT IT READS IS OF BULK AT MOST 1048576: true; the input reads as it did. -/
def allotFirstUptoRow : OpenClaim := { program := "ytpeojogjeopfaaa", sum := "2d982f056f00dd7672474187f3d5c635b0e990b20e7c476f02152b5f25657867", func := "bourne/bournelaw37.AllotFirst", spec := "allotFirst", named := ["math/bits.divideError", "math/bits.overflowError"], plainKeys := false, apart := false, narrowed := true }
def AllotFirstUptoSaid : Prop := allotFirstUptoRow.holds Try.pinned (OpenSpec.upto allotFirstSpec)

/-- 'bournelaw37.AllotAside', WHERE WHAT IT READS IS OF BULK AT MOST 1048576: true; the input reads as it did. -/
def allotAsideUptoRow : OpenClaim := { program := "ytpeojogjeopfaaa", sum := "2d982f056f00dd7672474187f3d5c635b0e990b20e7c476f02152b5f25657867", func := "bourne/bournelaw37.AllotAside", spec := "allotAside", named := ["math/bits.divideError", "math/bits.overflowError"], plainKeys := false, apart := false, narrowed := true }
def AllotAsideUptoSaid : Prop := allotAsideUptoRow.holds Try.pinned (OpenSpec.upto allotAsideSpec)

/-- 'bournelaw37.AllotBacks', WHERE WHAT IT READS IS OF BULK AT MOST 1048576: true; the input reads as it did. -/
def allotBacksUptoRow : OpenClaim := { program := "ytpeojogjeopfaaa", sum := "2d982f056f00dd7672474187f3d5c635b0e990b20e7c476f02152b5f25657867", func := "bourne/bournelaw37.AllotBacks", spec := "allotBacks", named := ["math/bits.divideError", "math/bits.overflowError"], plainKeys := false, apart := false, narrowed := true }
def AllotBacksUptoSaid : Prop := allotBacksUptoRow.holds Try.pinned (OpenSpec.upto allotBacksSpec)

/-- 'bournelaw37.AllotDown', WHERE WHAT IT READS IS OF BULK AT MOST 1048576: true; the input reads as it did. -/
def allotDownUptoRow : OpenClaim := { program := "ytpeojogjeopfaaa", sum := "2d982f056f00dd7672474187f3d5c635b0e990b20e7c476f02152b5f25657867", func := "bourne/bournelaw37.AllotDown", spec := "allotDown", unfollowed := true, recurses := true, named := ["math/bits.divideError", "math/bits.overflowError"], plainKeys := false, apart := false, narrowed := true }
def AllotDownUptoSaid : Prop := allotDownUptoRow.holds Try.pinned (OpenSpec.upto allotDownSpec)

end Rows
end Go.Proofs.Ytpeojogjeopfaaa
