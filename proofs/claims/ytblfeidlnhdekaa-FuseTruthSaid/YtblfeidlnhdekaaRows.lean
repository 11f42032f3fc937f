/-
  No cell of these rows narrows 'for every input' (looked for: loops, veiled, ifaces, maps, wideKeys, modest, calm, conditions, laid).
  DERIVED. THE GIVEN ROWS OF THIS SEAT. 5 by the template 'for every input the law returns true; each argument reads behind the call as it read before'; 0 by the template 'total and deterministic' (their statements: YtblfeidlnhdekaaTotals.lean).
  GIVEN WITH THE SEED: the statements are not yours to turn. If you find one false, say at which input.
  Laid BY PROGRAM, IN A SANDBOX (cutbox-rows.mjs): the forced cells as the released guide's own fill.sh prints them over the translation 7cfa740e9646b8a3… (all of the seat's roots in one cut). By AI agents, Wed Nov 11 2026. No macro, syntax, notation, axiom, sorry.
-/
import Derived.Test.YtblfeidlnhdekaaChecked
import GoSem.Claim
import GoSem.ClaimJoined
import GoSem.ClaimMapViews
import Derived.JoinedTies
import Derived.KernelRfl
namespace Go.Proofs.Ytblfeidlnhdekaa
/- THE CELL 'sum', in the pinned program and in every row, IS THE sha256 OF THE DUMP (.gsa) THAT YtblfeidlnhdekaaProg.lean LOADS. Nothing in Lean hashes anything: it is a label: what it is worth is what the hold of that sum in a sandbox is worth. -/
noncomputable def Try.pinned : Pinned := { name := "ytblfeidlnhdekaa", sum := "7cfa740e9646b8a3693c1f083339a941386cf9295d408a123e5c519d05e03914", checked := Try.checked }
namespace Rows
def none {H : Type} : Left H := { results := [], args := [] }

/-- 'bournelaw28.FuseTells': WHATEVER THE INPUT: true; the input reads as it did. -/
def fuseTellsSpec : ChangeSpec := { name := "fuseTells", fn := fun _ => fun
  | [d1, d2, d3, d4] => { results := [.lit (.bool true)], args := [d1, d2, d3, d4] }
  | _ => none }
def fuseTellsRow : OpenClaim := { program := "ytblfeidlnhdekaa", sum := "7cfa740e9646b8a3693c1f083339a941386cf9295d408a123e5c519d05e03914", func := "bourne/bournelaw28.FuseTells", spec := "fuseTells", unfollowed := true, recurses := true, named := ["math/bits.divideError", "math/bits.overflowError"], plainKeys := false, apart := false }
def FuseTellsSaid : Prop := fuseTellsRow.holds Try.pinned (OpenSpec.ofChange fuseTellsSpec)

/-- ITS FALSE NEIGHBOUR: 'it returns false'. Refute it at one input. -/
def fuseTellsWrong : ChangeSpec := { name := "fuseTells", fn := fun _ => fun
  | [d1, d2, d3, d4] => { results := [.lit (.bool false)], args := [d1, d2, d3, d4] }
  | _ => none }
def FuseTellsWrongFalsely : Prop := fuseTellsRow.holds Try.pinned (OpenSpec.ofChange fuseTellsWrong)

/-- 'bournelaw28.FuseNames': WHATEVER THE INPUT: true; the input reads as it did. -/
def fuseNamesSpec : ChangeSpec := { name := "fuseNames", fn := fun _ => fun
  | [d1, d2, d3] => { results := [.lit (.bool true)], args := [d1, d2, d3] }
  | _ => none }
def fuseNamesRow : OpenClaim := { program := "ytblfeidlnhdekaa", sum := "7cfa740e9646b8a3693c1f083339a941386cf9295d408a123e5c519d05e03914", func := "bourne/bournelaw28.FuseNames", spec := "fuseNames", unfollowed := true, recurses := true, named := ["math/bits.divideError", "math/bits.overflowError"], plainKeys := false, apart := false }
def FuseNamesSaid : Prop := fuseNamesRow.holds Try.pinned (OpenSpec.ofChange fuseNamesSpec)

/-- ITS FALSE NEIGHBOUR: 'it returns false'. Refute it at one input. -/
def fuseNamesWrong : ChangeSpec := { name := "fuseNames", fn := fun _ => fun
  | [d1, d2, d3] => { results := [.lit (.bool false)], args := [d1, d2, d3] }
  | _ => none }
def FuseNamesWrongFalsely : Prop := fuseNamesRow.holds Try.pinned (OpenSpec.ofChange fuseNamesWrong)

/-- 'bournelaw28.FuseDrifts': WHATEVER THE INPUT: true; the input reads as it did. -/
def fuseDriftsSpec : ChangeSpec := { name := "fuseDrifts", fn := fun _ => fun
  | [d1, d2, d3] => { results := [.lit (.bool true)], args := [d1, d2, d3] }
  | _ => none }
def fuseDriftsRow : OpenClaim := { program := "ytblfeidlnhdekaa", sum := "7cfa740e9646b8a3693c1f083339a941386cf9295d408a123e5c519d05e03914", func := "bourne/bournelaw28.FuseDrifts", spec := "fuseDrifts", unfollowed := true, recurses := true, named := ["math/bits.divideError", "math/bits.overflowError"], plainKeys := false, apart := false }
def FuseDriftsSaid : Prop := fuseDriftsRow.holds Try.pinned (OpenSpec.ofChange fuseDriftsSpec)

/-- ITS FALSE NEIGHBOUR: 'it returns false'. Refute it at one input. -/
def fuseDriftsWrong : ChangeSpec := { name := "fuseDrifts", fn := fun _ => fun
  | [d1, d2, d3] => { results := [.lit (.bool false)], args := [d1, d2, d3] }
  | _ => none }
def FuseDriftsWrongFalsely : Prop := fuseDriftsRow.holds Try.pinned (OpenSpec.ofChange fuseDriftsWrong)

/-- 'bournelaw28.FuseVolumes': WHATEVER THE INPUT: true; the input reads as it did. -/
def fuseVolumesSpec : ChangeSpec := { name := "fuseVolumes", fn := fun _ => fun
  | [d1, d2, d3, d4] => { results := [.lit (.bool true)], args := [d1, d2, d3, d4] }
  | _ => none }
def fuseVolumesRow : OpenClaim := { program := "ytblfeidlnhdekaa", sum := "7cfa740e9646b8a3693c1f083339a941386cf9295d408a123e5c519d05e03914", func := "bourne/bournelaw28.FuseVolumes", spec := "fuseVolumes", unfollowed := true, recurses := true, named := ["math/bits.divideError", "math/bits.overflowError"], plainKeys := false, apart := false }
def FuseVolumesSaid : Prop := fuseVolumesRow.holds Try.pinned (OpenSpec.ofChange fuseVolumesSpec)

/-- ITS FALSE NEIGHBOUR: 'it returns false'. Refute it at one input. -/
def fuseVolumesWrong : ChangeSpec := { name := "fuseVolumes", fn := fun _ => fun
  | [d1, d2, d3, d4] => { results := [.lit (.bool false)], args := [d1, d2, d3, d4] }
  | _ => none }
def FuseVolumesWrongFalsely : Prop := fuseVolumesRow.holds Try.pinned (OpenSpec.ofChange fuseVolumesWrong)

/-- 'bournelaw28.FuseTruth': WHATEVER THE INPUT: true; the input reads as it did. -/
def fuseTruthSpec : ChangeSpec := { name := "fuseTruth", fn := fun _ => fun
  | [d1, d2, d3, d4] => { results := [.lit (.bool true)], args := [d1, d2, d3, d4] }
  | _ => none }
def fuseTruthRow : OpenClaim := { program := "ytblfeidlnhdekaa", sum := "7cfa740e9646b8a3693c1f083339a941386cf9295d408a123e5c519d05e03914", func := "bourne/bournelaw28.FuseTruth", spec := "fuseTruth", unfollowed := true, recurses := true, named := ["math/bits.divideError", "math/bits.overflowError"], plainKeys := false, apart := false }
def FuseTruthSaid : Prop := fuseTruthRow.holds Try.pinned (OpenSpec.ofChange fuseTruthSpec)

/-- ITS FALSE NEIGHBOUR: 'it returns false'. Refute it at one input. -/
def fuseTruthWrong : ChangeSpec := { name := "fuseTruth", fn := fun _ => fun
  | [d1, d2, d3, d4] => { results := [.lit (.bool false)], args := [d1, d2, d3, d4] }
  | _ => none }
def FuseTruthWrongFalsely : Prop := fuseTruthRow.holds Try.pinned (OpenSpec.ofChange fuseTruthWrong)

/- THE SECOND FORM. 'bulk': how many values and letters a reading holds, each counted each time it is reached (what is shared counts as often as it is met; a slice's spare places count too). A statement '..UptoSaid' is the law's where the arguments, and the package variables that the reading takes, are together of bulk at most 1048576: NARROWER than '..Said'. Prove '..Said' where nothing that the law and all that it calls make is longer than what came in: it says more and counts as full. Else prove '..UptoSaid'. A law counts once. -/
mutual
def uptoBulk {H : Type} : DataW H → Nat
  | .lit (.string bytes) => bytes.length + 1
  | .lit _ => 1
  | .nil => 1
  | .ptr d => uptoBulk d + 1
  | .slice elems spare => uptoBulkAll elems + uptoBulkAll spare + 1
  | .agg parts => uptoBulkAll parts + 1
  | .iface _ d => uptoBulk d + 1
  | .map entries => uptoBulkEntries entries + 1
  | .held _ => 1
def uptoBulkAll {H : Type} : List (DataW H) → Nat
  | [] => 0
  | d :: r => uptoBulk d + uptoBulkAll r
def uptoBulkEntries {H : Type} : List (Lit × DataW H) → Nat
  | [] => 0
  | x :: r => uptoBulkEntry x + uptoBulkEntries r
def uptoBulkEntry {H : Type} : Lit × DataW H → Nat
  | (.string bytes, d) => bytes.length + uptoBulk d + 1
  | (_, d) => uptoBulk d + 1
 end
def uptoSmall : (H : Type) → List (DataW H) → Bool := fun _ ds => decide (uptoBulkAll ds ≤ 1048576)
def OpenSpec.upto (s : _root_.Go.ChangeSpec) : _root_.Go.OpenSpec := { _root_.Go.OpenSpec.ofChange s with cond := some uptoSmall }

/-- 'bournelaw28.FuseTells', WHERE WHAT IT READS IS OF BULK AT MOST 1048576: true; the input reads as it did. -/
def fuseTellsUptoRow : OpenClaim := { program := "ytblfeidlnhdekaa", sum := "7cfa740e9646b8a3693c1f083339a941386cf9295d408a123e5c519d05e03914", func := "bourne/bournelaw28.FuseTells", spec := "fuseTells", unfollowed := true, recurses := true, named := ["math/bits.divideError", "math/bits.overflowError"], plainKeys := false, apart := false, narrowed := true }
def FuseTellsUptoSaid : Prop := fuseTellsUptoRow.holds Try.pinned (OpenSpec.upto fuseTellsSpec)

/-- 'bournelaw28.FuseNames', WHERE WHAT IT READS IS OF BULK AT MOST 1048576: true; the input reads as it did. -/
def fuseNamesUptoRow : OpenClaim := { program := "ytblfeidlnhdekaa", sum := "7cfa740e9646b8a3693c1f083339a941386cf9295d408a123e5c519d05e03914", func := "bourne/bournelaw28.FuseNames", spec := "fuseNames", unfollowed := true, recurses := true, named := ["math/bits.divideError", "math/bits.overflowError"], plainKeys := false, apart := false, narrowed := true }
def FuseNamesUptoSaid : Prop := fuseNamesUptoRow.holds Try.pinned (OpenSpec.upto fuseNamesSpec)

/-- 'bournelaw28.FuseDrifts', WHERE WHAT IT READS IS OF BULK AT MOST 1048576: true; the input reads as it did. -/
def fuseDriftsUptoRow : OpenClaim := { program := "ytblfeidlnhdekaa", sum := "7cfa740e9646b8a3693c1f083339a941386cf9295d408a123e5c519d05e03914", func := "bourne/bournelaw28.FuseDrifts", spec := "fuseDrifts", unfollowed := true, recurses := true, named := ["math/bits.divideError", "math/bits.overflowError"], plainKeys := false, apart := false, narrowed := true }
def FuseDriftsUptoSaid : Prop := fuseDriftsUptoRow.holds Try.pinned (OpenSpec.upto fuseDriftsSpec)

/-- 'bournelaw28.FuseVolumes', WHERE WHAT IT READS IS OF BULK AT MOST 1048576: true; the input reads as it did. -/
def fuseVolumesUptoRow : OpenClaim := { program := "ytblfeidlnhdekaa", sum := "7cfa740e9646b8a3693c1f083339a941386cf9295d408a123e5c519d05e03914", func := "bourne/bournelaw28.FuseVolumes", spec := "fuseVolumes", unfollowed := true, recurses := true, named := ["math/bits.divideError", "math/bits.overflowError"], plainKeys := false, apart := false, narrowed := true }
def FuseVolumesUptoSaid : Prop := fuseVolumesUptoRow.holds Try.pinned (OpenSpec.upto fuseVolumesSpec)

/-- 'bournelaw28.FuseTruth', WHERE WHAT IT READS IS OF BULK AT MOST 1048576: true; the input reads as it did. -/
def fuseTruthUptoRow : OpenClaim := { program := "ytblfeidlnhdekaa", sum := "7cfa740e9646b8a3693c1f083339a941386cf9295d408a123e5c519d05e03914", func := "bourne/bournelaw28.FuseTruth", spec := "fuseTruth", unfollowed := true, recurses := true, named := ["math/bits.divideError", "math/bits.overflowError"], plainKeys := false, apart := false, narrowed := true }
def FuseTruthUptoSaid : Prop := fuseTruthUptoRow.holds Try.pinned (OpenSpec.upto fuseTruthSpec)

end Rows
end Go.Proofs.Ytblfeidlnhdekaa
