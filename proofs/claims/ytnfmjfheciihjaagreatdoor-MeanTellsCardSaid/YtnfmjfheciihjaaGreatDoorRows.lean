/-
  NARROWER THAN 'FOR EVERY INPUT', by the rows' own cells (each row's printed sentence says how): MeanTells: loops, laid · MeanClauses: loops, laid · MeanSums: laid · MeanCalls: laid · MeanOnly: loops, laid.
  DERIVED. THE GIVEN ROWS OF THIS SEAT. 5 by the template 'for every input the law returns true; each argument reads behind the call as it read before'; 0 by the template 'total and deterministic' (their statements: YtnfmjfheciihjaaGreatDoorTotals.lean).
  GIVEN WITH THE SEED: the statements are not yours to turn. If you find one false, say at which input.
  Laid BY PROGRAM, IN A SANDBOX (cutbox-rows.mjs): the forced cells as the released guide's own fill.sh prints them over the translation e9088cbb7aefdd74… (all of the seat's roots in one cut). By AI agents, Wed Nov 11 2026. No macro, syntax, notation, axiom, sorry.
-/
import Derived.Test.YtnfmjfheciihjaaGreatDoorChecked
import GoSem.Claim
import GoSem.ClaimJoined
import GoSem.ClaimMapViews
import Derived.JoinedTies
import Derived.KernelRfl
namespace Go.Proofs.YtnfmjfheciihjaaGreatDoor
/- THE CELL 'sum', in the pinned program and in every row, IS THE sha256 OF THE DUMP (.gsa) THAT YtnfmjfheciihjaaGreatDoorProg.lean LOADS. Nothing in Lean hashes anything: it is a label: what it is worth is what the hold of that sum in a sandbox is worth. -/
noncomputable def Tryz.pinned : Pinned := { name := "ytnfmjfheciihjaagreatdoor", sum := "e9088cbb7aefdd746f5d6083949b73d7e893fd93edbc975616e3ed538e79e86a", checked := Tryz.checked }
namespace Rows
def none {H : Type} : Left H := { results := [], args := [] }

/- WHAT THE LISTED PACKAGE-LEVEL VARIABLES READ AS WHEN THE CALL BEGINS. Each datum BY PROGRAM (the guide's laid-datum.mjs) off the statement by which the dump's own 'gosem.cut.vars' lays the variable. In a bare row this is a premise. The card (YtnfmjfheciihjaaGreatDoorCards.lean) ties it to the program's text. -/
def laid_bourne_date_months {H : Type} : DataW H := .agg [.lit (.int .i64 31), .lit (.int .i64 29), .lit (.int .i64 31), .lit (.int .i64 30), .lit (.int .i64 31), .lit (.int .i64 30), .lit (.int .i64 31), .lit (.int .i64 31), .lit (.int .i64 30), .lit (.int .i64 31), .lit (.int .i64 30), .lit (.int .i64 31)]
def laid_bourne_unit_measures {H : Type} : DataW H := .agg [.agg [.lit (.string []), .lit (.int .i64 0), .lit (.int .i64 1), .lit (.int .i64 1)], .agg [.lit (.string [108]), .lit (.int .i64 1), .lit (.int .i64 1), .lit (.int .i64 1)], .agg [.lit (.string [109, 51]), .lit (.int .i64 1), .lit (.int .i64 1000), .lit (.int .i64 1)], .agg [.lit (.string [77, 76]), .lit (.int .i64 1), .lit (.int .i64 1000000), .lit (.int .i64 1)], .agg [.lit (.string [71, 76]), .lit (.int .i64 1), .lit (.int .i64 1000000000), .lit (.int .i64 1)], .agg [.lit (.string [108, 112, 104]), .lit (.int .i64 2), .lit (.int .i64 1), .lit (.int .i64 1)], .agg [.lit (.string [108, 112, 115]), .lit (.int .i64 2), .lit (.int .i64 3600), .lit (.int .i64 1)], .agg [.lit (.string [109, 51, 112, 115]), .lit (.int .i64 2), .lit (.int .i64 3600000), .lit (.int .i64 1)], .agg [.lit (.string [77, 76, 112, 100]), .lit (.int .i64 2), .lit (.int .i64 1000000), .lit (.int .i64 24)], .agg [.lit (.string [109, 109]), .lit (.int .i64 3), .lit (.int .i64 1), .lit (.int .i64 1)], .agg [.lit (.string [99, 109]), .lit (.int .i64 3), .lit (.int .i64 10), .lit (.int .i64 1)], .agg [.lit (.string [109]), .lit (.int .i64 3), .lit (.int .i64 1000), .lit (.int .i64 1)], .agg [.lit (.string [104]), .lit (.int .i64 4), .lit (.int .i64 1), .lit (.int .i64 1)], .agg [.lit (.string [100]), .lit (.int .i64 4), .lit (.int .i64 24), .lit (.int .i64 1)], .agg [.lit (.string [109, 50]), .lit (.int .i64 5), .lit (.int .i64 1), .lit (.int .i64 1)], .agg [.lit (.string [104, 97]), .lit (.int .i64 5), .lit (.int .i64 10000), .lit (.int .i64 1)], .agg [.lit (.string [107, 109, 50]), .lit (.int .i64 5), .lit (.int .i64 1000000), .lit (.int .i64 1)], .agg [.lit (.string [112, 101, 114, 109, 105, 108, 108, 101]), .lit (.int .i64 6), .lit (.int .i64 1), .lit (.int .i64 1)], .agg [.lit (.string [112, 101, 114, 99, 101, 110, 116]), .lit (.int .i64 6), .lit (.int .i64 10), .lit (.int .i64 1)]]
def laid_bourne_rule_levels {H : Type} : DataW H := .agg [.agg [.agg [.lit (.string [111, 114]), .lit (.int .i64 12)], .agg [.lit (.string [111, 114]), .lit (.int .i64 12)]], .agg [.agg [.lit (.string [97, 110, 100]), .lit (.int .i64 11)], .agg [.lit (.string [97, 110, 100]), .lit (.int .i64 11)]], .agg [.agg [.lit (.string [43]), .lit (.int .i64 4)], .agg [.lit (.string [45]), .lit (.int .i64 5)]], .agg [.agg [.lit (.string [42]), .lit (.int .i64 6)], .agg [.lit (.string [47]), .lit (.int .i64 7)]]]

/-- 'bournelaw31.MeanTells': WHATEVER THE INPUT: true; the input reads as it did. -/
def meanTellsSpec : ChangeSpec := { name := "meanTells", fn := fun _ => fun
  | [d1, d2, d3] => { results := [.lit (.bool true)], args := [d1, d2, d3] }
  | _ => none }
def meanTellsRow : OpenClaim := { program := "ytnfmjfheciihjaagreatdoor", sum := "e9088cbb7aefdd746f5d6083949b73d7e893fd93edbc975616e3ed538e79e86a", func := "bourne/bournelaw31.MeanTells", spec := "meanTells", inPlace := ["internal/bytealg.IndexByteString", "internal/bytealg.IndexString", "math/bits.Add64"], unfollowed := true, recurses := true, named := ["internal/bytealg.MaxLen", "bourne/unit.measures", "math/bits.divideError", "math/bits.overflowError", "bourne/rule.levels", "bourne/date.months"], loops := true, apart := false, laid := [("bourne/date.months", laid_bourne_date_months), ("bourne/unit.measures", laid_bourne_unit_measures), ("bourne/rule.levels", laid_bourne_rule_levels)] }
def MeanTellsSaid : Prop := meanTellsRow.holds Tryz.pinned (OpenSpec.ofChange meanTellsSpec)

/-- ITS FALSE NEIGHBOUR: 'it returns false'. Refute it at one input. -/
def meanTellsWrong : ChangeSpec := { name := "meanTells", fn := fun _ => fun
  | [d1, d2, d3] => { results := [.lit (.bool false)], args := [d1, d2, d3] }
  | _ => none }
def MeanTellsWrongFalsely : Prop := meanTellsRow.holds Tryz.pinned (OpenSpec.ofChange meanTellsWrong)

/-- 'bournelaw31.MeanClauses': WHATEVER THE INPUT: true; the input reads as it did. -/
def meanClausesSpec : ChangeSpec := { name := "meanClauses", fn := fun _ => fun
  | [d1, d2, d3, d4] => { results := [.lit (.bool true)], args := [d1, d2, d3, d4] }
  | _ => none }
def meanClausesRow : OpenClaim := { program := "ytnfmjfheciihjaagreatdoor", sum := "e9088cbb7aefdd746f5d6083949b73d7e893fd93edbc975616e3ed538e79e86a", func := "bourne/bournelaw31.MeanClauses", spec := "meanClauses", inPlace := ["internal/bytealg.IndexByteString", "internal/bytealg.IndexString", "math/bits.Add64"], unfollowed := true, recurses := true, named := ["internal/bytealg.MaxLen", "bourne/unit.measures", "math/bits.divideError", "math/bits.overflowError", "bourne/rule.levels", "bourne/date.months"], loops := true, apart := false, laid := [("bourne/date.months", laid_bourne_date_months), ("bourne/unit.measures", laid_bourne_unit_measures), ("bourne/rule.levels", laid_bourne_rule_levels)] }
def MeanClausesSaid : Prop := meanClausesRow.holds Tryz.pinned (OpenSpec.ofChange meanClausesSpec)

/-- ITS FALSE NEIGHBOUR: 'it returns false'. Refute it at one input. -/
def meanClausesWrong : ChangeSpec := { name := "meanClauses", fn := fun _ => fun
  | [d1, d2, d3, d4] => { results := [.lit (.bool false)], args := [d1, d2, d3, d4] }
  | _ => none }
def MeanClausesWrongFalsely : Prop := meanClausesRow.holds Tryz.pinned (OpenSpec.ofChange meanClausesWrong)

/-- 'bournelaw31.MeanSums': WHATEVER THE INPUT: true; the input reads as it did. -/
def meanSumsSpec : ChangeSpec := { name := "meanSums", fn := fun _ => fun
  | [d1, d2, d3] => { results := [.lit (.bool true)], args := [d1, d2, d3] }
  | _ => none }
def meanSumsRow : OpenClaim := { program := "ytnfmjfheciihjaagreatdoor", sum := "e9088cbb7aefdd746f5d6083949b73d7e893fd93edbc975616e3ed538e79e86a", func := "bourne/bournelaw31.MeanSums", spec := "meanSums", inPlace := ["internal/bytealg.IndexByteString", "internal/bytealg.IndexString", "math/bits.Add64"], unfollowed := true, recurses := true, named := ["internal/bytealg.MaxLen", "bourne/unit.measures", "math/bits.divideError", "math/bits.overflowError", "bourne/rule.levels", "bourne/date.months"], apart := false, laid := [("bourne/date.months", laid_bourne_date_months), ("bourne/unit.measures", laid_bourne_unit_measures), ("bourne/rule.levels", laid_bourne_rule_levels)] }
def MeanSumsSaid : Prop := meanSumsRow.holds Tryz.pinned (OpenSpec.ofChange meanSumsSpec)

/-- ITS FALSE NEIGHBOUR: 'it returns false'. Refute it at one input. -/
def meanSumsWrong : ChangeSpec := { name := "meanSums", fn := fun _ => fun
  | [d1, d2, d3] => { results := [.lit (.bool false)], args := [d1, d2, d3] }
  | _ => none }
def MeanSumsWrongFalsely : Prop := meanSumsRow.holds Tryz.pinned (OpenSpec.ofChange meanSumsWrong)

/-- 'bournelaw31.MeanCalls': WHATEVER THE INPUT: true; the input reads as it did. -/
def meanCallsSpec : ChangeSpec := { name := "meanCalls", fn := fun _ => fun
  | [d] => { results := [.lit (.bool true)], args := [d] }
  | _ => none }
def meanCallsRow : OpenClaim := { program := "ytnfmjfheciihjaagreatdoor", sum := "e9088cbb7aefdd746f5d6083949b73d7e893fd93edbc975616e3ed538e79e86a", func := "bourne/bournelaw31.MeanCalls", spec := "meanCalls", inPlace := ["internal/bytealg.IndexByteString", "internal/bytealg.IndexString", "math/bits.Add64"], unfollowed := true, recurses := true, named := ["internal/bytealg.MaxLen", "bourne/unit.measures", "math/bits.divideError", "math/bits.overflowError", "bourne/rule.levels", "bourne/date.months"], apart := false, laid := [("bourne/date.months", laid_bourne_date_months), ("bourne/unit.measures", laid_bourne_unit_measures), ("bourne/rule.levels", laid_bourne_rule_levels)] }
def MeanCallsSaid : Prop := meanCallsRow.holds Tryz.pinned (OpenSpec.ofChange meanCallsSpec)

/-- ITS FALSE NEIGHBOUR: 'it returns false'. Refute it at one input. -/
def meanCallsWrong : ChangeSpec := { name := "meanCalls", fn := fun _ => fun
  | [d] => { results := [.lit (.bool false)], args := [d] }
  | _ => none }
def MeanCallsWrongFalsely : Prop := meanCallsRow.holds Tryz.pinned (OpenSpec.ofChange meanCallsWrong)

/-- 'bournelaw31.MeanOnly': WHATEVER THE INPUT: true; the input reads as it did. -/
def meanOnlySpec : ChangeSpec := { name := "meanOnly", fn := fun _ => fun
  | [d1, d2, d3, d4, d5] => { results := [.lit (.bool true)], args := [d1, d2, d3, d4, d5] }
  | _ => none }
def meanOnlyRow : OpenClaim := { program := "ytnfmjfheciihjaagreatdoor", sum := "e9088cbb7aefdd746f5d6083949b73d7e893fd93edbc975616e3ed538e79e86a", func := "bourne/bournelaw31.MeanOnly", spec := "meanOnly", inPlace := ["internal/bytealg.IndexByteString", "internal/bytealg.IndexString", "math/bits.Add64"], unfollowed := true, recurses := true, named := ["internal/bytealg.MaxLen", "bourne/unit.measures", "math/bits.divideError", "math/bits.overflowError", "bourne/rule.levels", "bourne/date.months"], loops := true, apart := false, laid := [("bourne/date.months", laid_bourne_date_months), ("bourne/unit.measures", laid_bourne_unit_measures), ("bourne/rule.levels", laid_bourne_rule_levels)] }
def MeanOnlySaid : Prop := meanOnlyRow.holds Tryz.pinned (OpenSpec.ofChange meanOnlySpec)

/-- ITS FALSE NEIGHBOUR: 'it returns false'. Refute it at one input. -/
def meanOnlyWrong : ChangeSpec := { name := "meanOnly", fn := fun _ => fun
  | [d1, d2, d3, d4, d5] => { results := [.lit (.bool false)], args := [d1, d2, d3, d4, d5] }
  | _ => none }
def MeanOnlyWrongFalsely : Prop := meanOnlyRow.holds Tryz.pinned (OpenSpec.ofChange meanOnlyWrong)

/- THE SECOND FORM. 'bulk': how many values and letters a reading holds, each counted each time it is reached (what is shared counts as often as it is met; a slice's spare places count too). A statement '..UptoSaid' is the law's where the arguments, and the package variables that the reading takes, are together of bulk at most 1048576: NARROWER than '..Said'. Prove '..Said' where nothing that the law and all that it calls make is longer than what came in: it says more and counts as full. Else prove '..UptoSaid'. A law counts once. -/
mutual
def uptoBulk {H : Type} : DataW H → Nat
  | .lit (.string bytes) => bytes.length + 1
  | .lit _ => 1
  | .nil => 1
  | .ptr d => uptoBulk d + 1
  | .slice elems spare => uptoBulkAll elems + uptoBulkAll spare + 1
  | .agg parts => uptoBulkAll parts + 1
  | .iface _ d => uptoBulk d + 1
  | .map entries => uptoBulkEntries entries + 1
  | .held _ => 1
def uptoBulkAll {H : Type} : List (DataW H) → Nat
  | [] => 0
  | d :: r => uptoBulk d + uptoBulkAll r
def uptoBulkEntries {H : Type} : List (Lit × DataW H) → Nat
  | [] => 0
  | x :: r => uptoBulkEntry x + uptoBulkEntries r
def uptoBulkEntry {H : Type} : Lit × DataW H → Nat
  | (.string bytes, d) => bytes.length + uptoBulk d + 1
  | (_, d) => uptoBulk d + 1
 end
def uptoSmall : (H : Type) → List (DataW H) → Bool := fun _ ds => decide (uptoBulkAll ds ≤ 1048576)
def OpenSpec.upto (s : _root_.Go.ChangeSpec) : _root_.Go.OpenSpec := { _root_.Go.OpenSpec.ofChange s with cond := some uptoSmall }

/-- 'bournelaw31.MeanTells', WHERE WHAT IT READS IS OF BULK AT MOST 1048576: true; the input reads as it did. -/
def meanTellsUptoRow : OpenClaim := { program := "ytnfmjfheciihjaagreatdoor", sum := "e9088cbb7aefdd746f5d6083949b73d7e893fd93edbc975616e3ed538e79e86a", func := "bourne/bournelaw31.MeanTells", spec := "meanTells", inPlace := ["internal/bytealg.IndexByteString", "internal/bytealg.IndexString", "math/bits.Add64"], unfollowed := true, recurses := true, named := ["internal/bytealg.MaxLen", "bourne/unit.measures", "math/bits.divideError", "math/bits.overflowError", "bourne/rule.levels", "bourne/date.months"], loops := true, apart := false, laid := [("bourne/date.months", laid_bourne_date_months), ("bourne/unit.measures", laid_bourne_unit_measures), ("bourne/rule.levels", laid_bourne_rule_levels)], narrowed := true }
def MeanTellsUptoSaid : Prop := meanTellsUptoRow.holds Tryz.pinned (OpenSpec.upto meanTellsSpec)

/-- 'bournelaw31.MeanClauses', WHERE WHAT IT READS IS OF BULK AT MOST 1048576: true; the input reads as it did. -/
def meanClausesUptoRow : OpenClaim := { program := "ytnfmjfheciihjaagreatdoor", sum := "e9088cbb7aefdd746f5d6083949b73d7e893fd93edbc975616e3ed538e79e86a", func := "bourne/bournelaw31.MeanClauses", spec := "meanClauses", inPlace := ["internal/bytealg.IndexByteString", "internal/bytealg.IndexString", "math/bits.Add64"], unfollowed := true, recurses := true, named := ["internal/bytealg.MaxLen", "bourne/unit.measures", "math/bits.divideError", "math/bits.overflowError", "bourne/rule.levels", "bourne/date.months"], loops := true, apart := false, laid := [("bourne/date.months", laid_bourne_date_months), ("bourne/unit.measures", laid_bourne_unit_measures), ("bourne/rule.levels", laid_bourne_rule_levels)], narrowed := true }
def MeanClausesUptoSaid : Prop := meanClausesUptoRow.holds Tryz.pinned (OpenSpec.upto meanClausesSpec)

/-- 'bournelaw31.MeanSums', WHERE WHAT IT READS IS OF BULK AT MOST 1048576: true; the input reads as it did. -/
def meanSumsUptoRow : OpenClaim := { program := "ytnfmjfheciihjaagreatdoor", sum := "e9088cbb7aefdd746f5d6083949b73d7e893fd93edbc975616e3ed538e79e86a", func := "bourne/bournelaw31.MeanSums", spec := "meanSums", inPlace := ["internal/bytealg.IndexByteString", "internal/bytealg.IndexString", "math/bits.Add64"], unfollowed := true, recurses := true, named := ["internal/bytealg.MaxLen", "bourne/unit.measures", "math/bits.divideError", "math/bits.overflowError", "bourne/rule.levels", "bourne/date.months"], apart := false, laid := [("bourne/date.months", laid_bourne_date_months), ("bourne/unit.measures", laid_bourne_unit_measures), ("bourne/rule.levels", laid_bourne_rule_levels)], narrowed := true }
def MeanSumsUptoSaid : Prop := meanSumsUptoRow.holds Tryz.pinned (OpenSpec.upto meanSumsSpec)

/-- 'bournelaw31.MeanCalls', WHERE WHAT IT READS IS OF BULK AT MOST 1048576: true; the input reads as it did. -/
def meanCallsUptoRow : OpenClaim := { program := "ytnfmjfheciihjaagreatdoor", sum := "e9088cbb7aefdd746f5d6083949b73d7e893fd93edbc975616e3ed538e79e86a", func := "bourne/bournelaw31.MeanCalls", spec := "meanCalls", inPlace := ["internal/bytealg.IndexByteString", "internal/bytealg.IndexString", "math/bits.Add64"], unfollowed := true, recurses := true, named := ["internal/bytealg.MaxLen", "bourne/unit.measures", "math/bits.divideError", "math/bits.overflowError", "bourne/rule.levels", "bourne/date.months"], apart := false, laid := [("bourne/date.months", laid_bourne_date_months), ("bourne/unit.measures", laid_bourne_unit_measures), ("bourne/rule.levels", laid_bourne_rule_levels)], narrowed := true }
def MeanCallsUptoSaid : Prop := meanCallsUptoRow.holds Tryz.pinned (OpenSpec.upto meanCallsSpec)

/-- 'bournelaw31.MeanOnly', WHERE WHAT IT READS IS OF BULK AT MOST 1048576: true; the input reads as it did. -/
def meanOnlyUptoRow : OpenClaim := { program := "ytnfmjfheciihjaagreatdoor", sum := "e9088cbb7aefdd746f5d6083949b73d7e893fd93edbc975616e3ed538e79e86a", func := "bourne/bournelaw31.MeanOnly", spec := "meanOnly", inPlace := ["internal/bytealg.IndexByteString", "internal/bytealg.IndexString", "math/bits.Add64"], unfollowed := true, recurses := true, named := ["internal/bytealg.MaxLen", "bourne/unit.measures", "math/bits.divideError", "math/bits.overflowError", "bourne/rule.levels", "bourne/date.months"], loops := true, apart := false, laid := [("bourne/date.months", laid_bourne_date_months), ("bourne/unit.measures", laid_bourne_unit_measures), ("bourne/rule.levels", laid_bourne_rule_levels)], narrowed := true }
def MeanOnlyUptoSaid : Prop := meanOnlyUptoRow.holds Tryz.pinned (OpenSpec.upto meanOnlySpec)

end Rows
end Go.Proofs.YtnfmjfheciihjaaGreatDoor
