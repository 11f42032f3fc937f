/-
  NARROWER THAN 'FOR EVERY INPUT', by the rows' own cells (each row's printed sentence says how): VmTells: loops, laid · VmShape: loops, laid · VmNames: loops, laid · VmRefuses: loops, laid · VmMeans: loops, laid · VmSource: laid.
  DERIVED. THE GIVEN ROWS OF THIS SEAT. 6 by the template 'for every input the law returns true; each argument reads behind the call as it read before'; 0 by the template 'total and deterministic' (their statements: YtjmeeofdffdpnaaGreatDoorTotals.lean).
  GIVEN WITH THE SEED: the statements are not yours to turn. If you find one false, say at which input.
  Laid BY PROGRAM, IN A SANDBOX (cutbox-rows.mjs): the forced cells as the released guide's own fill.sh prints them over the translation 857007415bf12761… (all of the seat's roots in one cut). By AI agents, Wed Nov 11 2026. No macro, syntax, notation, axiom, sorry.
-/
import Derived.Test.YtjmeeofdffdpnaaGreatDoorChecked
import GoSem.Claim
import GoSem.ClaimJoined
import GoSem.ClaimMapViews
import Derived.JoinedTies
import Derived.KernelRfl
namespace Go.Proofs.YtjmeeofdffdpnaaGreatDoor
/- THE CELL 'sum', in the pinned program and in every row, IS THE sha256 OF THE DUMP (.gsa) THAT YtjmeeofdffdpnaaGreatDoorProg.lean LOADS. Nothing in Lean hashes anything: it is a label: what it is worth is what the hold of that sum in a sandbox is worth. -/
noncomputable def Tryz.pinned : Pinned := { name := "ytjmeeofdffdpnaagreatdoor", sum := "857007415bf1276191037c78a623ed57cdfe398e38f10956cec506155a88a39f", checked := Tryz.checked }
namespace Rows
def none {H : Type} : Left H := { results := [], args := [] }

/- WHAT THE LISTED PACKAGE-LEVEL VARIABLES READ AS WHEN THE CALL BEGINS. Each datum BY PROGRAM (the guide's laid-datum.mjs) off the statement by which the dump's own 'gosem.cut.vars' lays the variable. In a bare row this is a premise. The card (YtjmeeofdffdpnaaGreatDoorCards.lean) ties it to the program's text. -/
def laid_bourne_date_months {H : Type} : DataW H := .agg [.lit (.int .i64 31), .lit (.int .i64 29), .lit (.int .i64 31), .lit (.int .i64 30), .lit (.int .i64 31), .lit (.int .i64 30), .lit (.int .i64 31), .lit (.int .i64 31), .lit (.int .i64 30), .lit (.int .i64 31), .lit (.int .i64 30), .lit (.int .i64 31)]
def laid_bourne_unit_measures {H : Type} : DataW H := .agg [.agg [.lit (.string []), .lit (.int .i64 0), .lit (.int .i64 1), .lit (.int .i64 1)], .agg [.lit (.string [108]), .lit (.int .i64 1), .lit (.int .i64 1), .lit (.int .i64 1)], .agg [.lit (.string [109, 51]), .lit (.int .i64 1), .lit (.int .i64 1000), .lit (.int .i64 1)], .agg [.lit (.string [77, 76]), .lit (.int .i64 1), .lit (.int .i64 1000000), .lit (.int .i64 1)], .agg [.lit (.string [71, 76]), .lit (.int .i64 1), .lit (.int .i64 1000000000), .lit (.int .i64 1)], .agg [.lit (.string [108, 112, 104]), .lit (.int .i64 2), .lit (.int .i64 1), .lit (.int .i64 1)], .agg [.lit (.string [108, 112, 115]), .lit (.int .i64 2), .lit (.int .i64 3600), .lit (.int .i64 1)], .agg [.lit (.string [109, 51, 112, 115]), .lit (.int .i64 2), .lit (.int .i64 3600000), .lit (.int .i64 1)], .agg [.lit (.string [77, 76, 112, 100]), .lit (.int .i64 2), .lit (.int .i64 1000000), .lit (.int .i64 24)], .agg [.lit (.string [109, 109]), .lit (.int .i64 3), .lit (.int .i64 1), .lit (.int .i64 1)], .agg [.lit (.string [99, 109]), .lit (.int .i64 3), .lit (.int .i64 10), .lit (.int .i64 1)], .agg [.lit (.string [109]), .lit (.int .i64 3), .lit (.int .i64 1000), .lit (.int .i64 1)], .agg [.lit (.string [104]), .lit (.int .i64 4), .lit (.int .i64 1), .lit (.int .i64 1)], .agg [.lit (.string [100]), .lit (.int .i64 4), .lit (.int .i64 24), .lit (.int .i64 1)], .agg [.lit (.string [109, 50]), .lit (.int .i64 5), .lit (.int .i64 1), .lit (.int .i64 1)], .agg [.lit (.string [104, 97]), .lit (.int .i64 5), .lit (.int .i64 10000), .lit (.int .i64 1)], .agg [.lit (.string [107, 109, 50]), .lit (.int .i64 5), .lit (.int .i64 1000000), .lit (.int .i64 1)], .agg [.lit (.string [112, 101, 114, 109, 105, 108, 108, 101]), .lit (.int .i64 6), .lit (.int .i64 1), .lit (.int .i64 1)], .agg [.lit (.string [112, 101, 114, 99, 101, 110, 116]), .lit (.int .i64 6), .lit (.int .i64 10), .lit (.int .i64 1)]]
def laid_bourne_rule_levels {H : Type} : DataW H := .agg [.agg [.agg [.lit (.string [111, 114]), .lit (.int .i64 12)], .agg [.lit (.string [111, 114]), .lit (.int .i64 12)]], .agg [.agg [.lit (.string [97, 110, 100]), .lit (.int .i64 11)], .agg [.lit (.string [97, 110, 100]), .lit (.int .i64 11)]], .agg [.agg [.lit (.string [43]), .lit (.int .i64 4)], .agg [.lit (.string [45]), .lit (.int .i64 5)]], .agg [.agg [.lit (.string [42]), .lit (.int .i64 6)], .agg [.lit (.string [47]), .lit (.int .i64 7)]]]
def laid_math_bits_deBruijn32tab {H : Type} : DataW H := .agg [.lit (.int .u8 0), .lit (.int .u8 1), .lit (.int .u8 28), .lit (.int .u8 2), .lit (.int .u8 29), .lit (.int .u8 14), .lit (.int .u8 24), .lit (.int .u8 3), .lit (.int .u8 30), .lit (.int .u8 22), .lit (.int .u8 20), .lit (.int .u8 15), .lit (.int .u8 25), .lit (.int .u8 17), .lit (.int .u8 4), .lit (.int .u8 8), .lit (.int .u8 31), .lit (.int .u8 27), .lit (.int .u8 13), .lit (.int .u8 23), .lit (.int .u8 21), .lit (.int .u8 19), .lit (.int .u8 16), .lit (.int .u8 7), .lit (.int .u8 26), .lit (.int .u8 12), .lit (.int .u8 18), .lit (.int .u8 6), .lit (.int .u8 11), .lit (.int .u8 5), .lit (.int .u8 10), .lit (.int .u8 9)]
def laid_math_bits_deBruijn64tab {H : Type} : DataW H := .agg [.lit (.int .u8 0), .lit (.int .u8 1), .lit (.int .u8 56), .lit (.int .u8 2), .lit (.int .u8 57), .lit (.int .u8 49), .lit (.int .u8 28), .lit (.int .u8 3), .lit (.int .u8 61), .lit (.int .u8 58), .lit (.int .u8 42), .lit (.int .u8 50), .lit (.int .u8 38), .lit (.int .u8 29), .lit (.int .u8 17), .lit (.int .u8 4), .lit (.int .u8 62), .lit (.int .u8 47), .lit (.int .u8 59), .lit (.int .u8 36), .lit (.int .u8 45), .lit (.int .u8 43), .lit (.int .u8 51), .lit (.int .u8 22), .lit (.int .u8 53), .lit (.int .u8 39), .lit (.int .u8 33), .lit (.int .u8 30), .lit (.int .u8 24), .lit (.int .u8 18), .lit (.int .u8 12), .lit (.int .u8 5), .lit (.int .u8 63), .lit (.int .u8 55), .lit (.int .u8 48), .lit (.int .u8 27), .lit (.int .u8 60), .lit (.int .u8 41), .lit (.int .u8 37), .lit (.int .u8 16), .lit (.int .u8 46), .lit (.int .u8 35), .lit (.int .u8 44), .lit (.int .u8 21), .lit (.int .u8 52), .lit (.int .u8 32), .lit (.int .u8 23), .lit (.int .u8 11), .lit (.int .u8 54), .lit (.int .u8 26), .lit (.int .u8 40), .lit (.int .u8 15), .lit (.int .u8 34), .lit (.int .u8 20), .lit (.int .u8 31), .lit (.int .u8 10), .lit (.int .u8 25), .lit (.int .u8 14), .lit (.int .u8 19), .lit (.int .u8 9), .lit (.int .u8 13), .lit (.int .u8 8), .lit (.int .u8 7), .lit (.int .u8 6)]
def laid_internal_strconv_uint64pow10 {H : Type} : DataW H := .agg [.lit (.int .u64 1), .lit (.int .u64 10), .lit (.int .u64 100), .lit (.int .u64 1000), .lit (.int .u64 10000), .lit (.int .u64 100000), .lit (.int .u64 1000000), .lit (.int .u64 10000000), .lit (.int .u64 100000000), .lit (.int .u64 1000000000), .lit (.int .u64 10000000000), .lit (.int .u64 100000000000), .lit (.int .u64 1000000000000), .lit (.int .u64 10000000000000), .lit (.int .u64 100000000000000), .lit (.int .u64 1000000000000000), .lit (.int .u64 10000000000000000), .lit (.int .u64 100000000000000000), .lit (.int .u64 1000000000000000000), .lit (.int .u64 10000000000000000000)]

/-- 'bournelaw32.VmTells': WHATEVER THE INPUT: true; the input reads as it did. -/
def vmTellsSpec : ChangeSpec := { name := "vmTells", fn := fun _ => fun
  | [d1, d2, d3, d4] => { results := [.lit (.bool true)], args := [d1, d2, d3, d4] }
  | _ => none }
def vmTellsRow : OpenClaim := { program := "ytjmeeofdffdpnaagreatdoor", sum := "857007415bf1276191037c78a623ed57cdfe398e38f10956cec506155a88a39f", func := "bourne/bournelaw32.VmTells", spec := "vmTells", inPlace := ["internal/bytealg.IndexByteString", "internal/bytealg.IndexString", "math/bits.Add64"], unfollowed := true, recurses := true, named := ["internal/bytealg.MaxLen", "bourne/unit.measures", "math/bits.divideError", "math/bits.overflowError", "bourne/rule.levels", "bourne/date.months"], loops := true, apart := false, laid := [("bourne/date.months", laid_bourne_date_months), ("bourne/unit.measures", laid_bourne_unit_measures), ("bourne/rule.levels", laid_bourne_rule_levels)] }
def VmTellsSaid : Prop := vmTellsRow.holds Tryz.pinned (OpenSpec.ofChange vmTellsSpec)

/-- ITS FALSE NEIGHBOUR: 'it returns false'. Refute it at one input. -/
def vmTellsWrong : ChangeSpec := { name := "vmTells", fn := fun _ => fun
  | [d1, d2, d3, d4] => { results := [.lit (.bool false)], args := [d1, d2, d3, d4] }
  | _ => none }
def VmTellsWrongFalsely : Prop := vmTellsRow.holds Tryz.pinned (OpenSpec.ofChange vmTellsWrong)

/-- 'bournelaw32.VmShape': WHATEVER THE INPUT: true; the input reads as it did. -/
def vmShapeSpec : ChangeSpec := { name := "vmShape", fn := fun _ => fun
  | [d] => { results := [.lit (.bool true)], args := [d] }
  | _ => none }
def vmShapeRow : OpenClaim := { program := "ytjmeeofdffdpnaagreatdoor", sum := "857007415bf1276191037c78a623ed57cdfe398e38f10956cec506155a88a39f", func := "bourne/bournelaw32.VmShape", spec := "vmShape", inPlace := ["internal/bytealg.IndexByteString", "internal/bytealg.IndexString", "math/bits.Add64"], unfollowed := true, recurses := true, named := ["internal/bytealg.MaxLen", "bourne/unit.measures", "math/bits.divideError", "math/bits.overflowError", "bourne/rule.levels", "bourne/date.months"], loops := true, apart := false, laid := [("bourne/date.months", laid_bourne_date_months), ("bourne/unit.measures", laid_bourne_unit_measures), ("bourne/rule.levels", laid_bourne_rule_levels)] }
def VmShapeSaid : Prop := vmShapeRow.holds Tryz.pinned (OpenSpec.ofChange vmShapeSpec)

/-- ITS FALSE NEIGHBOUR: 'it returns false'. Refute it at one input. -/
def vmShapeWrong : ChangeSpec := { name := "vmShape", fn := fun _ => fun
  | [d] => { results := [.lit (.bool false)], args := [d] }
  | _ => none }
def VmShapeWrongFalsely : Prop := vmShapeRow.holds Tryz.pinned (OpenSpec.ofChange vmShapeWrong)

/-- 'bournelaw32.VmNames': WHATEVER THE INPUT: true; the input reads as it did. -/
def vmNamesSpec : ChangeSpec := { name := "vmNames", fn := fun _ => fun
  | [d1, d2] => { results := [.lit (.bool true)], args := [d1, d2] }
  | _ => none }
def vmNamesRow : OpenClaim := { program := "ytjmeeofdffdpnaagreatdoor", sum := "857007415bf1276191037c78a623ed57cdfe398e38f10956cec506155a88a39f", func := "bourne/bournelaw32.VmNames", spec := "vmNames", inPlace := ["internal/bytealg.IndexByteString", "internal/bytealg.IndexString", "math/bits.Add64"], unfollowed := true, recurses := true, named := ["internal/bytealg.MaxLen", "bourne/unit.measures", "math/bits.divideError", "math/bits.overflowError", "bourne/rule.levels", "bourne/date.months"], loops := true, apart := false, laid := [("bourne/date.months", laid_bourne_date_months), ("bourne/unit.measures", laid_bourne_unit_measures), ("bourne/rule.levels", laid_bourne_rule_levels)] }
def VmNamesSaid : Prop := vmNamesRow.holds Tryz.pinned (OpenSpec.ofChange vmNamesSpec)

/-- ITS FALSE NEIGHBOUR: 'it returns false'. Refute it at one input. -/
def vmNamesWrong : ChangeSpec := { name := "vmNames", fn := fun _ => fun
  | [d1, d2] => { results := [.lit (.bool false)], args := [d1, d2] }
  | _ => none }
def VmNamesWrongFalsely : Prop := vmNamesRow.holds Tryz.pinned (OpenSpec.ofChange vmNamesWrong)

/-- 'bournelaw32.VmRefuses': WHATEVER THE INPUT: true; the input reads as it did. -/
def vmRefusesSpec : ChangeSpec := { name := "vmRefuses", fn := fun _ => fun
  | [d1, d2, d3, d4, d5, d6] => { results := [.lit (.bool true)], args := [d1, d2, d3, d4, d5, d6] }
  | _ => none }
def vmRefusesRow : OpenClaim := { program := "ytjmeeofdffdpnaagreatdoor", sum := "857007415bf1276191037c78a623ed57cdfe398e38f10956cec506155a88a39f", func := "bourne/bournelaw32.VmRefuses", spec := "vmRefuses", inPlace := ["internal/bytealg.IndexByteString", "internal/bytealg.IndexString", "math/bits.Add64"], unfollowed := true, recurses := true, named := ["internal/bytealg.MaxLen", "bourne/unit.measures", "math/bits.divideError", "math/bits.overflowError", "bourne/rule.levels", "bourne/date.months"], loops := true, apart := false, laid := [("bourne/date.months", laid_bourne_date_months), ("bourne/unit.measures", laid_bourne_unit_measures), ("bourne/rule.levels", laid_bourne_rule_levels)] }
def VmRefusesSaid : Prop := vmRefusesRow.holds Tryz.pinned (OpenSpec.ofChange vmRefusesSpec)

/-- ITS FALSE NEIGHBOUR: 'it returns false'. Refute it at one input. -/
def vmRefusesWrong : ChangeSpec := { name := "vmRefuses", fn := fun _ => fun
  | [d1, d2, d3, d4, d5, d6] => { results := [.lit (.bool false)], args := [d1, d2, d3, d4, d5, d6] }
  | _ => none }
def VmRefusesWrongFalsely : Prop := vmRefusesRow.holds Tryz.pinned (OpenSpec.ofChange vmRefusesWrong)

/-- 'bournelaw32.VmMeans': WHATEVER THE INPUT: true; the input reads as it did. -/
def vmMeansSpec : ChangeSpec := { name := "vmMeans", fn := fun _ => fun
  | [d1, d2, d3] => { results := [.lit (.bool true)], args := [d1, d2, d3] }
  | _ => none }
def vmMeansRow : OpenClaim := { program := "ytjmeeofdffdpnaagreatdoor", sum := "857007415bf1276191037c78a623ed57cdfe398e38f10956cec506155a88a39f", func := "bourne/bournelaw32.VmMeans", spec := "vmMeans", inPlace := ["internal/bytealg.IndexByteString", "internal/bytealg.IndexString", "math/bits.Add64"], unfollowed := true, recurses := true, named := ["internal/bytealg.MaxLen", "bourne/unit.measures", "math/bits.divideError", "math/bits.overflowError", "bourne/rule.levels", "bourne/date.months"], loops := true, apart := false, laid := [("bourne/date.months", laid_bourne_date_months), ("bourne/unit.measures", laid_bourne_unit_measures), ("bourne/rule.levels", laid_bourne_rule_levels)] }
def VmMeansSaid : Prop := vmMeansRow.holds Tryz.pinned (OpenSpec.ofChange vmMeansSpec)

/-- ITS FALSE NEIGHBOUR: 'it returns false'. Refute it at one input. -/
def vmMeansWrong : ChangeSpec := { name := "vmMeans", fn := fun _ => fun
  | [d1, d2, d3] => { results := [.lit (.bool false)], args := [d1, d2, d3] }
  | _ => none }
def VmMeansWrongFalsely : Prop := vmMeansRow.holds Tryz.pinned (OpenSpec.ofChange vmMeansWrong)

/-- 'bournelaw32.VmSource': WHATEVER THE INPUT: true; the input reads as it did. -/
def vmSourceSpec : ChangeSpec := { name := "vmSource", fn := fun _ => fun
  | [d1, d2] => { results := [.lit (.bool true)], args := [d1, d2] }
  | _ => none }
def vmSourceRow : OpenClaim := { program := "ytjmeeofdffdpnaagreatdoor", sum := "857007415bf1276191037c78a623ed57cdfe398e38f10956cec506155a88a39f", func := "bourne/bournelaw32.VmSource", spec := "vmSource", inPlace := ["internal/bytealg.IndexByteString", "internal/bytealg.IndexString", "math/bits.Add64", "internal/abi.NoEscape"], unfollowed := true, recurses := true, named := ["internal/bytealg.MaxLen", "bourne/unit.measures", "math/bits.divideError", "math/bits.overflowError", "bourne/rule.levels", "bourne/date.months", "internal/strconv.uint64pow10", "math/bits.deBruijn32tab", "math/bits.deBruijn64tab"], apart := false, laid := [("math/bits.deBruijn32tab", laid_math_bits_deBruijn32tab), ("math/bits.deBruijn64tab", laid_math_bits_deBruijn64tab), ("internal/strconv.uint64pow10", laid_internal_strconv_uint64pow10), ("bourne/date.months", laid_bourne_date_months), ("bourne/unit.measures", laid_bourne_unit_measures), ("bourne/rule.levels", laid_bourne_rule_levels)] }
def VmSourceSaid : Prop := vmSourceRow.holds Tryz.pinned (OpenSpec.ofChange vmSourceSpec)

/-- ITS FALSE NEIGHBOUR: 'it returns false'. Refute it at one input. -/
def vmSourceWrong : ChangeSpec := { name := "vmSource", fn := fun _ => fun
  | [d1, d2] => { results := [.lit (.bool false)], args := [d1, d2] }
  | _ => none }
def VmSourceWrongFalsely : Prop := vmSourceRow.holds Tryz.pinned (OpenSpec.ofChange vmSourceWrong)

/- THE SECOND FORM. 'bulk': how many values and letters a reading holds, each counted each time it is reached (what is shared counts as often as it is met; a slice's spare places count too). A statement '..UptoSaid' is the law's where the arguments, and the package variables that the reading takes, are together of bulk at most 1048576: NARROWER than '..Said'. Prove '..Said' where nothing that the law and all that it calls make is longer than what came in: it says more and counts as full. Else prove '..UptoSaid'. A law counts once. -/
mutual
def uptoBulk {H : Type} : DataW H → Nat
  | .lit (.string bytes) => bytes.length + 1
  | .lit _ => 1
  | .nil => 1
  | .ptr d => uptoBulk d + 1
  | .slice elems spare => uptoBulkAll elems + uptoBulkAll spare + 1
  | .agg parts => uptoBulkAll parts + 1
  | .iface _ d => uptoBulk d + 1
  | .map entries => uptoBulkEntries entries + 1
  | .held _ => 1
def uptoBulkAll {H : Type} : List (DataW H) → Nat
  | [] => 0
  | d :: r => uptoBulk d + uptoBulkAll r
def uptoBulkEntries {H : Type} : List (Lit × DataW H) → Nat
  | [] => 0
  | x :: r => uptoBulkEntry x + uptoBulkEntries r
def uptoBulkEntry {H : Type} : Lit × DataW H → Nat
  | (.string bytes, d) => bytes.length + uptoBulk d + 1
  | (_, d) => uptoBulk d + 1
 end
def uptoSmall : (H : Type) → List (DataW H) → Bool := fun _ ds => decide (uptoBulkAll ds ≤ 1048576)
def OpenSpec.upto (s : _root_.Go.ChangeSpec) : _root_.Go.OpenSpec := { _root_.Go.OpenSpec.ofChange s with cond := some uptoSmall }

/-- 'bournelaw32.VmTells', WHERE WHAT IT READS IS OF BULK AT MOST 1048576: true; the input reads as it did. -/
def vmTellsUptoRow : OpenClaim := { program := "ytjmeeofdffdpnaagreatdoor", sum := "857007415bf1276191037c78a623ed57cdfe398e38f10956cec506155a88a39f", func := "bourne/bournelaw32.VmTells", spec := "vmTells", inPlace := ["internal/bytealg.IndexByteString", "internal/bytealg.IndexString", "math/bits.Add64"], unfollowed := true, recurses := true, named := ["internal/bytealg.MaxLen", "bourne/unit.measures", "math/bits.divideError", "math/bits.overflowError", "bourne/rule.levels", "bourne/date.months"], loops := true, apart := false, laid := [("bourne/date.months", laid_bourne_date_months), ("bourne/unit.measures", laid_bourne_unit_measures), ("bourne/rule.levels", laid_bourne_rule_levels)], narrowed := true }
def VmTellsUptoSaid : Prop := vmTellsUptoRow.holds Tryz.pinned (OpenSpec.upto vmTellsSpec)

/-- 'bournelaw32.VmShape', WHERE WHAT IT READS IS OF BULK AT MOST 1048576: true; the input reads as it did. -/
def vmShapeUptoRow : OpenClaim := { program := "ytjmeeofdffdpnaagreatdoor", sum := "857007415bf1276191037c78a623ed57cdfe398e38f10956cec506155a88a39f", func := "bourne/bournelaw32.VmShape", spec := "vmShape", inPlace := ["internal/bytealg.IndexByteString", "internal/bytealg.IndexString", "math/bits.Add64"], unfollowed := true, recurses := true, named := ["internal/bytealg.MaxLen", "bourne/unit.measures", "math/bits.divideError", "math/bits.overflowError", "bourne/rule.levels", "bourne/date.months"], loops := true, apart := false, laid := [("bourne/date.months", laid_bourne_date_months), ("bourne/unit.measures", laid_bourne_unit_measures), ("bourne/rule.levels", laid_bourne_rule_levels)], narrowed := true }
def VmShapeUptoSaid : Prop := vmShapeUptoRow.holds Tryz.pinned (OpenSpec.upto vmShapeSpec)

/-- 'bournelaw32.VmNames', WHERE WHAT IT READS IS OF BULK AT MOST 1048576: true; the input reads as it did. -/
def vmNamesUptoRow : OpenClaim := { program := "ytjmeeofdffdpnaagreatdoor", sum := "857007415bf1276191037c78a623ed57cdfe398e38f10956cec506155a88a39f", func := "bourne/bournelaw32.VmNames", spec := "vmNames", inPlace := ["internal/bytealg.IndexByteString", "internal/bytealg.IndexString", "math/bits.Add64"], unfollowed := true, recurses := true, named := ["internal/bytealg.MaxLen", "bourne/unit.measures", "math/bits.divideError", "math/bits.overflowError", "bourne/rule.levels", "bourne/date.months"], loops := true, apart := false, laid := [("bourne/date.months", laid_bourne_date_months), ("bourne/unit.measures", laid_bourne_unit_measures), ("bourne/rule.levels", laid_bourne_rule_levels)], narrowed := true }
def VmNamesUptoSaid : Prop := vmNamesUptoRow.holds Tryz.pinned (OpenSpec.upto vmNamesSpec)

/-- 'bournelaw32.VmRefuses', WHERE WHAT IT READS IS OF BULK AT MOST 1048576: true; the input reads as it did. -/
def vmRefusesUptoRow : OpenClaim := { program := "ytjmeeofdffdpnaagreatdoor", sum := "857007415bf1276191037c78a623ed57cdfe398e38f10956cec506155a88a39f", func := "bourne/bournelaw32.VmRefuses", spec := "vmRefuses", inPlace := ["internal/bytealg.IndexByteString", "internal/bytealg.IndexString", "math/bits.Add64"], unfollowed := true, recurses := true, named := ["internal/bytealg.MaxLen", "bourne/unit.measures", "math/bits.divideError", "math/bits.overflowError", "bourne/rule.levels", "bourne/date.months"], loops := true, apart := false, laid := [("bourne/date.months", laid_bourne_date_months), ("bourne/unit.measures", laid_bourne_unit_measures), ("bourne/rule.levels", laid_bourne_rule_levels)], narrowed := true }
def VmRefusesUptoSaid : Prop := vmRefusesUptoRow.holds Tryz.pinned (OpenSpec.upto vmRefusesSpec)

/-- 'bournelaw32.VmMeans', WHERE WHAT IT READS IS OF BULK AT MOST 1048576: true; the input reads as it did. -/
def vmMeansUptoRow : OpenClaim := { program := "ytjmeeofdffdpnaagreatdoor", sum := "857007415bf1276191037c78a623ed57cdfe398e38f10956cec506155a88a39f", func := "bourne/bournelaw32.VmMeans", spec := "vmMeans", inPlace := ["internal/bytealg.IndexByteString", "internal/bytealg.IndexString", "math/bits.Add64"], unfollowed := true, recurses := true, named := ["internal/bytealg.MaxLen", "bourne/unit.measures", "math/bits.divideError", "math/bits.overflowError", "bourne/rule.levels", "bourne/date.months"], loops := true, apart := false, laid := [("bourne/date.months", laid_bourne_date_months), ("bourne/unit.measures", laid_bourne_unit_measures), ("bourne/rule.levels", laid_bourne_rule_levels)], narrowed := true }
def VmMeansUptoSaid : Prop := vmMeansUptoRow.holds Tryz.pinned (OpenSpec.upto vmMeansSpec)

/-- 'bournelaw32.VmSource', WHERE WHAT IT READS IS OF BULK AT MOST 1048576: true; the input reads as it did. -/
def vmSourceUptoRow : OpenClaim := { program := "ytjmeeofdffdpnaagreatdoor", sum := "857007415bf1276191037c78a623ed57cdfe398e38f10956cec506155a88a39f", func := "bourne/bournelaw32.VmSource", spec := "vmSource", inPlace := ["internal/bytealg.IndexByteString", "internal/bytealg.IndexString", "math/bits.Add64", "internal/abi.NoEscape"], unfollowed := true, recurses := true, named := ["internal/bytealg.MaxLen", "bourne/unit.measures", "math/bits.divideError", "math/bits.overflowError", "bourne/rule.levels", "bourne/date.months", "internal/strconv.uint64pow10", "math/bits.deBruijn32tab", "math/bits.deBruijn64tab"], apart := false, laid := [("math/bits.deBruijn32tab", laid_math_bits_deBruijn32tab), ("math/bits.deBruijn64tab", laid_math_bits_deBruijn64tab), ("internal/strconv.uint64pow10", laid_internal_strconv_uint64pow10), ("bourne/date.months", laid_bourne_date_months), ("bourne/unit.measures", laid_bourne_unit_measures), ("bourne/rule.levels", laid_bourne_rule_levels)], narrowed := true }
def VmSourceUptoSaid : Prop := vmSourceUptoRow.holds Tryz.pinned (OpenSpec.upto vmSourceSpec)

end Rows
end Go.Proofs.YtjmeeofdffdpnaaGreatDoor
