/-
  NARROWER THAN 'FOR EVERY INPUT', by the rows' own cells (each row's printed sentence says how): BasinBack: laid · BasinOrders: laid · BasinFlows: laid · BasinLimits: laid · BasinReads: laid.
  DERIVED. THE GIVEN ROWS OF THIS SEAT. 5 by the template 'for every input the law returns true; each argument reads behind the call as it read before'; 0 by the template 'total and deterministic' (their statements: YtpapfpoefiikpaaGreatDoorTotals.lean).
  GIVEN WITH THE SEED: the statements are not yours to turn. If you find one false, say at which input.
  Laid BY PROGRAM, IN A SANDBOX (cutbox-rows.mjs): the forced cells as the released guide's own fill.sh prints them over the translation 4cb6efd11fb74873… (all of the seat's roots in one cut). By AI agents, Wed Nov 11 2026. No macro, syntax, notation, axiom, sorry.
-/
import Derived.Test.YtpapfpoefiikpaaGreatDoorChecked
import GoSem.Claim
import GoSem.ClaimJoined
import GoSem.ClaimMapViews
import Derived.JoinedTies
import Derived.KernelRfl
namespace Go.Proofs.YtpapfpoefiikpaaGreatDoor
/- THE CELL 'sum', in the pinned program and in every row, IS THE sha256 OF THE DUMP (.gsa) THAT YtpapfpoefiikpaaGreatDoorProg.lean LOADS. Nothing in Lean hashes anything: it is a label: what it is worth is what the hold of that sum in a sandbox is worth. -/
noncomputable def Tryz.pinned : Pinned := { name := "ytpapfpoefiikpaagreatdoor", sum := "4cb6efd11fb74873e3bbd77c9c796e4c43a6bba1d7c28adb095ea87b06b66e92", checked := Tryz.checked }
namespace Rows
def none {H : Type} : Left H := { results := [], args := [] }

/- WHAT THE LISTED PACKAGE-LEVEL VARIABLES READ AS WHEN THE CALL BEGINS. Each datum BY PROGRAM (the guide's laid-datum.mjs) off the statement by which the dump's own 'gosem.cut.vars' lays the variable. In a bare row this is a premise. The card (YtpapfpoefiikpaaGreatDoorCards.lean) ties it to the program's text. -/
def laid_math_bits_deBruijn32tab {H : Type} : DataW H := .agg [.lit (.int .u8 0), .lit (.int .u8 1), .lit (.int .u8 28), .lit (.int .u8 2), .lit (.int .u8 29), .lit (.int .u8 14), .lit (.int .u8 24), .lit (.int .u8 3), .lit (.int .u8 30), .lit (.int .u8 22), .lit (.int .u8 20), .lit (.int .u8 15), .lit (.int .u8 25), .lit (.int .u8 17), .lit (.int .u8 4), .lit (.int .u8 8), .lit (.int .u8 31), .lit (.int .u8 27), .lit (.int .u8 13), .lit (.int .u8 23), .lit (.int .u8 21), .lit (.int .u8 19), .lit (.int .u8 16), .lit (.int .u8 7), .lit (.int .u8 26), .lit (.int .u8 12), .lit (.int .u8 18), .lit (.int .u8 6), .lit (.int .u8 11), .lit (.int .u8 5), .lit (.int .u8 10), .lit (.int .u8 9)]
def laid_math_bits_deBruijn64tab {H : Type} : DataW H := .agg [.lit (.int .u8 0), .lit (.int .u8 1), .lit (.int .u8 56), .lit (.int .u8 2), .lit (.int .u8 57), .lit (.int .u8 49), .lit (.int .u8 28), .lit (.int .u8 3), .lit (.int .u8 61), .lit (.int .u8 58), .lit (.int .u8 42), .lit (.int .u8 50), .lit (.int .u8 38), .lit (.int .u8 29), .lit (.int .u8 17), .lit (.int .u8 4), .lit (.int .u8 62), .lit (.int .u8 47), .lit (.int .u8 59), .lit (.int .u8 36), .lit (.int .u8 45), .lit (.int .u8 43), .lit (.int .u8 51), .lit (.int .u8 22), .lit (.int .u8 53), .lit (.int .u8 39), .lit (.int .u8 33), .lit (.int .u8 30), .lit (.int .u8 24), .lit (.int .u8 18), .lit (.int .u8 12), .lit (.int .u8 5), .lit (.int .u8 63), .lit (.int .u8 55), .lit (.int .u8 48), .lit (.int .u8 27), .lit (.int .u8 60), .lit (.int .u8 41), .lit (.int .u8 37), .lit (.int .u8 16), .lit (.int .u8 46), .lit (.int .u8 35), .lit (.int .u8 44), .lit (.int .u8 21), .lit (.int .u8 52), .lit (.int .u8 32), .lit (.int .u8 23), .lit (.int .u8 11), .lit (.int .u8 54), .lit (.int .u8 26), .lit (.int .u8 40), .lit (.int .u8 15), .lit (.int .u8 34), .lit (.int .u8 20), .lit (.int .u8 31), .lit (.int .u8 10), .lit (.int .u8 25), .lit (.int .u8 14), .lit (.int .u8 19), .lit (.int .u8 9), .lit (.int .u8 13), .lit (.int .u8 8), .lit (.int .u8 7), .lit (.int .u8 6)]
def laid_internal_strconv_uint64pow10 {H : Type} : DataW H := .agg [.lit (.int .u64 1), .lit (.int .u64 10), .lit (.int .u64 100), .lit (.int .u64 1000), .lit (.int .u64 10000), .lit (.int .u64 100000), .lit (.int .u64 1000000), .lit (.int .u64 10000000), .lit (.int .u64 100000000), .lit (.int .u64 1000000000), .lit (.int .u64 10000000000), .lit (.int .u64 100000000000), .lit (.int .u64 1000000000000), .lit (.int .u64 10000000000000), .lit (.int .u64 100000000000000), .lit (.int .u64 1000000000000000), .lit (.int .u64 10000000000000000), .lit (.int .u64 100000000000000000), .lit (.int .u64 1000000000000000000), .lit (.int .u64 10000000000000000000)]
def laid_bourne_unit_measures {H : Type} : DataW H := .agg [.agg [.lit (.string []), .lit (.int .i64 0), .lit (.int .i64 1), .lit (.int .i64 1)], .agg [.lit (.string [108]), .lit (.int .i64 1), .lit (.int .i64 1), .lit (.int .i64 1)], .agg [.lit (.string [109, 51]), .lit (.int .i64 1), .lit (.int .i64 1000), .lit (.int .i64 1)], .agg [.lit (.string [77, 76]), .lit (.int .i64 1), .lit (.int .i64 1000000), .lit (.int .i64 1)], .agg [.lit (.string [71, 76]), .lit (.int .i64 1), .lit (.int .i64 1000000000), .lit (.int .i64 1)], .agg [.lit (.string [108, 112, 104]), .lit (.int .i64 2), .lit (.int .i64 1), .lit (.int .i64 1)], .agg [.lit (.string [108, 112, 115]), .lit (.int .i64 2), .lit (.int .i64 3600), .lit (.int .i64 1)], .agg [.lit (.string [109, 51, 112, 115]), .lit (.int .i64 2), .lit (.int .i64 3600000), .lit (.int .i64 1)], .agg [.lit (.string [77, 76, 112, 100]), .lit (.int .i64 2), .lit (.int .i64 1000000), .lit (.int .i64 24)], .agg [.lit (.string [109, 109]), .lit (.int .i64 3), .lit (.int .i64 1), .lit (.int .i64 1)], .agg [.lit (.string [99, 109]), .lit (.int .i64 3), .lit (.int .i64 10), .lit (.int .i64 1)], .agg [.lit (.string [109]), .lit (.int .i64 3), .lit (.int .i64 1000), .lit (.int .i64 1)], .agg [.lit (.string [104]), .lit (.int .i64 4), .lit (.int .i64 1), .lit (.int .i64 1)], .agg [.lit (.string [100]), .lit (.int .i64 4), .lit (.int .i64 24), .lit (.int .i64 1)], .agg [.lit (.string [109, 50]), .lit (.int .i64 5), .lit (.int .i64 1), .lit (.int .i64 1)], .agg [.lit (.string [104, 97]), .lit (.int .i64 5), .lit (.int .i64 10000), .lit (.int .i64 1)], .agg [.lit (.string [107, 109, 50]), .lit (.int .i64 5), .lit (.int .i64 1000000), .lit (.int .i64 1)], .agg [.lit (.string [112, 101, 114, 109, 105, 108, 108, 101]), .lit (.int .i64 6), .lit (.int .i64 1), .lit (.int .i64 1)], .agg [.lit (.string [112, 101, 114, 99, 101, 110, 116]), .lit (.int .i64 6), .lit (.int .i64 10), .lit (.int .i64 1)]]

/-- 'bournelaw16.BasinBack': WHATEVER THE INPUT: true; the input reads as it did. -/
def basinBackSpec : ChangeSpec := { name := "basinBack", fn := fun _ => fun
  | [d1, d2] => { results := [.lit (.bool true)], args := [d1, d2] }
  | _ => none }
def basinBackRow : OpenClaim := { program := "ytpapfpoefiikpaagreatdoor", sum := "4cb6efd11fb74873e3bbd77c9c796e4c43a6bba1d7c28adb095ea87b06b66e92", func := "bourne/bournelaw16.BasinBack", spec := "basinBack", inPlace := ["internal/bytealg.IndexByteString", "internal/bytealg.IndexString", "math/bits.Add64", "internal/abi.NoEscape", "internal/bytealg.MakeNoZero"], unfollowed := true, recurses := true, named := ["internal/bytealg.MaxLen", "bourne/unit.measures", "math/bits.divideError", "math/bits.overflowError", "internal/strconv.uint64pow10", "math/bits.deBruijn32tab", "math/bits.deBruijn64tab"], plainKeys := false, apart := false, laid := [("math/bits.deBruijn32tab", laid_math_bits_deBruijn32tab), ("math/bits.deBruijn64tab", laid_math_bits_deBruijn64tab), ("internal/strconv.uint64pow10", laid_internal_strconv_uint64pow10), ("bourne/unit.measures", laid_bourne_unit_measures)] }
def BasinBackSaid : Prop := basinBackRow.holds Tryz.pinned (OpenSpec.ofChange basinBackSpec)

/-- ITS FALSE NEIGHBOUR: 'it returns false'. Refute it at one input. -/
def basinBackWrong : ChangeSpec := { name := "basinBack", fn := fun _ => fun
  | [d1, d2] => { results := [.lit (.bool false)], args := [d1, d2] }
  | _ => none }
def BasinBackWrongFalsely : Prop := basinBackRow.holds Tryz.pinned (OpenSpec.ofChange basinBackWrong)

/-- 'bournelaw16.BasinOrders': WHATEVER THE INPUT: true; the input reads as it did. -/
def basinOrdersSpec : ChangeSpec := { name := "basinOrders", fn := fun _ => fun
  | [d1, d2, d3] => { results := [.lit (.bool true)], args := [d1, d2, d3] }
  | _ => none }
def basinOrdersRow : OpenClaim := { program := "ytpapfpoefiikpaagreatdoor", sum := "4cb6efd11fb74873e3bbd77c9c796e4c43a6bba1d7c28adb095ea87b06b66e92", func := "bourne/bournelaw16.BasinOrders", spec := "basinOrders", inPlace := ["internal/bytealg.IndexByteString", "internal/bytealg.IndexString", "math/bits.Add64", "internal/abi.NoEscape", "internal/bytealg.MakeNoZero"], unfollowed := true, recurses := true, named := ["internal/bytealg.MaxLen", "bourne/unit.measures", "math/bits.divideError", "math/bits.overflowError", "internal/strconv.uint64pow10", "math/bits.deBruijn32tab", "math/bits.deBruijn64tab"], plainKeys := false, apart := false, laid := [("math/bits.deBruijn32tab", laid_math_bits_deBruijn32tab), ("math/bits.deBruijn64tab", laid_math_bits_deBruijn64tab), ("internal/strconv.uint64pow10", laid_internal_strconv_uint64pow10), ("bourne/unit.measures", laid_bourne_unit_measures)] }
def BasinOrdersSaid : Prop := basinOrdersRow.holds Tryz.pinned (OpenSpec.ofChange basinOrdersSpec)

/-- ITS FALSE NEIGHBOUR: 'it returns false'. Refute it at one input. -/
def basinOrdersWrong : ChangeSpec := { name := "basinOrders", fn := fun _ => fun
  | [d1, d2, d3] => { results := [.lit (.bool false)], args := [d1, d2, d3] }
  | _ => none }
def BasinOrdersWrongFalsely : Prop := basinOrdersRow.holds Tryz.pinned (OpenSpec.ofChange basinOrdersWrong)

/-- 'bournelaw16.BasinFlows': WHATEVER THE INPUT: true; the input reads as it did. -/
def basinFlowsSpec : ChangeSpec := { name := "basinFlows", fn := fun _ => fun
  | [d] => { results := [.lit (.bool true)], args := [d] }
  | _ => none }
def basinFlowsRow : OpenClaim := { program := "ytpapfpoefiikpaagreatdoor", sum := "4cb6efd11fb74873e3bbd77c9c796e4c43a6bba1d7c28adb095ea87b06b66e92", func := "bourne/bournelaw16.BasinFlows", spec := "basinFlows", inPlace := ["internal/bytealg.IndexByteString", "internal/bytealg.IndexString", "math/bits.Add64", "internal/abi.NoEscape", "internal/bytealg.MakeNoZero"], unfollowed := true, recurses := true, named := ["internal/bytealg.MaxLen", "bourne/unit.measures", "math/bits.divideError", "math/bits.overflowError", "internal/strconv.uint64pow10", "math/bits.deBruijn32tab", "math/bits.deBruijn64tab"], plainKeys := false, apart := false, laid := [("math/bits.deBruijn32tab", laid_math_bits_deBruijn32tab), ("math/bits.deBruijn64tab", laid_math_bits_deBruijn64tab), ("internal/strconv.uint64pow10", laid_internal_strconv_uint64pow10), ("bourne/unit.measures", laid_bourne_unit_measures)] }
def BasinFlowsSaid : Prop := basinFlowsRow.holds Tryz.pinned (OpenSpec.ofChange basinFlowsSpec)

/-- ITS FALSE NEIGHBOUR: 'it returns false'. Refute it at one input. -/
def basinFlowsWrong : ChangeSpec := { name := "basinFlows", fn := fun _ => fun
  | [d] => { results := [.lit (.bool false)], args := [d] }
  | _ => none }
def BasinFlowsWrongFalsely : Prop := basinFlowsRow.holds Tryz.pinned (OpenSpec.ofChange basinFlowsWrong)

/-- 'bournelaw16.BasinLimits': WHATEVER THE INPUT: true; the input reads as it did. -/
def basinLimitsSpec : ChangeSpec := { name := "basinLimits", fn := fun _ => fun
  | [d1, d2] => { results := [.lit (.bool true)], args := [d1, d2] }
  | _ => none }
def basinLimitsRow : OpenClaim := { program := "ytpapfpoefiikpaagreatdoor", sum := "4cb6efd11fb74873e3bbd77c9c796e4c43a6bba1d7c28adb095ea87b06b66e92", func := "bourne/bournelaw16.BasinLimits", spec := "basinLimits", inPlace := ["internal/bytealg.IndexByteString", "internal/bytealg.IndexString", "math/bits.Add64", "internal/abi.NoEscape", "internal/bytealg.MakeNoZero"], unfollowed := true, recurses := true, named := ["internal/bytealg.MaxLen", "bourne/unit.measures", "math/bits.divideError", "math/bits.overflowError", "internal/strconv.uint64pow10", "math/bits.deBruijn32tab", "math/bits.deBruijn64tab"], plainKeys := false, apart := false, laid := [("math/bits.deBruijn32tab", laid_math_bits_deBruijn32tab), ("math/bits.deBruijn64tab", laid_math_bits_deBruijn64tab), ("internal/strconv.uint64pow10", laid_internal_strconv_uint64pow10), ("bourne/unit.measures", laid_bourne_unit_measures)] }
def BasinLimitsSaid : Prop := basinLimitsRow.holds Tryz.pinned (OpenSpec.ofChange basinLimitsSpec)

/-- ITS FALSE NEIGHBOUR: 'it returns false'. Refute it at one input. -/
def basinLimitsWrong : ChangeSpec := { name := "basinLimits", fn := fun _ => fun
  | [d1, d2] => { results := [.lit (.bool false)], args := [d1, d2] }
  | _ => none }
def BasinLimitsWrongFalsely : Prop := basinLimitsRow.holds Tryz.pinned (OpenSpec.ofChange basinLimitsWrong)

/-- 'bournelaw16.BasinReads': WHATEVER THE INPUT: true; the input reads as it did. -/
def basinReadsSpec : ChangeSpec := { name := "basinReads", fn := fun _ => fun
  | [d] => { results := [.lit (.bool true)], args := [d] }
  | _ => none }
def basinReadsRow : OpenClaim := { program := "ytpapfpoefiikpaagreatdoor", sum := "4cb6efd11fb74873e3bbd77c9c796e4c43a6bba1d7c28adb095ea87b06b66e92", func := "bourne/bournelaw16.BasinReads", spec := "basinReads", inPlace := ["internal/bytealg.IndexByteString", "internal/bytealg.IndexString", "math/bits.Add64", "internal/abi.NoEscape", "internal/bytealg.MakeNoZero"], unfollowed := true, recurses := true, named := ["internal/bytealg.MaxLen", "bourne/unit.measures", "math/bits.divideError", "math/bits.overflowError", "internal/strconv.uint64pow10", "math/bits.deBruijn32tab", "math/bits.deBruijn64tab"], plainKeys := false, apart := false, laid := [("math/bits.deBruijn32tab", laid_math_bits_deBruijn32tab), ("math/bits.deBruijn64tab", laid_math_bits_deBruijn64tab), ("internal/strconv.uint64pow10", laid_internal_strconv_uint64pow10), ("bourne/unit.measures", laid_bourne_unit_measures)] }
def BasinReadsSaid : Prop := basinReadsRow.holds Tryz.pinned (OpenSpec.ofChange basinReadsSpec)

/-- ITS FALSE NEIGHBOUR: 'it returns false'. Refute it at one input. -/
def basinReadsWrong : ChangeSpec := { name := "basinReads", fn := fun _ => fun
  | [d] => { results := [.lit (.bool false)], args := [d] }
  | _ => none }
def BasinReadsWrongFalsely : Prop := basinReadsRow.holds Tryz.pinned (OpenSpec.ofChange basinReadsWrong)

/- THE SECOND FORM. 'bulk': how many values and letters a reading holds, each counted each time it is reached (what is shared counts as often as it is met; a slice's spare places count too). A statement '..UptoSaid' is the law's where the arguments, and the package variables that the reading takes, are together of bulk at most 1048576: NARROWER than '..Said'. Prove '..Said' where nothing that the law and all that it calls make is longer than what came in: it says more and counts as full. Else prove '..UptoSaid'. A law counts once. -/
mutual
def uptoBulk {H : Type} : DataW H → Nat
  | .lit (.string bytes) => bytes.length + 1
  | .lit _ => 1
  | .nil => 1
  | .ptr d => uptoBulk d + 1
  | .slice elems spare => uptoBulkAll elems + uptoBulkAll spare + 1
  | .agg parts => uptoBulkAll parts + 1
  | .iface _ d => uptoBulk d + 1
  | .map entries => uptoBulkEntries entries + 1
  | .held _ => 1
def uptoBulkAll {H : Type} : List (DataW H) → Nat
  | [] => 0
  | d :: r => uptoBulk d + uptoBulkAll r
def uptoBulkEntries {H : Type} : List (Lit × DataW H) → Nat
  | [] => 0
  | x :: r => uptoBulkEntry x + uptoBulkEntries r
def uptoBulkEntry {H : Type} : Lit × DataW H → Nat
  | (.string bytes, d) => bytes.length + uptoBulk d + 1
  | (_, d) => uptoBulk d + 1
 end
def uptoSmall : (H : Type) → List (DataW H) → Bool := fun _ ds => decide (uptoBulkAll ds ≤ 1048576)
def OpenSpec.upto (s : _root_.Go.ChangeSpec) : _root_.Go.OpenSpec := { _root_.Go.OpenSpec.ofChange s with cond := some uptoSmall }

/-- 'bournelaw16.BasinBack', WHERE WHAT IT READS IS OF BULK AT MOST 1048576: true; the input reads as it did. -/
def basinBackUptoRow : OpenClaim := { program := "ytpapfpoefiikpaagreatdoor", sum := "4cb6efd11fb74873e3bbd77c9c796e4c43a6bba1d7c28adb095ea87b06b66e92", func := "bourne/bournelaw16.BasinBack", spec := "basinBack", inPlace := ["internal/bytealg.IndexByteString", "internal/bytealg.IndexString", "math/bits.Add64", "internal/abi.NoEscape", "internal/bytealg.MakeNoZero"], unfollowed := true, recurses := true, named := ["internal/bytealg.MaxLen", "bourne/unit.measures", "math/bits.divideError", "math/bits.overflowError", "internal/strconv.uint64pow10", "math/bits.deBruijn32tab", "math/bits.deBruijn64tab"], plainKeys := false, apart := false, laid := [("math/bits.deBruijn32tab", laid_math_bits_deBruijn32tab), ("math/bits.deBruijn64tab", laid_math_bits_deBruijn64tab), ("internal/strconv.uint64pow10", laid_internal_strconv_uint64pow10), ("bourne/unit.measures", laid_bourne_unit_measures)], narrowed := true }
def BasinBackUptoSaid : Prop := basinBackUptoRow.holds Tryz.pinned (OpenSpec.upto basinBackSpec)

/-- 'bournelaw16.BasinOrders', WHERE WHAT IT READS IS OF BULK AT MOST 1048576: true; the input reads as it did. -/
def basinOrdersUptoRow : OpenClaim := { program := "ytpapfpoefiikpaagreatdoor", sum := "4cb6efd11fb74873e3bbd77c9c796e4c43a6bba1d7c28adb095ea87b06b66e92", func := "bourne/bournelaw16.BasinOrders", spec := "basinOrders", inPlace := ["internal/bytealg.IndexByteString", "internal/bytealg.IndexString", "math/bits.Add64", "internal/abi.NoEscape", "internal/bytealg.MakeNoZero"], unfollowed := true, recurses := true, named := ["internal/bytealg.MaxLen", "bourne/unit.measures", "math/bits.divideError", "math/bits.overflowError", "internal/strconv.uint64pow10", "math/bits.deBruijn32tab", "math/bits.deBruijn64tab"], plainKeys := false, apart := false, laid := [("math/bits.deBruijn32tab", laid_math_bits_deBruijn32tab), ("math/bits.deBruijn64tab", laid_math_bits_deBruijn64tab), ("internal/strconv.uint64pow10", laid_internal_strconv_uint64pow10), ("bourne/unit.measures", laid_bourne_unit_measures)], narrowed := true }
def BasinOrdersUptoSaid : Prop := basinOrdersUptoRow.holds Tryz.pinned (OpenSpec.upto basinOrdersSpec)

/-- 'bournelaw16.BasinFlows', WHERE WHAT IT READS IS OF BULK AT MOST 1048576: true; the input reads as it did. -/
def basinFlowsUptoRow : OpenClaim := { program := "ytpapfpoefiikpaagreatdoor", sum := "4cb6efd11fb74873e3bbd77c9c796e4c43a6bba1d7c28adb095ea87b06b66e92", func := "bourne/bournelaw16.BasinFlows", spec := "basinFlows", inPlace := ["internal/bytealg.IndexByteString", "internal/bytealg.IndexString", "math/bits.Add64", "internal/abi.NoEscape", "internal/bytealg.MakeNoZero"], unfollowed := true, recurses := true, named := ["internal/bytealg.MaxLen", "bourne/unit.measures", "math/bits.divideError", "math/bits.overflowError", "internal/strconv.uint64pow10", "math/bits.deBruijn32tab", "math/bits.deBruijn64tab"], plainKeys := false, apart := false, laid := [("math/bits.deBruijn32tab", laid_math_bits_deBruijn32tab), ("math/bits.deBruijn64tab", laid_math_bits_deBruijn64tab), ("internal/strconv.uint64pow10", laid_internal_strconv_uint64pow10), ("bourne/unit.measures", laid_bourne_unit_measures)], narrowed := true }
def BasinFlowsUptoSaid : Prop := basinFlowsUptoRow.holds Tryz.pinned (OpenSpec.upto basinFlowsSpec)

/-- 'bournelaw16.BasinLimits', WHERE WHAT IT READS IS OF BULK AT MOST 1048576: true; the input reads as it did. -/
def basinLimitsUptoRow : OpenClaim := { program := "ytpapfpoefiikpaagreatdoor", sum := "4cb6efd11fb74873e3bbd77c9c796e4c43a6bba1d7c28adb095ea87b06b66e92", func := "bourne/bournelaw16.BasinLimits", spec := "basinLimits", inPlace := ["internal/bytealg.IndexByteString", "internal/bytealg.IndexString", "math/bits.Add64", "internal/abi.NoEscape", "internal/bytealg.MakeNoZero"], unfollowed := true, recurses := true, named := ["internal/bytealg.MaxLen", "bourne/unit.measures", "math/bits.divideError", "math/bits.overflowError", "internal/strconv.uint64pow10", "math/bits.deBruijn32tab", "math/bits.deBruijn64tab"], plainKeys := false, apart := false, laid := [("math/bits.deBruijn32tab", laid_math_bits_deBruijn32tab), ("math/bits.deBruijn64tab", laid_math_bits_deBruijn64tab), ("internal/strconv.uint64pow10", laid_internal_strconv_uint64pow10), ("bourne/unit.measures", laid_bourne_unit_measures)], narrowed := true }
def BasinLimitsUptoSaid : Prop := basinLimitsUptoRow.holds Tryz.pinned (OpenSpec.upto basinLimitsSpec)

/-- 'bournelaw16.BasinReads', WHERE WHAT IT READS IS OF BULK AT MOST 1048576: true; the input reads as it did. -/
def basinReadsUptoRow : OpenClaim := { program := "ytpapfpoefiikpaagreatdoor", sum := "4cb6efd11fb74873e3bbd77c9c796e4c43a6bba1d7c28adb095ea87b06b66e92", func := "bourne/bournelaw16.BasinReads", spec := "basinReads", inPlace := ["internal/bytealg.IndexByteString", "internal/bytealg.IndexString", "math/bits.Add64", "internal/abi.NoEscape", "internal/bytealg.MakeNoZero"], unfollowed := true, recurses := true, named := ["internal/bytealg.MaxLen", "bourne/unit.measures", "math/bits.divideError", "math/bits.overflowError", "internal/strconv.uint64pow10", "math/bits.deBruijn32tab", "math/bits.deBruijn64tab"], plainKeys := false, apart := false, laid := [("math/bits.deBruijn32tab", laid_math_bits_deBruijn32tab), ("math/bits.deBruijn64tab", laid_math_bits_deBruijn64tab), ("internal/strconv.uint64pow10", laid_internal_strconv_uint64pow10), ("bourne/unit.measures", laid_bourne_unit_measures)], narrowed := true }
def BasinReadsUptoSaid : Prop := basinReadsUptoRow.holds Tryz.pinned (OpenSpec.upto basinReadsSpec)

end Rows
end Go.Proofs.YtpapfpoefiikpaaGreatDoor
