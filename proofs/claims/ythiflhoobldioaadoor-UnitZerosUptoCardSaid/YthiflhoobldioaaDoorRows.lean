/-
  NARROWER THAN 'FOR EVERY INPUT', by the rows' own cells (each row's printed sentence says how): UnitTells: laid · UnitBack: laid · UnitZeros: laid · UnitRatios: laid · UnitAdds: laid.
  DERIVED. THE GIVEN ROWS OF THIS SEAT. 5 by the template 'for every input the law returns true; each argument reads behind the call as it read before'; 0 by the template 'total and deterministic' (their statements: YthiflhoobldioaaDoorTotals.lean).
  GIVEN WITH THE SEED: the statements are not yours to turn. If you find one false, say at which input.
  Laid BY PROGRAM, IN A SANDBOX (cutbox-rows.mjs): the forced cells as the released guide's own fill.sh prints them over the translation 00ddf94f40390535… (all of the seat's roots in one cut). By AI agents, Wed Nov 11 2026. No macro, syntax, notation, axiom, sorry.
-/
import Derived.Test.YthiflhoobldioaaDoorChecked
import GoSem.Claim
import GoSem.ClaimJoined
import GoSem.ClaimMapViews
import Derived.JoinedTies
import Derived.KernelRfl
namespace Go.Proofs.YthiflhoobldioaaDoor
/- THE CELL 'sum', in the pinned program and in every row, IS THE sha256 OF THE DUMP (.gsa) THAT YthiflhoobldioaaDoorProg.lean LOADS. Nothing in Lean hashes anything: it is a label: what it is worth is what the hold of that sum in a sandbox is worth. -/
noncomputable def Tryd.pinned : Pinned := { name := "ythiflhoobldioaadoor", sum := "00ddf94f403905350670a45b713175a7b547df06d1056de7947f7af519c33450", checked := Tryd.checked }
namespace Rows
def none {H : Type} : Left H := { results := [], args := [] }

/- WHAT THE LISTED PACKAGE-LEVEL VARIABLES READ AS WHEN THE CALL BEGINS. Each datum BY PROGRAM (the guide's laid-datum.mjs) off the statement by which the dump's own 'gosem.cut.vars' lays the variable. In a bare row this is a premise. The card (YthiflhoobldioaaDoorCards.lean) ties it to the program's text. -/
def laid_math_bits_deBruijn32tab {H : Type} : DataW H := .agg [.lit (.int .u8 0), .lit (.int .u8 1), .lit (.int .u8 28), .lit (.int .u8 2), .lit (.int .u8 29), .lit (.int .u8 14), .lit (.int .u8 24), .lit (.int .u8 3), .lit (.int .u8 30), .lit (.int .u8 22), .lit (.int .u8 20), .lit (.int .u8 15), .lit (.int .u8 25), .lit (.int .u8 17), .lit (.int .u8 4), .lit (.int .u8 8), .lit (.int .u8 31), .lit (.int .u8 27), .lit (.int .u8 13), .lit (.int .u8 23), .lit (.int .u8 21), .lit (.int .u8 19), .lit (.int .u8 16), .lit (.int .u8 7), .lit (.int .u8 26), .lit (.int .u8 12), .lit (.int .u8 18), .lit (.int .u8 6), .lit (.int .u8 11), .lit (.int .u8 5), .lit (.int .u8 10), .lit (.int .u8 9)]
def laid_math_bits_deBruijn64tab {H : Type} : DataW H := .agg [.lit (.int .u8 0), .lit (.int .u8 1), .lit (.int .u8 56), .lit (.int .u8 2), .lit (.int .u8 57), .lit (.int .u8 49), .lit (.int .u8 28), .lit (.int .u8 3), .lit (.int .u8 61), .lit (.int .u8 58), .lit (.int .u8 42), .lit (.int .u8 50), .lit (.int .u8 38), .lit (.int .u8 29), .lit (.int .u8 17), .lit (.int .u8 4), .lit (.int .u8 62), .lit (.int .u8 47), .lit (.int .u8 59), .lit (.int .u8 36), .lit (.int .u8 45), .lit (.int .u8 43), .lit (.int .u8 51), .lit (.int .u8 22), .lit (.int .u8 53), .lit (.int .u8 39), .lit (.int .u8 33), .lit (.int .u8 30), .lit (.int .u8 24), .lit (.int .u8 18), .lit (.int .u8 12), .lit (.int .u8 5), .lit (.int .u8 63), .lit (.int .u8 55), .lit (.int .u8 48), .lit (.int .u8 27), .lit (.int .u8 60), .lit (.int .u8 41), .lit (.int .u8 37), .lit (.int .u8 16), .lit (.int .u8 46), .lit (.int .u8 35), .lit (.int .u8 44), .lit (.int .u8 21), .lit (.int .u8 52), .lit (.int .u8 32), .lit (.int .u8 23), .lit (.int .u8 11), .lit (.int .u8 54), .lit (.int .u8 26), .lit (.int .u8 40), .lit (.int .u8 15), .lit (.int .u8 34), .lit (.int .u8 20), .lit (.int .u8 31), .lit (.int .u8 10), .lit (.int .u8 25), .lit (.int .u8 14), .lit (.int .u8 19), .lit (.int .u8 9), .lit (.int .u8 13), .lit (.int .u8 8), .lit (.int .u8 7), .lit (.int .u8 6)]
def laid_internal_strconv_uint64pow10 {H : Type} : DataW H := .agg [.lit (.int .u64 1), .lit (.int .u64 10), .lit (.int .u64 100), .lit (.int .u64 1000), .lit (.int .u64 10000), .lit (.int .u64 100000), .lit (.int .u64 1000000), .lit (.int .u64 10000000), .lit (.int .u64 100000000), .lit (.int .u64 1000000000), .lit (.int .u64 10000000000), .lit (.int .u64 100000000000), .lit (.int .u64 1000000000000), .lit (.int .u64 10000000000000), .lit (.int .u64 100000000000000), .lit (.int .u64 1000000000000000), .lit (.int .u64 10000000000000000), .lit (.int .u64 100000000000000000), .lit (.int .u64 1000000000000000000), .lit (.int .u64 10000000000000000000)]
def laid_bourne_unit_measures {H : Type} : DataW H := .agg [.agg [.lit (.string []), .lit (.int .i64 0), .lit (.int .i64 1), .lit (.int .i64 1)], .agg [.lit (.string [108]), .lit (.int .i64 1), .lit (.int .i64 1), .lit (.int .i64 1)], .agg [.lit (.string [109, 51]), .lit (.int .i64 1), .lit (.int .i64 1000), .lit (.int .i64 1)], .agg [.lit (.string [77, 76]), .lit (.int .i64 1), .lit (.int .i64 1000000), .lit (.int .i64 1)], .agg [.lit (.string [71, 76]), .lit (.int .i64 1), .lit (.int .i64 1000000000), .lit (.int .i64 1)], .agg [.lit (.string [108, 112, 104]), .lit (.int .i64 2), .lit (.int .i64 1), .lit (.int .i64 1)], .agg [.lit (.string [108, 112, 115]), .lit (.int .i64 2), .lit (.int .i64 3600), .lit (.int .i64 1)], .agg [.lit (.string [109, 51, 112, 115]), .lit (.int .i64 2), .lit (.int .i64 3600000), .lit (.int .i64 1)], .agg [.lit (.string [77, 76, 112, 100]), .lit (.int .i64 2), .lit (.int .i64 1000000), .lit (.int .i64 24)], .agg [.lit (.string [109, 109]), .lit (.int .i64 3), .lit (.int .i64 1), .lit (.int .i64 1)], .agg [.lit (.string [99, 109]), .lit (.int .i64 3), .lit (.int .i64 10), .lit (.int .i64 1)], .agg [.lit (.string [109]), .lit (.int .i64 3), .lit (.int .i64 1000), .lit (.int .i64 1)], .agg [.lit (.string [104]), .lit (.int .i64 4), .lit (.int .i64 1), .lit (.int .i64 1)], .agg [.lit (.string [100]), .lit (.int .i64 4), .lit (.int .i64 24), .lit (.int .i64 1)], .agg [.lit (.string [109, 50]), .lit (.int .i64 5), .lit (.int .i64 1), .lit (.int .i64 1)], .agg [.lit (.string [104, 97]), .lit (.int .i64 5), .lit (.int .i64 10000), .lit (.int .i64 1)], .agg [.lit (.string [107, 109, 50]), .lit (.int .i64 5), .lit (.int .i64 1000000), .lit (.int .i64 1)], .agg [.lit (.string [112, 101, 114, 109, 105, 108, 108, 101]), .lit (.int .i64 6), .lit (.int .i64 1), .lit (.int .i64 1)], .agg [.lit (.string [112, 101, 114, 99, 101, 110, 116]), .lit (.int .i64 6), .lit (.int .i64 10), .lit (.int .i64 1)]]

/-- 'bournelaw14.UnitTells': WHATEVER THE INPUT: true; the input reads as it did. -/
def unitTellsSpec : ChangeSpec := { name := "unitTells", fn := fun _ => fun
  | [d1, d2, d3] => { results := [.lit (.bool true)], args := [d1, d2, d3] }
  | _ => none }
def unitTellsRow : OpenClaim := { program := "ythiflhoobldioaadoor", sum := "00ddf94f403905350670a45b713175a7b547df06d1056de7947f7af519c33450", func := "bourne/bournelaw14.UnitTells", spec := "unitTells", inPlace := ["internal/bytealg.IndexByteString", "internal/bytealg.IndexString", "math/bits.Add64"], named := ["internal/bytealg.MaxLen", "bourne/unit.measures", "math/bits.divideError", "math/bits.overflowError", "internal/strconv.uint64pow10", "math/bits.deBruijn32tab", "math/bits.deBruijn64tab"], apart := false, laid := [("math/bits.deBruijn32tab", laid_math_bits_deBruijn32tab), ("math/bits.deBruijn64tab", laid_math_bits_deBruijn64tab), ("internal/strconv.uint64pow10", laid_internal_strconv_uint64pow10), ("bourne/unit.measures", laid_bourne_unit_measures)] }
def UnitTellsSaid : Prop := unitTellsRow.holds Tryd.pinned (OpenSpec.ofChange unitTellsSpec)

/-- ITS FALSE NEIGHBOUR: 'it returns false'. Refute it at one input. -/
def unitTellsWrong : ChangeSpec := { name := "unitTells", fn := fun _ => fun
  | [d1, d2, d3] => { results := [.lit (.bool false)], args := [d1, d2, d3] }
  | _ => none }
def UnitTellsWrongFalsely : Prop := unitTellsRow.holds Tryd.pinned (OpenSpec.ofChange unitTellsWrong)

/-- 'bournelaw14.UnitBack': WHATEVER THE INPUT: true; the input reads as it did. -/
def unitBackSpec : ChangeSpec := { name := "unitBack", fn := fun _ => fun
  | [d] => { results := [.lit (.bool true)], args := [d] }
  | _ => none }
def unitBackRow : OpenClaim := { program := "ythiflhoobldioaadoor", sum := "00ddf94f403905350670a45b713175a7b547df06d1056de7947f7af519c33450", func := "bourne/bournelaw14.UnitBack", spec := "unitBack", inPlace := ["internal/bytealg.IndexByteString", "internal/bytealg.IndexString", "math/bits.Add64"], named := ["internal/bytealg.MaxLen", "bourne/unit.measures", "math/bits.divideError", "math/bits.overflowError", "internal/strconv.uint64pow10", "math/bits.deBruijn32tab", "math/bits.deBruijn64tab"], apart := false, laid := [("math/bits.deBruijn32tab", laid_math_bits_deBruijn32tab), ("math/bits.deBruijn64tab", laid_math_bits_deBruijn64tab), ("internal/strconv.uint64pow10", laid_internal_strconv_uint64pow10), ("bourne/unit.measures", laid_bourne_unit_measures)] }
def UnitBackSaid : Prop := unitBackRow.holds Tryd.pinned (OpenSpec.ofChange unitBackSpec)

/-- ITS FALSE NEIGHBOUR: 'it returns false'. Refute it at one input. -/
def unitBackWrong : ChangeSpec := { name := "unitBack", fn := fun _ => fun
  | [d] => { results := [.lit (.bool false)], args := [d] }
  | _ => none }
def UnitBackWrongFalsely : Prop := unitBackRow.holds Tryd.pinned (OpenSpec.ofChange unitBackWrong)

/-- 'bournelaw14.UnitZeros': WHATEVER THE INPUT: true; the input reads as it did. -/
def unitZerosSpec : ChangeSpec := { name := "unitZeros", fn := fun _ => fun
  | [d1, d2, d3, d4] => { results := [.lit (.bool true)], args := [d1, d2, d3, d4] }
  | _ => none }
def unitZerosRow : OpenClaim := { program := "ythiflhoobldioaadoor", sum := "00ddf94f403905350670a45b713175a7b547df06d1056de7947f7af519c33450", func := "bourne/bournelaw14.UnitZeros", spec := "unitZeros", inPlace := ["internal/bytealg.IndexByteString", "internal/bytealg.IndexString", "math/bits.Add64"], named := ["internal/bytealg.MaxLen", "bourne/unit.measures", "math/bits.divideError", "math/bits.overflowError", "internal/strconv.uint64pow10", "math/bits.deBruijn32tab", "math/bits.deBruijn64tab"], apart := false, laid := [("math/bits.deBruijn32tab", laid_math_bits_deBruijn32tab), ("math/bits.deBruijn64tab", laid_math_bits_deBruijn64tab), ("internal/strconv.uint64pow10", laid_internal_strconv_uint64pow10), ("bourne/unit.measures", laid_bourne_unit_measures)] }
def UnitZerosSaid : Prop := unitZerosRow.holds Tryd.pinned (OpenSpec.ofChange unitZerosSpec)

/-- ITS FALSE NEIGHBOUR: 'it returns false'. Refute it at one input. -/
def unitZerosWrong : ChangeSpec := { name := "unitZeros", fn := fun _ => fun
  | [d1, d2, d3, d4] => { results := [.lit (.bool false)], args := [d1, d2, d3, d4] }
  | _ => none }
def UnitZerosWrongFalsely : Prop := unitZerosRow.holds Tryd.pinned (OpenSpec.ofChange unitZerosWrong)

/-- 'bournelaw14.UnitRatios': WHATEVER THE INPUT: true; the input reads as it did. -/
def unitRatiosSpec : ChangeSpec := { name := "unitRatios", fn := fun _ => fun
  | [d1, d2, d3] => { results := [.lit (.bool true)], args := [d1, d2, d3] }
  | _ => none }
def unitRatiosRow : OpenClaim := { program := "ythiflhoobldioaadoor", sum := "00ddf94f403905350670a45b713175a7b547df06d1056de7947f7af519c33450", func := "bourne/bournelaw14.UnitRatios", spec := "unitRatios", inPlace := ["internal/bytealg.IndexByteString", "internal/bytealg.IndexString", "math/bits.Add64"], named := ["internal/bytealg.MaxLen", "bourne/unit.measures", "math/bits.divideError", "math/bits.overflowError", "internal/strconv.uint64pow10", "math/bits.deBruijn32tab", "math/bits.deBruijn64tab"], apart := false, laid := [("math/bits.deBruijn32tab", laid_math_bits_deBruijn32tab), ("math/bits.deBruijn64tab", laid_math_bits_deBruijn64tab), ("internal/strconv.uint64pow10", laid_internal_strconv_uint64pow10), ("bourne/unit.measures", laid_bourne_unit_measures)] }
def UnitRatiosSaid : Prop := unitRatiosRow.holds Tryd.pinned (OpenSpec.ofChange unitRatiosSpec)

/-- ITS FALSE NEIGHBOUR: 'it returns false'. Refute it at one input. -/
def unitRatiosWrong : ChangeSpec := { name := "unitRatios", fn := fun _ => fun
  | [d1, d2, d3] => { results := [.lit (.bool false)], args := [d1, d2, d3] }
  | _ => none }
def UnitRatiosWrongFalsely : Prop := unitRatiosRow.holds Tryd.pinned (OpenSpec.ofChange unitRatiosWrong)

/-- 'bournelaw14.UnitAdds': WHATEVER THE INPUT: true; the input reads as it did. -/
def unitAddsSpec : ChangeSpec := { name := "unitAdds", fn := fun _ => fun
  | [d1, d2, d3] => { results := [.lit (.bool true)], args := [d1, d2, d3] }
  | _ => none }
def unitAddsRow : OpenClaim := { program := "ythiflhoobldioaadoor", sum := "00ddf94f403905350670a45b713175a7b547df06d1056de7947f7af519c33450", func := "bourne/bournelaw14.UnitAdds", spec := "unitAdds", inPlace := ["internal/bytealg.IndexByteString", "internal/bytealg.IndexString", "math/bits.Add64"], named := ["internal/bytealg.MaxLen", "bourne/unit.measures", "math/bits.divideError", "math/bits.overflowError", "internal/strconv.uint64pow10", "math/bits.deBruijn32tab", "math/bits.deBruijn64tab"], apart := false, laid := [("math/bits.deBruijn32tab", laid_math_bits_deBruijn32tab), ("math/bits.deBruijn64tab", laid_math_bits_deBruijn64tab), ("internal/strconv.uint64pow10", laid_internal_strconv_uint64pow10), ("bourne/unit.measures", laid_bourne_unit_measures)] }
def UnitAddsSaid : Prop := unitAddsRow.holds Tryd.pinned (OpenSpec.ofChange unitAddsSpec)

/-- ITS FALSE NEIGHBOUR: 'it returns false'. Refute it at one input. -/
def unitAddsWrong : ChangeSpec := { name := "unitAdds", fn := fun _ => fun
  | [d1, d2, d3] => { results := [.lit (.bool false)], args := [d1, d2, d3] }
  | _ => none }
def UnitAddsWrongFalsely : Prop := unitAddsRow.holds Tryd.pinned (OpenSpec.ofChange unitAddsWrong)

/- THE SECOND FORM. 'bulk': how many values and letters a reading holds, each counted each time it is reached (what is shared counts as often as it is met; a slice's spare places count too). A statement '..UptoSaid' is the law's where the arguments, and the package variables that the reading takes, are together of bulk at most 1048576: NARROWER than '..Said'. Prove '..Said' where nothing that the law and all that it calls make is longer than what came in: it says more and counts as full. Else prove '..UptoSaid'. A law counts once. -/
mutual
def uptoBulk {H : Type} : DataW H → Nat
  | .lit (.string bytes) => bytes.length + 1
  | .lit _ => 1
  | .nil => 1
  | .ptr d => uptoBulk d + 1
  | .slice elems spare => uptoBulkAll elems + uptoBulkAll spare + 1
  | .agg parts => uptoBulkAll parts + 1
  | .iface _ d => uptoBulk d + 1
  | .map entries => uptoBulkEntries entries + 1
  | .held _ => 1
def uptoBulkAll {H : Type} : List (DataW H) → Nat
  | [] => 0
  | d :: r => uptoBulk d + uptoBulkAll r
def uptoBulkEntries {H : Type} : List (Lit × DataW H) → Nat
  | [] => 0
  | x :: r => uptoBulkEntry x + uptoBulkEntries r
def uptoBulkEntry {H : Type} : Lit × DataW H → Nat
  | (.string bytes, d) => bytes.length + uptoBulk d + 1
  | (_, d) => uptoBulk d + 1
 end
def uptoSmall : (H : Type) → List (DataW H) → Bool := fun _ ds => decide (uptoBulkAll ds ≤ 1048576)
def OpenSpec.upto (s : _root_.Go.ChangeSpec) : _root_.Go.OpenSpec := { _root_.Go.OpenSpec.ofChange s with cond := some uptoSmall }

/-- 'bournelaw14.UnitTells', WHERE WHAT IT READS IS OF BULK AT MOST 1048576: true; the input reads as it did. -/
def unitTellsUptoRow : OpenClaim := { program := "ythiflhoobldioaadoor", sum := "00ddf94f403905350670a45b713175a7b547df06d1056de7947f7af519c33450", func := "bourne/bournelaw14.UnitTells", spec := "unitTells", inPlace := ["internal/bytealg.IndexByteString", "internal/bytealg.IndexString", "math/bits.Add64"], named := ["internal/bytealg.MaxLen", "bourne/unit.measures", "math/bits.divideError", "math/bits.overflowError", "internal/strconv.uint64pow10", "math/bits.deBruijn32tab", "math/bits.deBruijn64tab"], apart := false, laid := [("math/bits.deBruijn32tab", laid_math_bits_deBruijn32tab), ("math/bits.deBruijn64tab", laid_math_bits_deBruijn64tab), ("internal/strconv.uint64pow10", laid_internal_strconv_uint64pow10), ("bourne/unit.measures", laid_bourne_unit_measures)], narrowed := true }
def UnitTellsUptoSaid : Prop := unitTellsUptoRow.holds Tryd.pinned (OpenSpec.upto unitTellsSpec)

/-- 'bournelaw14.UnitBack', WHERE WHAT IT READS IS OF BULK AT MOST 1048576: true; the input reads as it did. -/
def unitBackUptoRow : OpenClaim := { program := "ythiflhoobldioaadoor", sum := "00ddf94f403905350670a45b713175a7b547df06d1056de7947f7af519c33450", func := "bourne/bournelaw14.UnitBack", spec := "unitBack", inPlace := ["internal/bytealg.IndexByteString", "internal/bytealg.IndexString", "math/bits.Add64"], named := ["internal/bytealg.MaxLen", "bourne/unit.measures", "math/bits.divideError", "math/bits.overflowError", "internal/strconv.uint64pow10", "math/bits.deBruijn32tab", "math/bits.deBruijn64tab"], apart := false, laid := [("math/bits.deBruijn32tab", laid_math_bits_deBruijn32tab), ("math/bits.deBruijn64tab", laid_math_bits_deBruijn64tab), ("internal/strconv.uint64pow10", laid_internal_strconv_uint64pow10), ("bourne/unit.measures", laid_bourne_unit_measures)], narrowed := true }
def UnitBackUptoSaid : Prop := unitBackUptoRow.holds Tryd.pinned (OpenSpec.upto unitBackSpec)

/-- 'bournelaw14.UnitZeros', WHERE WHAT IT READS IS OF BULK AT MOST 1048576: true; the input reads as it did. -/
def unitZerosUptoRow : OpenClaim := { program := "ythiflhoobldioaadoor", sum := "00ddf94f403905350670a45b713175a7b547df06d1056de7947f7af519c33450", func := "bourne/bournelaw14.UnitZeros", spec := "unitZeros", inPlace := ["internal/bytealg.IndexByteString", "internal/bytealg.IndexString", "math/bits.Add64"], named := ["internal/bytealg.MaxLen", "bourne/unit.measures", "math/bits.divideError", "math/bits.overflowError", "internal/strconv.uint64pow10", "math/bits.deBruijn32tab", "math/bits.deBruijn64tab"], apart := false, laid := [("math/bits.deBruijn32tab", laid_math_bits_deBruijn32tab), ("math/bits.deBruijn64tab", laid_math_bits_deBruijn64tab), ("internal/strconv.uint64pow10", laid_internal_strconv_uint64pow10), ("bourne/unit.measures", laid_bourne_unit_measures)], narrowed := true }
def UnitZerosUptoSaid : Prop := unitZerosUptoRow.holds Tryd.pinned (OpenSpec.upto unitZerosSpec)

/-- 'bournelaw14.UnitRatios', WHERE WHAT IT READS IS OF BULK AT MOST 1048576: true; the input reads as it did. -/
def unitRatiosUptoRow : OpenClaim := { program := "ythiflhoobldioaadoor", sum := "00ddf94f403905350670a45b713175a7b547df06d1056de7947f7af519c33450", func := "bourne/bournelaw14.UnitRatios", spec := "unitRatios", inPlace := ["internal/bytealg.IndexByteString", "internal/bytealg.IndexString", "math/bits.Add64"], named := ["internal/bytealg.MaxLen", "bourne/unit.measures", "math/bits.divideError", "math/bits.overflowError", "internal/strconv.uint64pow10", "math/bits.deBruijn32tab", "math/bits.deBruijn64tab"], apart := false, laid := [("math/bits.deBruijn32tab", laid_math_bits_deBruijn32tab), ("math/bits.deBruijn64tab", laid_math_bits_deBruijn64tab), ("internal/strconv.uint64pow10", laid_internal_strconv_uint64pow10), ("bourne/unit.measures", laid_bourne_unit_measures)], narrowed := true }
def UnitRatiosUptoSaid : Prop := unitRatiosUptoRow.holds Tryd.pinned (OpenSpec.upto unitRatiosSpec)

/-- 'bournelaw14.UnitAdds', WHERE WHAT IT READS IS OF BULK AT MOST 1048576: true; the input reads as it did. -/
def unitAddsUptoRow : OpenClaim := { program := "ythiflhoobldioaadoor", sum := "00ddf94f403905350670a45b713175a7b547df06d1056de7947f7af519c33450", func := "bourne/bournelaw14.UnitAdds", spec := "unitAdds", inPlace := ["internal/bytealg.IndexByteString", "internal/bytealg.IndexString", "math/bits.Add64"], named := ["internal/bytealg.MaxLen", "bourne/unit.measures", "math/bits.divideError", "math/bits.overflowError", "internal/strconv.uint64pow10", "math/bits.deBruijn32tab", "math/bits.deBruijn64tab"], apart := false, laid := [("math/bits.deBruijn32tab", laid_math_bits_deBruijn32tab), ("math/bits.deBruijn64tab", laid_math_bits_deBruijn64tab), ("internal/strconv.uint64pow10", laid_internal_strconv_uint64pow10), ("bourne/unit.measures", laid_bourne_unit_measures)], narrowed := true }
def UnitAddsUptoSaid : Prop := unitAddsUptoRow.holds Tryd.pinned (OpenSpec.upto unitAddsSpec)

end Rows
end Go.Proofs.YthiflhoobldioaaDoor
