/- Walks (part LibA), printed by walk2.py. Conditions: those of each theorem. -/
import Derived.Test.YtlljbndnodbecaaRows
import Derived.Test.YtlljbndnodbecaaCore10
import Derived.Test.YtlljbndnodbecaaTypes
import Derived.Test.YtlljbndnodbecaaPlain
import Derived.Test.YtlljbndnodbecaaPlainB
import Derived.Lib.Walk
import Derived.Lib.Small
import Derived.Lib.Slices
import Derived.Lib.Strings
namespace Go.Proofs.Ytlljbndnodbecaa
open Go Go.K Go.RowKit

theorem hmix : Try.prog.follows .mixedOrders = true := by kernel_rfl
theorem sz3 : (Try.prog.info? 3).map (·.size) = some 1 := by kernel_rfl
theorem zero3 : (Try.prog.info? 3).map (·.zero) = some (some (.int .i64 0)) := by kernel_rfl
theorem inf3 : (Try.prog.info? 3).map (fun i => (i.zero, i.size, i.bytes)) = some (some (.int .i64 0), 1, 8) := by kernel_rfl
theorem sz4 : (Try.prog.info? 4).map (·.size) = some 1 := by kernel_rfl
theorem zero4 : (Try.prog.info? 4).map (·.zero) = some (some (.bool false)) := by kernel_rfl
theorem inf4 : (Try.prog.info? 4).map (fun i => (i.zero, i.size, i.bytes)) = some (some (.bool false), 1, 1) := by kernel_rfl
theorem sz9 : (Try.prog.info? 9).map (·.size) = some 1 := by kernel_rfl
theorem zero9 : (Try.prog.info? 9).map (·.zero) = some (some (.string ⟨#[]⟩)) := by kernel_rfl
theorem inf9 : (Try.prog.info? 9).map (fun i => (i.zero, i.size, i.bytes)) = some (some (.string ⟨#[]⟩), 1, 16) := by kernel_rfl
theorem sz22 : (Try.prog.info? 22).map (·.size) = some 1 := by kernel_rfl
theorem zero22 : (Try.prog.info? 22).map (·.zero) = some (some (.slice none 0 0)) := by kernel_rfl
theorem inf22 : (Try.prog.info? 22).map (fun i => (i.zero, i.size, i.bytes)) = some (some (.slice none 0 0), 1, 24) := by kernel_rfl
theorem sz29 : (Try.prog.info? 29).map (·.size) = some 5 := by kernel_rfl
theorem zero29 : (Try.prog.info? 29).map (·.zero) = some (some (.agg #[.int .i64 0, .int .i64 0, .int .i64 0, .int .i64 0, .string ⟨#[]⟩])) := by kernel_rfl
theorem inf29 : (Try.prog.info? 29).map (fun i => (i.zero, i.size, i.bytes)) = some (some (.agg #[.int .i64 0, .int .i64 0, .int .i64 0, .int .i64 0, .string ⟨#[]⟩]), 5, 48) := by kernel_rfl
theorem places29 : ∀ w, ((#[{ name := "Gauge", type := 3, offset := 0, embedded := false, tag := "", pkgPath := "", byteOffset := 0 }, { name := "Seq", type := 3, offset := 1, embedded := false, tag := "", pkgPath := "", byteOffset := 8 }, { name := "Clock", type := 3, offset := 2, embedded := false, tag := "", pkgPath := "", byteOffset := 16 }, { name := "Value", type := 3, offset := 3, embedded := false, tag := "", pkgPath := "", byteOffset := 24 }, { name := "Tag", type := 9, offset := 4, embedded := false, tag := "", pkgPath := "", byteOffset := 32 }] : Array Field).mapM fun f => do pure (f.offset, ← sizeOf f.type) : Sem (Array (Nat × Nat))).run Try.prog w = .ok #[(0, 1), (1, 1), (2, 1), (3, 1), (4, 1)] w := fun w => by kernel_rfl
theorem sz33 : (Try.prog.info? 33).map (·.size) = some 1 := by kernel_rfl
theorem zero33 : (Try.prog.info? 33).map (·.zero) = some (some (.slice none 0 0)) := by kernel_rfl
theorem inf33 : (Try.prog.info? 33).map (fun i => (i.zero, i.size, i.bytes)) = some (some (.slice none 0 0), 1, 24) := by kernel_rfl
theorem sz34 : (Try.prog.info? 34).map (·.size) = some 1 := by kernel_rfl
theorem zero34 : (Try.prog.info? 34).map (·.zero) = some (some (.slice none 0 0)) := by kernel_rfl
theorem inf34 : (Try.prog.info? 34).map (fun i => (i.zero, i.size, i.bytes)) = some (some (.slice none 0 0), 1, 24) := by kernel_rfl
theorem sz35 : (Try.prog.info? 35).map (·.size) = some 1 := by kernel_rfl
theorem zero35 : (Try.prog.info? 35).map (·.zero) = some (some (.slice none 0 0)) := by kernel_rfl
theorem inf35 : (Try.prog.info? 35).map (fun i => (i.zero, i.size, i.bytes)) = some (some (.slice none 0 0), 1, 24) := by kernel_rfl
theorem sz36 : (Try.prog.info? 36).map (·.size) = some 1 := by kernel_rfl
theorem zero36 : (Try.prog.info? 36).map (·.zero) = some (some (.slice none 0 0)) := by kernel_rfl
theorem inf36 : (Try.prog.info? 36).map (fun i => (i.zero, i.size, i.bytes)) = some (some (.slice none 0 0), 1, 24) := by kernel_rfl
theorem sz37 : (Try.prog.info? 37).map (·.size) = some 1 := by kernel_rfl
theorem zero37 : (Try.prog.info? 37).map (·.zero) = some (some (.slice none 0 0)) := by kernel_rfl
theorem inf37 : (Try.prog.info? 37).map (fun i => (i.zero, i.size, i.bytes)) = some (some (.slice none 0 0), 1, 24) := by kernel_rfl
theorem sz38 : (Try.prog.info? 38).map (·.size) = some 1 := by kernel_rfl
theorem zero38 : (Try.prog.info? 38).map (·.zero) = some (some (.slice none 0 0)) := by kernel_rfl
theorem inf38 : (Try.prog.info? 38).map (fun i => (i.zero, i.size, i.bytes)) = some (some (.slice none 0 0), 1, 24) := by kernel_rfl
theorem sz39 : (Try.prog.info? 39).map (·.size) = some 1 := by kernel_rfl
theorem zero39 : (Try.prog.info? 39).map (·.zero) = some (some (.slice none 0 0)) := by kernel_rfl
theorem inf39 : (Try.prog.info? 39).map (fun i => (i.zero, i.size, i.bytes)) = some (some (.slice none 0 0), 1, 24) := by kernel_rfl
theorem sz41 : (Try.prog.info? 41).map (·.size) = some 11 := by kernel_rfl
theorem zero41 : (Try.prog.info? 41).map (·.zero) = some (some (.agg #[.string ⟨#[]⟩, .slice none 0 0, .int .i64 0, .slice none 0 0, .slice none 0 0, .slice none 0 0, .slice none 0 0, .slice none 0 0, .slice none 0 0, .slice none 0 0, .int .i64 0])) := by kernel_rfl
theorem inf41 : (Try.prog.info? 41).map (fun i => (i.zero, i.size, i.bytes)) = some (some (.agg #[.string ⟨#[]⟩, .slice none 0 0, .int .i64 0, .slice none 0 0, .slice none 0 0, .slice none 0 0, .slice none 0 0, .slice none 0 0, .slice none 0 0, .slice none 0 0, .int .i64 0]), 11, 224) := by kernel_rfl
theorem places41 : ∀ w, ((#[{ name := "Name", type := 9, offset := 0, embedded := false, tag := "", pkgPath := "", byteOffset := 0 }, { name := "Owners", type := 32, offset := 1, embedded := false, tag := "", pkgPath := "", byteOffset := 16 }, { name := "Cells", type := 3, offset := 2, embedded := false, tag := "", pkgPath := "", byteOffset := 40 }, { name := "Places", type := 33, offset := 3, embedded := false, tag := "", pkgPath := "", byteOffset := 48 }, { name := "Links", type := 34, offset := 4, embedded := false, tag := "", pkgPath := "", byteOffset := 72 }, { name := "Towns", type := 35, offset := 5, embedded := false, tag := "", pkgPath := "", byteOffset := 96 }, { name := "Gauges", type := 36, offset := 6, embedded := false, tag := "", pkgPath := "", byteOffset := 120 }, { name := "Roads", type := 37, offset := 7, embedded := false, tag := "", pkgPath := "", byteOffset := 144 }, { name := "Shelters", type := 38, offset := 8, embedded := false, tag := "", pkgPath := "", byteOffset := 168 }, { name := "Room", type := 39, offset := 9, embedded := false, tag := "", pkgPath := "", byteOffset := 192 }, { name := "Err", type := 3, offset := 10, embedded := false, tag := "", pkgPath := "", byteOffset := 216 }] : Array Field).mapM fun f => do pure (f.offset, ← sizeOf f.type) : Sem (Array (Nat × Nat))).run Try.prog w = .ok #[(0, 1), (1, 1), (2, 1), (3, 1), (4, 1), (5, 1), (6, 1), (7, 1), (8, 1), (9, 1), (10, 1)] w := fun w => by kernel_rfl
theorem sz43 : (Try.prog.info? 43).map (·.size) = some 1 := by kernel_rfl
theorem zero43 : (Try.prog.info? 43).map (·.zero) = some (some (.slice none 0 0)) := by kernel_rfl
theorem inf43 : (Try.prog.info? 43).map (fun i => (i.zero, i.size, i.bytes)) = some (some (.slice none 0 0), 1, 24) := by kernel_rfl
theorem sz47 : (Try.prog.info? 47).map (·.size) = some 2 := by kernel_rfl
theorem zero47 : (Try.prog.info? 47).map (·.zero) = some (some (.agg #[.int .i64 0, .int .i64 0])) := by kernel_rfl
theorem inf47 : (Try.prog.info? 47).map (fun i => (i.zero, i.size, i.bytes)) = some (some (.agg #[.int .i64 0, .int .i64 0]), 2, 16) := by kernel_rfl
theorem places47 : ∀ w, ((#[{ name := "Lo", type := 3, offset := 0, embedded := false, tag := "", pkgPath := "", byteOffset := 0 }, { name := "Hi", type := 3, offset := 1, embedded := false, tag := "", pkgPath := "", byteOffset := 8 }] : Array Field).mapM fun f => do pure (f.offset, ← sizeOf f.type) : Sem (Array (Nat × Nat))).run Try.prog w = .ok #[(0, 1), (1, 1)] w := fun w => by kernel_rfl
theorem sz49 : (Try.prog.info? 49).map (·.size) = some 4 := by kernel_rfl
theorem zero49 : (Try.prog.info? 49).map (·.zero) = some (some (.agg #[.int .i64 0, .int .i64 0, .int .i64 0, .int .i64 0])) := by kernel_rfl
theorem inf49 : (Try.prog.info? 49).map (fun i => (i.zero, i.size, i.bytes)) = some (some (.agg #[.int .i64 0, .int .i64 0, .int .i64 0, .int .i64 0]), 4, 32) := by kernel_rfl
theorem places49 : ∀ w, ((#[{ name := "Gauge", type := 3, offset := 0, embedded := false, tag := "", pkgPath := "", byteOffset := 0 }, { name := "Hour", type := 3, offset := 1, embedded := false, tag := "", pkgPath := "", byteOffset := 8 }, { name := "Value", type := 47, offset := 2, embedded := false, tag := "", pkgPath := "", byteOffset := 16 }] : Array Field).mapM fun f => do pure (f.offset, ← sizeOf f.type) : Sem (Array (Nat × Nat))).run Try.prog w = .ok #[(0, 1), (1, 1), (2, 2)] w := fun w => by kernel_rfl
theorem sz57 : (Try.prog.info? 57).map (·.size) = some 4 := by kernel_rfl
theorem zero57 : (Try.prog.info? 57).map (·.zero) = some (some (.agg #[.int .i64 0, .int .i64 0, .int .i64 0, .int .i64 0])) := by kernel_rfl
theorem inf57 : (Try.prog.info? 57).map (fun i => (i.zero, i.size, i.bytes)) = some (some (.agg #[.int .i64 0, .int .i64 0, .int .i64 0, .int .i64 0]), 4, 32) := by kernel_rfl
theorem places57 : ∀ w, ((#[{ name := "Gauge", type := 3, offset := 0, embedded := false, tag := "", pkgPath := "", byteOffset := 0 }, { name := "Minute", type := 3, offset := 1, embedded := false, tag := "", pkgPath := "", byteOffset := 8 }, { name := "Late", type := 3, offset := 2, embedded := false, tag := "", pkgPath := "", byteOffset := 16 }, { name := "More", type := 3, offset := 3, embedded := false, tag := "", pkgPath := "", byteOffset := 24 }] : Array Field).mapM fun f => do pure (f.offset, ← sizeOf f.type) : Sem (Array (Nat × Nat))).run Try.prog w = .ok #[(0, 1), (1, 1), (2, 1), (3, 1)] w := fun w => by kernel_rfl
theorem sz63 : (Try.prog.info? 63).map (·.size) = some 5 := by kernel_rfl
theorem zero63 : (Try.prog.info? 63).map (·.zero) = some (some (.agg #[.string ⟨#[]⟩, .int .i64 0, .int .i64 0, .int .i64 0, .int .i64 0])) := by kernel_rfl
theorem inf63 : (Try.prog.info? 63).map (fun i => (i.zero, i.size, i.bytes)) = some (some (.agg #[.string ⟨#[]⟩, .int .i64 0, .int .i64 0, .int .i64 0, .int .i64 0]), 5, 48) := by kernel_rfl
theorem places63 : ∀ w, ((#[{ name := "Name", type := 9, offset := 0, embedded := false, tag := "", pkgPath := "", byteOffset := 0 }, { name := "Kind", type := 3, offset := 1, embedded := false, tag := "", pkgPath := "", byteOffset := 16 }, { name := "Target", type := 3, offset := 2, embedded := false, tag := "", pkgPath := "", byteOffset := 24 }, { name := "Err", type := 3, offset := 3, embedded := false, tag := "", pkgPath := "", byteOffset := 32 }, { name := "Drift", type := 3, offset := 4, embedded := false, tag := "", pkgPath := "", byteOffset := 40 }] : Array Field).mapM fun f => do pure (f.offset, ← sizeOf f.type) : Sem (Array (Nat × Nat))).run Try.prog w = .ok #[(0, 1), (1, 1), (2, 1), (3, 1), (4, 1)] w := fun w => by kernel_rfl
theorem sz77 : (Try.prog.info? 77).map (·.size) = some 2 := by kernel_rfl
theorem zero77 : (Try.prog.info? 77).map (·.zero) = some (some (.agg #[.int .i64 0, .int .i64 0])) := by kernel_rfl
theorem inf77 : (Try.prog.info? 77).map (fun i => (i.zero, i.size, i.bytes)) = some (some (.agg #[.int .i64 0, .int .i64 0]), 2, 16) := by kernel_rfl
theorem places77 : ∀ w, ((#[{ name := "hour", type := 3, offset := 0, embedded := false, tag := "", pkgPath := "bourne/series", byteOffset := 0 }, { name := "gauge", type := 3, offset := 1, embedded := false, tag := "", pkgPath := "bourne/series", byteOffset := 8 }] : Array Field).mapM fun f => do pure (f.offset, ← sizeOf f.type) : Sem (Array (Nat × Nat))).run Try.prog w = .ok #[(0, 1), (1, 1)] w := fun w => by kernel_rfl
theorem sz84 : (Try.prog.info? 84).map (·.size) = some 1 := by kernel_rfl
theorem zero84 : (Try.prog.info? 84).map (·.zero) = some (some (.slice none 0 0)) := by kernel_rfl
theorem inf84 : (Try.prog.info? 84).map (fun i => (i.zero, i.size, i.bytes)) = some (some (.slice none 0 0), 1, 24) := by kernel_rfl
theorem sz92 : (Try.prog.info? 92).map (·.size) = some 2 := by kernel_rfl
theorem zero92 : (Try.prog.info? 92).map (·.zero) = some (some (.agg #[.int .i64 0, .int .i64 0])) := by kernel_rfl
theorem inf92 : (Try.prog.info? 92).map (fun i => (i.zero, i.size, i.bytes)) = some (some (.agg #[.int .i64 0, .int .i64 0]), 2, 16) := by kernel_rfl
theorem places92 : ∀ w, ((#[{ name := "gauge", type := 3, offset := 0, embedded := false, tag := "", pkgPath := "bourne/series", byteOffset := 0 }, { name := "seq", type := 3, offset := 1, embedded := false, tag := "", pkgPath := "bourne/series", byteOffset := 8 }] : Array Field).mapM fun f => do pure (f.offset, ← sizeOf f.type) : Sem (Array (Nat × Nat))).run Try.prog w = .ok #[(0, 1), (1, 1)] w := fun w => by kernel_rfl
theorem own3 : Own Try.prog 3 := own_of (by kernel_rfl)
theorem own4 : Own Try.prog 4 := own_of (by kernel_rfl)
theorem own5 : Own Try.prog 5 := own_of (by kernel_rfl)
theorem own6 : Own Try.prog 6 := own_of (by kernel_rfl)
theorem own7 : Own Try.prog 7 := own_of (by kernel_rfl)
theorem own8 : Own Try.prog 8 := own_of (by kernel_rfl)
theorem own9 : Own Try.prog 9 := own_of (by kernel_rfl)
theorem own10 : Own Try.prog 10 := own_of (by kernel_rfl)
theorem own11 : Own Try.prog 11 := own_of (by kernel_rfl)
theorem own12 : Own Try.prog 12 := own_of (by kernel_rfl)
theorem own13 : Own Try.prog 13 := own_of (by kernel_rfl)
theorem own14 : Own Try.prog 14 := own_of (by kernel_rfl)
theorem own15 : Own Try.prog 15 := own_of (by kernel_rfl)
theorem own16 : Own Try.prog 16 := own_of (by kernel_rfl)
theorem own17 : Own Try.prog 17 := own_of (by kernel_rfl)
theorem own18 : Own Try.prog 18 := own_of (by kernel_rfl)
theorem own19 : Own Try.prog 19 := own_of (by kernel_rfl)
theorem own20 : Own Try.prog 20 := own_of (by kernel_rfl)
theorem own21 : Own Try.prog 21 := own_of (by kernel_rfl)
theorem own22 : Own Try.prog 22 := own_of (by kernel_rfl)
theorem own23 : Own Try.prog 23 := own_of (by kernel_rfl)
theorem own24 : Own Try.prog 24 := own_of (by kernel_rfl)
theorem own25 : Own Try.prog 25 := own_of (by kernel_rfl)
theorem own26 : Own Try.prog 26 := own_of (by kernel_rfl)
theorem own27 : Own Try.prog 27 := own_of (by kernel_rfl)
theorem own28 : Own Try.prog 28 := own_of (by kernel_rfl)
theorem own29 : Own Try.prog 29 := own_of (by kernel_rfl)
theorem own30 : Own Try.prog 30 := own_of (by kernel_rfl)
theorem own31 : Own Try.prog 31 := own_of (by kernel_rfl)
theorem own32 : Own Try.prog 32 := own_of (by kernel_rfl)
theorem own33 : Own Try.prog 33 := own_of (by kernel_rfl)
theorem own34 : Own Try.prog 34 := own_of (by kernel_rfl)
theorem own35 : Own Try.prog 35 := own_of (by kernel_rfl)
theorem own36 : Own Try.prog 36 := own_of (by kernel_rfl)
theorem own37 : Own Try.prog 37 := own_of (by kernel_rfl)
theorem own38 : Own Try.prog 38 := own_of (by kernel_rfl)
theorem own39 : Own Try.prog 39 := own_of (by kernel_rfl)
theorem own40 : Own Try.prog 40 := own_of (by kernel_rfl)
theorem own41 : Own Try.prog 41 := own_of (by kernel_rfl)
theorem own42 : Own Try.prog 42 := own_of (by kernel_rfl)
theorem own43 : Own Try.prog 43 := own_of (by kernel_rfl)
theorem own44 : Own Try.prog 44 := own_of (by kernel_rfl)
theorem own45 : Own Try.prog 45 := own_of (by kernel_rfl)
theorem own46 : Own Try.prog 46 := own_of (by kernel_rfl)
theorem own47 : Own Try.prog 47 := own_of (by kernel_rfl)
theorem own48 : Own Try.prog 48 := own_of (by kernel_rfl)
theorem own49 : Own Try.prog 49 := own_of (by kernel_rfl)
theorem own50 : Own Try.prog 50 := own_of (by kernel_rfl)
theorem own51 : Own Try.prog 51 := own_of (by kernel_rfl)
theorem own52 : Own Try.prog 52 := own_of (by kernel_rfl)
theorem own53 : Own Try.prog 53 := own_of (by kernel_rfl)
theorem own54 : Own Try.prog 54 := own_of (by kernel_rfl)
theorem own55 : Own Try.prog 55 := own_of (by kernel_rfl)
theorem own56 : Own Try.prog 56 := own_of (by kernel_rfl)
theorem own57 : Own Try.prog 57 := own_of (by kernel_rfl)
theorem own58 : Own Try.prog 58 := own_of (by kernel_rfl)
theorem own59 : Own Try.prog 59 := own_of (by kernel_rfl)
theorem own60 : Own Try.prog 60 := own_of (by kernel_rfl)
theorem own61 : Own Try.prog 61 := own_of (by kernel_rfl)
theorem own62 : Own Try.prog 62 := own_of (by kernel_rfl)
theorem own63 : Own Try.prog 63 := own_of (by kernel_rfl)
theorem own64 : Own Try.prog 64 := own_of (by kernel_rfl)
theorem own65 : Own Try.prog 65 := own_of (by kernel_rfl)
theorem own66 : Own Try.prog 66 := own_of (by kernel_rfl)
theorem own67 : Own Try.prog 67 := own_of (by kernel_rfl)
theorem own69 : Own Try.prog 69 := own_of (by kernel_rfl)
theorem own70 : Own Try.prog 70 := own_of (by kernel_rfl)
theorem own71 : Own Try.prog 71 := own_of (by kernel_rfl)
theorem own72 : Own Try.prog 72 := own_of (by kernel_rfl)
theorem own73 : Own Try.prog 73 := own_of (by kernel_rfl)
theorem sz93 : (Try.prog.info? 93).map (·.size) = some 4 := by kernel_rfl
theorem zero93 : (Try.prog.info? 93).map (·.zero) = some (some (.agg #[.int .i64 0, .int .i64 0, .int .i64 0, .int .i64 0])) := by kernel_rfl
theorem sz90 : (Try.prog.info? 90).map (·.size) = some 1 := by kernel_rfl
theorem eqS93 (a0 a1 a2 a3 b0 b1 b2 b3 : Int) : ∀ w, (Op.equal 93 (.agg #[.int .i64 a0, .int .i64 a1, .int .i64 a2, .int .i64 a3]) (.agg #[.int .i64 b0, .int .i64 b1, .int .i64 b2, .int .i64 b3])).run Try.prog w = .ok (decide (a0 = b0) && decide (a1 = b1) && decide (a2 = b2) && decide (a3 = b3)) w := fun w => by
  have h := run_equal_ints (P := Try.prog) (t := 93) Try.underlying93 Try.underlying3 ((Option.map_eq_some_iff.1 sz3).imp fun _ h => h.1) (by kernel_rfl) [a0, a1, a2, a3] [b0, b1, b2, b3] rfl rfl w
  rw [show (#[.int .i64 a0, .int .i64 a1, .int .i64 a2, .int .i64 a3] : Array Value) = ([a0, a1, a2, a3].map (Value.int .i64)).toArray from rfl, show (#[.int .i64 b0, .int .i64 b1, .int .i64 b2, .int .i64 b3] : Array Value) = ([b0, b1, b2, b3].map (Value.int .i64)).toArray from rfl, h]
  refine congrArg (fun q => Result.ok q w) ?_
  by_cases h0 : a0 = b0 <;> by_cases h1 : a1 = b1 <;> by_cases h2 : a2 = b2 <;> by_cases h3 : a3 = b3 <;> simp [*]
theorem eqG93 : Program.eqGuardType Try.prog Try.prog.depth 93 = false := by kernel_rfl
theorem eqF29 (a0 a1 a2 a3 b0 b1 b2 b3 : Int) (a4 b4 : ByteArray) (n : Nat) (w : World) : (Op.eqFields (n + 1) #[.int .i64 a0, .int .i64 a1, .int .i64 a2, .int .i64 a3, .string a4] #[.int .i64 b0, .int .i64 b1, .int .i64 b2, .int .i64 b3, .string b4] (Try.prog.fieldsOf 29).toList).run Try.prog w = .ok (decide (a0 = b0) && decide (a1 = b1) && decide (a2 = b2) && decide (a3 = b3) && decide (a4.data.toList = b4.data.toList)) w := by
  unfold Program.fieldsOf
  rw [Try.underlying29]
  have hp3 : ∀ {cs : Array Value} {o : Nat} {v : Value} (h : cs[o]? = some v) (w : World), (part 3 cs o).run Try.prog w = .ok v w := fun h w => run_part1 Try.underlying3 rfl h w
  have hq3 : ∀ (x y : Int) (w : World), (Op.equalIn (n + 1) 3 (.int .i64 x) (.int .i64 y)).run Try.prog w = .ok (x == y) w := fun x y w => run_equalIn_int w (n + 0) 3 .i64 .i64 x y Try.underlying3
  have hp9 : ∀ {cs : Array Value} {o : Nat} {v : Value} (h : cs[o]? = some v) (w : World), (part 9 cs o).run Try.prog w = .ok v w := fun h w => run_part1 Try.underlying9 rfl h w
  have hq9 : ∀ (x y : ByteArray) (w : World), (Op.equalIn (n + 1) 9 (.string x) (.string y)).run Try.prog w = .ok (decide (x.data.toList = y.data.toList)) w := fun x y w => by
    rw [show n + 1 = (n + 0) + 1 from rfl, run_equalIn_string w (n + 0) 9 x y Try.underlying9]
    congr 1; rw [ByteArray.toList_eq, ByteArray.toList_eq]; cases h8 : (x.data.toList == y.data.toList) with | true => rw [decide_eq_true (beq_iff_eq.1 h8)] | false => rw [decide_eq_false (fun h => by rw [beq_iff_eq.2 h] at h8; cases h8)]
  simp only [Op.eqFields, ne_eq, String.reduceEq, not_false_eq_true, if_true, Sem.run_bind, hp3 (show #[Value.int .i64 a0, Value.int .i64 a1, Value.int .i64 a2, Value.int .i64 a3, Value.string a4][0]? = some (.int .i64 a0) from rfl), hp3 (show #[Value.int .i64 b0, Value.int .i64 b1, Value.int .i64 b2, Value.int .i64 b3, Value.string b4][0]? = some (.int .i64 b0) from rfl), hp3 (show #[Value.int .i64 a0, Value.int .i64 a1, Value.int .i64 a2, Value.int .i64 a3, Value.string a4][1]? = some (.int .i64 a1) from rfl), hp3 (show #[Value.int .i64 b0, Value.int .i64 b1, Value.int .i64 b2, Value.int .i64 b3, Value.string b4][1]? = some (.int .i64 b1) from rfl), hp3 (show #[Value.int .i64 a0, Value.int .i64 a1, Value.int .i64 a2, Value.int .i64 a3, Value.string a4][2]? = some (.int .i64 a2) from rfl), hp3 (show #[Value.int .i64 b0, Value.int .i64 b1, Value.int .i64 b2, Value.int .i64 b3, Value.string b4][2]? = some (.int .i64 b2) from rfl), hp3 (show #[Value.int .i64 a0, Value.int .i64 a1, Value.int .i64 a2, Value.int .i64 a3, Value.string a4][3]? = some (.int .i64 a3) from rfl), hp3 (show #[Value.int .i64 b0, Value.int .i64 b1, Value.int .i64 b2, Value.int .i64 b3, Value.string b4][3]? = some (.int .i64 b3) from rfl), hp9 (show #[Value.int .i64 a0, Value.int .i64 a1, Value.int .i64 a2, Value.int .i64 a3, Value.string a4][4]? = some (.string a4) from rfl), hp9 (show #[Value.int .i64 b0, Value.int .i64 b1, Value.int .i64 b2, Value.int .i64 b3, Value.string b4][4]? = some (.string b4) from rfl), hq3, hq9, Result.andThen_ok, Sem.run_ite, Sem.run_pure]
  by_cases h0 : a0 = b0 <;> by_cases h1 : a1 = b1 <;> by_cases h2 : a2 = b2 <;> by_cases h3 : a3 = b3 <;> by_cases h4 : a4.data.toList = b4.data.toList <;> simp [*]
theorem eqS29 (a0 a1 a2 a3 b0 b1 b2 b3 : Int) (a4 b4 : ByteArray) : ∀ w, (Op.equal 29 (.agg #[.int .i64 a0, .int .i64 a1, .int .i64 a2, .int .i64 a3, .string a4]) (.agg #[.int .i64 b0, .int .i64 b1, .int .i64 b2, .int .i64 b3, .string b4])).run Try.prog w = .ok (decide (a0 = b0) && decide (a1 = b1) && decide (a2 = b2) && decide (a3 = b3) && decide (a4.data.toList = b4.data.toList)) w := fun w => by
  have hT : Try.prog.underlying 29 = some (.struct (Try.prog.fieldsOf 29)) := by unfold Program.fieldsOf; rw [Try.underlying29]
  show (Op.equalIn (9999 + 1) 29 _ _).run Try.prog w = _
  rw [run_equalIn_struct w 9999 29 _ _ hT (by kernel_rfl)]
  exact eqF29 a0 a1 a2 a3 b0 b1 b2 b3 a4 b4 9998 w
theorem eqG29 : Program.eqGuardType Try.prog Try.prog.depth 29 = false := by kernel_rfl
theorem eqF47 (a0 a1 b0 b1 : Int) (n : Nat) (w : World) : (Op.eqFields (n + 1) #[.int .i64 a0, .int .i64 a1] #[.int .i64 b0, .int .i64 b1] (Try.prog.fieldsOf 47).toList).run Try.prog w = .ok (decide (a0 = b0) && decide (a1 = b1)) w := by
  unfold Program.fieldsOf
  rw [Try.underlying47]
  have hp3 : ∀ {cs : Array Value} {o : Nat} {v : Value} (h : cs[o]? = some v) (w : World), (part 3 cs o).run Try.prog w = .ok v w := fun h w => run_part1 Try.underlying3 rfl h w
  have hq3 : ∀ (x y : Int) (w : World), (Op.equalIn (n + 1) 3 (.int .i64 x) (.int .i64 y)).run Try.prog w = .ok (x == y) w := fun x y w => run_equalIn_int w (n + 0) 3 .i64 .i64 x y Try.underlying3
  simp only [Op.eqFields, ne_eq, String.reduceEq, not_false_eq_true, if_true, Sem.run_bind, hp3 (show #[Value.int .i64 a0, Value.int .i64 a1][0]? = some (.int .i64 a0) from rfl), hp3 (show #[Value.int .i64 b0, Value.int .i64 b1][0]? = some (.int .i64 b0) from rfl), hp3 (show #[Value.int .i64 a0, Value.int .i64 a1][1]? = some (.int .i64 a1) from rfl), hp3 (show #[Value.int .i64 b0, Value.int .i64 b1][1]? = some (.int .i64 b1) from rfl), hq3, Result.andThen_ok, Sem.run_ite, Sem.run_pure]
  by_cases h0 : a0 = b0 <;> by_cases h1 : a1 = b1 <;> simp [*]
theorem eqS47 (a0 a1 b0 b1 : Int) : ∀ w, (Op.equal 47 (.agg #[.int .i64 a0, .int .i64 a1]) (.agg #[.int .i64 b0, .int .i64 b1])).run Try.prog w = .ok (decide (a0 = b0) && decide (a1 = b1)) w := fun w => by
  have hT : Try.prog.underlying 47 = some (.struct (Try.prog.fieldsOf 47)) := by unfold Program.fieldsOf; rw [Try.underlying47]
  show (Op.equalIn (9999 + 1) 47 _ _).run Try.prog w = _
  rw [run_equalIn_struct w 9999 47 _ _ hT (by kernel_rfl)]
  exact eqF47 a0 a1 b0 b1 9998 w
theorem eqG47 : Program.eqGuardType Try.prog Try.prog.depth 47 = false := by kernel_rfl
theorem eqF49 (a0 a1 a2 a3 b0 b1 b2 b3 : Int) (n : Nat) (w : World) : (Op.eqFields (n + 2) #[.int .i64 a0, .int .i64 a1, .int .i64 a2, .int .i64 a3] #[.int .i64 b0, .int .i64 b1, .int .i64 b2, .int .i64 b3] (Try.prog.fieldsOf 49).toList).run Try.prog w = .ok (decide (a0 = b0) && decide (a1 = b1) && decide (a2 = b2) && decide (a3 = b3)) w := by
  unfold Program.fieldsOf
  rw [Try.underlying49]
  have hp3 : ∀ {cs : Array Value} {o : Nat} {v : Value} (h : cs[o]? = some v) (w : World), (part 3 cs o).run Try.prog w = .ok v w := fun h w => run_part1 Try.underlying3 rfl h w
  have hq3 : ∀ (x y : Int) (w : World), (Op.equalIn (n + 2) 3 (.int .i64 x) (.int .i64 y)).run Try.prog w = .ok (x == y) w := fun x y w => run_equalIn_int w (n + 1) 3 .i64 .i64 x y Try.underlying3
  have hp47 : ∀ {cs es : Array Value} {o : Nat} (h : cs.extract o (o + 2) = es) (w : World), (part 47 cs o).run Try.prog w = .ok (.agg es) w := fun h w => run_partA Try.underlying47 rfl (by kernel_rfl) h w
  have hq47 : ∀ (x0 x1 y0 y1 : Int) (w : World), (Op.equalIn (n + 2) 47 (.agg #[.int .i64 x0, .int .i64 x1]) (.agg #[.int .i64 y0, .int .i64 y1])).run Try.prog w = .ok (decide (x0 = y0) && decide (x1 = y1)) w := fun x0 x1 y0 y1 w => by
    have hT : Try.prog.underlying 47 = some (.struct (Try.prog.fieldsOf 47)) := by unfold Program.fieldsOf; rw [Try.underlying47]
    rw [show n + 2 = (n + 1) + 1 from rfl, run_equalIn_struct w (n + 1) 47 _ _ hT (by kernel_rfl)]
    exact eqF47 x0 x1 y0 y1 (n + 0) w
  simp only [Op.eqFields, ne_eq, String.reduceEq, not_false_eq_true, if_true, Sem.run_bind, hp3 (show #[Value.int .i64 a0, Value.int .i64 a1, Value.int .i64 a2, Value.int .i64 a3][0]? = some (.int .i64 a0) from rfl), hp3 (show #[Value.int .i64 b0, Value.int .i64 b1, Value.int .i64 b2, Value.int .i64 b3][0]? = some (.int .i64 b0) from rfl), hp3 (show #[Value.int .i64 a0, Value.int .i64 a1, Value.int .i64 a2, Value.int .i64 a3][1]? = some (.int .i64 a1) from rfl), hp3 (show #[Value.int .i64 b0, Value.int .i64 b1, Value.int .i64 b2, Value.int .i64 b3][1]? = some (.int .i64 b1) from rfl), hp47 (show (#[Value.int .i64 a0, Value.int .i64 a1, Value.int .i64 a2, Value.int .i64 a3] : Array Value).extract 2 (2 + 2) = #[Value.int .i64 a2, Value.int .i64 a3] from rfl), hp47 (show (#[Value.int .i64 b0, Value.int .i64 b1, Value.int .i64 b2, Value.int .i64 b3] : Array Value).extract 2 (2 + 2) = #[Value.int .i64 b2, Value.int .i64 b3] from rfl), hq3, hq47, Result.andThen_ok, Sem.run_ite, Sem.run_pure]
  by_cases h0 : a0 = b0 <;> by_cases h1 : a1 = b1 <;> by_cases h2 : a2 = b2 <;> by_cases h3 : a3 = b3 <;> simp [*]
theorem eqS49 (a0 a1 a2 a3 b0 b1 b2 b3 : Int) : ∀ w, (Op.equal 49 (.agg #[.int .i64 a0, .int .i64 a1, .int .i64 a2, .int .i64 a3]) (.agg #[.int .i64 b0, .int .i64 b1, .int .i64 b2, .int .i64 b3])).run Try.prog w = .ok (decide (a0 = b0) && decide (a1 = b1) && decide (a2 = b2) && decide (a3 = b3)) w := fun w => by
  have hT : Try.prog.underlying 49 = some (.struct (Try.prog.fieldsOf 49)) := by unfold Program.fieldsOf; rw [Try.underlying49]
  show (Op.equalIn (9999 + 1) 49 _ _).run Try.prog w = _
  rw [run_equalIn_struct w 9999 49 _ _ hT (by kernel_rfl)]
  exact eqF49 a0 a1 a2 a3 b0 b1 b2 b3 9997 w
theorem eqG49 : Program.eqGuardType Try.prog Try.prog.depth 49 = false := by kernel_rfl

end Go.Proofs.Ytlljbndnodbecaa
