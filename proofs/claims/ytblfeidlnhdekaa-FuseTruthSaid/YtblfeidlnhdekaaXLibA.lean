/- Walks (part LibA), printed by walk2.py. Conditions: those of each theorem. -/
import Derived.Test.YtblfeidlnhdekaaRows
import Derived.Test.YtblfeidlnhdekaaXCore5
import Derived.Test.YtblfeidlnhdekaaXNums
import Derived.Test.YtblfeidlnhdekaaXLen
import Derived.Test.YtblfeidlnhdekaaXTypes
import Derived.Lib.Walk
import Derived.Lib.Small
import Derived.Lib.ItoaNum
import Derived.Lib.Slices
import Derived.Lib.Strings
import Derived.Test.YtblfeidlnhdekaaXAuto
namespace Go.Proofs.Ytblfeidlnhdekaa
open Go Go.K Go.RowKit
theorem uT3 : type_of% @Try.underlying3 := @Try.underlying3
theorem uT9 : type_of% @Try.underlying9 := @Try.underlying9
theorem uT22 : type_of% @Try.underlying22 := @Try.underlying22
theorem uT23 : type_of% @Try.underlying23 := @Try.underlying23
theorem uT24 : type_of% @Try.underlying24 := @Try.underlying24
theorem uT25 : type_of% @Try.underlying25 := @Try.underlying25
theorem uT26 : type_of% @Try.underlying26 := @Try.underlying26
theorem uT27 : type_of% @Try.underlying27 := @Try.underlying27
theorem uT28 : type_of% @Try.underlying28 := @Try.underlying28
theorem uT29 : type_of% @Try.underlying29 := @Try.underlying29
theorem uT31 : type_of% @Try.underlying31 := @Try.underlying31
theorem uT32 : type_of% @Try.underlying32 := @Try.underlying32
theorem uT33 : type_of% @Try.underlying33 := @Try.underlying33
theorem uT34 : type_of% @Try.underlying34 := @Try.underlying34
theorem uT36 : type_of% @Try.underlying36 := @Try.underlying36
theorem uT37 : type_of% @Try.underlying37 := @Try.underlying37
theorem uT38 : type_of% @Try.underlying38 := @Try.underlying38
theorem uT42 : type_of% @Try.underlying42 := @Try.underlying42
theorem uT46 : type_of% @Try.underlying46 := @Try.underlying46
theorem uT58 : type_of% @Try.underlying58 := @Try.underlying58
theorem uT60 : type_of% @Try.underlying60 := @Try.underlying60
theorem uT61 : type_of% @Try.underlying61 := @Try.underlying61
theorem uT63 : type_of% @Try.underlying63 := @Try.underlying63
theorem uT67 : type_of% @Try.underlying67 := @Try.underlying67
theorem uT68 : type_of% @Try.underlying68 := @Try.underlying68
theorem uT70 : type_of% @Try.underlying70 := @Try.underlying70
theorem uT71 : type_of% @Try.underlying71 := @Try.underlying71
theorem uT74 : type_of% @Try.underlying74 := @Try.underlying74
theorem uT79 : type_of% @Try.underlying79 := @Try.underlying79
theorem uT82 : type_of% @Try.underlying82 := @Try.underlying82
theorem uT93 : type_of% @Try.underlying93 := @Try.underlying93
theorem uT114 : type_of% @Try.underlying114 := @Try.underlying114
theorem uT126 : type_of% @Try.underlying126 := @Try.underlying126
theorem uT130 : type_of% @Try.underlying130 := @Try.underlying130
theorem uT132 : type_of% @Try.underlying132 := @Try.underlying132
theorem uT134 : type_of% @Try.underlying134 := @Try.underlying134
theorem uT136 : type_of% @Try.underlying136 := @Try.underlying136
theorem uT138 : type_of% @Try.underlying138 := @Try.underlying138
theorem uT142 : type_of% @Try.underlying142 := @Try.underlying142
theorem uT145 : type_of% @Try.underlying145 := @Try.underlying145
theorem uT150 : type_of% @Try.underlying150 := @Try.underlying150
theorem uT152 : type_of% @Try.underlying152 := @Try.underlying152
theorem uT154 : type_of% @Try.underlying154 := @Try.underlying154
theorem uT155 : type_of% @Try.underlying155 := @Try.underlying155
theorem uT156 : type_of% @Try.underlying156 := @Try.underlying156
theorem uT157 : type_of% @Try.underlying157 := @Try.underlying157
theorem uT164 : type_of% @Try.underlying164 := @Try.underlying164
theorem uT167 : type_of% @Try.underlying167 := @Try.underlying167
set_option maxRecDepth 8000
set_option maxHeartbeats 1000000
attribute [local irreducible] AW RW DW Post Qt
abbrev cl31 (x : Bt.Basin) (u1 u3 u4 u5 u6 u7 u8 u9 : Value) : List Value := [.string x.Name, u1, iV x.Cells, u3, u4, u5, u6, u7, u8, u9, iV x.Err]
abbrev cl46 (x : Bt.Reading) : List Value := [iV x.Gauge, iV x.Hour, iV x.Value.Lo, iV x.Value.Hi]
abbrev cl58 (x : Bt.Gauge) : List Value := [.string x.Name, iV x.Kind, iV x.Target, iV x.Err, iV x.Drift]
abbrev cl63 (x : Bt.Place) (u4 u5 u11 : Value) : List Value := [.string x.Name, iV x.Kind, iV x.Office, iV x.Cap, u4, u5, iV x.Num, iV x.Den, iV x.Down, iV x.Delay, iV x.Floor, u11]
abbrev cl70 (x : Bt.State) (u1 u2 u3 u4 u5 u6 : Value) : List Value := [iV x.Hour, u1, u2, u3, u4, u5, u6]
abbrev cl79 (x : Bt.Known) : List Value := [iV x.Pos.Lo, iV x.Pos.Hi, iV x.Target, iV x.Open.Lo, iV x.Open.Hi]
abbrev cl93 (x : Bt.Sum) : List Value := [iV x.At, iV x.To, iV x.Vol.Lo, iV x.Vol.Hi]
abbrev cl114 (x : Bt.Gate) : List Value := [iV x.Pos, iV x.Target, .bool x.Stuck, .bool x.Open]
abbrev cl132 (x : Bt.Link) (u4 u5 u6 : Value) : List Value := [.string x.Name, iV x.Kind, iV x.From, iV x.To, u4, u5, u6, iV x.Positions, iV x.Speed, iV x.Leak, iV x.Crest, iV x.Num, iV x.Den, iV x.Prime, iV x.Break, iV x.BackNum, iV x.BackDen, iV x.Delay]
abbrev cl134 (x : Bt.Town) : List Value := [.string x.Name, iV x.Place, iV x.Flood, iV x.Lead, iV x.People, iV x.Watch, iV x.Quorum]
abbrev cl138 (x : Bt.Road) : List Value := [.string x.Name, iV x.From, iV x.To, iV x.Hours, iV x.Flow, iV x.By, iV x.Limit]
theorem hmix : Try.prog.follows .mixedOrders = true := by kernel_rfl
theorem sz3 : (Try.prog.info? 3).map (·.size) = some 1 := by kernel_rfl
theorem zero3 : (Try.prog.info? 3).map (·.zero) = some (some (iV 0)) := by kernel_rfl
theorem inf3 : (Try.prog.info? 3).map (fun i => (i.zero, i.size, i.bytes)) = some (some (iV 0), 1, 8) := by kernel_rfl
theorem sz4 : (Try.prog.info? 4).map (·.size) = some 1 := by kernel_rfl
theorem zero4 : (Try.prog.info? 4).map (·.zero) = some (some (.bool false)) := by kernel_rfl
theorem sz9 : (Try.prog.info? 9).map (·.size) = some 1 := by kernel_rfl
theorem sz22 : (Try.prog.info? 22).map (·.size) = some 1 := by kernel_rfl
theorem sz23 : (Try.prog.info? 23).map (·.size) = some 1 := by kernel_rfl
theorem sz24 : (Try.prog.info? 24).map (·.size) = some 1 := by kernel_rfl
theorem sz25 : (Try.prog.info? 25).map (·.size) = some 1 := by kernel_rfl
theorem sz26 : (Try.prog.info? 26).map (·.size) = some 1 := by kernel_rfl
theorem sz27 : (Try.prog.info? 27).map (·.size) = some 1 := by kernel_rfl
theorem sz28 : (Try.prog.info? 28).map (·.size) = some 1 := by kernel_rfl
theorem sz29 : (Try.prog.info? 29).map (·.size) = some 1 := by kernel_rfl
theorem inf29 : (Try.prog.info? 29).map (fun i => (i.zero, i.size, i.bytes)) = some (some nS, 1, 24) := by kernel_rfl
theorem sz31 : (Try.prog.info? 31).map (·.size) = some 11 := by kernel_rfl
theorem zero31 : (Try.prog.info? 31).map (·.zero) = some (some (.agg #[.string ⟨#[]⟩, .slice none 0 0, iV 0, .slice none 0 0, .slice none 0 0, .slice none 0 0, .slice none 0 0, .slice none 0 0, .slice none 0 0, .slice none 0 0, iV 0])) := by kernel_rfl
theorem places31 : ∀ w, ((#[{ name := "Name", type := 9, offset := 0, embedded := false, tag := "", pkgPath := "", byteOffset := 0 }, { name := "Owners", type := 22, offset := 1, embedded := false, tag := "", pkgPath := "", byteOffset := 16 }, { name := "Cells", type := 3, offset := 2, embedded := false, tag := "", pkgPath := "", byteOffset := 40 }, { name := "Places", type := 23, offset := 3, embedded := false, tag := "", pkgPath := "", byteOffset := 48 }, { name := "Links", type := 24, offset := 4, embedded := false, tag := "", pkgPath := "", byteOffset := 72 }, { name := "Towns", type := 25, offset := 5, embedded := false, tag := "", pkgPath := "", byteOffset := 96 }, { name := "Gauges", type := 26, offset := 6, embedded := false, tag := "", pkgPath := "", byteOffset := 120 }, { name := "Roads", type := 27, offset := 7, embedded := false, tag := "", pkgPath := "", byteOffset := 144 }, { name := "Shelters", type := 28, offset := 8, embedded := false, tag := "", pkgPath := "", byteOffset := 168 }, { name := "Room", type := 29, offset := 9, embedded := false, tag := "", pkgPath := "", byteOffset := 192 }, { name := "Err", type := 3, offset := 10, embedded := false, tag := "", pkgPath := "", byteOffset := 216 }] : Array Field).mapM fun f => do pure (f.offset, ← sizeOf f.type) : Sem (Array (Nat × Nat))).run Try.prog w = .ok #[(0, 1), (1, 1), (2, 1), (3, 1), (4, 1), (5, 1), (6, 1), (7, 1), (8, 1), (9, 1), (10, 1)] w := fun w => by kernel_rfl
theorem sz32 : (Try.prog.info? 32).map (·.size) = some 1 := by kernel_rfl
theorem sz33 : (Try.prog.info? 33).map (·.size) = some 1 := by kernel_rfl
theorem sz34 : (Try.prog.info? 34).map (·.size) = some 1 := by kernel_rfl
theorem sz36 : (Try.prog.info? 36).map (·.size) = some 4 := by kernel_rfl
theorem zero36 : (Try.prog.info? 36).map (·.zero) = some (some (.agg #[iV 0, .slice none 0 0, .slice none 0 0, .slice none 0 0])) := by kernel_rfl
theorem places36 : ∀ w, ((#[{ name := "Hour", type := 3, offset := 0, embedded := false, tag := "", pkgPath := "", byteOffset := 0 }, { name := "Vol", type := 32, offset := 1, embedded := false, tag := "", pkgPath := "", byteOffset := 8 }, { name := "Queue", type := 33, offset := 2, embedded := false, tag := "", pkgPath := "", byteOffset := 32 }, { name := "Links", type := 34, offset := 3, embedded := false, tag := "", pkgPath := "", byteOffset := 56 }] : Array Field).mapM fun f => do pure (f.offset, ← sizeOf f.type) : Sem (Array (Nat × Nat))).run Try.prog w = .ok #[(0, 1), (1, 1), (2, 1), (3, 1)] w := fun w => by kernel_rfl
theorem sz38 : (Try.prog.info? 38).map (·.size) = some 1 := by kernel_rfl
theorem sz42 : (Try.prog.info? 42).map (·.size) = some 2 := by kernel_rfl
theorem zero42 : (Try.prog.info? 42).map (·.zero) = some (some (.agg #[iV 0, iV 0])) := by kernel_rfl
theorem inf42 : (Try.prog.info? 42).map (fun i => (i.zero, i.size, i.bytes)) = some (some (.agg #[iV 0, iV 0]), 2, 16) := by kernel_rfl
theorem places42 : ∀ w, ((#[{ name := "Lo", type := 3, offset := 0, embedded := false, tag := "", pkgPath := "", byteOffset := 0 }, { name := "Hi", type := 3, offset := 1, embedded := false, tag := "", pkgPath := "", byteOffset := 8 }] : Array Field).mapM fun f => do pure (f.offset, ← sizeOf f.type) : Sem (Array (Nat × Nat))).run Try.prog w = .ok #[(0, 1), (1, 1)] w := fun w => by kernel_rfl
theorem sz46 : (Try.prog.info? 46).map (·.size) = some 4 := by kernel_rfl
theorem zero46 : (Try.prog.info? 46).map (·.zero) = some (some (.agg #[iV 0, iV 0, iV 0, iV 0])) := by kernel_rfl
theorem inf46 : (Try.prog.info? 46).map (fun i => (i.zero, i.size, i.bytes)) = some (some (.agg #[iV 0, iV 0, iV 0, iV 0]), 4, 32) := by kernel_rfl
theorem places46 : ∀ w, ((#[{ name := "Gauge", type := 3, offset := 0, embedded := false, tag := "", pkgPath := "", byteOffset := 0 }, { name := "Hour", type := 3, offset := 1, embedded := false, tag := "", pkgPath := "", byteOffset := 8 }, { name := "Value", type := 42, offset := 2, embedded := false, tag := "", pkgPath := "", byteOffset := 16 }] : Array Field).mapM fun f => do pure (f.offset, ← sizeOf f.type) : Sem (Array (Nat × Nat))).run Try.prog w = .ok #[(0, 1), (1, 1), (2, 2)] w := fun w => by kernel_rfl
theorem sz58 : (Try.prog.info? 58).map (·.size) = some 5 := by kernel_rfl
theorem zero58 : (Try.prog.info? 58).map (·.zero) = some (some (.agg #[.string ⟨#[]⟩, iV 0, iV 0, iV 0, iV 0])) := by kernel_rfl
theorem inf58 : (Try.prog.info? 58).map (fun i => (i.zero, i.size, i.bytes)) = some (some (.agg #[.string ⟨#[]⟩, iV 0, iV 0, iV 0, iV 0]), 5, 48) := by kernel_rfl
theorem places58 : ∀ w, ((#[{ name := "Name", type := 9, offset := 0, embedded := false, tag := "", pkgPath := "", byteOffset := 0 }, { name := "Kind", type := 3, offset := 1, embedded := false, tag := "", pkgPath := "", byteOffset := 16 }, { name := "Target", type := 3, offset := 2, embedded := false, tag := "", pkgPath := "", byteOffset := 24 }, { name := "Err", type := 3, offset := 3, embedded := false, tag := "", pkgPath := "", byteOffset := 32 }, { name := "Drift", type := 3, offset := 4, embedded := false, tag := "", pkgPath := "", byteOffset := 40 }] : Array Field).mapM fun f => do pure (f.offset, ← sizeOf f.type) : Sem (Array (Nat × Nat))).run Try.prog w = .ok #[(0, 1), (1, 1), (2, 1), (3, 1), (4, 1)] w := fun w => by kernel_rfl
theorem sz60 : (Try.prog.info? 60).map (·.size) = some 1 := by kernel_rfl
theorem inf60 : (Try.prog.info? 60).map (fun i => (i.zero, i.size, i.bytes)) = some (some nS, 1, 24) := by kernel_rfl
theorem sz63 : (Try.prog.info? 63).map (·.size) = some 12 := by kernel_rfl
theorem zero63 : (Try.prog.info? 63).map (·.zero) = some (some (.agg #[.string ⟨#[]⟩, iV 0, iV 0, iV 0, .slice none 0 0, .slice none 0 0, iV 0, iV 0, iV 0, iV 0, iV 0, .slice none 0 0])) := by kernel_rfl
theorem inf63 : (Try.prog.info? 63).map (fun i => (i.zero, i.size, i.bytes)) = some (some (.agg #[.string ⟨#[]⟩, iV 0, iV 0, iV 0, .slice none 0 0, .slice none 0 0, iV 0, iV 0, iV 0, iV 0, iV 0, .slice none 0 0]), 12, 152) := by kernel_rfl
theorem places63 : ∀ w, ((#[{ name := "Name", type := 9, offset := 0, embedded := false, tag := "", pkgPath := "", byteOffset := 0 }, { name := "Kind", type := 3, offset := 1, embedded := false, tag := "", pkgPath := "", byteOffset := 16 }, { name := "Office", type := 3, offset := 2, embedded := false, tag := "", pkgPath := "", byteOffset := 24 }, { name := "Cap", type := 3, offset := 3, embedded := false, tag := "", pkgPath := "", byteOffset := 32 }, { name := "Level", type := 60, offset := 4, embedded := false, tag := "", pkgPath := "", byteOffset := 40 }, { name := "Start", type := 29, offset := 5, embedded := false, tag := "", pkgPath := "", byteOffset := 64 }, { name := "Num", type := 3, offset := 6, embedded := false, tag := "", pkgPath := "", byteOffset := 88 }, { name := "Den", type := 3, offset := 7, embedded := false, tag := "", pkgPath := "", byteOffset := 96 }, { name := "Down", type := 3, offset := 8, embedded := false, tag := "", pkgPath := "", byteOffset := 104 }, { name := "Delay", type := 3, offset := 9, embedded := false, tag := "", pkgPath := "", byteOffset := 112 }, { name := "Floor", type := 3, offset := 10, embedded := false, tag := "", pkgPath := "", byteOffset := 120 }, { name := "Rain", type := 61, offset := 11, embedded := false, tag := "", pkgPath := "", byteOffset := 128 }] : Array Field).mapM fun f => do pure (f.offset, ← sizeOf f.type) : Sem (Array (Nat × Nat))).run Try.prog w = .ok #[(0, 1), (1, 1), (2, 1), (3, 1), (4, 1), (5, 1), (6, 1), (7, 1), (8, 1), (9, 1), (10, 1), (11, 1)] w := fun w => by kernel_rfl
theorem sz79 : (Try.prog.info? 79).map (·.size) = some 5 := by kernel_rfl
theorem zero79 : (Try.prog.info? 79).map (·.zero) = some (some (.agg #[iV 0, iV 0, iV 0, iV 0, iV 0])) := by kernel_rfl
theorem inf79 : (Try.prog.info? 79).map (fun i => (i.zero, i.size, i.bytes)) = some (some (.agg #[iV 0, iV 0, iV 0, iV 0, iV 0]), 5, 40) := by kernel_rfl
theorem sz82 : (Try.prog.info? 82).map (·.size) = some 2 := by kernel_rfl
theorem zero82 : (Try.prog.info? 82).map (·.zero) = some (some (.agg #[iV 0, iV 0])) := by kernel_rfl
theorem inf82 : (Try.prog.info? 82).map (fun i => (i.zero, i.size, i.bytes)) = some (some (.agg #[iV 0, iV 0]), 2, 16) := by kernel_rfl
theorem places82 : ∀ w, ((#[{ name := "X", type := 3, offset := 0, embedded := false, tag := "", pkgPath := "", byteOffset := 0 }, { name := "Y", type := 3, offset := 1, embedded := false, tag := "", pkgPath := "", byteOffset := 8 }] : Array Field).mapM fun f => do pure (f.offset, ← sizeOf f.type) : Sem (Array (Nat × Nat))).run Try.prog w = .ok #[(0, 1), (1, 1)] w := fun w => by kernel_rfl
theorem sz93 : (Try.prog.info? 93).map (·.size) = some 4 := by kernel_rfl
theorem zero93 : (Try.prog.info? 93).map (·.zero) = some (some (.agg #[iV 0, iV 0, iV 0, iV 0])) := by kernel_rfl
theorem inf93 : (Try.prog.info? 93).map (fun i => (i.zero, i.size, i.bytes)) = some (some (.agg #[iV 0, iV 0, iV 0, iV 0]), 4, 32) := by kernel_rfl
theorem own8 : Own Try.prog 8 := own_of (by kernel_rfl)
theorem own9 : Own Try.prog 9 := own_of (by kernel_rfl)
theorem own10 : Own Try.prog 10 := own_of (by kernel_rfl)
theorem own12 : Own Try.prog 12 := own_of (by kernel_rfl)
theorem own14 : Own Try.prog 14 := own_of (by kernel_rfl)
theorem own16 : Own Try.prog 16 := own_of (by kernel_rfl)
theorem own18 : Own Try.prog 18 := own_of (by kernel_rfl)
theorem own19 : Own Try.prog 19 := own_of (by kernel_rfl)
theorem own20 : Own Try.prog 20 := own_of (by kernel_rfl)
theorem own21 : Own Try.prog 21 := own_of (by kernel_rfl)
theorem own22 : Own Try.prog 22 := own_of (by kernel_rfl)
theorem own23 : Own Try.prog 23 := own_of (by kernel_rfl)
theorem own24 : Own Try.prog 24 := own_of (by kernel_rfl)
theorem own25 : Own Try.prog 25 := own_of (by kernel_rfl)
theorem own26 : Own Try.prog 26 := own_of (by kernel_rfl)
theorem own27 : Own Try.prog 27 := own_of (by kernel_rfl)
theorem own28 : Own Try.prog 28 := own_of (by kernel_rfl)
theorem own29 : Own Try.prog 29 := own_of (by kernel_rfl)
theorem own30 : Own Try.prog 30 := own_of (by kernel_rfl)
theorem own34 : Own Try.prog 34 := own_of (by kernel_rfl)
theorem own35 : Own Try.prog 35 := own_of (by kernel_rfl)
theorem own36 : Own Try.prog 36 := own_of (by kernel_rfl)
theorem own37 : Own Try.prog 37 := own_of (by kernel_rfl)
theorem own38 : Own Try.prog 38 := own_of (by kernel_rfl)
theorem own39 : Own Try.prog 39 := own_of (by kernel_rfl)
theorem own40 : Own Try.prog 40 := own_of (by kernel_rfl)
theorem own41 : Own Try.prog 41 := own_of (by kernel_rfl)
theorem own42 : Own Try.prog 42 := own_of (by kernel_rfl)
theorem own43 : Own Try.prog 43 := own_of (by kernel_rfl)
theorem own44 : Own Try.prog 44 := own_of (by kernel_rfl)
theorem own47 : Own Try.prog 47 := own_of (by kernel_rfl)
theorem own48 : Own Try.prog 48 := own_of (by kernel_rfl)
theorem own49 : Own Try.prog 49 := own_of (by kernel_rfl)
theorem own51 : Own Try.prog 51 := own_of (by kernel_rfl)
theorem own52 : Own Try.prog 52 := own_of (by kernel_rfl)
theorem own53 : Own Try.prog 53 := own_of (by kernel_rfl)
theorem own54 : Own Try.prog 54 := own_of (by kernel_rfl)
theorem own55 : Own Try.prog 55 := own_of (by kernel_rfl)
theorem own56 : Own Try.prog 56 := own_of (by kernel_rfl)
theorem own57 : Own Try.prog 57 := own_of (by kernel_rfl)
theorem own58 : Own Try.prog 58 := own_of (by kernel_rfl)
theorem own59 : Own Try.prog 59 := own_of (by kernel_rfl)
theorem own60 : Own Try.prog 60 := own_of (by kernel_rfl)
theorem own61 : Own Try.prog 61 := own_of (by kernel_rfl)
theorem own62 : Own Try.prog 62 := own_of (by kernel_rfl)
theorem own63 : Own Try.prog 63 := own_of (by kernel_rfl)
theorem own64 : Own Try.prog 64 := own_of (by kernel_rfl)
theorem own65 : Own Try.prog 65 := own_of (by kernel_rfl)
theorem own66 : Own Try.prog 66 := own_of (by kernel_rfl)
theorem own67 : Own Try.prog 67 := own_of (by kernel_rfl)
theorem own68 : Own Try.prog 68 := own_of (by kernel_rfl)
theorem own69 : Own Try.prog 69 := own_of (by kernel_rfl)
theorem own70 : Own Try.prog 70 := own_of (by kernel_rfl)
theorem own73 : Own Try.prog 73 := own_of (by kernel_rfl)
theorem own74 : Own Try.prog 74 := own_of (by kernel_rfl)
theorem own76 : Own Try.prog 76 := own_of (by kernel_rfl)
theorem own77 : Own Try.prog 77 := own_of (by kernel_rfl)
theorem own78 : Own Try.prog 78 := own_of (by kernel_rfl)
theorem own79 : Own Try.prog 79 := own_of (by kernel_rfl)
theorem own80 : Own Try.prog 80 := own_of (by kernel_rfl)
theorem own81 : Own Try.prog 81 := own_of (by kernel_rfl)
theorem own82 : Own Try.prog 82 := own_of (by kernel_rfl)
theorem own83 : Own Try.prog 83 := own_of (by kernel_rfl)
theorem own84 : Own Try.prog 84 := own_of (by kernel_rfl)
theorem own85 : Own Try.prog 85 := own_of (by kernel_rfl)
theorem own86 : Own Try.prog 86 := own_of (by kernel_rfl)
theorem own87 : Own Try.prog 87 := own_of (by kernel_rfl)
theorem own88 : Own Try.prog 88 := own_of (by kernel_rfl)
theorem own89 : Own Try.prog 89 := own_of (by kernel_rfl)
theorem own90 : Own Try.prog 90 := own_of (by kernel_rfl)
theorem own91 : Own Try.prog 91 := own_of (by kernel_rfl)
theorem own92 : Own Try.prog 92 := own_of (by kernel_rfl)
theorem own93 : Own Try.prog 93 := own_of (by kernel_rfl)
theorem own94 : Own Try.prog 94 := own_of (by kernel_rfl)
theorem own95 : Own Try.prog 95 := own_of (by kernel_rfl)
theorem own96 : Own Try.prog 96 := own_of (by kernel_rfl)
theorem own97 : Own Try.prog 97 := own_of (by kernel_rfl)
theorem own99 : Own Try.prog 99 := own_of (by kernel_rfl)
theorem own100 : Own Try.prog 100 := own_of (by kernel_rfl)
theorem own101 : Own Try.prog 101 := own_of (by kernel_rfl)
theorem own102 : Own Try.prog 102 := own_of (by kernel_rfl)
theorem own103 : Own Try.prog 103 := own_of (by kernel_rfl)
theorem own104 : Own Try.prog 104 := own_of (by kernel_rfl)
theorem own105 : Own Try.prog 105 := own_of (by kernel_rfl)
theorem own106 : Own Try.prog 106 := own_of (by kernel_rfl)
theorem own107 : Own Try.prog 107 := own_of (by kernel_rfl)
theorem own109 : Own Try.prog 109 := own_of (by kernel_rfl)
theorem own110 : Own Try.prog 110 := own_of (by kernel_rfl)
theorem own111 : Own Try.prog 111 := own_of (by kernel_rfl)
theorem own112 : Own Try.prog 112 := own_of (by kernel_rfl)
instance : FA Try.prog 31 0 0 := ⟨_, _, _, Try.underlying31, rfl, rfl, sz9⟩
instance : FA Try.prog 31 1 1 := ⟨_, _, _, Try.underlying31, rfl, rfl, sz22⟩
instance : FA Try.prog 31 2 2 := ⟨_, _, _, Try.underlying31, rfl, rfl, sz3⟩
instance : FA Try.prog 31 3 3 := ⟨_, _, _, Try.underlying31, rfl, rfl, sz23⟩
instance : FA Try.prog 31 4 4 := ⟨_, _, _, Try.underlying31, rfl, rfl, sz24⟩
instance : FA Try.prog 31 5 5 := ⟨_, _, _, Try.underlying31, rfl, rfl, sz25⟩
instance : FA Try.prog 31 6 6 := ⟨_, _, _, Try.underlying31, rfl, rfl, sz26⟩
instance : FA Try.prog 31 7 7 := ⟨_, _, _, Try.underlying31, rfl, rfl, sz27⟩
instance : FA Try.prog 31 8 8 := ⟨_, _, _, Try.underlying31, rfl, rfl, sz28⟩
instance : FA Try.prog 31 9 9 := ⟨_, _, _, Try.underlying31, rfl, rfl, sz29⟩
instance : FA Try.prog 31 10 10 := ⟨_, _, _, Try.underlying31, rfl, rfl, sz3⟩
instance : FA Try.prog 36 0 0 := ⟨_, _, _, Try.underlying36, rfl, rfl, sz3⟩
instance : FA Try.prog 36 1 1 := ⟨_, _, _, Try.underlying36, rfl, rfl, sz32⟩
instance : FA Try.prog 36 2 2 := ⟨_, _, _, Try.underlying36, rfl, rfl, sz33⟩
instance : FA Try.prog 36 3 3 := ⟨_, _, _, Try.underlying36, rfl, rfl, sz34⟩
instance : FA Try.prog 42 0 0 := ⟨_, _, _, Try.underlying42, rfl, rfl, sz3⟩
instance : FA Try.prog 42 1 1 := ⟨_, _, _, Try.underlying42, rfl, rfl, sz3⟩
instance : FA Try.prog 46 0 0 := ⟨_, _, _, Try.underlying46, rfl, rfl, sz3⟩
instance : FA Try.prog 46 1 1 := ⟨_, _, _, Try.underlying46, rfl, rfl, sz3⟩
instance : FA Try.prog 46 2 2 := ⟨_, _, _, Try.underlying46, rfl, rfl, sz42⟩
instance : FA Try.prog 58 0 0 := ⟨_, _, _, Try.underlying58, rfl, rfl, sz9⟩
instance : FA Try.prog 58 1 1 := ⟨_, _, _, Try.underlying58, rfl, rfl, sz3⟩
instance : FA Try.prog 58 2 2 := ⟨_, _, _, Try.underlying58, rfl, rfl, sz3⟩
instance : FA Try.prog 58 3 3 := ⟨_, _, _, Try.underlying58, rfl, rfl, sz3⟩
instance : FA Try.prog 58 4 4 := ⟨_, _, _, Try.underlying58, rfl, rfl, sz3⟩
instance : FA Try.prog 63 0 0 := ⟨_, _, _, Try.underlying63, rfl, rfl, sz9⟩
instance : FA Try.prog 63 1 1 := ⟨_, _, _, Try.underlying63, rfl, rfl, sz3⟩
instance : FA Try.prog 63 2 2 := ⟨_, _, _, Try.underlying63, rfl, rfl, sz3⟩
instance : FA Try.prog 63 3 3 := ⟨_, _, _, Try.underlying63, rfl, rfl, sz3⟩
instance : FA Try.prog 63 4 4 := ⟨_, _, _, Try.underlying63, rfl, rfl, sz60⟩
instance : FA Try.prog 63 5 5 := ⟨_, _, _, Try.underlying63, rfl, rfl, sz29⟩
instance : FA Try.prog 63 6 6 := ⟨_, _, _, Try.underlying63, rfl, rfl, sz3⟩
instance : FA Try.prog 63 7 7 := ⟨_, _, _, Try.underlying63, rfl, rfl, sz3⟩
instance : FA Try.prog 63 8 8 := ⟨_, _, _, Try.underlying63, rfl, rfl, sz3⟩
instance : FA Try.prog 63 9 9 := ⟨_, _, _, Try.underlying63, rfl, rfl, sz3⟩
instance : FA Try.prog 63 10 10 := ⟨_, _, _, Try.underlying63, rfl, rfl, sz3⟩
instance : FA Try.prog 70 0 0 := ⟨_, _, _, Try.underlying70, rfl, rfl, sz3⟩
instance : FA Try.prog 70 1 1 := ⟨_, _, _, Try.underlying70, rfl, rfl, sz38⟩
instance : FA Try.prog 70 2 2 := ⟨_, _, _, Try.underlying70, rfl, rfl, sz29⟩
instance : FA Try.prog 70 5 5 := ⟨_, _, _, Try.underlying70, rfl, rfl, sz29⟩
instance : FA Try.prog 70 6 6 := ⟨_, _, _, Try.underlying70, rfl, rfl, sz29⟩
instance : FA Try.prog 74 0 0 := ⟨_, _, _, Try.underlying74, rfl, rfl, sz3⟩
instance : FA Try.prog 74 1 1 := ⟨_, _, _, Try.underlying74, rfl, rfl, sz3⟩
instance : FA Try.prog 74 2 2 := ⟨_, _, _, Try.underlying74, rfl, rfl, sz3⟩
instance : FA Try.prog 79 0 0 := ⟨_, _, _, Try.underlying79, rfl, rfl, sz42⟩
instance : FA Try.prog 79 1 2 := ⟨_, _, _, Try.underlying79, rfl, rfl, sz3⟩
instance : FA Try.prog 79 2 3 := ⟨_, _, _, Try.underlying79, rfl, rfl, sz42⟩
instance : FA Try.prog 82 0 0 := ⟨_, _, _, Try.underlying82, rfl, rfl, sz3⟩
instance : FA Try.prog 82 1 1 := ⟨_, _, _, Try.underlying82, rfl, rfl, sz3⟩
instance : FA Try.prog 93 0 0 := ⟨_, _, _, Try.underlying93, rfl, rfl, sz3⟩
instance : FA Try.prog 93 1 1 := ⟨_, _, _, Try.underlying93, rfl, rfl, sz3⟩
instance : FA Try.prog 93 2 2 := ⟨_, _, _, Try.underlying93, rfl, rfl, sz42⟩
instance : FA Try.prog 114 0 0 := ⟨_, _, _, Try.underlying114, rfl, rfl, sz3⟩
instance : FA Try.prog 114 1 1 := ⟨_, _, _, Try.underlying114, rfl, rfl, sz3⟩
instance : FA Try.prog 114 3 3 := ⟨_, _, _, Try.underlying114, rfl, rfl, sz4⟩
instance : FA Try.prog 130 0 0 := ⟨_, _, _, Try.underlying130, rfl, rfl, sz60⟩
instance : FA Try.prog 130 1 1 := ⟨_, _, _, Try.underlying130, rfl, rfl, sz60⟩
instance : FA Try.prog 132 0 0 := ⟨_, _, _, Try.underlying132, rfl, rfl, sz9⟩
instance : FA Try.prog 132 1 1 := ⟨_, _, _, Try.underlying132, rfl, rfl, sz3⟩
instance : FA Try.prog 132 2 2 := ⟨_, _, _, Try.underlying132, rfl, rfl, sz3⟩
instance : FA Try.prog 132 3 3 := ⟨_, _, _, Try.underlying132, rfl, rfl, sz3⟩
instance : FA Try.prog 132 4 4 := ⟨_, _, _, Try.underlying132, rfl, rfl, sz60⟩
instance : FA Try.prog 132 6 7 := ⟨_, _, _, Try.underlying132, rfl, rfl, sz3⟩
instance : FA Try.prog 132 7 8 := ⟨_, _, _, Try.underlying132, rfl, rfl, sz3⟩
instance : FA Try.prog 132 8 9 := ⟨_, _, _, Try.underlying132, rfl, rfl, sz3⟩
instance : FA Try.prog 132 9 10 := ⟨_, _, _, Try.underlying132, rfl, rfl, sz3⟩
instance : FA Try.prog 132 10 11 := ⟨_, _, _, Try.underlying132, rfl, rfl, sz3⟩
instance : FA Try.prog 132 11 12 := ⟨_, _, _, Try.underlying132, rfl, rfl, sz3⟩
instance : FA Try.prog 132 12 13 := ⟨_, _, _, Try.underlying132, rfl, rfl, sz3⟩
instance : FA Try.prog 132 13 14 := ⟨_, _, _, Try.underlying132, rfl, rfl, sz3⟩
instance : FA Try.prog 132 14 15 := ⟨_, _, _, Try.underlying132, rfl, rfl, sz3⟩
instance : FA Try.prog 132 15 16 := ⟨_, _, _, Try.underlying132, rfl, rfl, sz3⟩
instance : FA Try.prog 132 16 17 := ⟨_, _, _, Try.underlying132, rfl, rfl, sz3⟩
instance : FA Try.prog 134 0 0 := ⟨_, _, _, Try.underlying134, rfl, rfl, sz9⟩
instance : FA Try.prog 134 1 1 := ⟨_, _, _, Try.underlying134, rfl, rfl, sz3⟩
instance : FA Try.prog 134 2 2 := ⟨_, _, _, Try.underlying134, rfl, rfl, sz3⟩
instance : FA Try.prog 134 3 3 := ⟨_, _, _, Try.underlying134, rfl, rfl, sz3⟩
instance : FA Try.prog 134 4 4 := ⟨_, _, _, Try.underlying134, rfl, rfl, sz3⟩
instance : FA Try.prog 134 5 5 := ⟨_, _, _, Try.underlying134, rfl, rfl, sz3⟩
instance : FA Try.prog 134 6 6 := ⟨_, _, _, Try.underlying134, rfl, rfl, sz3⟩
instance : FA Try.prog 136 0 0 := ⟨_, _, _, Try.underlying136, rfl, rfl, sz9⟩
instance : FA Try.prog 136 1 1 := ⟨_, _, _, Try.underlying136, rfl, rfl, sz3⟩
instance : FA Try.prog 138 0 0 := ⟨_, _, _, Try.underlying138, rfl, rfl, sz9⟩
instance : FA Try.prog 138 1 1 := ⟨_, _, _, Try.underlying138, rfl, rfl, sz3⟩
instance : FA Try.prog 138 2 2 := ⟨_, _, _, Try.underlying138, rfl, rfl, sz3⟩
instance : FA Try.prog 138 3 3 := ⟨_, _, _, Try.underlying138, rfl, rfl, sz3⟩
instance : FA Try.prog 138 4 4 := ⟨_, _, _, Try.underlying138, rfl, rfl, sz3⟩
instance : FA Try.prog 138 5 5 := ⟨_, _, _, Try.underlying138, rfl, rfl, sz3⟩
instance : FA Try.prog 138 6 6 := ⟨_, _, _, Try.underlying138, rfl, rfl, sz3⟩
instance : FA Try.prog 142 0 0 := ⟨_, _, _, Try.underlying142, rfl, rfl, sz3⟩
instance : FA Try.prog 142 1 1 := ⟨_, _, _, Try.underlying142, rfl, rfl, sz3⟩
instance : FA Try.prog 152 0 0 := ⟨_, _, _, Try.underlying152, rfl, rfl, sz3⟩
instance : FA Try.prog 152 1 1 := ⟨_, _, _, Try.underlying152, rfl, rfl, sz3⟩
instance : FA Try.prog 152 2 2 := ⟨_, _, _, Try.underlying152, rfl, rfl, sz29⟩
instance : NA Try.prog 3 := ⟨_, Try.underlying3, rfl⟩
instance : NA Try.prog 4 := ⟨_, Try.underlying4, rfl⟩
instance : NA Try.prog 9 := ⟨_, Try.underlying9, rfl⟩
instance : NA Try.prog 22 := ⟨_, Try.underlying22, rfl⟩
instance : NA Try.prog 23 := ⟨_, Try.underlying23, rfl⟩
instance : NA Try.prog 24 := ⟨_, Try.underlying24, rfl⟩
instance : NA Try.prog 25 := ⟨_, Try.underlying25, rfl⟩
instance : NA Try.prog 26 := ⟨_, Try.underlying26, rfl⟩
instance : NA Try.prog 27 := ⟨_, Try.underlying27, rfl⟩
instance : NA Try.prog 28 := ⟨_, Try.underlying28, rfl⟩
instance : NA Try.prog 29 := ⟨_, Try.underlying29, rfl⟩
instance : AG Try.prog 31 11 := ⟨_, Try.underlying31, rfl, sz31⟩
instance : NA Try.prog 32 := ⟨_, Try.underlying32, rfl⟩
instance : NA Try.prog 33 := ⟨_, Try.underlying33, rfl⟩
instance : NA Try.prog 34 := ⟨_, Try.underlying34, rfl⟩
instance : AG Try.prog 36 4 := ⟨_, Try.underlying36, rfl, sz36⟩
instance : NA Try.prog 38 := ⟨_, Try.underlying38, rfl⟩
instance : AG Try.prog 42 2 := ⟨_, Try.underlying42, rfl, sz42⟩
instance : AG Try.prog 46 4 := ⟨_, Try.underlying46, rfl, sz46⟩
instance : AG Try.prog 58 5 := ⟨_, Try.underlying58, rfl, sz58⟩
instance : NA Try.prog 60 := ⟨_, Try.underlying60, rfl⟩
instance : NA Try.prog 61 := ⟨_, Try.underlying61, rfl⟩
instance : AG Try.prog 63 12 := ⟨_, Try.underlying63, rfl, sz63⟩
instance : NA Try.prog 67 := ⟨_, Try.underlying67, rfl⟩
instance : NA Try.prog 68 := ⟨_, Try.underlying68, rfl⟩
instance : AG Try.prog 79 5 := ⟨_, Try.underlying79, rfl, sz79⟩
instance : AG Try.prog 82 2 := ⟨_, Try.underlying82, rfl, sz82⟩
instance : AG Try.prog 93 4 := ⟨_, Try.underlying93, rfl, sz93⟩
instance : NA Try.prog 126 := ⟨_, Try.underlying126, rfl⟩
instance : NA Try.prog 171 := ⟨_, Try.underlying171, rfl⟩
instance : SY Try.prog 22 := ⟨_, Try.underlying22⟩
instance : SY Try.prog 23 := ⟨_, Try.underlying23⟩
instance : SY Try.prog 24 := ⟨_, Try.underlying24⟩
instance : SY Try.prog 25 := ⟨_, Try.underlying25⟩
instance : SY Try.prog 26 := ⟨_, Try.underlying26⟩
instance : SY Try.prog 27 := ⟨_, Try.underlying27⟩
instance : SY Try.prog 28 := ⟨_, Try.underlying28⟩
instance : SY Try.prog 29 := ⟨_, Try.underlying29⟩
instance : SY Try.prog 32 := ⟨_, Try.underlying32⟩
instance : SY Try.prog 33 := ⟨_, Try.underlying33⟩
instance : SY Try.prog 34 := ⟨_, Try.underlying34⟩
instance : SY Try.prog 37 := ⟨_, Try.underlying37⟩
instance : SY Try.prog 38 := ⟨_, Try.underlying38⟩
instance : SY Try.prog 60 := ⟨_, Try.underlying60⟩
instance : SY Try.prog 61 := ⟨_, Try.underlying61⟩
instance : SY Try.prog 67 := ⟨_, Try.underlying67⟩
instance : SY Try.prog 68 := ⟨_, Try.underlying68⟩
instance : SY Try.prog 71 := ⟨_, Try.underlying71⟩
instance : SY Try.prog 167 := ⟨_, Try.underlying167⟩
instance : SZ Try.prog 3 1 := ⟨sz3⟩
instance : SZ Try.prog 4 1 := ⟨sz4⟩
instance : SZ Try.prog 31 11 := ⟨sz31⟩
instance : SZ Try.prog 32 1 := ⟨sz32⟩
instance : SZ Try.prog 33 1 := ⟨sz33⟩
instance : SZ Try.prog 34 1 := ⟨sz34⟩
instance : SZ Try.prog 36 4 := ⟨sz36⟩
instance : SZ Try.prog 42 2 := ⟨sz42⟩
instance : SZ Try.prog 46 4 := ⟨sz46⟩
instance : SZ Try.prog 58 5 := ⟨sz58⟩
instance : SZ Try.prog 63 12 := ⟨sz63⟩
instance : SZ Try.prog 79 5 := ⟨sz79⟩
instance : SZ Try.prog 82 2 := ⟨sz82⟩
instance : SZ Try.prog 93 4 := ⟨sz93⟩
instance : ZL Try.prog 3 [iV 0] := ⟨_, zero3, rfl⟩
instance : ZL Try.prog 4 [.bool false] := ⟨_, zero4, rfl⟩
instance : ZL Try.prog 31 [.string (bs ([])), nS, iV 0, nS, nS, nS, nS, nS, nS, nS, iV 0] := ⟨_, zero31, rfl⟩
instance : ZL Try.prog 36 [iV 0, nS, nS, nS] := ⟨_, zero36, rfl⟩
instance : ZL Try.prog 42 [iV 0, iV 0] := ⟨_, zero42, rfl⟩
instance : ZL Try.prog 46 [iV 0, iV 0, iV 0, iV 0] := ⟨_, zero46, rfl⟩
instance : ZL Try.prog 58 [.string (bs ([])), iV 0, iV 0, iV 0, iV 0] := ⟨_, zero58, rfl⟩
instance : ZL Try.prog 63 [.string (bs ([])), iV 0, iV 0, iV 0, nS, nS, iV 0, iV 0, iV 0, iV 0, iV 0, nS] := ⟨_, zero63, rfl⟩
instance : ZL Try.prog 79 [iV 0, iV 0, iV 0, iV 0, iV 0] := ⟨_, zero79, rfl⟩
instance : ZL Try.prog 82 [iV 0, iV 0] := ⟨_, zero82, rfl⟩
instance : ZL Try.prog 93 [iV 0, iV 0, iV 0, iV 0] := ⟨_, zero93, rfl⟩
theorem bitLen_b {y : Nat} (h0 : 0 < y) (h : y < 18446744073709551616) : 1 ≤ Lib.bitLen y ∧ Lib.bitLen y ≤ 64 ∧ 2 ^ (Lib.bitLen y - 1) ≤ y ∧ y < 2 ^ Lib.bitLen y := by
 obtain ⟨h1, h2, h3⟩ := Lib.bitLenAux_bounds 64 y (by omega) (by omega)
 refine ⟨h1, ?_, h2, h3⟩
 show Lib.bitLenAux 64 y ≤ 64
 have h4 : 2 ^ (Lib.bitLenAux 64 y - 1) < 2 ^ 64 := Nat.lt_of_le_of_lt h2 (by omega)
 have := (Nat.pow_lt_pow_iff_right (by omega)).1 h4
 omega
theorem kn_dec {q a r U : Nat} (h : q * a + r = U) (hq : 1 ≤ q) : (q - 1) * a + (r + a) = U := by
 obtain ⟨j, rfl⟩ : ∃ j, q = j + 1 := ⟨q - 1, by omega⟩
 rw [Nat.add_mul, Nat.one_mul] at h
 rw [Nat.add_sub_cancel]
 omega
theorem joinU {hi lo sh : Nat} (hs : sh ≤ 64) (hlo : lo < 18446744073709551616) : hi * 2 ^ sh ||| lo / 2 ^ (64 - sh) = hi * 2 ^ sh + lo / 2 ^ (64 - sh) ∧ lo / 2 ^ (64 - sh) < 2 ^ sh := by
 have h1 : lo / 2 ^ (64 - sh) < 2 ^ sh := by
  rw [Nat.div_lt_iff_lt_mul (Nat.two_pow_pos _), ← Nat.pow_add, show sh + (64 - sh) = 64 by omega]; omega
 exact ⟨nat_join sh _ _ (Nat.mul_mod_left _ _) h1, h1⟩
theorem Mul64_c (w : World) (Φ : Hp) (hΦ : Hp.le Φ (hp w)) {x y : Nat} (hx : x < 18446744073709551616) (hy : y < 18446744073709551616) :
  Calls Try.prog 96 #[.int .u64 (x : Int), .int .u64 (y : Int)] w fun e w' => e = .returned (.tuple #[.int .u64 ((x * y / 18446744073709551616 : Nat) : Int), .int .u64 ((x * y % 18446744073709551616 : Nat) : Int)]) ∧ Bel w.heap.size w w' := by
 refine calls_of_AW (args := [.int .u64 (x : Int), .int .u64 (y : Int)]) Try.func96 rfl (Nat.le_of_ble_eq_true rfl) (St ⟨w, Φ, []⟩ Φ []) (StP.init w Φ hΦ []) ?_
 show AW Try.prog 51 [] _ _ _ [(0, .int .u64 (x : Int)), (1, .int .u64 (y : Int))] _
 obtain ⟨bd, bt, bw, hhi⟩ := Lib.mul64_hi x y hx hy
 have ba := Lib.half_mul_le (a := x / 4294967296) (b := y / 4294967296) (by omega) (by omega)
 have bb := Lib.half_mul_le (a := x / 4294967296) (b := y % 4294967296) (by omega) (by omega)
 have bc := Lib.half_mul_le (a := x % 4294967296) (b := y / 4294967296) (by omega) (by omega)
 refine g9 ?_
 refine RW.q (v := .int .u64 ((x % 4294967296 : Nat) : Int)) rfl (q_maskU (a := x) rfl rfl (by omega)) ?_
 refine g6 ?_
 refine RW.q (v := .int .u64 ((x / 4294967296 : Nat) : Int)) rfl (q_shr32U (a := x) rfl rfl) ?_
 refine g6 ?_
 refine RW.q (v := .int .u64 ((y % 4294967296 : Nat) : Int)) rfl (q_maskU (a := y) rfl rfl (by omega)) ?_
 refine g6 ?_
 refine RW.q (v := .int .u64 ((y / 4294967296 : Nat) : Int)) rfl (q_shr32U (a := y) rfl rfl) ?_
 refine g7 ?_
 refine RW.q (v := .int .u64 (((x % 4294967296) * (y % 4294967296) : Nat) : Int)) rfl (q_mulU (a := (x % 4294967296)) (b := (y % 4294967296)) rfl rfl (Nat.mod_eq_of_lt (by omega))) ?_
 refine g7 ?_
 refine RW.q (v := .int .u64 (((x / 4294967296) * (y % 4294967296) : Nat) : Int)) rfl (q_mulU (a := (x / 4294967296)) (b := (y % 4294967296)) rfl rfl (Nat.mod_eq_of_lt (by omega))) ?_
 refine g1 ?_
 refine RW.q (v := .int .u64 ((((x % 4294967296) * (y % 4294967296)) / 4294967296 : Nat) : Int)) rfl (q_shr32U (a := ((x % 4294967296) * (y % 4294967296))) rfl rfl) (RW.q (v := .int .u64 ((((x / 4294967296) * (y % 4294967296)) + (((x % 4294967296) * (y % 4294967296)) / 4294967296) : Nat) : Int)) rfl (q_addU (a := ((x / 4294967296) * (y % 4294967296))) (b := (((x % 4294967296) * (y % 4294967296)) / 4294967296)) rfl rfl (Nat.mod_eq_of_lt (by omega))) ?_)
 refine g6 ?_
 refine RW.q (v := .int .u64 (((((x / 4294967296) * (y % 4294967296)) + (((x % 4294967296) * (y % 4294967296)) / 4294967296)) % 4294967296 : Nat) : Int)) rfl (q_maskU (a := (((x / 4294967296) * (y % 4294967296)) + (((x % 4294967296) * (y % 4294967296)) / 4294967296))) rfl rfl (by omega)) ?_
 refine g6 ?_
 refine RW.q (v := .int .u64 (((((x / 4294967296) * (y % 4294967296)) + (((x % 4294967296) * (y % 4294967296)) / 4294967296)) / 4294967296 : Nat) : Int)) rfl (q_shr32U (a := (((x / 4294967296) * (y % 4294967296)) + (((x % 4294967296) * (y % 4294967296)) / 4294967296))) rfl rfl) ?_
 refine g8 ?_
 refine RW.q (v := .int .u64 (((x % 4294967296) * (y / 4294967296) : Nat) : Int)) rfl (q_mulU (a := (x % 4294967296)) (b := (y / 4294967296)) rfl rfl (Nat.mod_eq_of_lt (by omega))) (RW.q (v := .int .u64 ((((((x / 4294967296) * (y % 4294967296)) + (((x % 4294967296) * (y % 4294967296)) / 4294967296)) % 4294967296) + ((x % 4294967296) * (y / 4294967296)) : Nat) : Int)) rfl (q_addU (a := ((((x / 4294967296) * (y % 4294967296)) + (((x % 4294967296) * (y % 4294967296)) / 4294967296)) % 4294967296)) (b := ((x % 4294967296) * (y / 4294967296))) rfl rfl (Nat.mod_eq_of_lt (by omega))) ?_)
 refine g7 ?_
 refine RW.q (v := .int .u64 (((x / 4294967296) * (y / 4294967296) : Nat) : Int)) rfl (q_mulU (a := (x / 4294967296)) (b := (y / 4294967296)) rfl rfl (Nat.mod_eq_of_lt (by omega))) ?_
 refine g1 ?_
 refine RW.q (v := .int .u64 ((((x / 4294967296) * (y / 4294967296)) + ((((x / 4294967296) * (y % 4294967296)) + (((x % 4294967296) * (y % 4294967296)) / 4294967296)) / 4294967296) : Nat) : Int)) rfl (q_addU (a := ((x / 4294967296) * (y / 4294967296))) (b := ((((x / 4294967296) * (y % 4294967296)) + (((x % 4294967296) * (y % 4294967296)) / 4294967296)) / 4294967296)) rfl rfl (Nat.mod_eq_of_lt (by omega))) ?_
 refine g1 ?_
 refine RW.q (v := .int .u64 (((((((x / 4294967296) * (y % 4294967296)) + (((x % 4294967296) * (y % 4294967296)) / 4294967296)) % 4294967296) + ((x % 4294967296) * (y / 4294967296))) / 4294967296 : Nat) : Int)) rfl (q_shr32U (a := (((((x / 4294967296) * (y % 4294967296)) + (((x % 4294967296) * (y % 4294967296)) / 4294967296)) % 4294967296) + ((x % 4294967296) * (y / 4294967296)))) rfl rfl) (RW.q (v := .int .u64 (((((x / 4294967296) * (y / 4294967296)) + ((((x / 4294967296) * (y % 4294967296)) + (((x % 4294967296) * (y % 4294967296)) / 4294967296)) / 4294967296)) + ((((((x / 4294967296) * (y % 4294967296)) + (((x % 4294967296) * (y % 4294967296)) / 4294967296)) % 4294967296) + ((x % 4294967296) * (y / 4294967296))) / 4294967296) : Nat) : Int)) rfl (q_addU (a := (((x / 4294967296) * (y / 4294967296)) + ((((x / 4294967296) * (y % 4294967296)) + (((x % 4294967296) * (y % 4294967296)) / 4294967296)) / 4294967296))) (b := ((((((x / 4294967296) * (y % 4294967296)) + (((x % 4294967296) * (y % 4294967296)) / 4294967296)) % 4294967296) + ((x % 4294967296) * (y / 4294967296))) / 4294967296)) rfl rfl (Nat.mod_eq_of_lt (by omega))) ?_)
 refine g7 ?_
 refine RW.q (v := .int .u64 ((x * y % 18446744073709551616 : Nat) : Int)) rfl (q_mulU (a := x) (b := y) rfl rfl rfl) ?_
 refine g4 ?_
 refine fin_out2 (v := .int .u64 (((((x / 4294967296) * (y / 4294967296)) + ((((x / 4294967296) * (y % 4294967296)) + (((x % 4294967296) * (y % 4294967296)) / 4294967296)) / 4294967296)) + ((((((x / 4294967296) * (y % 4294967296)) + (((x % 4294967296) * (y % 4294967296)) / 4294967296)) % 4294967296) + ((x % 4294967296) * (y / 4294967296))) / 4294967296) : Nat) : Int)) (u := .int .u64 ((x * y % 18446744073709551616 : Nat) : Int)) rfl rfl rfl rfl (fun w' hw => ?_)
 refine ⟨?_, hw.below rfl⟩
 rw [← hhi]
theorem LeadingZeros64_c (w : World) (Φ : Hp) (hΦ : Hp.le Φ (hp w)) {y : Nat} (h0 : 0 < y) (hy : y < 18446744073709551616) :
  Calls Try.prog 107 #[.int .u64 (y : Int)] w fun e w' => e = .returned (iV ((64 - Lib.bitLen y : Nat) : Int)) ∧ Bel w.heap.size w w' := by
 refine calls_of_AW (args := [.int .u64 (y : Int)]) Try.func107 rfl (Nat.le_of_ble_eq_true rfl) (St ⟨w, Φ, []⟩ Φ []) (StP.init w Φ hΦ []) ?_
 show AW Try.prog 6 [] _ _ _ [(0, .int .u64 (y : Int))] _
 obtain ⟨hl1, hl2, _, _⟩ := bitLen_b h0 hy
 refine g8 ?_
 refine RW.q (v := iV ((Lib.bitLen y : Nat) : Int)) rfl (q_call (args := #[.int .u64 (y : Int)]) own111 rfl rfl (fun w1 hw1 => (Try.bits_Len64 (y : Nat) w1 (by omega) (by omega)).mono fun e w2 ⟨he, hw2⟩ => ⟨by rw [he, Int.toNat_natCast], by rw [hw2]; exact Bel.refl _ _⟩)) (RW.q (v := iV ((64 - Lib.bitLen y : Nat) : Int)) rfl (q_sub rfl rfl (by omega) (by unfold I64; omega)) (RW.q (v := iV ((64 - Lib.bitLen y : Nat) : Int)) rfl (q_assign rfl) (RW.nil (Post.then_n (AW.ret ?_)))))
 exact fin_val (v' := iV ((64 - Lib.bitLen y : Nat) : Int)) rfl rfl rfl (rfl)
theorem Div64_c (w : World) (Φ : Hp) (hΦ : Hp.le Φ (hp w)) {hi lo y : Nat} (hhi : hi < y) (hlo : lo < 18446744073709551616) (hy : y < 18446744073709551616) :
  Calls Try.prog 97 #[.int .u64 (hi : Int), .int .u64 (lo : Int), .int .u64 (y : Int)] w fun e w' => e = .returned (.tuple #[.int .u64 (((hi * 18446744073709551616 + lo) / y : Nat) : Int), .int .u64 (((hi * 18446744073709551616 + lo) % y : Nat) : Int)]) ∧ Bel w.heap.size w w' := by
 refine calls_of_AW (args := [.int .u64 (hi : Int), .int .u64 (lo : Int), .int .u64 (y : Int)]) Try.func97 rfl (Nat.le_of_ble_eq_true rfl) (St ⟨w, Φ, []⟩ Φ []) (StP.init w Φ hΦ []) ?_
 show AW Try.prog 135 [] _ _ _ [(0, .int .u64 (hi : Int)), (1, .int .u64 (lo : Int)), (2, .int .u64 (y : Int))] _
 refine g13 ?_
 refine AW.cond rfl (fun hc1 => ?_) fun hc1 => ?_
 ·
  simp [-List.getD_eq_getElem?_getD] at hc1
  omega
 ·
  simp [-List.getD_eq_getElem?_getD] at hc1
  refine g10 ?_
  refine AW.cond rfl (fun hc2 => ?_) fun hc2 => ?_
  ·
   simp [-List.getD_eq_getElem?_getD] at hc2
   omega
  ·
   simp [-List.getD_eq_getElem?_getD] at hc2
   refine g9 ?_
   refine AW.cond rfl (fun hc3 => ?_) fun hc3 => ?_
   ·
    simp [-List.getD_eq_getElem?_getD] at hc3
    refine g1 ?_
    refine AW.draw (J0 := St ⟨w, Φ, []⟩ Φ []) [.q, .q, .q, .q, .q, .q, .q, .q] [0, 1, 2, 3, 4, 5, 6, 7] hmix (by kernel_rfl) ?_
    refine g2 ?_
    refine DW.q (v := .int .u64 ((lo / y : Nat) : Int)) (fun _ h => h) rfl (q_quoU (a := lo) (b := y) rfl rfl (by omega) (by omega)) ?_
    refine g2 ?_
    refine DW.q (v := .int .u64 ((lo % y : Nat) : Int)) (fun _ h => h) rfl (q_remU (a := lo) (b := y) rfl rfl (by omega)) ?_
    refine g6 ?_
    refine fin_out2 (v := .int .u64 ((lo / y : Nat) : Int)) (u := .int .u64 ((lo % y : Nat) : Int)) rfl rfl rfl rfl (fun w' hw => ?_)
    refine ⟨?_, hw.below rfl⟩
    have hi0 : hi = 0 := by omega
    rw [hi0, Nat.zero_mul, Nat.zero_add]
   ·
    simp [-List.getD_eq_getElem?_getD] at hc3
    refine g3 ?_
    have hy0 : 0 < y := by omega
    obtain ⟨hl1, hl2, hl3, hl4⟩ := bitLen_b hy0 hy
    obtain ⟨sh, hsh⟩ : ∃ sh, 64 - Lib.bitLen y = sh := ⟨_, rfl⟩
    have hs64 : sh ≤ 64 := by omega
    obtain ⟨Y, hY⟩ : ∃ Y, y * 2 ^ sh = Y := ⟨_, rfl⟩
    have hnz := Nums.le_of_lz hl3 hl4 hl1 hl2
    rw [hsh, hY] at hnz
    obtain ⟨hj1, hj2⟩ := joinU (hi := hi) hs64 hlo
    have hlq0 := Nat.zero_le (lo / 2 ^ (64 - sh))
    obtain ⟨U, hU⟩ : ∃ U, hi * 2 ^ sh + lo / 2 ^ (64 - sh) = U := ⟨_, rfl⟩
    have hhY : hi * 2 ^ sh + 2 ^ sh ≤ Y := by rw [← hY]; have := Nat.mul_le_mul_right (2 ^ sh) (show hi + 1 ≤ y by omega); rwa [Nat.add_mul, Nat.one_mul] at this
    have hUY : U < Y := by omega
    obtain ⟨V, hV⟩ : ∃ V, lo * 2 ^ sh % 18446744073709551616 = V := ⟨_, rfl⟩
    have hVl : V < 18446744073709551616 := by rw [← hV]; exact Nat.mod_lt _ (by omega)
    obtain ⟨Y1, hY1⟩ : ∃ n, Y / 4294967296 = n := ⟨_, rfl⟩
    obtain ⟨Y0, hY0⟩ : ∃ n, Y % 4294967296 = n := ⟨_, rfl⟩
    obtain ⟨W1, hW1⟩ : ∃ n, V / 4294967296 = n := ⟨_, rfl⟩
    obtain ⟨W0, hW0⟩ : ∃ n, V % 4294967296 = n := ⟨_, rfl⟩
    have hyd : Y = Y1 * 4294967296 + Y0 := by omega
    obtain ⟨Q1, hQ1⟩ : ∃ Q1, (U * 4294967296 + W1) / Y = Q1 := ⟨_, rfl⟩
    obtain ⟨R1, hR1⟩ : ∃ R1, (U * 4294967296 + W1) % Y = R1 := ⟨_, rfl⟩
    have hRY : R1 < Y := by rw [← hR1]; exact Nat.mod_lt _ (by omega)
    obtain ⟨Q0, hQ0⟩ : ∃ Q0, (R1 * 4294967296 + W0) / Y = Q0 := ⟨_, rfl⟩
    obtain ⟨R0, hR0⟩ : ∃ R0, (R1 * 4294967296 + W0) % Y = R0 := ⟨_, rfl⟩
    have hQ1l : Q1 < 4294967296 := by rw [← hQ1, Nat.div_lt_iff_lt_mul (by omega)]; omega
    have hQ0l : Q0 < 4294967296 := by rw [← hQ0, Nat.div_lt_iff_lt_mul (by omega)]; omega
    have hy1p : 0 < Y1 := by omega
    refine g2 ?_
    refine RW.q (v := iV (sh : Int)) rfl (q_as (v := iV ((64 - Lib.bitLen y : Nat) : Int)) (q_call (args := #[.int .u64 (y : Int)]) own107 rfl rfl (fun w1 hw1 => LeadingZeros64_c w1 (Go.K.hp w1) (Hp.le_refl _) (by omega) (by omega))) (congrArg (Value.int .i64) (by rw [hsh]))) (RW.q (v := .int .u64 (sh : Int)) rfl (q_toU (r := sh) rfl Try.underlying3 Try.underlying156 rfl (by omega)) ?_)
    refine g7 ?_
    refine RW.q (v := .int .u64 (Y : Int)) rfl (q_shlU (a := y) (c := sh) rfl rfl (by omega) (by rw [hY]; exact Nat.mod_eq_of_lt (by omega))) ?_
    refine g6 ?_
    refine RW.q (v := .int .u64 (Y1 : Int)) rfl (q_as (v := .int .u64 ((Y / 4294967296 : Nat) : Int)) (q_shr32U (a := Y) rfl rfl) (congrArg (Value.int .u64) (by rw [hY1]))) ?_
    refine g6 ?_
    refine RW.q (v := .int .u64 (Y0 : Int)) rfl (q_as (v := .int .u64 ((Y % 4294967296 : Nat) : Int)) (q_maskU (a := Y) rfl rfl (by omega)) (congrArg (Value.int .u64) (by rw [hY0]))) ?_
    refine g7 ?_
    refine RW.q (v := .int .u64 ((hi * 2 ^ sh : Nat) : Int)) rfl (q_shlU (a := hi) (c := sh) rfl rfl (by omega) (Nat.mod_eq_of_lt (by omega))) ?_
    refine g2 ?_
    refine RW.q (v := .int .u64 ((64 - sh : Nat) : Int)) rfl (q_subU (a := 64) (b := sh) rfl rfl (by omega)) (RW.q (v := .int .u64 ((lo / 2 ^ (64 - sh) : Nat) : Int)) rfl (q_shrU' (a := lo) (c := (64 - sh)) rfl rfl (by omega)) (RW.q (v := .int .u64 (U : Int)) rfl (q_as (v := .int .u64 (((hi * 2 ^ sh) ||| (lo / 2 ^ (64 - sh)) : Nat) : Int)) (q_orU (a := (hi * 2 ^ sh)) (b := (lo / 2 ^ (64 - sh))) rfl rfl (by omega) (by have := Nat.div_le_self lo (2 ^ (64 - sh)); omega)) (congrArg (Value.int .u64) (by rw [hj1, hU]))) ?_))
    refine g7 ?_
    refine RW.q (v := .int .u64 (V : Int)) rfl (q_shlU (a := lo) (c := sh) rfl rfl (by omega) hV) ?_
    refine g6 ?_
    refine RW.q (v := .int .u64 (W1 : Int)) rfl (q_as (v := .int .u64 ((V / 4294967296 : Nat) : Int)) (q_shr32U (a := V) rfl rfl) (congrArg (Value.int .u64) (by rw [hW1]))) ?_
    refine g6 ?_
    refine RW.q (v := .int .u64 (W0 : Int)) rfl (q_as (v := .int .u64 ((V % 4294967296 : Nat) : Int)) (q_maskU (a := V) rfl rfl (by omega)) (congrArg (Value.int .u64) (by rw [hW0]))) ?_
    refine g4 ?_
    have hf1 := Nums.kn_first (u := U) (d := W1) hyd hy1p (by omega)
    rw [hQ1] at hf1
    have hf2 := Nums.kn_top (u := U) (B := 4294967296) hyd (by omega) (by omega) hUY hy1p
    have hf3 : U / (Y1) * (Y1) ≤ U := Nat.div_mul_le_self _ _
    have hf4 : U / (Y1) * (Y1) + U % (Y1) = U := Nat.div_add_mod' _ _
    have hf5 : U % (Y1) < Y1 := Nat.mod_lt _ hy1p
    refine g3 ?_
    refine RW.q (v := .int .u64 ((U / Y1 : Nat) : Int)) rfl (q_quoU (a := U) (b := Y1) rfl rfl (by omega) (by omega)) ?_
    refine g8 ?_
    refine RW.q (v := .int .u64 (((U / Y1) * Y1 : Nat) : Int)) rfl (q_mulU (a := (U / Y1)) (b := Y1) rfl rfl (Nat.mod_eq_of_lt (by omega))) (RW.q (v := .int .u64 ((U % (Y1) : Nat) : Int)) rfl (q_as (v := .int .u64 ((U - ((U / Y1) * Y1) : Nat) : Int)) (q_subU (a := U) (b := ((U / Y1) * Y1)) rfl rfl (by omega)) (congrArg (Value.int .u64) (by omega))) ?_)
    refine g5 ?_
    refine AW.loop (fun s J m => ∃ (q : Nat), ∃ (r : Nat), s = [(2, .int .u64 (Y : Int)), (8, .int .u64 (sh : Int)), (9, .int .u64 (Y1 : Int)), (10, .int .u64 (Y0 : Int)), (11, .int .u64 (U : Int)), (13, .int .u64 (W1 : Int)), (14, .int .u64 (W0 : Int)), (15, .int .u64 (q : Int)), (16, .int .u64 (r : Int))] ∧ J = St ⟨w, Φ, []⟩ Φ [] ∧ m = q + 0 * q ∧ (q * (Y1) + r = U) ∧ (Q1 ≤ q) ∧ (q ≤ 4294967296 + 1) ∧ (r < 4294967296)) (s0 := _) (J1 := _) (m0 := _) ⟨_, _, rfl, rfl, rfl, hf4, hf1, hf2, (by omega)⟩ ⟨rfl, rfl, rfl, rfl, rfl, rfl, rfl, rfl, rfl, trivial⟩ (fun _ h => h) ?_
    rintro _ _ _ _ ⟨q, r, rfl, rfl, rfl, hq, hQ, hqB, hr⟩
    refine g2 ?_
    have hm9 : q * (Y0) ≤ (4294967296 + 1) * 4294967295 := Nat.mul_le_mul (by omega) (by omega)
    refine g6 ?_
    refine RW.g (b := (decide (((4294967296 : Nat) : Int) ≤ (q : Int)))) (v := .int .u64 ((q * Y0 : Nat) : Int)) rfl rfl rfl (fun h => q_mulU (a := q) (b := Y0) (gv_pos h) (gv_pos h) (Nat.mod_eq_of_lt (by (try simp [-List.getD_eq_getElem?_getD] at h); omega))) ?_
    refine g1 ?_
    refine RW.g (b := (decide (((4294967296 : Nat) : Int) ≤ (q : Int)))) (v := .int .u64 ((4294967296 * r : Nat) : Int)) rfl rfl rfl (fun h => q_mulU (a := 4294967296) (b := r) rfl (gv_pos h) (Nat.mod_eq_of_lt (by (try simp [-List.getD_eq_getElem?_getD] at h); omega))) ?_
    refine g1 ?_
    refine RW.g (b := (decide (((4294967296 : Nat) : Int) ≤ (q : Int)))) (v := .int .u64 (((4294967296 * r) + W1 : Nat) : Int)) rfl rfl rfl (fun h => q_addU (a := (4294967296 * r)) (b := W1) (gv_pos h) (gv_pos h) (Nat.mod_eq_of_lt (by (try simp [-List.getD_eq_getElem?_getD] at h); omega))) ?_
    refine g1 ?_
    obtain ⟨qb1, hqb1⟩ : ∃ z : Bool, ((decide (((4294967296 : Nat) : Int) ≤ (q : Int))) || (decide ((((4294967296 * r) + W1 : Nat) : Int) < ((q * Y0 : Nat) : Int)))) = z := ⟨_, rfl⟩
    refine RW.q (v := .bool qb1) rfl (q_as (v := .bool ((decide (((4294967296 : Nat) : Int) ≤ (q : Int))) || (decide ((((4294967296 * r) + W1 : Nat) : Int) < ((q * Y0 : Nat) : Int))))) (q_pick rfl (fun hp => pkOrT hp) (fun hp => (gv_pos hp).trans (pkOrF hp))) (congrArg Value.bool hqb1)) ?_
    subst hqb1
    refine g2 ?_
    refine AW.cond rfl (fun hc4 => ?_) fun hc4 => ?_
    ·
     simp [-List.getD_eq_getElem?_getD] at hc4
     refine g4 ?_
     have hdn := Nums.kn_down (d := W1) hyd hq hUY (by omega) (by rw [hQ1]; exact hQ) (by omega)
     rw [hQ1] at hdn
     refine g2 ?_
     refine RW.q (v := .int .u64 ((q - 1 : Nat) : Int)) rfl (q_subU (a := q) (b := 1) rfl rfl (by omega)) ?_
     refine g7 ?_
     refine RW.q (v := .int .u64 ((r + Y1 : Nat) : Int)) rfl (q_addU (a := r) (b := Y1) rfl rfl (Nat.mod_eq_of_lt (by omega))) ?_
     refine g9 ?_
     refine AW.cond rfl (fun hc5 => ?_) fun hc5 => ?_
     ·
      simp [-List.getD_eq_getElem?_getD] at hc5
      refine g6 ?_
      have hqe : q - 1 = Q1 := by
       have hp9 := Nums.kn_end (d := W1) (q := q - 1) (r := r + Y1) hyd (kn_dec hq hdn.1) hUY (by rw [hQ1]; exact hdn.2) (Nums.kn_break (by omega) (by omega) (by omega))
       rw [hp9, hQ1]
      rw [hqe]
      obtain ⟨ha1, hb1⟩ := Nums.kn_rest (u := U) (d := W1) (y := Y) (B := 4294967296) (M := 18446744073709551616) (by omega) (by omega)
      rw [hQ1, hR1] at hb1
      refine g2 ?_
      refine RW.q (v := .int .u64 ((U * 4294967296 % 18446744073709551616 : Nat) : Int)) rfl (q_mulU (a := U) (b := 4294967296) rfl rfl rfl) ?_
      refine g1 ?_
      refine RW.q (v := .int .u64 (((U * 4294967296 % 18446744073709551616 + W1) % 18446744073709551616 : Nat) : Int)) rfl (q_addU (a := (U * 4294967296 % 18446744073709551616)) (b := W1) rfl rfl rfl) ?_
      refine g2 ?_
      refine RW.q (v := .int .u64 ((Q1 * Y % 18446744073709551616 : Nat) : Int)) rfl (q_mulU (a := Q1) (b := Y) rfl rfl rfl) (RW.q (v := .int .u64 (R1 : Int)) rfl (q_subU (a := ((U * 4294967296 % 18446744073709551616 + W1) % 18446744073709551616)) (b := (Q1 * Y % 18446744073709551616)) rfl rfl (by rw [ha1]; exact hb1)) ?_)
      refine g4 ?_
      have hf1 := Nums.kn_first (u := R1) (d := W0) hyd hy1p (by omega)
      rw [hQ0] at hf1
      have hf2 := Nums.kn_top (u := R1) (B := 4294967296) hyd (by omega) (by omega) hRY hy1p
      have hf3 : R1 / (Y1) * (Y1) ≤ R1 := Nat.div_mul_le_self _ _
      have hf4 : R1 / (Y1) * (Y1) + R1 % (Y1) = R1 := Nat.div_add_mod' _ _
      have hf5 : R1 % (Y1) < Y1 := Nat.mod_lt _ hy1p
      refine g3 ?_
      refine RW.q (v := .int .u64 ((R1 / Y1 : Nat) : Int)) rfl (q_quoU (a := R1) (b := Y1) rfl rfl (by omega) (by omega)) ?_
      refine g8 ?_
      refine RW.q (v := .int .u64 (((R1 / Y1) * Y1 : Nat) : Int)) rfl (q_mulU (a := (R1 / Y1)) (b := Y1) rfl rfl (Nat.mod_eq_of_lt (by omega))) (RW.q (v := .int .u64 ((R1 % (Y1) : Nat) : Int)) rfl (q_as (v := .int .u64 ((R1 - ((R1 / Y1) * Y1) : Nat) : Int)) (q_subU (a := R1) (b := ((R1 / Y1) * Y1)) rfl rfl (by omega)) (congrArg (Value.int .u64) (by omega))) ?_)
      refine g5 ?_
      refine AW.loop (fun s J m => ∃ (q : Nat), ∃ (r : Nat), s = [(2, .int .u64 (Y : Int)), (8, .int .u64 (sh : Int)), (9, .int .u64 (Y1 : Int)), (10, .int .u64 (Y0 : Int)), (13, .int .u64 (W1 : Int)), (14, .int .u64 (W0 : Int)), (15, .int .u64 (Q1 : Int)), (17, .int .u64 (R1 : Int)), (18, .int .u64 (q : Int)), (16, .int .u64 (r : Int))] ∧ J = St ⟨w, Φ, []⟩ Φ [] ∧ m = q + 0 * q ∧ (q * (Y1) + r = R1) ∧ (Q0 ≤ q) ∧ (q ≤ 4294967296 + 1) ∧ (r < 4294967296)) (s0 := _) (J1 := _) (m0 := _) ⟨_, _, rfl, rfl, rfl, hf4, hf1, hf2, (by omega)⟩ ⟨rfl, rfl, rfl, rfl, rfl, rfl, rfl, rfl, rfl, rfl, trivial⟩ (fun _ h => h) ?_
      rintro _ _ _ _ ⟨q, r, rfl, rfl, rfl, hq, hQ, hqB, hr⟩
      refine g2 ?_
      have hm9 : q * (Y0) ≤ (4294967296 + 1) * 4294967295 := Nat.mul_le_mul (by omega) (by omega)
      refine g6 ?_
      refine RW.g (b := (decide (((4294967296 : Nat) : Int) ≤ (q : Int)))) (v := .int .u64 ((q * Y0 : Nat) : Int)) rfl rfl rfl (fun h => q_mulU (a := q) (b := Y0) (gv_pos h) (gv_pos h) (Nat.mod_eq_of_lt (by (try simp [-List.getD_eq_getElem?_getD] at h); omega))) ?_
      refine g1 ?_
      refine RW.g (b := (decide (((4294967296 : Nat) : Int) ≤ (q : Int)))) (v := .int .u64 ((4294967296 * r : Nat) : Int)) rfl rfl rfl (fun h => q_mulU (a := 4294967296) (b := r) rfl (gv_pos h) (Nat.mod_eq_of_lt (by (try simp [-List.getD_eq_getElem?_getD] at h); omega))) ?_
      refine g1 ?_
      refine RW.g (b := (decide (((4294967296 : Nat) : Int) ≤ (q : Int)))) (v := .int .u64 (((4294967296 * r) + W0 : Nat) : Int)) rfl rfl rfl (fun h => q_addU (a := (4294967296 * r)) (b := W0) (gv_pos h) (gv_pos h) (Nat.mod_eq_of_lt (by (try simp [-List.getD_eq_getElem?_getD] at h); omega))) ?_
      refine g1 ?_
      obtain ⟨qb2, hqb2⟩ : ∃ z : Bool, ((decide (((4294967296 : Nat) : Int) ≤ (q : Int))) || (decide ((((4294967296 * r) + W0 : Nat) : Int) < ((q * Y0 : Nat) : Int)))) = z := ⟨_, rfl⟩
      refine RW.q (v := .bool qb2) rfl (q_as (v := .bool ((decide (((4294967296 : Nat) : Int) ≤ (q : Int))) || (decide ((((4294967296 * r) + W0 : Nat) : Int) < ((q * Y0 : Nat) : Int))))) (q_pick rfl (fun hp => pkOrT hp) (fun hp => (gv_pos hp).trans (pkOrF hp))) (congrArg Value.bool hqb2)) ?_
      subst hqb2
      refine g2 ?_
      refine AW.cond rfl (fun hc6 => ?_) fun hc6 => ?_
      ·
       simp [-List.getD_eq_getElem?_getD] at hc6
       refine g4 ?_
       have hdn := Nums.kn_down (d := W0) hyd hq hRY (by omega) (by rw [hQ0]; exact hQ) (by omega)
       rw [hQ0] at hdn
       refine g2 ?_
       refine RW.q (v := .int .u64 ((q - 1 : Nat) : Int)) rfl (q_subU (a := q) (b := 1) rfl rfl (by omega)) ?_
       refine g7 ?_
       refine RW.q (v := .int .u64 ((r + Y1 : Nat) : Int)) rfl (q_addU (a := r) (b := Y1) rfl rfl (Nat.mod_eq_of_lt (by omega))) ?_
       refine g9 ?_
       refine AW.cond rfl (fun hc7 => ?_) fun hc7 => ?_
       ·
        simp [-List.getD_eq_getElem?_getD] at hc7
        refine g6 ?_
        have hqe : q - 1 = Q0 := by
         have hp9 := Nums.kn_end (d := W0) (q := q - 1) (r := r + Y1) hyd (kn_dec hq hdn.1) hRY (by rw [hQ0]; exact hdn.2) (Nums.kn_break (by omega) (by omega) (by omega))
         rw [hp9, hQ0]
        rw [hqe]
        obtain ⟨ha0, hb0⟩ := Nums.kn_rest (u := R1) (d := W0) (y := Y) (B := 4294967296) (M := 18446744073709551616) (by omega) (by omega)
        rw [hQ0, hR0] at hb0
        refine g2 ?_
        refine RW.q (v := .int .u64 ((Q1 * 4294967296 : Nat) : Int)) rfl (q_mulU (a := Q1) (b := 4294967296) rfl rfl (Nat.mod_eq_of_lt (by omega))) ?_
        refine g1 ?_
        refine RW.q (v := .int .u64 (((Q1 * 4294967296) + Q0 : Nat) : Int)) rfl (q_addU (a := (Q1 * 4294967296)) (b := Q0) rfl rfl (Nat.mod_eq_of_lt (by omega))) ?_
        refine g1 ?_
        refine RW.q (v := .int .u64 ((R1 * 4294967296 % 18446744073709551616 : Nat) : Int)) rfl (q_mulU (a := R1) (b := 4294967296) rfl rfl rfl) ?_
        refine g1 ?_
        refine RW.q (v := .int .u64 (((R1 * 4294967296 % 18446744073709551616 + W0) % 18446744073709551616 : Nat) : Int)) rfl (q_addU (a := (R1 * 4294967296 % 18446744073709551616)) (b := W0) rfl rfl rfl) ?_
        refine g2 ?_
        refine RW.q (v := .int .u64 ((Q0 * Y % 18446744073709551616 : Nat) : Int)) rfl (q_mulU (a := Q0) (b := Y) rfl rfl rfl) (RW.q (v := .int .u64 (R0 : Int)) rfl (q_subU (a := ((R1 * 4294967296 % 18446744073709551616 + W0) % 18446744073709551616)) (b := (Q0 * Y % 18446744073709551616)) rfl rfl (by rw [ha0]; exact hb0)) ?_)
        refine g1 ?_
        refine RW.q (v := .int .u64 ((R0 / 2 ^ sh : Nat) : Int)) rfl (q_shrU' (a := R0) (c := sh) rfl rfl (by omega)) ?_
        refine g5 ?_
        refine fin_out2 (v := .int .u64 (((Q1 * 4294967296) + Q0 : Nat) : Int)) (u := .int .u64 ((R0 / 2 ^ sh : Nat) : Int)) rfl rfl rfl rfl (fun w' hw => ?_)
        refine ⟨?_, hw.below rfl⟩
        subst hW1 hW0
        have hfin := Nums.div128 (hi := hi) (lo := lo) (y := y) (u := U) (v := V) (y' := Y) (Q1 := Q1) (r1 := R1) (Q0 := Q0) hs64 hY.symm hU.symm hV.symm hy0 hQ1.symm hR1.symm hQ0.symm
        rw [hR0] at hfin
        rw [hfin.1, hfin.2]
       ·
        simp [-List.getD_eq_getElem?_getD] at hc7
        refine g2 ?_
        exact Post.back (s' := _) (J' := _) (m' := _) (by omega) ⟨q - 1, r + Y1, rfl, rfl, rfl, (kn_dec hq hdn.1), hdn.2, (by omega), (by omega)⟩ ⟨rfl, rfl, rfl, rfl, rfl, rfl, rfl, rfl, rfl, rfl, trivial⟩ (fun _ h => h)
      ·
       simp [-List.getD_eq_getElem?_getD] at hc6
       refine g6 ?_
       have hqe : q = Q0 := by
        have hp9 := Nums.kn_end (d := W0) hyd hq hRY (by rw [hQ0]; exact hQ) (by omega)
        rw [hp9, hQ0]
       rw [hqe]
       obtain ⟨ha0, hb0⟩ := Nums.kn_rest (u := R1) (d := W0) (y := Y) (B := 4294967296) (M := 18446744073709551616) (by omega) (by omega)
       rw [hQ0, hR0] at hb0
       refine g2 ?_
       refine RW.q (v := .int .u64 ((Q1 * 4294967296 : Nat) : Int)) rfl (q_mulU (a := Q1) (b := 4294967296) rfl rfl (Nat.mod_eq_of_lt (by omega))) ?_
       refine g1 ?_
       refine RW.q (v := .int .u64 (((Q1 * 4294967296) + Q0 : Nat) : Int)) rfl (q_addU (a := (Q1 * 4294967296)) (b := Q0) rfl rfl (Nat.mod_eq_of_lt (by omega))) ?_
       refine g1 ?_
       refine RW.q (v := .int .u64 ((R1 * 4294967296 % 18446744073709551616 : Nat) : Int)) rfl (q_mulU (a := R1) (b := 4294967296) rfl rfl rfl) ?_
       refine g1 ?_
       refine RW.q (v := .int .u64 (((R1 * 4294967296 % 18446744073709551616 + W0) % 18446744073709551616 : Nat) : Int)) rfl (q_addU (a := (R1 * 4294967296 % 18446744073709551616)) (b := W0) rfl rfl rfl) ?_
       refine g2 ?_
       refine RW.q (v := .int .u64 ((Q0 * Y % 18446744073709551616 : Nat) : Int)) rfl (q_mulU (a := Q0) (b := Y) rfl rfl rfl) (RW.q (v := .int .u64 (R0 : Int)) rfl (q_subU (a := ((R1 * 4294967296 % 18446744073709551616 + W0) % 18446744073709551616)) (b := (Q0 * Y % 18446744073709551616)) rfl rfl (by rw [ha0]; exact hb0)) ?_)
       refine g1 ?_
       refine RW.q (v := .int .u64 ((R0 / 2 ^ sh : Nat) : Int)) rfl (q_shrU' (a := R0) (c := sh) rfl rfl (by omega)) ?_
       refine g5 ?_
       refine fin_out2 (v := .int .u64 (((Q1 * 4294967296) + Q0 : Nat) : Int)) (u := .int .u64 ((R0 / 2 ^ sh : Nat) : Int)) rfl rfl rfl rfl (fun w' hw => ?_)
       refine ⟨?_, hw.below rfl⟩
       subst hW1 hW0
       have hfin := Nums.div128 (hi := hi) (lo := lo) (y := y) (u := U) (v := V) (y' := Y) (Q1 := Q1) (r1 := R1) (Q0 := Q0) hs64 hY.symm hU.symm hV.symm hy0 hQ1.symm hR1.symm hQ0.symm
       rw [hR0] at hfin
       rw [hfin.1, hfin.2]
     ·
      simp [-List.getD_eq_getElem?_getD] at hc5
      refine g2 ?_
      exact Post.back (s' := _) (J' := _) (m' := _) (by omega) ⟨q - 1, r + Y1, rfl, rfl, rfl, (kn_dec hq hdn.1), hdn.2, (by omega), (by omega)⟩ ⟨rfl, rfl, rfl, rfl, rfl, rfl, rfl, rfl, rfl, trivial⟩ (fun _ h => h)
    ·
     simp [-List.getD_eq_getElem?_getD] at hc4
     refine g6 ?_
     have hqe : q = Q1 := by
      have hp9 := Nums.kn_end (d := W1) hyd hq hUY (by rw [hQ1]; exact hQ) (by omega)
      rw [hp9, hQ1]
     rw [hqe]
     obtain ⟨ha1, hb1⟩ := Nums.kn_rest (u := U) (d := W1) (y := Y) (B := 4294967296) (M := 18446744073709551616) (by omega) (by omega)
     rw [hQ1, hR1] at hb1
     refine g2 ?_
     refine RW.q (v := .int .u64 ((U * 4294967296 % 18446744073709551616 : Nat) : Int)) rfl (q_mulU (a := U) (b := 4294967296) rfl rfl rfl) ?_
     refine g1 ?_
     refine RW.q (v := .int .u64 (((U * 4294967296 % 18446744073709551616 + W1) % 18446744073709551616 : Nat) : Int)) rfl (q_addU (a := (U * 4294967296 % 18446744073709551616)) (b := W1) rfl rfl rfl) ?_
     refine g2 ?_
     refine RW.q (v := .int .u64 ((Q1 * Y % 18446744073709551616 : Nat) : Int)) rfl (q_mulU (a := Q1) (b := Y) rfl rfl rfl) (RW.q (v := .int .u64 (R1 : Int)) rfl (q_subU (a := ((U * 4294967296 % 18446744073709551616 + W1) % 18446744073709551616)) (b := (Q1 * Y % 18446744073709551616)) rfl rfl (by rw [ha1]; exact hb1)) ?_)
     refine g4 ?_
     have hf1 := Nums.kn_first (u := R1) (d := W0) hyd hy1p (by omega)
     rw [hQ0] at hf1
     have hf2 := Nums.kn_top (u := R1) (B := 4294967296) hyd (by omega) (by omega) hRY hy1p
     have hf3 : R1 / (Y1) * (Y1) ≤ R1 := Nat.div_mul_le_self _ _
     have hf4 : R1 / (Y1) * (Y1) + R1 % (Y1) = R1 := Nat.div_add_mod' _ _
     have hf5 : R1 % (Y1) < Y1 := Nat.mod_lt _ hy1p
     refine g3 ?_
     refine RW.q (v := .int .u64 ((R1 / Y1 : Nat) : Int)) rfl (q_quoU (a := R1) (b := Y1) rfl rfl (by omega) (by omega)) ?_
     refine g8 ?_
     refine RW.q (v := .int .u64 (((R1 / Y1) * Y1 : Nat) : Int)) rfl (q_mulU (a := (R1 / Y1)) (b := Y1) rfl rfl (Nat.mod_eq_of_lt (by omega))) (RW.q (v := .int .u64 ((R1 % (Y1) : Nat) : Int)) rfl (q_as (v := .int .u64 ((R1 - ((R1 / Y1) * Y1) : Nat) : Int)) (q_subU (a := R1) (b := ((R1 / Y1) * Y1)) rfl rfl (by omega)) (congrArg (Value.int .u64) (by omega))) ?_)
     refine g5 ?_
     refine AW.loop (fun s J m => ∃ (q : Nat), ∃ (r : Nat), s = [(2, .int .u64 (Y : Int)), (8, .int .u64 (sh : Int)), (9, .int .u64 (Y1 : Int)), (10, .int .u64 (Y0 : Int)), (13, .int .u64 (W1 : Int)), (14, .int .u64 (W0 : Int)), (15, .int .u64 (Q1 : Int)), (17, .int .u64 (R1 : Int)), (18, .int .u64 (q : Int)), (16, .int .u64 (r : Int))] ∧ J = St ⟨w, Φ, []⟩ Φ [] ∧ m = q + 0 * q ∧ (q * (Y1) + r = R1) ∧ (Q0 ≤ q) ∧ (q ≤ 4294967296 + 1) ∧ (r < 4294967296)) (s0 := _) (J1 := _) (m0 := _) ⟨_, _, rfl, rfl, rfl, hf4, hf1, hf2, (by omega)⟩ ⟨rfl, rfl, rfl, rfl, rfl, rfl, rfl, rfl, rfl, rfl, trivial⟩ (fun _ h => h) ?_
     rintro _ _ _ _ ⟨q, r, rfl, rfl, rfl, hq, hQ, hqB, hr⟩
     refine g2 ?_
     have hm9 : q * (Y0) ≤ (4294967296 + 1) * 4294967295 := Nat.mul_le_mul (by omega) (by omega)
     refine g6 ?_
     refine RW.g (b := (decide (((4294967296 : Nat) : Int) ≤ (q : Int)))) (v := .int .u64 ((q * Y0 : Nat) : Int)) rfl rfl rfl (fun h => q_mulU (a := q) (b := Y0) (gv_pos h) (gv_pos h) (Nat.mod_eq_of_lt (by (try simp [-List.getD_eq_getElem?_getD] at h); omega))) ?_
     refine g1 ?_
     refine RW.g (b := (decide (((4294967296 : Nat) : Int) ≤ (q : Int)))) (v := .int .u64 ((4294967296 * r : Nat) : Int)) rfl rfl rfl (fun h => q_mulU (a := 4294967296) (b := r) rfl (gv_pos h) (Nat.mod_eq_of_lt (by (try simp [-List.getD_eq_getElem?_getD] at h); omega))) ?_
     refine g1 ?_
     refine RW.g (b := (decide (((4294967296 : Nat) : Int) ≤ (q : Int)))) (v := .int .u64 (((4294967296 * r) + W0 : Nat) : Int)) rfl rfl rfl (fun h => q_addU (a := (4294967296 * r)) (b := W0) (gv_pos h) (gv_pos h) (Nat.mod_eq_of_lt (by (try simp [-List.getD_eq_getElem?_getD] at h); omega))) ?_
     refine g1 ?_
     obtain ⟨qb3, hqb3⟩ : ∃ z : Bool, ((decide (((4294967296 : Nat) : Int) ≤ (q : Int))) || (decide ((((4294967296 * r) + W0 : Nat) : Int) < ((q * Y0 : Nat) : Int)))) = z := ⟨_, rfl⟩
     refine RW.q (v := .bool qb3) rfl (q_as (v := .bool ((decide (((4294967296 : Nat) : Int) ≤ (q : Int))) || (decide ((((4294967296 * r) + W0 : Nat) : Int) < ((q * Y0 : Nat) : Int))))) (q_pick rfl (fun hp => pkOrT hp) (fun hp => (gv_pos hp).trans (pkOrF hp))) (congrArg Value.bool hqb3)) ?_
     subst hqb3
     refine g2 ?_
     refine AW.cond rfl (fun hc8 => ?_) fun hc8 => ?_
     ·
      simp [-List.getD_eq_getElem?_getD] at hc8
      refine g4 ?_
      have hdn := Nums.kn_down (d := W0) hyd hq hRY (by omega) (by rw [hQ0]; exact hQ) (by omega)
      rw [hQ0] at hdn
      refine g2 ?_
      refine RW.q (v := .int .u64 ((q - 1 : Nat) : Int)) rfl (q_subU (a := q) (b := 1) rfl rfl (by omega)) ?_
      refine g7 ?_
      refine RW.q (v := .int .u64 ((r + Y1 : Nat) : Int)) rfl (q_addU (a := r) (b := Y1) rfl rfl (Nat.mod_eq_of_lt (by omega))) ?_
      refine g9 ?_
      refine AW.cond rfl (fun hc9 => ?_) fun hc9 => ?_
      ·
       simp [-List.getD_eq_getElem?_getD] at hc9
       refine g6 ?_
       have hqe : q - 1 = Q0 := by
        have hp9 := Nums.kn_end (d := W0) (q := q - 1) (r := r + Y1) hyd (kn_dec hq hdn.1) hRY (by rw [hQ0]; exact hdn.2) (Nums.kn_break (by omega) (by omega) (by omega))
        rw [hp9, hQ0]
       rw [hqe]
       obtain ⟨ha0, hb0⟩ := Nums.kn_rest (u := R1) (d := W0) (y := Y) (B := 4294967296) (M := 18446744073709551616) (by omega) (by omega)
       rw [hQ0, hR0] at hb0
       refine g2 ?_
       refine RW.q (v := .int .u64 ((Q1 * 4294967296 : Nat) : Int)) rfl (q_mulU (a := Q1) (b := 4294967296) rfl rfl (Nat.mod_eq_of_lt (by omega))) ?_
       refine g1 ?_
       refine RW.q (v := .int .u64 (((Q1 * 4294967296) + Q0 : Nat) : Int)) rfl (q_addU (a := (Q1 * 4294967296)) (b := Q0) rfl rfl (Nat.mod_eq_of_lt (by omega))) ?_
       refine g1 ?_
       refine RW.q (v := .int .u64 ((R1 * 4294967296 % 18446744073709551616 : Nat) : Int)) rfl (q_mulU (a := R1) (b := 4294967296) rfl rfl rfl) ?_
       refine g1 ?_
       refine RW.q (v := .int .u64 (((R1 * 4294967296 % 18446744073709551616 + W0) % 18446744073709551616 : Nat) : Int)) rfl (q_addU (a := (R1 * 4294967296 % 18446744073709551616)) (b := W0) rfl rfl rfl) ?_
       refine g2 ?_
       refine RW.q (v := .int .u64 ((Q0 * Y % 18446744073709551616 : Nat) : Int)) rfl (q_mulU (a := Q0) (b := Y) rfl rfl rfl) (RW.q (v := .int .u64 (R0 : Int)) rfl (q_subU (a := ((R1 * 4294967296 % 18446744073709551616 + W0) % 18446744073709551616)) (b := (Q0 * Y % 18446744073709551616)) rfl rfl (by rw [ha0]; exact hb0)) ?_)
       refine g1 ?_
       refine RW.q (v := .int .u64 ((R0 / 2 ^ sh : Nat) : Int)) rfl (q_shrU' (a := R0) (c := sh) rfl rfl (by omega)) ?_
       refine g5 ?_
       refine fin_out2 (v := .int .u64 (((Q1 * 4294967296) + Q0 : Nat) : Int)) (u := .int .u64 ((R0 / 2 ^ sh : Nat) : Int)) rfl rfl rfl rfl (fun w' hw => ?_)
       refine ⟨?_, hw.below rfl⟩
       subst hW1 hW0
       have hfin := Nums.div128 (hi := hi) (lo := lo) (y := y) (u := U) (v := V) (y' := Y) (Q1 := Q1) (r1 := R1) (Q0 := Q0) hs64 hY.symm hU.symm hV.symm hy0 hQ1.symm hR1.symm hQ0.symm
       rw [hR0] at hfin
       rw [hfin.1, hfin.2]
      ·
       simp [-List.getD_eq_getElem?_getD] at hc9
       refine g2 ?_
       exact Post.back (s' := _) (J' := _) (m' := _) (by omega) ⟨q - 1, r + Y1, rfl, rfl, rfl, (kn_dec hq hdn.1), hdn.2, (by omega), (by omega)⟩ ⟨rfl, rfl, rfl, rfl, rfl, rfl, rfl, rfl, rfl, rfl, trivial⟩ (fun _ h => h)
     ·
      simp [-List.getD_eq_getElem?_getD] at hc8
      refine g6 ?_
      have hqe : q = Q0 := by
       have hp9 := Nums.kn_end (d := W0) hyd hq hRY (by rw [hQ0]; exact hQ) (by omega)
       rw [hp9, hQ0]
      rw [hqe]
      obtain ⟨ha0, hb0⟩ := Nums.kn_rest (u := R1) (d := W0) (y := Y) (B := 4294967296) (M := 18446744073709551616) (by omega) (by omega)
      rw [hQ0, hR0] at hb0
      refine g2 ?_
      refine RW.q (v := .int .u64 ((Q1 * 4294967296 : Nat) : Int)) rfl (q_mulU (a := Q1) (b := 4294967296) rfl rfl (Nat.mod_eq_of_lt (by omega))) ?_
      refine g1 ?_
      refine RW.q (v := .int .u64 (((Q1 * 4294967296) + Q0 : Nat) : Int)) rfl (q_addU (a := (Q1 * 4294967296)) (b := Q0) rfl rfl (Nat.mod_eq_of_lt (by omega))) ?_
      refine g1 ?_
      refine RW.q (v := .int .u64 ((R1 * 4294967296 % 18446744073709551616 : Nat) : Int)) rfl (q_mulU (a := R1) (b := 4294967296) rfl rfl rfl) ?_
      refine g1 ?_
      refine RW.q (v := .int .u64 (((R1 * 4294967296 % 18446744073709551616 + W0) % 18446744073709551616 : Nat) : Int)) rfl (q_addU (a := (R1 * 4294967296 % 18446744073709551616)) (b := W0) rfl rfl rfl) ?_
      refine g2 ?_
      refine RW.q (v := .int .u64 ((Q0 * Y % 18446744073709551616 : Nat) : Int)) rfl (q_mulU (a := Q0) (b := Y) rfl rfl rfl) (RW.q (v := .int .u64 (R0 : Int)) rfl (q_subU (a := ((R1 * 4294967296 % 18446744073709551616 + W0) % 18446744073709551616)) (b := (Q0 * Y % 18446744073709551616)) rfl rfl (by rw [ha0]; exact hb0)) ?_)
      refine g1 ?_
      refine RW.q (v := .int .u64 ((R0 / 2 ^ sh : Nat) : Int)) rfl (q_shrU' (a := R0) (c := sh) rfl rfl (by omega)) ?_
      refine g5 ?_
      refine fin_out2 (v := .int .u64 (((Q1 * 4294967296) + Q0 : Nat) : Int)) (u := .int .u64 ((R0 / 2 ^ sh : Nat) : Int)) rfl rfl rfl rfl (fun w' hw => ?_)
      refine ⟨?_, hw.below rfl⟩
      subst hW1 hW0
      have hfin := Nums.div128 (hi := hi) (lo := lo) (y := y) (u := U) (v := V) (y' := Y) (Q1 := Q1) (r1 := R1) (Q0 := Q0) hs64 hY.symm hU.symm hV.symm hy0 hQ1.symm hR1.symm hQ0.symm
      rw [hR0] at hfin
      rw [hfin.1, hfin.2]
end Go.Proofs.Ytblfeidlnhdekaa
