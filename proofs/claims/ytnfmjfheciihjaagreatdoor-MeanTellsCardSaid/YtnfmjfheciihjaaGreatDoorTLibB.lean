/- Lemmas. Conditions: those of each theorem. -/
import Derived.Test.YtnfmjfheciihjaaGreatDoorTLexP
import Derived.Test.YtnfmjfheciihjaaGreatDoorTAuto2
namespace Go.Proofs.YtnfmjfheciihjaaGreatDoor
open Go Go.K Go.RowKit
attribute [local irreducible] AW RW DW Post Qt

theorem sz36 : (pg.info? 36).map (·.size) = some 1 := by kernel_rfl
theorem sz38 : (pg.info? 38).map (·.size) = some 6 := by kernel_rfl
theorem zero38 : (pg.info? 38).map (·.zero) = some (some (.agg #[.slice none 0 0, .slice none 0 0, .slice none 0 0, .slice none 0 0, .int .i64 0, .slice none 0 0])) := by kernel_rfl
theorem places38 : Plc pg (fO Tryz.underlying38) #[(0, 1), (1, 1), (2, 1), (3, 1), (4, 1), (5, 1)] := fun w => by kernel_rfl
theorem sz42 : (pg.info? 42).map (·.size) = some 1 := by kernel_rfl
theorem sz45 : (pg.info? 45).map (·.size) = some 3 := by kernel_rfl
theorem zero45 : (pg.info? 45).map (·.zero) = some (some (.agg #[.slice none 0 0, .int .i64 0, .int .i64 0])) := by kernel_rfl
theorem places45 : Plc pg (fO Tryz.underlying45) #[(0, 1), (1, 1), (2, 1)] := fun w => by kernel_rfl
theorem sz49 : (pg.info? 49).map (·.size) = some 2 := by kernel_rfl
theorem zero49 : (pg.info? 49).map (·.zero) = some (some (.agg #[.int .i64 0, .int .i64 0])) := by kernel_rfl
theorem inf49 : (pg.info? 49).map (fun i => (i.zero, i.size, i.bytes)) = some (some (.agg #[.int .i64 0, .int .i64 0]), 2, 16) := by kernel_rfl
theorem places49 : Plc pg (fO Tryz.underlying49) #[(0, 1), (1, 1)] := fun w => by kernel_rfl
theorem sz52 : (pg.info? 52).map (·.size) = some 1 := by kernel_rfl
theorem sz75 : (pg.info? 75).map (·.size) = some 1 := by kernel_rfl
theorem sz77 : (pg.info? 77).map (·.size) = some 4 := by kernel_rfl
theorem zero77 : (pg.info? 77).map (·.zero) = some (some (.agg #[.int .i64 0, .int .i64 0, .int .i64 0, .int .i64 0])) := by kernel_rfl
theorem places77 : Plc pg (fO Tryz.underlying77) #[(0, 1), (1, 1), (2, 1), (3, 1)] := fun w => by kernel_rfl
theorem zero79 : (pg.info? 79).map (·.zero) = some (some (.agg #[.slice none 0 0, .slice none 0 0, .slice none 0 0, .slice none 0 0, .slice none 0 0, .slice none 0 0, .int .i64 0, .slice none 0 0, .int .i64 0, .int .i64 0, .int .i64 0, .int .i64 0, .int .i64 0, .int .i64 0, .slice none 0 0, .slice none 0 0])) := by kernel_rfl
theorem places79 : Plc pg (fO Tryz.underlying79) #[(0, 2), (2, 6), (8, 4), (12, 1), (13, 1), (14, 1), (15, 1)] := fun w => by kernel_rfl
theorem sz83 : (pg.info? 83).map (·.size) = some 1 := by kernel_rfl
theorem zero83 : (pg.info? 83).map (·.zero) = some (some (.agg #[.int .i64 0])) := by kernel_rfl
theorem places83 : Plc pg (fO Tryz.underlying83) #[(0, 1)] := fun w => by kernel_rfl
theorem zero88 : (pg.info? 88).map (·.zero) = some (some (.agg #[.string ⟨#[]⟩, .slice none 0 0, .int .i64 0, .slice none 0 0, .slice none 0 0, .slice none 0 0, .slice none 0 0, .slice none 0 0, .slice none 0 0, .slice none 0 0, .int .i64 0, .slice none 0 0, .slice none 0 0, .slice none 0 0, .slice none 0 0, .slice none 0 0, .slice none 0 0, .int .i64 0, .slice none 0 0, .int .i64 0, .int .i64 0, .int .i64 0])) := by kernel_rfl
theorem places88 : Plc pg (fO Tryz.underlying88) #[(0, 11), (11, 2), (13, 6), (19, 1), (20, 1), (21, 1)] := fun w => by kernel_rfl
theorem sz114 : (pg.info? 114).map (·.size) = some 1 := by kernel_rfl
theorem sz117 : (pg.info? 117).map (·.size) = some 5 := by kernel_rfl
theorem zero117 : (pg.info? 117).map (·.zero) = some (some (.agg #[.slice none 0 0, .map none, .map none, .map none, .map none])) := by kernel_rfl
theorem places117 : Plc pg (fO Tryz.underlying117) #[(0, 1), (1, 1), (2, 1), (3, 1), (4, 1)] := fun w => by kernel_rfl
instance libB0 : FA pg 38 2 2 := fA Tryz.underlying38 rfl sz36
instance libB1 : FA pg 45 0 0 := fA Tryz.underlying45 rfl sz42
instance libB2 : FA pg 79 1 2 := fA Tryz.underlying79 rfl sz38
instance libB3 : FA pg 79 2 8 := fA Tryz.underlying79 rfl sz77
instance libB4 : FA pg 79 6 15 := fA Tryz.underlying79 rfl sz52
instance libB5 : FA pg 88 2 13 := fA Tryz.underlying88 rfl sz38
instance libB6 : FA pg 117 1 1 := fA Tryz.underlying117 rfl sz114
instance libB7 : FA pg 117 2 2 := fA Tryz.underlying117 rfl sz114
instance libB8 : FA pg 117 3 3 := fA Tryz.underlying117 rfl sz114
instance libB9 : FA pg 117 4 4 := fA Tryz.underlying117 rfl sz114
instance libB10 : AG pg 38 6 := ⟨_, Tryz.underlying38, rfl, sz38⟩
instance libB11 : AG pg 45 3 := ⟨_, Tryz.underlying45, rfl, sz45⟩
instance libB12 : AG pg 49 2 := ⟨_, Tryz.underlying49, rfl, sz49⟩
instance libB13 : AG pg 117 5 := ⟨_, Tryz.underlying117, rfl, sz117⟩
instance libB17 : SZ pg 45 3 := ⟨sz45⟩
instance libB19 : SZ pg 77 4 := ⟨sz77⟩
instance libB20 : SZ pg 83 1 := ⟨sz83⟩
instance libB21 : SZ pg 117 5 := ⟨sz117⟩
instance libB24 : ZL pg 45 [(.slice none 0 0), .int .i64 0, .int .i64 0] := ⟨_, zero45, rfl⟩
instance libB25 : ZL pg 77 [.int .i64 0, .int .i64 0, .int .i64 0, .int .i64 0] := ⟨_, zero77, rfl⟩
instance libB26 : ZL pg 83 [.int .i64 0] := ⟨_, zero83, rfl⟩
instance libB27 : IX pg 22 1 := ⟨_, Tryz.underlying22, sz9⟩
instance libB28 : IX pg 23 12 := ⟨_, Tryz.underlying23, sz92⟩
instance libB29 : IX pg 24 18 := ⟨_, Tryz.underlying24, sz58⟩
instance libB30 : IX pg 25 7 := ⟨_, Tryz.underlying25, sz94⟩
instance libB31 : IX pg 29 1 := ⟨_, Tryz.underlying29, sz3⟩
instance libB32 : IX pg 32 8 := ⟨_, Tryz.underlying32, sz71⟩
instance libB33 : IX pg 33 11 := ⟨_, Tryz.underlying33, sz73⟩
instance libB34 : IX pg 36 1 := ⟨_, Tryz.underlying36, sz29⟩
instance libB35 : IX pg 42 2 := ⟨_, Tryz.underlying42, sz49⟩
instance libB36 : IX pg 52 1 := ⟨_, Tryz.underlying52, sz4⟩
instance libB37 : IX pg 67 5 := ⟨_, Tryz.underlying67, sz69⟩
instance libB38 : IX pg 95 3 := ⟨_, Tryz.underlying95, sz134⟩
end Go.Proofs.YtnfmjfheciihjaaGreatDoor
