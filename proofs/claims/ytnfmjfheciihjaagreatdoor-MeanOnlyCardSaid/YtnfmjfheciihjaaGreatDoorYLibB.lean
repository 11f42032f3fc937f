/- Lemmas. Conditions: those of each theorem. -/
import Derived.Test.YtnfmjfheciihjaaGreatDoorYLibA
import Derived.Test.YtnfmjfheciihjaaGreatDoorYAuto2
namespace Go.Proofs.YtnfmjfheciihjaaGreatDoor
open Go Go.K Go.RowKit
attribute [local irreducible] AW RW DW Post Qt

theorem sz2 : (pg.info? 2).map (·.size) = some 1 := by kernel_rfl
theorem sz12 : (pg.info? 12).map (·.size) = some 1 := by kernel_rfl
theorem sz17 : (pg.info? 17).map (·.size) = some 1 := by kernel_rfl
theorem sz19 : (pg.info? 19).map (·.size) = some 1 := by kernel_rfl
theorem sz26 : (pg.info? 26).map (·.size) = some 1 := by kernel_rfl
theorem sz27 : (pg.info? 27).map (·.size) = some 1 := by kernel_rfl
theorem sz28 : (pg.info? 28).map (·.size) = some 1 := by kernel_rfl
theorem sz36 : (pg.info? 36).map (·.size) = some 1 := by kernel_rfl
theorem sz38 : (pg.info? 38).map (·.size) = some 6 := by kernel_rfl
theorem zero38 : (pg.info? 38).map (·.zero) = some (some (.agg #[.slice none 0 0, .slice none 0 0, .slice none 0 0, .slice none 0 0, .int .i64 0, .slice none 0 0])) := by kernel_rfl
theorem places38 : Plc pg (fO Tryz.underlying38) #[(0, 1), (1, 1), (2, 1), (3, 1), (4, 1), (5, 1)] := fun w => by kernel_rfl
theorem sz42 : (pg.info? 42).map (·.size) = some 1 := by kernel_rfl
theorem sz45 : (pg.info? 45).map (·.size) = some 3 := by kernel_rfl
theorem zero45 : (pg.info? 45).map (·.zero) = some (some (.agg #[.slice none 0 0, .int .i64 0, .int .i64 0])) := by kernel_rfl
theorem places45 : Plc pg (fO Tryz.underlying45) #[(0, 1), (1, 1), (2, 1)] := fun w => by kernel_rfl
theorem sz49 : (pg.info? 49).map (·.size) = some 2 := by kernel_rfl
theorem zero49 : (pg.info? 49).map (·.zero) = some (some (.agg #[.int .i64 0, .int .i64 0])) := by kernel_rfl
theorem inf49 : (pg.info? 49).map (fun i => (i.zero, i.size, i.bytes)) = some (some (.agg #[.int .i64 0, .int .i64 0]), 2, 16) := by kernel_rfl
theorem places49 : Plc pg (fO Tryz.underlying49) #[(0, 1), (1, 1)] := fun w => by kernel_rfl
theorem sz52 : (pg.info? 52).map (·.size) = some 1 := by kernel_rfl
theorem sz54 : (pg.info? 54).map (·.size) = some 1 := by kernel_rfl
theorem sz56 : (pg.info? 56).map (·.size) = some 2 := by kernel_rfl
theorem sz75 : (pg.info? 75).map (·.size) = some 1 := by kernel_rfl
theorem sz77 : (pg.info? 77).map (·.size) = some 4 := by kernel_rfl
theorem zero77 : (pg.info? 77).map (·.zero) = some (some (.agg #[.int .i64 0, .int .i64 0, .int .i64 0, .int .i64 0])) := by kernel_rfl
theorem places77 : Plc pg (fO Tryz.underlying77) #[(0, 1), (1, 1), (2, 1), (3, 1)] := fun w => by kernel_rfl
theorem sz79 : (pg.info? 79).map (·.size) = some 16 := by kernel_rfl
theorem zero79 : (pg.info? 79).map (·.zero) = some (some (.agg #[.slice none 0 0, .slice none 0 0, .slice none 0 0, .slice none 0 0, .slice none 0 0, .slice none 0 0, .int .i64 0, .slice none 0 0, .int .i64 0, .int .i64 0, .int .i64 0, .int .i64 0, .int .i64 0, .int .i64 0, .slice none 0 0, .slice none 0 0])) := by kernel_rfl
theorem places79 : Plc pg (fO Tryz.underlying79) #[(0, 2), (2, 6), (8, 4), (12, 1), (13, 1), (14, 1), (15, 1)] := fun w => by kernel_rfl
theorem sz83 : (pg.info? 83).map (·.size) = some 1 := by kernel_rfl
theorem zero83 : (pg.info? 83).map (·.zero) = some (some (.agg #[.int .i64 0])) := by kernel_rfl
theorem places83 : Plc pg (fO Tryz.underlying83) #[(0, 1)] := fun w => by kernel_rfl
theorem sz88 : (pg.info? 88).map (·.size) = some 22 := by kernel_rfl
theorem sz90 : (pg.info? 90).map (·.size) = some 1 := by kernel_rfl
theorem sz114 : (pg.info? 114).map (·.size) = some 1 := by kernel_rfl
theorem sz117 : (pg.info? 117).map (·.size) = some 5 := by kernel_rfl
theorem zero117 : (pg.info? 117).map (·.zero) = some (some (.agg #[.slice none 0 0, .map none, .map none, .map none, .map none])) := by kernel_rfl
theorem places117 : Plc pg (fO Tryz.underlying117) #[(0, 1), (1, 1), (2, 1), (3, 1), (4, 1)] := fun w => by kernel_rfl
theorem sz118 : (pg.info? 118).map (·.size) = some 1 := by kernel_rfl
theorem sz135 : (pg.info? 135).map (·.size) = some 1 := by kernel_rfl
theorem sz220 : (pg.info? 220).map (·.size) = some 1 := by kernel_rfl
instance libB0 : FA pg 38 2 2 := fA Tryz.underlying38 rfl sz36
instance libB1 : FA pg 45 0 0 := fA Tryz.underlying45 rfl sz42
instance libB2 : FA pg 79 1 2 := fA Tryz.underlying79 rfl sz38
instance libB3 : FA pg 79 2 8 := fA Tryz.underlying79 rfl sz77
instance libB4 : FA pg 79 6 15 := fA Tryz.underlying79 rfl sz52
instance libB5 : FA pg 88 2 13 := fA Tryz.underlying88 rfl sz38
instance libB6 : FA pg 117 1 1 := fA Tryz.underlying117 rfl sz114
instance libB7 : FA pg 117 2 2 := fA Tryz.underlying117 rfl sz114
instance libB8 : FA pg 117 3 3 := fA Tryz.underlying117 rfl sz114
instance libB9 : FA pg 117 4 4 := fA Tryz.underlying117 rfl sz114
instance libB10 : AG pg 38 6 := ⟨_, Tryz.underlying38, rfl, sz38⟩
instance libB11 : AG pg 45 3 := ⟨_, Tryz.underlying45, rfl, sz45⟩
instance libB12 : AG pg 49 2 := ⟨_, Tryz.underlying49, rfl, sz49⟩
instance libB13 : AG pg 117 5 := ⟨_, Tryz.underlying117, rfl, sz117⟩
instance libB14 : SZ pg 36 1 := ⟨sz36⟩
instance libB15 : SZ pg 38 6 := ⟨sz38⟩
instance libB16 : SZ pg 42 1 := ⟨sz42⟩
instance libB17 : SZ pg 45 3 := ⟨sz45⟩
instance libB18 : SZ pg 75 1 := ⟨sz75⟩
instance libB19 : SZ pg 77 4 := ⟨sz77⟩
instance libB20 : SZ pg 83 1 := ⟨sz83⟩
instance libB21 : SZ pg 117 5 := ⟨sz117⟩
instance libB22 : SZ pg 135 1 := ⟨sz135⟩
instance libB23 : ZL pg 38 [(.slice none 0 0), (.slice none 0 0), (.slice none 0 0), (.slice none 0 0), .int .i64 0, (.slice none 0 0)] := ⟨_, zero38, rfl⟩
instance libB24 : ZL pg 45 [(.slice none 0 0), .int .i64 0, .int .i64 0] := ⟨_, zero45, rfl⟩
instance libB25 : ZL pg 77 [.int .i64 0, .int .i64 0, .int .i64 0, .int .i64 0] := ⟨_, zero77, rfl⟩
instance libB26 : ZL pg 83 [.int .i64 0] := ⟨_, zero83, rfl⟩
instance libB27 : IX pg 22 1 := ⟨_, Tryz.underlying22, sz9⟩
instance libB28 : IX pg 23 12 := ⟨_, Tryz.underlying23, sz92⟩
instance libB29 : IX pg 24 18 := ⟨_, Tryz.underlying24, sz58⟩
instance libB30 : IX pg 25 7 := ⟨_, Tryz.underlying25, sz94⟩
instance libB31 : IX pg 29 1 := ⟨_, Tryz.underlying29, sz3⟩
instance libB32 : IX pg 32 8 := ⟨_, Tryz.underlying32, sz71⟩
instance libB33 : IX pg 33 11 := ⟨_, Tryz.underlying33, sz73⟩
instance libB34 : IX pg 36 1 := ⟨_, Tryz.underlying36, sz29⟩
instance libB35 : IX pg 42 2 := ⟨_, Tryz.underlying42, sz49⟩
instance libB36 : IX pg 52 1 := ⟨_, Tryz.underlying52, sz4⟩
instance libB37 : IX pg 67 5 := ⟨_, Tryz.underlying67, sz69⟩
instance libB38 : IX pg 95 3 := ⟨_, Tryz.underlying95, sz134⟩
instance libB39 : IX pg 98 1 := ⟨_, Tryz.underlying98, sz143⟩
instance libB40 : IX pg 99 1 := ⟨_, Tryz.underlying99, sz148⟩
instance libB41 : IX pg 142 1 := ⟨_, Tryz.underlying142, sz145⟩
instance libB42 : IX pg 144 4 := ⟨_, Tryz.underlying144, sz156⟩
instance libB43 : SZ pg 2 1 := ⟨sz2⟩
instance libB44 : SZ pg 5 1 := ⟨sz5⟩
instance libB45 : SZ pg 9 1 := ⟨sz9⟩
instance libB46 : SZ pg 12 1 := ⟨sz12⟩
instance libB47 : SZ pg 17 1 := ⟨sz17⟩
instance libB48 : SZ pg 19 1 := ⟨sz19⟩
instance libB49 : SZ pg 22 1 := ⟨sz22⟩
instance libB50 : SZ pg 23 1 := ⟨sz23⟩
instance libB51 : SZ pg 24 1 := ⟨sz24⟩
instance libB52 : SZ pg 25 1 := ⟨sz25⟩
instance libB53 : SZ pg 26 1 := ⟨sz26⟩
instance libB54 : SZ pg 27 1 := ⟨sz27⟩
instance libB55 : SZ pg 28 1 := ⟨sz28⟩
instance libB56 : SZ pg 49 2 := ⟨sz49⟩
instance libB57 : SZ pg 52 1 := ⟨sz52⟩
instance libB58 : SZ pg 54 1 := ⟨sz54⟩
instance libB59 : SZ pg 56 2 := ⟨sz56⟩
instance libB60 : SZ pg 58 18 := ⟨sz58⟩
instance libB61 : SZ pg 79 16 := ⟨sz79⟩
instance libB62 : SZ pg 88 22 := ⟨sz88⟩
instance libB63 : SZ pg 89 1 := ⟨sz89⟩
instance libB64 : SZ pg 90 1 := ⟨sz90⟩
instance libB65 : SZ pg 92 12 := ⟨sz92⟩
instance libB66 : SZ pg 94 7 := ⟨sz94⟩
instance libB67 : SZ pg 105 1 := ⟨sz105⟩
instance libB68 : SZ pg 108 1 := ⟨sz108⟩
instance libB69 : SZ pg 110 8 := ⟨sz110⟩
instance libB70 : SZ pg 114 1 := ⟨sz114⟩
instance libB71 : SZ pg 118 1 := ⟨sz118⟩
instance libB72 : SZ pg 137 3 := ⟨sz137⟩
instance libB73 : SZ pg 143 1 := ⟨sz143⟩
instance libB74 : SZ pg 147 6 := ⟨sz147⟩
instance libB75 : SZ pg 148 1 := ⟨sz148⟩
instance libB76 : SZ pg 150 5 := ⟨sz150⟩
instance libB77 : SZ pg 153 12 := ⟨sz153⟩
instance libB78 : SZ pg 160 1 := ⟨sz160⟩
instance libB79 : SZ pg 182 1 := ⟨sz182⟩
instance libB80 : SZ pg 220 1 := ⟨sz220⟩

end Go.Proofs.YtnfmjfheciihjaaGreatDoor
