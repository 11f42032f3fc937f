/- Walks (part LibB), printed by walk2.py. Conditions: those of each theorem. -/
import Derived.Test.YtnfmjfheciihjaaGreatDoorQLibA
import Derived.Test.YtnfmjfheciihjaaGreatDoorQAuto2
set_option maxRecDepth 8000
set_option maxHeartbeats 16000000
namespace Go.Proofs.YtnfmjfheciihjaaGreatDoor
open Go Go.K Go.RowKit
attribute [local irreducible] AW RW DW Post Qt

theorem sz2 : (Tryz.prog.info? 2).map (·.size) = some 1 := by kernel_rfl
theorem sz12 : (Tryz.prog.info? 12).map (·.size) = some 1 := by kernel_rfl
theorem sz17 : (Tryz.prog.info? 17).map (·.size) = some 1 := by kernel_rfl
theorem sz19 : (Tryz.prog.info? 19).map (·.size) = some 1 := by kernel_rfl
theorem sz26 : (Tryz.prog.info? 26).map (·.size) = some 1 := by kernel_rfl
theorem sz27 : (Tryz.prog.info? 27).map (·.size) = some 1 := by kernel_rfl
theorem sz28 : (Tryz.prog.info? 28).map (·.size) = some 1 := by kernel_rfl
theorem sz36 : (Tryz.prog.info? 36).map (·.size) = some 1 := by kernel_rfl
theorem sz38 : (Tryz.prog.info? 38).map (·.size) = some 6 := by kernel_rfl
theorem zero38 : (Tryz.prog.info? 38).map (·.zero) = some (some (.agg #[.slice none 0 0, .slice none 0 0, .slice none 0 0, .slice none 0 0, .int .i64 0, .slice none 0 0])) := by kernel_rfl
theorem places38 : Plc Tryz.prog (fO Tryz.underlying38) #[(0, 1), (1, 1), (2, 1), (3, 1), (4, 1), (5, 1)] := fun w => by kernel_rfl
theorem sz42 : (Tryz.prog.info? 42).map (·.size) = some 1 := by kernel_rfl
theorem sz45 : (Tryz.prog.info? 45).map (·.size) = some 3 := by kernel_rfl
theorem zero45 : (Tryz.prog.info? 45).map (·.zero) = some (some (.agg #[.slice none 0 0, .int .i64 0, .int .i64 0])) := by kernel_rfl
theorem places45 : Plc Tryz.prog (fO Tryz.underlying45) #[(0, 1), (1, 1), (2, 1)] := fun w => by kernel_rfl
theorem sz49 : (Tryz.prog.info? 49).map (·.size) = some 2 := by kernel_rfl
theorem zero49 : (Tryz.prog.info? 49).map (·.zero) = some (some (.agg #[.int .i64 0, .int .i64 0])) := by kernel_rfl
theorem inf49 : (Tryz.prog.info? 49).map (fun i => (i.zero, i.size, i.bytes)) = some (some (.agg #[.int .i64 0, .int .i64 0]), 2, 16) := by kernel_rfl
theorem places49 : Plc Tryz.prog (fO Tryz.underlying49) #[(0, 1), (1, 1)] := fun w => by kernel_rfl
theorem sz52 : (Tryz.prog.info? 52).map (·.size) = some 1 := by kernel_rfl
theorem sz54 : (Tryz.prog.info? 54).map (·.size) = some 1 := by kernel_rfl
theorem sz56 : (Tryz.prog.info? 56).map (·.size) = some 2 := by kernel_rfl
theorem sz75 : (Tryz.prog.info? 75).map (·.size) = some 1 := by kernel_rfl
theorem sz77 : (Tryz.prog.info? 77).map (·.size) = some 4 := by kernel_rfl
theorem zero77 : (Tryz.prog.info? 77).map (·.zero) = some (some (.agg #[.int .i64 0, .int .i64 0, .int .i64 0, .int .i64 0])) := by kernel_rfl
theorem places77 : Plc Tryz.prog (fO Tryz.underlying77) #[(0, 1), (1, 1), (2, 1), (3, 1)] := fun w => by kernel_rfl
theorem sz79 : (Tryz.prog.info? 79).map (·.size) = some 16 := by kernel_rfl
theorem zero79 : (Tryz.prog.info? 79).map (·.zero) = some (some (.agg #[.slice none 0 0, .slice none 0 0, .slice none 0 0, .slice none 0 0, .slice none 0 0, .slice none 0 0, .int .i64 0, .slice none 0 0, .int .i64 0, .int .i64 0, .int .i64 0, .int .i64 0, .int .i64 0, .int .i64 0, .slice none 0 0, .slice none 0 0])) := by kernel_rfl
theorem places79 : Plc Tryz.prog (fO Tryz.underlying79) #[(0, 2), (2, 6), (8, 4), (12, 1), (13, 1), (14, 1), (15, 1)] := fun w => by kernel_rfl
theorem sz83 : (Tryz.prog.info? 83).map (·.size) = some 1 := by kernel_rfl
theorem zero83 : (Tryz.prog.info? 83).map (·.zero) = some (some (.agg #[.int .i64 0])) := by kernel_rfl
theorem places83 : Plc Tryz.prog (fO Tryz.underlying83) #[(0, 1)] := fun w => by kernel_rfl
theorem sz88 : (Tryz.prog.info? 88).map (·.size) = some 22 := by kernel_rfl
theorem sz90 : (Tryz.prog.info? 90).map (·.size) = some 1 := by kernel_rfl
theorem sz114 : (Tryz.prog.info? 114).map (·.size) = some 1 := by kernel_rfl
theorem sz117 : (Tryz.prog.info? 117).map (·.size) = some 5 := by kernel_rfl
theorem zero117 : (Tryz.prog.info? 117).map (·.zero) = some (some (.agg #[.slice none 0 0, .map none, .map none, .map none, .map none])) := by kernel_rfl
theorem places117 : Plc Tryz.prog (fO Tryz.underlying117) #[(0, 1), (1, 1), (2, 1), (3, 1), (4, 1)] := fun w => by kernel_rfl
theorem sz118 : (Tryz.prog.info? 118).map (·.size) = some 1 := by kernel_rfl
theorem sz135 : (Tryz.prog.info? 135).map (·.size) = some 1 := by kernel_rfl
theorem sz220 : (Tryz.prog.info? 220).map (·.size) = some 1 := by kernel_rfl
instance libB0 : FA Tryz.prog 38 2 2 := fA Tryz.underlying38 rfl sz36
instance libB1 : FA Tryz.prog 45 0 0 := fA Tryz.underlying45 rfl sz42
instance libB2 : FA Tryz.prog 79 1 2 := fA Tryz.underlying79 rfl sz38
instance libB3 : FA Tryz.prog 79 2 8 := fA Tryz.underlying79 rfl sz77
instance libB4 : FA Tryz.prog 79 6 15 := fA Tryz.underlying79 rfl sz52
instance libB5 : FA Tryz.prog 88 2 13 := fA Tryz.underlying88 rfl sz38
instance libB6 : FA Tryz.prog 117 1 1 := fA Tryz.underlying117 rfl sz114
instance libB7 : FA Tryz.prog 117 2 2 := fA Tryz.underlying117 rfl sz114
instance libB8 : FA Tryz.prog 117 3 3 := fA Tryz.underlying117 rfl sz114
instance libB9 : FA Tryz.prog 117 4 4 := fA Tryz.underlying117 rfl sz114
instance libB10 : AG Tryz.prog 38 6 := ⟨_, Tryz.underlying38, rfl, sz38⟩
instance libB11 : AG Tryz.prog 45 3 := ⟨_, Tryz.underlying45, rfl, sz45⟩
instance libB12 : AG Tryz.prog 49 2 := ⟨_, Tryz.underlying49, rfl, sz49⟩
instance libB13 : AG Tryz.prog 117 5 := ⟨_, Tryz.underlying117, rfl, sz117⟩
instance libB14 : SZ Tryz.prog 36 1 := ⟨sz36⟩
instance libB15 : SZ Tryz.prog 38 6 := ⟨sz38⟩
instance libB16 : SZ Tryz.prog 42 1 := ⟨sz42⟩
instance libB17 : SZ Tryz.prog 45 3 := ⟨sz45⟩
instance libB18 : SZ Tryz.prog 75 1 := ⟨sz75⟩
instance libB19 : SZ Tryz.prog 77 4 := ⟨sz77⟩
instance libB20 : SZ Tryz.prog 83 1 := ⟨sz83⟩
instance libB21 : SZ Tryz.prog 117 5 := ⟨sz117⟩
instance libB22 : SZ Tryz.prog 135 1 := ⟨sz135⟩
instance libB23 : ZL Tryz.prog 38 [(.slice none 0 0), (.slice none 0 0), (.slice none 0 0), (.slice none 0 0), .int .i64 0, (.slice none 0 0)] := ⟨_, zero38, rfl⟩
instance libB24 : ZL Tryz.prog 45 [(.slice none 0 0), .int .i64 0, .int .i64 0] := ⟨_, zero45, rfl⟩
instance libB25 : ZL Tryz.prog 77 [.int .i64 0, .int .i64 0, .int .i64 0, .int .i64 0] := ⟨_, zero77, rfl⟩
instance libB26 : ZL Tryz.prog 83 [.int .i64 0] := ⟨_, zero83, rfl⟩
instance libB27 : IX Tryz.prog 22 1 := ⟨_, Tryz.underlying22, sz9⟩
instance libB28 : IX Tryz.prog 23 12 := ⟨_, Tryz.underlying23, sz92⟩
instance libB29 : IX Tryz.prog 24 18 := ⟨_, Tryz.underlying24, sz58⟩
instance libB30 : IX Tryz.prog 25 7 := ⟨_, Tryz.underlying25, sz94⟩
instance libB31 : IX Tryz.prog 29 1 := ⟨_, Tryz.underlying29, sz3⟩
instance libB32 : IX Tryz.prog 32 8 := ⟨_, Tryz.underlying32, sz71⟩
instance libB33 : IX Tryz.prog 33 11 := ⟨_, Tryz.underlying33, sz73⟩
instance libB34 : IX Tryz.prog 36 1 := ⟨_, Tryz.underlying36, sz29⟩
instance libB35 : IX Tryz.prog 42 2 := ⟨_, Tryz.underlying42, sz49⟩
instance libB36 : IX Tryz.prog 52 1 := ⟨_, Tryz.underlying52, sz4⟩
instance libB37 : IX Tryz.prog 67 5 := ⟨_, Tryz.underlying67, sz69⟩
instance libB38 : IX Tryz.prog 95 3 := ⟨_, Tryz.underlying95, sz134⟩
instance libB39 : IX Tryz.prog 98 1 := ⟨_, Tryz.underlying98, sz143⟩
instance libB40 : IX Tryz.prog 99 1 := ⟨_, Tryz.underlying99, sz148⟩
instance libB41 : IX Tryz.prog 142 1 := ⟨_, Tryz.underlying142, sz145⟩
instance libB42 : IX Tryz.prog 144 4 := ⟨_, Tryz.underlying144, sz156⟩
instance libB43 : SZ Tryz.prog 2 1 := ⟨sz2⟩
instance libB44 : SZ Tryz.prog 5 1 := ⟨sz5⟩
instance libB45 : SZ Tryz.prog 9 1 := ⟨sz9⟩
instance libB46 : SZ Tryz.prog 12 1 := ⟨sz12⟩
instance libB47 : SZ Tryz.prog 17 1 := ⟨sz17⟩
instance libB48 : SZ Tryz.prog 19 1 := ⟨sz19⟩
instance libB49 : SZ Tryz.prog 22 1 := ⟨sz22⟩
instance libB50 : SZ Tryz.prog 23 1 := ⟨sz23⟩
instance libB51 : SZ Tryz.prog 24 1 := ⟨sz24⟩
instance libB52 : SZ Tryz.prog 25 1 := ⟨sz25⟩
instance libB53 : SZ Tryz.prog 26 1 := ⟨sz26⟩
instance libB54 : SZ Tryz.prog 27 1 := ⟨sz27⟩
instance libB55 : SZ Tryz.prog 28 1 := ⟨sz28⟩
instance libB56 : SZ Tryz.prog 49 2 := ⟨sz49⟩
instance libB57 : SZ Tryz.prog 52 1 := ⟨sz52⟩
instance libB58 : SZ Tryz.prog 54 1 := ⟨sz54⟩
instance libB59 : SZ Tryz.prog 56 2 := ⟨sz56⟩
instance libB60 : SZ Tryz.prog 58 18 := ⟨sz58⟩
instance libB61 : SZ Tryz.prog 79 16 := ⟨sz79⟩
instance libB62 : SZ Tryz.prog 88 22 := ⟨sz88⟩
instance libB63 : SZ Tryz.prog 89 1 := ⟨sz89⟩
instance libB64 : SZ Tryz.prog 90 1 := ⟨sz90⟩
instance libB65 : SZ Tryz.prog 92 12 := ⟨sz92⟩
instance libB66 : SZ Tryz.prog 94 7 := ⟨sz94⟩
instance libB67 : SZ Tryz.prog 105 1 := ⟨sz105⟩
instance libB68 : SZ Tryz.prog 108 1 := ⟨sz108⟩
instance libB69 : SZ Tryz.prog 110 8 := ⟨sz110⟩
instance libB70 : SZ Tryz.prog 114 1 := ⟨sz114⟩
instance libB71 : SZ Tryz.prog 118 1 := ⟨sz118⟩
instance libB72 : SZ Tryz.prog 137 3 := ⟨sz137⟩
instance libB73 : SZ Tryz.prog 143 1 := ⟨sz143⟩
instance libB74 : SZ Tryz.prog 147 6 := ⟨sz147⟩
instance libB75 : SZ Tryz.prog 148 1 := ⟨sz148⟩
instance libB76 : SZ Tryz.prog 150 5 := ⟨sz150⟩
instance libB77 : SZ Tryz.prog 153 12 := ⟨sz153⟩
instance libB78 : SZ Tryz.prog 160 1 := ⟨sz160⟩
instance libB79 : SZ Tryz.prog 182 1 := ⟨sz182⟩
instance libB80 : SZ Tryz.prog 220 1 := ⟨sz220⟩

end Go.Proofs.YtnfmjfheciihjaaGreatDoor
