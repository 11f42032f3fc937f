/- Lemmas. Conditions: those of each theorem. -/
import Derived.Test.YtnfmjfheciihjaaGreatDoorRows
import Derived.Test.YtnfmjfheciihjaaGreatDoorYNums
import Derived.Test.YtnfmjfheciihjaaGreatDoorYLen
import Derived.Test.YtnfmjfheciihjaaGreatDoorYAuto
import Derived.Lib.ItoaNum
set_option maxRecDepth 8000
set_option maxHeartbeats 16000000
namespace Go.Proofs.YtnfmjfheciihjaaGreatDoor
open Go Go.K Go.RowKit
theorem oK {k : FuncId} (h : (Tryz.prog.funcs[k]?).map (fun fn => fn.name == "runtime.NumGoroutine" || fn.body.isNone) = some false := by kernel_rfl) : Go.K.Own Tryz.prog k := own_of h
noncomputable abbrev pg := Tryz.prog
theorem uT3 : type_of% @Tryz.underlying3 := @Tryz.underlying3
theorem uT4 : type_of% @Tryz.underlying4 := @Tryz.underlying4
theorem uT5 : type_of% @Tryz.underlying5 := @Tryz.underlying5
theorem uT9 : type_of% @Tryz.underlying9 := @Tryz.underlying9
theorem uT20 : type_of% @Tryz.underlying20 := @Tryz.underlying20
theorem uT22 : type_of% @Tryz.underlying22 := @Tryz.underlying22
theorem uT23 : type_of% @Tryz.underlying23 := @Tryz.underlying23
theorem uT24 : type_of% @Tryz.underlying24 := @Tryz.underlying24
theorem uT25 : type_of% @Tryz.underlying25 := @Tryz.underlying25
theorem uT29 : type_of% @Tryz.underlying29 := @Tryz.underlying29
theorem uT31 : type_of% @Tryz.underlying31 := @Tryz.underlying31
theorem uT32 : type_of% @Tryz.underlying32 := @Tryz.underlying32
theorem uT33 : type_of% @Tryz.underlying33 := @Tryz.underlying33
theorem uT35 : type_of% @Tryz.underlying35 := @Tryz.underlying35
theorem uT36 : type_of% @Tryz.underlying36 := @Tryz.underlying36
theorem uT38 : type_of% @Tryz.underlying38 := @Tryz.underlying38
theorem uT42 : type_of% @Tryz.underlying42 := @Tryz.underlying42
theorem uT45 : type_of% @Tryz.underlying45 := @Tryz.underlying45
theorem uT49 : type_of% @Tryz.underlying49 := @Tryz.underlying49
theorem uT52 : type_of% @Tryz.underlying52 := @Tryz.underlying52
theorem uT58 : type_of% @Tryz.underlying58 := @Tryz.underlying58
theorem uT67 : type_of% @Tryz.underlying67 := @Tryz.underlying67
theorem uT69 : type_of% @Tryz.underlying69 := @Tryz.underlying69
theorem uT71 : type_of% @Tryz.underlying71 := @Tryz.underlying71
theorem uT73 : type_of% @Tryz.underlying73 := @Tryz.underlying73
theorem uT77 : type_of% @Tryz.underlying77 := @Tryz.underlying77
theorem uT79 : type_of% @Tryz.underlying79 := @Tryz.underlying79
theorem uT83 : type_of% @Tryz.underlying83 := @Tryz.underlying83
theorem uT92 : type_of% @Tryz.underlying92 := @Tryz.underlying92
theorem uT94 : type_of% @Tryz.underlying94 := @Tryz.underlying94
theorem uT95 : type_of% @Tryz.underlying95 := @Tryz.underlying95
theorem uT98 : type_of% @Tryz.underlying98 := @Tryz.underlying98
theorem uT99 : type_of% @Tryz.underlying99 := @Tryz.underlying99
theorem uT101 : type_of% @Tryz.underlying101 := @Tryz.underlying101
theorem uT108 : type_of% @Tryz.underlying108 := @Tryz.underlying108
theorem uT110 : type_of% @Tryz.underlying110 := @Tryz.underlying110
theorem uT112 : type_of% @Tryz.underlying112 := @Tryz.underlying112
theorem uT114 : type_of% @Tryz.underlying114 := @Tryz.underlying114
theorem uT117 : type_of% @Tryz.underlying117 := @Tryz.underlying117
theorem uT118 : type_of% @Tryz.underlying118 := @Tryz.underlying118
theorem uT134 : type_of% @Tryz.underlying134 := @Tryz.underlying134
theorem uT137 : type_of% @Tryz.underlying137 := @Tryz.underlying137
theorem uT139 : type_of% @Tryz.underlying139 := @Tryz.underlying139
theorem uT142 : type_of% @Tryz.underlying142 := @Tryz.underlying142
theorem uT143 : type_of% @Tryz.underlying143 := @Tryz.underlying143
theorem uT144 : type_of% @Tryz.underlying144 := @Tryz.underlying144
theorem uT145 : type_of% @Tryz.underlying145 := @Tryz.underlying145
theorem uT147 : type_of% @Tryz.underlying147 := @Tryz.underlying147
theorem uT148 : type_of% @Tryz.underlying148 := @Tryz.underlying148
theorem uT150 : type_of% @Tryz.underlying150 := @Tryz.underlying150
theorem uT153 : type_of% @Tryz.underlying153 := @Tryz.underlying153
theorem uT156 : type_of% @Tryz.underlying156 := @Tryz.underlying156
theorem uT164 : type_of% @Tryz.underlying164 := @Tryz.underlying164
theorem uT182 : type_of% @Tryz.underlying182 := @Tryz.underlying182
theorem uT197 : type_of% @Tryz.underlying197 := @Tryz.underlying197
theorem uT198 : type_of% @Tryz.underlying198 := @Tryz.underlying198
theorem uT199 : type_of% @Tryz.underlying199 := @Tryz.underlying199
theorem uT202 : type_of% @Tryz.underlying202 := @Tryz.underlying202
theorem uT212 : type_of% @Tryz.underlying212 := @Tryz.underlying212
theorem uT216 : type_of% @Tryz.underlying216 := @Tryz.underlying216
attribute [local irreducible] AW RW DW Post Qt
abbrev zN5 : List Value := [iV 0, iV 0, iV 0, iV 0, .slice none 0 0]
theorem hmix : Tryz.prog.follows .mixedOrders = true := by kernel_rfl
theorem sz3 : (Tryz.prog.info? 3).map (·.size) = some 1 := by kernel_rfl
theorem zero3 : (Tryz.prog.info? 3).map (·.zero) = some (some (iV 0)) := by kernel_rfl
theorem inf3 : (Tryz.prog.info? 3).map (fun i => (i.zero, i.size, i.bytes)) = some (some (iV 0), 1, 8) := by kernel_rfl
theorem sz4 : (Tryz.prog.info? 4).map (·.size) = some 1 := by kernel_rfl
theorem zero4 : (Tryz.prog.info? 4).map (·.zero) = some (some (.bool false)) := by kernel_rfl
theorem inf4 : (Tryz.prog.info? 4).map (fun i => (i.zero, i.size, i.bytes)) = some (some (.bool false), 1, 1) := by kernel_rfl
theorem sz5 : (Tryz.prog.info? 5).map (·.size) = some 1 := by kernel_rfl
theorem sz9 : (Tryz.prog.info? 9).map (·.size) = some 1 := by kernel_rfl
theorem inf9 : (Tryz.prog.info? 9).map (fun i => (i.zero, i.size, i.bytes)) = some (some (.string ⟨#[]⟩), 1, 16) := by kernel_rfl
theorem sz22 : (Tryz.prog.info? 22).map (·.size) = some 1 := by kernel_rfl
theorem sz23 : (Tryz.prog.info? 23).map (·.size) = some 1 := by kernel_rfl
theorem sz24 : (Tryz.prog.info? 24).map (·.size) = some 1 := by kernel_rfl
theorem sz25 : (Tryz.prog.info? 25).map (·.size) = some 1 := by kernel_rfl
theorem sz29 : (Tryz.prog.info? 29).map (·.size) = some 1 := by kernel_rfl
theorem inf29 : (Tryz.prog.info? 29).map (fun i => (i.zero, i.size, i.bytes)) = some (some nS, 1, 24) := by kernel_rfl
theorem sz31 : (Tryz.prog.info? 31).map (·.size) = some 11 := by kernel_rfl
theorem zero31 : (Tryz.prog.info? 31).map (·.zero) = some (some (.agg #[.string ⟨#[]⟩, .slice none 0 0, iV 0, .slice none 0 0, .slice none 0 0, .slice none 0 0, .slice none 0 0, .slice none 0 0, .slice none 0 0, .slice none 0 0, iV 0])) := by kernel_rfl
theorem places31 : Plc Tryz.prog (fO Tryz.underlying31) #[(0, 1), (1, 1), (2, 1), (3, 1), (4, 1), (5, 1), (6, 1), (7, 1), (8, 1), (9, 1), (10, 1)] := fun w => by kernel_rfl
theorem sz32 : (Tryz.prog.info? 32).map (·.size) = some 1 := by kernel_rfl
theorem sz33 : (Tryz.prog.info? 33).map (·.size) = some 1 := by kernel_rfl
theorem sz35 : (Tryz.prog.info? 35).map (·.size) = some 2 := by kernel_rfl
theorem zero35 : (Tryz.prog.info? 35).map (·.zero) = some (some (.agg #[.slice none 0 0, .slice none 0 0])) := by kernel_rfl
theorem places35 : Plc Tryz.prog (fO Tryz.underlying35) #[(0, 1), (1, 1)] := fun w => by kernel_rfl
theorem sz43 : (Tryz.prog.info? 43).map (·.size) = some 1 := by kernel_rfl
theorem zero43 : (Tryz.prog.info? 43).map (·.zero) = some (some (iV 0)) := by kernel_rfl
theorem sz58 : (Tryz.prog.info? 58).map (·.size) = some 18 := by kernel_rfl
theorem zero58 : (Tryz.prog.info? 58).map (·.zero) = some (some (.agg #[.string ⟨#[]⟩, iV 0, iV 0, iV 0, .slice none 0 0, .slice none 0 0, .slice none 0 0, iV 0, iV 0, iV 0, iV 0, iV 0, iV 0, iV 0, iV 0, iV 0, iV 0, iV 0])) := by kernel_rfl
theorem inf58 : (Tryz.prog.info? 58).map (fun i => (i.zero, i.size, i.bytes)) = some (some (.agg #[.string ⟨#[]⟩, iV 0, iV 0, iV 0, .slice none 0 0, .slice none 0 0, .slice none 0 0, iV 0, iV 0, iV 0, iV 0, iV 0, iV 0, iV 0, iV 0, iV 0, iV 0, iV 0]), 18, 200) := by kernel_rfl
theorem places58 : Plc Tryz.prog (fO Tryz.underlying58) #[(0, 1), (1, 1), (2, 1), (3, 1), (4, 1), (5, 2), (7, 1), (8, 1), (9, 1), (10, 1), (11, 1), (12, 1), (13, 1), (14, 1), (15, 1), (16, 1), (17, 1)] := fun w => by kernel_rfl
theorem sz67 : (Tryz.prog.info? 67).map (·.size) = some 1 := by kernel_rfl
theorem sz69 : (Tryz.prog.info? 69).map (·.size) = some 5 := by kernel_rfl
theorem zero69 : (Tryz.prog.info? 69).map (·.zero) = some (some (.agg #[iV 0, iV 0, iV 0, iV 0, .slice none 0 0])) := by kernel_rfl
theorem inf69 : (Tryz.prog.info? 69).map (fun i => (i.zero, i.size, i.bytes)) = some (some (.agg #[iV 0, iV 0, iV 0, iV 0, .slice none 0 0]), 5, 56) := by kernel_rfl
theorem places69 : Plc Tryz.prog (fO Tryz.underlying69) #[(0, 1), (1, 1), (2, 1), (3, 1), (4, 1)] := fun w => by kernel_rfl
theorem sz71 : (Tryz.prog.info? 71).map (·.size) = some 8 := by kernel_rfl
theorem zero71 : (Tryz.prog.info? 71).map (·.zero) = some (some (.agg #[.string ⟨#[]⟩, .slice none 0 0, iV 0, iV 0, iV 0, iV 0, iV 0, .slice none 0 0])) := by kernel_rfl
theorem inf71 : (Tryz.prog.info? 71).map (fun i => (i.zero, i.size, i.bytes)) = some (some (.agg #[.string ⟨#[]⟩, .slice none 0 0, iV 0, iV 0, iV 0, iV 0, iV 0, .slice none 0 0]), 8, 104) := by kernel_rfl
theorem places71 : Plc Tryz.prog (fO Tryz.underlying71) #[(0, 1), (1, 1), (2, 1), (3, 5)] := fun w => by kernel_rfl
theorem sz73 : (Tryz.prog.info? 73).map (·.size) = some 11 := by kernel_rfl
theorem zero73 : (Tryz.prog.info? 73).map (·.zero) = some (some (.agg #[iV 0, iV 0, iV 0, iV 0, .slice none 0 0, iV 0, iV 0, iV 0, iV 0, iV 0, .slice none 0 0])) := by kernel_rfl
theorem inf73 : (Tryz.prog.info? 73).map (fun i => (i.zero, i.size, i.bytes)) = some (some (.agg #[iV 0, iV 0, iV 0, iV 0, .slice none 0 0, iV 0, iV 0, iV 0, iV 0, iV 0, .slice none 0 0]), 11, 120) := by kernel_rfl
theorem places73 : Plc Tryz.prog (fO Tryz.underlying73) #[(0, 5), (5, 1), (6, 5)] := fun w => by kernel_rfl
theorem sz89 : (Tryz.prog.info? 89).map (·.size) = some 1 := by kernel_rfl
theorem sz92 : (Tryz.prog.info? 92).map (·.size) = some 12 := by kernel_rfl
theorem zero92 : (Tryz.prog.info? 92).map (·.zero) = some (some (.agg #[.string ⟨#[]⟩, iV 0, iV 0, iV 0, .slice none 0 0, .slice none 0 0, iV 0, iV 0, iV 0, iV 0, iV 0, .slice none 0 0])) := by kernel_rfl
theorem inf92 : (Tryz.prog.info? 92).map (fun i => (i.zero, i.size, i.bytes)) = some (some (.agg #[.string ⟨#[]⟩, iV 0, iV 0, iV 0, .slice none 0 0, .slice none 0 0, iV 0, iV 0, iV 0, iV 0, iV 0, .slice none 0 0]), 12, 152) := by kernel_rfl
theorem places92 : Plc Tryz.prog (fO Tryz.underlying92) #[(0, 1), (1, 1), (2, 1), (3, 1), (4, 1), (5, 1), (6, 1), (7, 1), (8, 1), (9, 1), (10, 1), (11, 1)] := fun w => by kernel_rfl
theorem sz94 : (Tryz.prog.info? 94).map (·.size) = some 7 := by kernel_rfl
theorem zero94 : (Tryz.prog.info? 94).map (·.zero) = some (some (.agg #[.string ⟨#[]⟩, iV 0, iV 0, iV 0, iV 0, iV 0, iV 0])) := by kernel_rfl
theorem inf94 : (Tryz.prog.info? 94).map (fun i => (i.zero, i.size, i.bytes)) = some (some (.agg #[.string ⟨#[]⟩, iV 0, iV 0, iV 0, iV 0, iV 0, iV 0]), 7, 64) := by kernel_rfl
theorem places94 : Plc Tryz.prog (fO Tryz.underlying94) #[(0, 1), (1, 1), (2, 1), (3, 1), (4, 1), (5, 1), (6, 1)] := fun w => by kernel_rfl
theorem sz95 : (Tryz.prog.info? 95).map (·.size) = some 1 := by kernel_rfl
theorem zero95 : (Tryz.prog.info? 95).map (·.zero) = some (some nS) := by kernel_rfl
theorem sz98 : (Tryz.prog.info? 98).map (·.size) = some 1 := by kernel_rfl
theorem sz99 : (Tryz.prog.info? 99).map (·.size) = some 1 := by kernel_rfl
theorem sz101 : (Tryz.prog.info? 101).map (·.size) = some 2 := by kernel_rfl
theorem zero101 : (Tryz.prog.info? 101).map (·.zero) = some (some (.agg #[.slice none 0 0, .slice none 0 0])) := by kernel_rfl
theorem places101 : Plc Tryz.prog (fO Tryz.underlying101) #[(0, 1), (1, 1)] := fun w => by kernel_rfl
theorem sz105 : (Tryz.prog.info? 105).map (·.size) = some 1 := by kernel_rfl
theorem sz108 : (Tryz.prog.info? 108).map (·.size) = some 1 := by kernel_rfl
theorem sz110 : (Tryz.prog.info? 110).map (·.size) = some 8 := by kernel_rfl
theorem zero110 : (Tryz.prog.info? 110).map (·.zero) = some (some (.agg #[.slice none 0 0, .slice none 0 0, .map none, .map none, .map none, .map none, .map none, iV 0])) := by kernel_rfl
theorem places110 : Plc Tryz.prog (fO Tryz.underlying110) #[(0, 2), (2, 1), (3, 1), (4, 1), (5, 1), (6, 1), (7, 1)] := fun w => by kernel_rfl
theorem sz112 : (Tryz.prog.info? 112).map (·.size) = some 3 := by kernel_rfl
theorem zero112 : (Tryz.prog.info? 112).map (·.zero) = some (some (.agg #[.slice none 0 0, .slice none 0 0, iV 0])) := by kernel_rfl
theorem places112 : Plc Tryz.prog (fO Tryz.underlying112) #[(0, 2), (2, 1)] := fun w => by kernel_rfl
theorem sz134 : (Tryz.prog.info? 134).map (·.size) = some 3 := by kernel_rfl
theorem zero134 : (Tryz.prog.info? 134).map (·.zero) = some (some (.agg #[iV 0, .string ⟨#[]⟩, iV 0])) := by kernel_rfl
theorem inf134 : (Tryz.prog.info? 134).map (fun i => (i.zero, i.size, i.bytes)) = some (some (.agg #[iV 0, .string ⟨#[]⟩, iV 0]), 3, 32) := by kernel_rfl
theorem places134 : Plc Tryz.prog (fO Tryz.underlying134) #[(0, 1), (1, 1), (2, 1)] := fun w => by kernel_rfl
theorem sz137 : (Tryz.prog.info? 137).map (·.size) = some 3 := by kernel_rfl
theorem zero137 : (Tryz.prog.info? 137).map (·.zero) = some (some (.agg #[.slice none 0 0, iV 0, iV 0])) := by kernel_rfl
theorem places137 : Plc Tryz.prog (fO Tryz.underlying137) #[(0, 1), (1, 1), (2, 1)] := fun w => by kernel_rfl
theorem sz139 : (Tryz.prog.info? 139).map (·.size) = some 1 := by kernel_rfl
theorem zero139 : (Tryz.prog.info? 139).map (·.zero) = some (some (.agg #[iV 0])) := by kernel_rfl
theorem places139 : Plc Tryz.prog (fO Tryz.underlying139) #[(0, 1)] := fun w => by kernel_rfl
theorem sz142 : (Tryz.prog.info? 142).map (·.size) = some 1 := by kernel_rfl
theorem sz143 : (Tryz.prog.info? 143).map (·.size) = some 1 := by kernel_rfl
theorem inf143 : (Tryz.prog.info? 143).map (fun i => (i.zero, i.size, i.bytes)) = some (some (.pointer none), 1, 8) := by kernel_rfl
theorem sz144 : (Tryz.prog.info? 144).map (·.size) = some 1 := by kernel_rfl
theorem sz145 : (Tryz.prog.info? 145).map (·.size) = some 1 := by kernel_rfl
theorem inf145 : (Tryz.prog.info? 145).map (fun i => (i.zero, i.size, i.bytes)) = some (some (.pointer none), 1, 8) := by kernel_rfl
theorem sz147 : (Tryz.prog.info? 147).map (·.size) = some 6 := by kernel_rfl
theorem zero147 : (Tryz.prog.info? 147).map (·.zero) = some (some (.agg #[iV 0, .string ⟨#[]⟩, iV 0, .slice none 0 0, iV 0, .pointer none])) := by kernel_rfl
theorem places147 : Plc Tryz.prog (fO Tryz.underlying147) #[(0, 3), (3, 1), (4, 1), (5, 1)] := fun w => by kernel_rfl
theorem sz148 : (Tryz.prog.info? 148).map (·.size) = some 1 := by kernel_rfl
theorem inf148 : (Tryz.prog.info? 148).map (fun i => (i.zero, i.size, i.bytes)) = some (some (.pointer none), 1, 8) := by kernel_rfl
theorem sz150 : (Tryz.prog.info? 150).map (·.size) = some 5 := by kernel_rfl
theorem zero150 : (Tryz.prog.info? 150).map (·.zero) = some (some (.agg #[iV 0, .string ⟨#[]⟩, iV 0, .pointer none, .pointer none])) := by kernel_rfl
theorem places150 : Plc Tryz.prog (fO Tryz.underlying150) #[(0, 3), (3, 1), (4, 1)] := fun w => by kernel_rfl
theorem sz153 : (Tryz.prog.info? 153).map (·.size) = some 12 := by kernel_rfl
theorem zero153 : (Tryz.prog.info? 153).map (·.zero) = some (some (.agg #[iV 0, iV 0, iV 0, iV 0, iV 0, iV 0, .string ⟨#[]⟩, iV 0, iV 0, .string ⟨#[]⟩, iV 0, .slice none 0 0])) := by kernel_rfl
theorem places153 : Plc Tryz.prog (fO Tryz.underlying153) #[(0, 1), (1, 1), (2, 1), (3, 1), (4, 1), (5, 3), (8, 3), (11, 1)] := fun w => by kernel_rfl
theorem sz156 : (Tryz.prog.info? 156).map (·.size) = some 4 := by kernel_rfl
theorem zero156 : (Tryz.prog.info? 156).map (·.zero) = some (some (.agg #[iV 0, .string ⟨#[]⟩, iV 0, iV 0])) := by kernel_rfl
theorem inf156 : (Tryz.prog.info? 156).map (fun i => (i.zero, i.size, i.bytes)) = some (some (.agg #[iV 0, .string ⟨#[]⟩, iV 0, iV 0]), 4, 40) := by kernel_rfl
theorem places156 : Plc Tryz.prog (fO Tryz.underlying156) #[(0, 3), (3, 1)] := fun w => by kernel_rfl
theorem sz160 : (Tryz.prog.info? 160).map (·.size) = some 1 := by kernel_rfl
theorem sz182 : (Tryz.prog.info? 182).map (·.size) = some 1 := by kernel_rfl
theorem sz197 : (Tryz.prog.info? 197).map (·.size) = some 2 := by kernel_rfl
theorem zero197 : (Tryz.prog.info? 197).map (·.zero) = some (some (.agg #[.string ⟨#[]⟩, iV 0])) := by kernel_rfl
theorem sz202 : (Tryz.prog.info? 202).map (·.size) = some 2 := by kernel_rfl
theorem zero202 : (Tryz.prog.info? 202).map (·.zero) = some (some (.agg #[iV 0, iV 0])) := by kernel_rfl
theorem places202 : Plc Tryz.prog (fO Tryz.underlying202) #[(0, 1), (1, 1)] := fun w => by kernel_rfl
theorem sz212 : (Tryz.prog.info? 212).map (·.size) = some 4 := by kernel_rfl
theorem zero212 : (Tryz.prog.info? 212).map (·.zero) = some (some (.agg #[.string ⟨#[]⟩, iV 0, iV 0, iV 0])) := by kernel_rfl
theorem places212 : Plc Tryz.prog (fO Tryz.underlying212) #[(0, 1), (1, 1), (2, 1), (3, 1)] := fun w => by kernel_rfl
instance : FA Tryz.prog 31 1 1 := fA Tryz.underlying31 rfl sz22
instance : FA Tryz.prog 31 3 3 := fA Tryz.underlying31 rfl sz23
instance : FA Tryz.prog 31 4 4 := fA Tryz.underlying31 rfl sz24
instance : FA Tryz.prog 31 5 5 := fA Tryz.underlying31 rfl sz25
instance : FA Tryz.prog 35 0 0 := fA Tryz.underlying35 rfl sz32
instance : FA Tryz.prog 35 1 1 := fA Tryz.underlying35 rfl sz33
instance : FA Tryz.prog 38 0 0 := fA Tryz.underlying38 rfl sz29
instance : FA Tryz.prog 38 1 1 := fA Tryz.underlying38 rfl sz29
instance : FA Tryz.prog 38 3 3 := fA Tryz.underlying38 rfl sz29
instance : FA Tryz.prog 38 4 4 := fA Tryz.underlying38 rfl sz3
instance : FA Tryz.prog 38 5 5 := fA Tryz.underlying38 rfl sz29
instance : FA Tryz.prog 45 1 1 := fA Tryz.underlying45 rfl sz3
instance : FA Tryz.prog 45 2 2 := fA Tryz.underlying45 rfl sz43
instance : FA Tryz.prog 49 1 1 := fA Tryz.underlying49 rfl sz3
instance : FA Tryz.prog 58 0 0 := fA Tryz.underlying58 rfl sz9
instance : FA Tryz.prog 58 6 7 := fA Tryz.underlying58 rfl sz3
instance : FA Tryz.prog 69 0 0 := fA Tryz.underlying69 rfl sz3
instance : FA Tryz.prog 69 1 1 := fA Tryz.underlying69 rfl sz3
instance : FA Tryz.prog 69 2 2 := fA Tryz.underlying69 rfl sz3
instance : FA Tryz.prog 69 3 3 := fA Tryz.underlying69 rfl sz3
instance : FA Tryz.prog 69 4 4 := fA Tryz.underlying69 rfl sz67
instance : FA Tryz.prog 71 0 0 := fA Tryz.underlying71 rfl sz9
instance : FA Tryz.prog 71 1 1 := fA Tryz.underlying71 rfl sz29
instance : FA Tryz.prog 71 2 2 := fA Tryz.underlying71 rfl sz3
instance : FA Tryz.prog 71 3 3 := fA Tryz.underlying71 rfl sz69
instance : FA Tryz.prog 73 0 0 := fA Tryz.underlying73 rfl sz69
instance : FA Tryz.prog 73 1 5 := fA Tryz.underlying73 rfl sz3
instance : FA Tryz.prog 73 2 6 := fA Tryz.underlying73 rfl sz69
instance : FA Tryz.prog 77 1 1 := fA Tryz.underlying77 rfl sz3
instance : FA Tryz.prog 77 2 2 := fA Tryz.underlying77 rfl sz3
instance : FA Tryz.prog 77 3 3 := fA Tryz.underlying77 rfl sz3
instance : FA Tryz.prog 79 0 0 := fA Tryz.underlying79 rfl sz35
instance : FA Tryz.prog 79 3 12 := fA Tryz.underlying79 rfl sz3
instance : FA Tryz.prog 79 4 13 := fA Tryz.underlying79 rfl sz3
instance : FA Tryz.prog 79 5 14 := fA Tryz.underlying79 rfl sz29
instance : FA Tryz.prog 83 0 0 := fA Tryz.underlying83 rfl sz43
instance : FA Tryz.prog 88 1 11 := fA Tryz.underlying88 rfl sz35
instance : FA Tryz.prog 88 3 19 := fA Tryz.underlying88 rfl sz3
instance : FA Tryz.prog 88 4 20 := fA Tryz.underlying88 rfl sz3
instance : FA Tryz.prog 88 5 21 := fA Tryz.underlying88 rfl sz43
instance : FA Tryz.prog 92 0 0 := fA Tryz.underlying92 rfl sz9
instance : FA Tryz.prog 94 0 0 := fA Tryz.underlying94 rfl sz9
instance : FA Tryz.prog 101 0 0 := fA Tryz.underlying101 rfl sz98
instance : FA Tryz.prog 101 1 1 := fA Tryz.underlying101 rfl sz99
instance : FA Tryz.prog 110 0 0 := fA Tryz.underlying110 rfl sz101
instance : FA Tryz.prog 110 1 2 := fA Tryz.underlying110 rfl sz108
instance : FA Tryz.prog 110 2 3 := fA Tryz.underlying110 rfl sz108
instance : FA Tryz.prog 110 3 4 := fA Tryz.underlying110 rfl sz108
instance : FA Tryz.prog 110 4 5 := fA Tryz.underlying110 rfl sz108
instance : FA Tryz.prog 110 5 6 := fA Tryz.underlying110 rfl sz108
instance : FA Tryz.prog 110 6 7 := fA Tryz.underlying110 rfl sz3
instance : FA Tryz.prog 112 0 0 := fA Tryz.underlying112 rfl sz101
instance : FA Tryz.prog 112 1 2 := fA Tryz.underlying112 rfl sz3
instance : FA Tryz.prog 117 0 0 := fA Tryz.underlying117 rfl sz32
instance : FA Tryz.prog 134 0 0 := fA Tryz.underlying134 rfl sz3
instance : FA Tryz.prog 134 1 1 := fA Tryz.underlying134 rfl sz9
instance : FA Tryz.prog 134 2 2 := fA Tryz.underlying134 rfl sz3
instance : FA Tryz.prog 137 0 0 := fA Tryz.underlying137 rfl sz95
instance : FA Tryz.prog 137 1 1 := fA Tryz.underlying137 rfl sz3
instance : FA Tryz.prog 137 2 2 := fA Tryz.underlying137 rfl sz3
instance : FA Tryz.prog 139 0 0 := fA Tryz.underlying139 rfl sz3
instance : FA Tryz.prog 147 0 0 := fA Tryz.underlying147 rfl sz134
instance : FA Tryz.prog 147 1 3 := fA Tryz.underlying147 rfl sz144
instance : FA Tryz.prog 147 2 4 := fA Tryz.underlying147 rfl sz3
instance : FA Tryz.prog 147 3 5 := fA Tryz.underlying147 rfl sz145
instance : FA Tryz.prog 150 0 0 := fA Tryz.underlying150 rfl sz134
instance : FA Tryz.prog 150 1 3 := fA Tryz.underlying150 rfl sz145
instance : FA Tryz.prog 150 2 4 := fA Tryz.underlying150 rfl sz145
instance : FA Tryz.prog 153 0 0 := fA Tryz.underlying153 rfl sz3
instance : FA Tryz.prog 153 1 1 := fA Tryz.underlying153 rfl sz3
instance : FA Tryz.prog 153 2 2 := fA Tryz.underlying153 rfl sz3
instance : FA Tryz.prog 153 3 3 := fA Tryz.underlying153 rfl sz3
instance : FA Tryz.prog 153 4 4 := fA Tryz.underlying153 rfl sz3
instance : FA Tryz.prog 153 5 5 := fA Tryz.underlying153 rfl sz134
instance : FA Tryz.prog 153 6 8 := fA Tryz.underlying153 rfl sz134
instance : FA Tryz.prog 153 7 11 := fA Tryz.underlying153 rfl sz142
instance : FA Tryz.prog 156 0 0 := fA Tryz.underlying156 rfl sz134
instance : FA Tryz.prog 156 1 3 := fA Tryz.underlying156 rfl sz3
instance : FA Tryz.prog 197 0 0 := fA Tryz.underlying197 rfl sz9
instance : FA Tryz.prog 197 1 1 := fA Tryz.underlying197 rfl sz3
instance : FA Tryz.prog 202 0 0 := fA Tryz.underlying202 rfl sz3
instance : FA Tryz.prog 212 0 0 := fA Tryz.underlying212 rfl sz9
instance : FA Tryz.prog 212 1 1 := fA Tryz.underlying212 rfl sz3
instance : FA Tryz.prog 212 2 2 := fA Tryz.underlying212 rfl sz3
instance : FA Tryz.prog 212 3 3 := fA Tryz.underlying212 rfl sz3
instance : FO Tryz.prog 134 0 0 := ⟨_, _, _, Tryz.underlying134, rfl, rfl, Tryz.underlying3, rfl⟩
instance : FO Tryz.prog 134 1 1 := ⟨_, _, _, Tryz.underlying134, rfl, rfl, Tryz.underlying9, rfl⟩
instance : FO Tryz.prog 134 2 2 := ⟨_, _, _, Tryz.underlying134, rfl, rfl, Tryz.underlying3, rfl⟩
instance : NI Tryz.prog 83 := ⟨_, Tryz.underlying83, rfl⟩
instance : NI Tryz.prog 139 := ⟨_, Tryz.underlying139, rfl⟩
instance : NA Tryz.prog 3 := ⟨_, Tryz.underlying3, rfl⟩
instance : NA Tryz.prog 4 := ⟨_, Tryz.underlying4, rfl⟩
instance : NA Tryz.prog 9 := ⟨_, Tryz.underlying9, rfl⟩
instance : NA Tryz.prog 22 := ⟨_, Tryz.underlying22, rfl⟩
instance : NA Tryz.prog 23 := ⟨_, Tryz.underlying23, rfl⟩
instance : NA Tryz.prog 24 := ⟨_, Tryz.underlying24, rfl⟩
instance : NA Tryz.prog 25 := ⟨_, Tryz.underlying25, rfl⟩
instance : NA Tryz.prog 29 := ⟨_, Tryz.underlying29, rfl⟩
instance : AG Tryz.prog 31 11 := ⟨_, Tryz.underlying31, rfl, sz31⟩
instance : NA Tryz.prog 32 := ⟨_, Tryz.underlying32, rfl⟩
instance : NA Tryz.prog 33 := ⟨_, Tryz.underlying33, rfl⟩
instance : AG Tryz.prog 35 2 := ⟨_, Tryz.underlying35, rfl, sz35⟩
instance : NA Tryz.prog 36 := ⟨_, Tryz.underlying36, rfl⟩
instance : NA Tryz.prog 42 := ⟨_, Tryz.underlying42, rfl⟩
instance : NA Tryz.prog 43 := ⟨_, Tryz.underlying43, rfl⟩
instance : NA Tryz.prog 52 := ⟨_, Tryz.underlying52, rfl⟩
instance : NA Tryz.prog 67 := ⟨_, Tryz.underlying67, rfl⟩
instance : AG Tryz.prog 69 5 := ⟨_, Tryz.underlying69, rfl, sz69⟩
instance : AG Tryz.prog 71 8 := ⟨_, Tryz.underlying71, rfl, sz71⟩
instance : AG Tryz.prog 73 11 := ⟨_, Tryz.underlying73, rfl, sz73⟩
instance : NA Tryz.prog 75 := ⟨_, Tryz.underlying75, rfl⟩
instance : NA Tryz.prog 95 := ⟨_, Tryz.underlying95, rfl⟩
instance : NA Tryz.prog 98 := ⟨_, Tryz.underlying98, rfl⟩
instance : NA Tryz.prog 99 := ⟨_, Tryz.underlying99, rfl⟩
instance : AG Tryz.prog 101 2 := ⟨_, Tryz.underlying101, rfl, sz101⟩
instance : NA Tryz.prog 108 := ⟨_, Tryz.underlying108, rfl⟩
instance : NA Tryz.prog 114 := ⟨_, Tryz.underlying114, rfl⟩
instance : AG Tryz.prog 134 3 := ⟨_, Tryz.underlying134, rfl, sz134⟩
instance : NA Tryz.prog 135 := ⟨_, Tryz.underlying135, rfl⟩
instance : NA Tryz.prog 142 := ⟨_, Tryz.underlying142, rfl⟩
instance : NA Tryz.prog 143 := ⟨_, Tryz.underlying143, rfl⟩
instance : NA Tryz.prog 144 := ⟨_, Tryz.underlying144, rfl⟩
instance : NA Tryz.prog 145 := ⟨_, Tryz.underlying145, rfl⟩
instance : NA Tryz.prog 148 := ⟨_, Tryz.underlying148, rfl⟩
instance : AG Tryz.prog 156 4 := ⟨_, Tryz.underlying156, rfl, sz156⟩
instance : AG Tryz.prog 212 4 := ⟨_, Tryz.underlying212, rfl, sz212⟩
instance : NA Tryz.prog 220 := ⟨_, Tryz.underlying220, rfl⟩
instance : SY Tryz.prog 22 := ⟨_, Tryz.underlying22⟩
instance : SY Tryz.prog 23 := ⟨_, Tryz.underlying23⟩
instance : SY Tryz.prog 24 := ⟨_, Tryz.underlying24⟩
instance : SY Tryz.prog 25 := ⟨_, Tryz.underlying25⟩
instance : SY Tryz.prog 29 := ⟨_, Tryz.underlying29⟩
instance : SY Tryz.prog 32 := ⟨_, Tryz.underlying32⟩
instance : SY Tryz.prog 33 := ⟨_, Tryz.underlying33⟩
instance : SY Tryz.prog 36 := ⟨_, Tryz.underlying36⟩
instance : SY Tryz.prog 42 := ⟨_, Tryz.underlying42⟩
instance : SY Tryz.prog 52 := ⟨_, Tryz.underlying52⟩
instance : SY Tryz.prog 67 := ⟨_, Tryz.underlying67⟩
instance : SY Tryz.prog 95 := ⟨_, Tryz.underlying95⟩
instance : SY Tryz.prog 98 := ⟨_, Tryz.underlying98⟩
instance : SY Tryz.prog 99 := ⟨_, Tryz.underlying99⟩
instance : SY Tryz.prog 142 := ⟨_, Tryz.underlying142⟩
instance : SY Tryz.prog 144 := ⟨_, Tryz.underlying144⟩
instance : SZ Tryz.prog 3 1 := ⟨sz3⟩
instance : SZ Tryz.prog 4 1 := ⟨sz4⟩
instance : SZ Tryz.prog 29 1 := ⟨sz29⟩
instance : SZ Tryz.prog 31 11 := ⟨sz31⟩
instance : SZ Tryz.prog 32 1 := ⟨sz32⟩
instance : SZ Tryz.prog 33 1 := ⟨sz33⟩
instance : SZ Tryz.prog 35 2 := ⟨sz35⟩
instance : SZ Tryz.prog 43 1 := ⟨sz43⟩
instance : SZ Tryz.prog 67 1 := ⟨sz67⟩
instance : SZ Tryz.prog 69 5 := ⟨sz69⟩
instance : SZ Tryz.prog 71 8 := ⟨sz71⟩
instance : SZ Tryz.prog 73 11 := ⟨sz73⟩
instance : SZ Tryz.prog 95 1 := ⟨sz95⟩
instance : SZ Tryz.prog 98 1 := ⟨sz98⟩
instance : SZ Tryz.prog 99 1 := ⟨sz99⟩
instance : SZ Tryz.prog 101 2 := ⟨sz101⟩
instance : SZ Tryz.prog 112 3 := ⟨sz112⟩
instance : SZ Tryz.prog 134 3 := ⟨sz134⟩
instance : SZ Tryz.prog 139 1 := ⟨sz139⟩
instance : SZ Tryz.prog 142 1 := ⟨sz142⟩
instance : SZ Tryz.prog 144 1 := ⟨sz144⟩
instance : SZ Tryz.prog 145 1 := ⟨sz145⟩
instance : SZ Tryz.prog 156 4 := ⟨sz156⟩
instance : SZ Tryz.prog 197 2 := ⟨sz197⟩
instance : SZ Tryz.prog 202 2 := ⟨sz202⟩
instance : SZ Tryz.prog 212 4 := ⟨sz212⟩
instance : ZL Tryz.prog 3 [iV 0] := ⟨_, zero3, rfl⟩
instance : ZL Tryz.prog 31 [.string (bs ([])), nS, iV 0, nS, nS, nS, nS, nS, nS, nS, iV 0] := ⟨_, zero31, rfl⟩
instance : ZL Tryz.prog 35 [nS, nS] := ⟨_, zero35, rfl⟩
instance : ZL Tryz.prog 43 [iV 0] := ⟨_, zero43, rfl⟩
instance : ZL Tryz.prog 69 [iV 0, iV 0, iV 0, iV 0, nS] := ⟨_, zero69, rfl⟩
instance : ZL Tryz.prog 71 [.string (bs ([])), nS, iV 0, iV 0, iV 0, iV 0, iV 0, nS] := ⟨_, zero71, rfl⟩
instance : ZL Tryz.prog 73 [iV 0, iV 0, iV 0, iV 0, nS, iV 0, iV 0, iV 0, iV 0, iV 0, nS] := ⟨_, zero73, rfl⟩
instance : ZL Tryz.prog 95 [nS] := ⟨_, zero95, rfl⟩
instance : ZL Tryz.prog 101 [nS, nS] := ⟨_, zero101, rfl⟩
instance : ZL Tryz.prog 112 [nS, nS, iV 0] := ⟨_, zero112, rfl⟩
instance : ZL Tryz.prog 134 [iV 0, .string (bs ([])), iV 0] := ⟨_, zero134, rfl⟩
instance : ZL Tryz.prog 139 [iV 0] := ⟨_, zero139, rfl⟩
instance : ZL Tryz.prog 156 [iV 0, .string (bs ([])), iV 0, iV 0] := ⟨_, zero156, rfl⟩
instance : ZL Tryz.prog 197 [.string (bs ([])), iV 0] := ⟨_, zero197, rfl⟩
instance : ZL Tryz.prog 202 [iV 0, iV 0] := ⟨_, zero202, rfl⟩
instance : ZL Tryz.prog 212 [.string (bs ([])), iV 0, iV 0, iV 0] := ⟨_, zero212, rfl⟩
theorem bitLen_b {y : Nat} (h0 : 0 < y) (h : y < 18446744073709551616) : 1 ≤ Lib.bitLen y ∧ Lib.bitLen y ≤ 64 ∧ 2 ^ (Lib.bitLen y - 1) ≤ y ∧ y < 2 ^ Lib.bitLen y := by
 obtain ⟨h1, h2, h3⟩ := Lib.bitLenAux_bounds 64 y (by omega) (by omega)
 refine ⟨h1, ?_, h2, h3⟩
 show Lib.bitLenAux 64 y ≤ 64
 have h4 : 2 ^ (Lib.bitLenAux 64 y - 1) < 2 ^ 64 := Nat.lt_of_le_of_lt h2 (by omega)
 have := (Nat.pow_lt_pow_iff_right (by omega)).1 h4
 omega
theorem kn_dec {q a r U : Nat} (h : q * a + r = U) (hq : 1 ≤ q) : (q - 1) * a + (r + a) = U := by
 obtain ⟨j, rfl⟩ : ∃ j, q = j + 1 := ⟨q - 1, by omega⟩
 rw [Nat.add_mul, Nat.one_mul] at h
 rw [Nat.add_sub_cancel]
 omega
theorem joinU {hi lo sh : Nat} (hs : sh ≤ 64) (hlo : lo < 18446744073709551616) : hi * 2 ^ sh ||| lo / 2 ^ (64 - sh) = hi * 2 ^ sh + lo / 2 ^ (64 - sh) ∧ lo / 2 ^ (64 - sh) < 2 ^ sh := by
 have h1 : lo / 2 ^ (64 - sh) < 2 ^ sh := by
  rw [Nat.div_lt_iff_lt_mul (Nat.two_pow_pos _), ← Nat.pow_add, show sh + (64 - sh) = 64 by omega]; omega
 exact ⟨nat_join sh _ _ (Nat.mul_mod_left _ _) h1, h1⟩
theorem Mul64_c (w : World) (Φ : Hp) (hΦ : Hp.le Φ (hp w)) {x y : Nat} (hx : x < 18446744073709551616) (hy : y < 18446744073709551616) :
  Calls Tryz.prog 106 #[.int .u64 (x : Int), .int .u64 (y : Int)] w fun e w' => e = .returned (.tuple #[.int .u64 ((x * y / 18446744073709551616 : Nat) : Int), .int .u64 ((x * y % 18446744073709551616 : Nat) : Int)]) ∧ Bel w.heap.size w w' := by
 refine calls_of_AW (args := [.int .u64 (x : Int), .int .u64 (y : Int)]) Tryz.func106 rfl (lBT rfl) (St ⟨w, Φ, []⟩ Φ []) (StP.init w Φ hΦ []) ?_
 show AW Tryz.prog 51 [] _ _ _ [(0, .int .u64 (x : Int)), (1, .int .u64 (y : Int))] _
 obtain ⟨bd, bt, bw, hhi⟩ := Lib.mul64_hi x y hx hy
 have ba := Lib.half_mul_le (a := x / 4294967296) (b := y / 4294967296) (by omega) (by omega)
 have bb := Lib.half_mul_le (a := x / 4294967296) (b := y % 4294967296) (by omega) (by omega)
 have bc := Lib.half_mul_le (a := x % 4294967296) (b := y / 4294967296) (by omega) (by omega)
 refine g9 ?_
 refine RW.q (v := .int .u64 ((x % 4294967296 : Nat) : Int)) rfl (q_maskU (a := x) rfl rfl (by omega)) ?_
 refine g6 ?_
 refine RW.q (v := .int .u64 ((x / 4294967296 : Nat) : Int)) rfl (q_shr32U (a := x) rfl rfl) ?_
 refine g6 ?_
 refine RW.q (v := .int .u64 ((y % 4294967296 : Nat) : Int)) rfl (q_maskU (a := y) rfl rfl (by omega)) ?_
 refine g6 ?_
 refine RW.q (v := .int .u64 ((y / 4294967296 : Nat) : Int)) rfl (q_shr32U (a := y) rfl rfl) ?_
 refine g7 ?_
 refine RW.q (v := .int .u64 (((x % 4294967296) * (y % 4294967296) : Nat) : Int)) rfl (q_mulU (a := (x % 4294967296)) (b := (y % 4294967296)) rfl rfl (Nat.mod_eq_of_lt (by omega))) ?_
 refine g7 ?_
 refine RW.q (v := .int .u64 (((x / 4294967296) * (y % 4294967296) : Nat) : Int)) rfl (q_mulU (a := (x / 4294967296)) (b := (y % 4294967296)) rfl rfl (Nat.mod_eq_of_lt (by omega))) ?_
 refine g1 ?_
 refine RW.q (v := .int .u64 ((((x % 4294967296) * (y % 4294967296)) / 4294967296 : Nat) : Int)) rfl (q_shr32U (a := ((x % 4294967296) * (y % 4294967296))) rfl rfl) (RW.q (v := .int .u64 ((((x / 4294967296) * (y % 4294967296)) + (((x % 4294967296) * (y % 4294967296)) / 4294967296) : Nat) : Int)) rfl (q_addU (a := ((x / 4294967296) * (y % 4294967296))) (b := (((x % 4294967296) * (y % 4294967296)) / 4294967296)) rfl rfl (Nat.mod_eq_of_lt (by omega))) ?_)
 refine g6 ?_
 refine RW.q (v := .int .u64 (((((x / 4294967296) * (y % 4294967296)) + (((x % 4294967296) * (y % 4294967296)) / 4294967296)) % 4294967296 : Nat) : Int)) rfl (q_maskU (a := (((x / 4294967296) * (y % 4294967296)) + (((x % 4294967296) * (y % 4294967296)) / 4294967296))) rfl rfl (by omega)) ?_
 refine g6 ?_
 refine RW.q (v := .int .u64 (((((x / 4294967296) * (y % 4294967296)) + (((x % 4294967296) * (y % 4294967296)) / 4294967296)) / 4294967296 : Nat) : Int)) rfl (q_shr32U (a := (((x / 4294967296) * (y % 4294967296)) + (((x % 4294967296) * (y % 4294967296)) / 4294967296))) rfl rfl) ?_
 refine g8 ?_
 refine RW.q (v := .int .u64 (((x % 4294967296) * (y / 4294967296) : Nat) : Int)) rfl (q_mulU (a := (x % 4294967296)) (b := (y / 4294967296)) rfl rfl (Nat.mod_eq_of_lt (by omega))) (RW.q (v := .int .u64 ((((((x / 4294967296) * (y % 4294967296)) + (((x % 4294967296) * (y % 4294967296)) / 4294967296)) % 4294967296) + ((x % 4294967296) * (y / 4294967296)) : Nat) : Int)) rfl (q_addU (a := ((((x / 4294967296) * (y % 4294967296)) + (((x % 4294967296) * (y % 4294967296)) / 4294967296)) % 4294967296)) (b := ((x % 4294967296) * (y / 4294967296))) rfl rfl (Nat.mod_eq_of_lt (by omega))) ?_)
 refine g7 ?_
 refine RW.q (v := .int .u64 (((x / 4294967296) * (y / 4294967296) : Nat) : Int)) rfl (q_mulU (a := (x / 4294967296)) (b := (y / 4294967296)) rfl rfl (Nat.mod_eq_of_lt (by omega))) ?_
 refine g1 ?_
 refine RW.q (v := .int .u64 ((((x / 4294967296) * (y / 4294967296)) + ((((x / 4294967296) * (y % 4294967296)) + (((x % 4294967296) * (y % 4294967296)) / 4294967296)) / 4294967296) : Nat) : Int)) rfl (q_addU (a := ((x / 4294967296) * (y / 4294967296))) (b := ((((x / 4294967296) * (y % 4294967296)) + (((x % 4294967296) * (y % 4294967296)) / 4294967296)) / 4294967296)) rfl rfl (Nat.mod_eq_of_lt (by omega))) ?_
 refine g1 ?_
 refine RW.q (v := .int .u64 (((((((x / 4294967296) * (y % 4294967296)) + (((x % 4294967296) * (y % 4294967296)) / 4294967296)) % 4294967296) + ((x % 4294967296) * (y / 4294967296))) / 4294967296 : Nat) : Int)) rfl (q_shr32U (a := (((((x / 4294967296) * (y % 4294967296)) + (((x % 4294967296) * (y % 4294967296)) / 4294967296)) % 4294967296) + ((x % 4294967296) * (y / 4294967296)))) rfl rfl) (RW.q (v := .int .u64 (((((x / 4294967296) * (y / 4294967296)) + ((((x / 4294967296) * (y % 4294967296)) + (((x % 4294967296) * (y % 4294967296)) / 4294967296)) / 4294967296)) + ((((((x / 4294967296) * (y % 4294967296)) + (((x % 4294967296) * (y % 4294967296)) / 4294967296)) % 4294967296) + ((x % 4294967296) * (y / 4294967296))) / 4294967296) : Nat) : Int)) rfl (q_addU (a := (((x / 4294967296) * (y / 4294967296)) + ((((x / 4294967296) * (y % 4294967296)) + (((x % 4294967296) * (y % 4294967296)) / 4294967296)) / 4294967296))) (b := ((((((x / 4294967296) * (y % 4294967296)) + (((x % 4294967296) * (y % 4294967296)) / 4294967296)) % 4294967296) + ((x % 4294967296) * (y / 4294967296))) / 4294967296)) rfl rfl (Nat.mod_eq_of_lt (by omega))) ?_)
 refine g7 ?_
 refine RW.q (v := .int .u64 ((x * y % 18446744073709551616 : Nat) : Int)) rfl (q_mulU (a := x) (b := y) rfl rfl rfl) ?_
 refine g4 ?_
 refine fin_out2 (v := .int .u64 (((((x / 4294967296) * (y / 4294967296)) + ((((x / 4294967296) * (y % 4294967296)) + (((x % 4294967296) * (y % 4294967296)) / 4294967296)) / 4294967296)) + ((((((x / 4294967296) * (y % 4294967296)) + (((x % 4294967296) * (y % 4294967296)) / 4294967296)) % 4294967296) + ((x % 4294967296) * (y / 4294967296))) / 4294967296) : Nat) : Int)) (u := .int .u64 ((x * y % 18446744073709551616 : Nat) : Int)) rfl rfl rfl rfl (fun w' hw => ?_)
 refine ⟨?_, hw.below rfl⟩
 rw [← hhi]
theorem LeadingZeros64_c (w : World) (Φ : Hp) (hΦ : Hp.le Φ (hp w)) {y : Nat} (h0 : 0 < y) (hy : y < 18446744073709551616) :
  Calls Tryz.prog 160 #[.int .u64 (y : Int)] w fun e w' => e = .returned (iV ((64 - Lib.bitLen y : Nat) : Int)) ∧ Bel w.heap.size w w' := by
 refine calls_of_AW (args := [.int .u64 (y : Int)]) Tryz.func160 rfl (lBT rfl) (St ⟨w, Φ, []⟩ Φ []) (StP.init w Φ hΦ []) ?_
 show AW Tryz.prog 6 [] _ _ _ [(0, .int .u64 (y : Int))] _
 obtain ⟨hl1, hl2, _, _⟩ := bitLen_b h0 hy
 refine g8 ?_
 refine RW.q (v := iV ((Lib.bitLen y : Nat) : Int)) rfl (q_call (args := #[.int .u64 (y : Int)]) oK rfl rfl (fun w1 hw1 => (Tryz.bits_Len64 (y : Nat) w1 (by omega) (by omega)).mono fun e w2 ⟨he, hw2⟩ => ⟨by rw [he, Int.toNat_natCast], by rw [hw2]; exact Bel.refl _ _⟩)) (RW.q (v := iV ((64 - Lib.bitLen y : Nat) : Int)) rfl (q_sub rfl rfl (by omega) (by unfold I64; omega)) ?_)
 refine g4 ?_
 exact fin_val (v' := iV ((64 - Lib.bitLen y : Nat) : Int)) rfl rfl rfl (rfl)
theorem Div64_c (w : World) (Φ : Hp) (hΦ : Hp.le Φ (hp w)) {hi lo y : Nat} (hhi : hi < y) (hlo : lo < 18446744073709551616) (hy : y < 18446744073709551616) :
  Calls Tryz.prog 158 #[.int .u64 (hi : Int), .int .u64 (lo : Int), .int .u64 (y : Int)] w fun e w' => e = .returned (.tuple #[.int .u64 (((hi * 18446744073709551616 + lo) / y : Nat) : Int), .int .u64 (((hi * 18446744073709551616 + lo) % y : Nat) : Int)]) ∧ Bel w.heap.size w w' := by
 refine calls_of_AW (args := [.int .u64 (hi : Int), .int .u64 (lo : Int), .int .u64 (y : Int)]) Tryz.func158 rfl (lBT rfl) (St ⟨w, Φ, []⟩ Φ []) (StP.init w Φ hΦ []) ?_
 show AW Tryz.prog 135 [] _ _ _ [(0, .int .u64 (hi : Int)), (1, .int .u64 (lo : Int)), (2, .int .u64 (y : Int))] _
 refine g13 ?_
 refine AW.cond rfl (fun hc1 => ?_) fun hc1 => ?_
 ·
  simp [-List.getD_eq_getElem?_getD] at hc1
  omega
 ·
  simp [-List.getD_eq_getElem?_getD] at hc1
  refine g10 ?_
  refine AW.cond rfl (fun hc2 => ?_) fun hc2 => ?_
  ·
   simp [-List.getD_eq_getElem?_getD] at hc2
   omega
  ·
   simp [-List.getD_eq_getElem?_getD] at hc2
   refine g9 ?_
   refine AW.cond rfl (fun hc3 => ?_) fun hc3 => ?_
   ·
    simp [-List.getD_eq_getElem?_getD] at hc3
    refine g1 ?_
    refine AW.draw (J0 := St ⟨w, Φ, []⟩ Φ []) (tq8 []) od8 hmix (by kernel_rfl) ?_
    refine g2 ?_
    refine DW.q (v := .int .u64 ((lo / y : Nat) : Int)) (fun _ h => h) rfl (q_quoU (a := lo) (b := y) rfl rfl (by omega) (by omega)) ?_
    refine g2 ?_
    refine DW.q (v := .int .u64 ((lo % y : Nat) : Int)) (fun _ h => h) rfl (q_remU (a := lo) (b := y) rfl rfl (by omega)) ?_
    refine g6 ?_
    refine fin_out2 (v := .int .u64 ((lo / y : Nat) : Int)) (u := .int .u64 ((lo % y : Nat) : Int)) rfl rfl rfl rfl (fun w' hw => ?_)
    refine ⟨?_, hw.below rfl⟩
    have hi0 : hi = 0 := by omega
    rw [hi0, Nat.zero_mul, Nat.zero_add]
   ·
    simp [-List.getD_eq_getElem?_getD] at hc3
    refine g3 ?_
    have hy0 : 0 < y := by omega
    obtain ⟨hl1, hl2, hl3, hl4⟩ := bitLen_b hy0 hy
    obtain ⟨sh, hsh⟩ : ∃ sh, 64 - Lib.bitLen y = sh := ⟨_, rfl⟩
    have hs64 : sh ≤ 64 := by omega
    obtain ⟨Y, hY⟩ : ∃ Y, y * 2 ^ sh = Y := ⟨_, rfl⟩
    have hnz := Nums.le_of_lz hl3 hl4 hl1 hl2
    rw [hsh, hY] at hnz
    obtain ⟨hj1, hj2⟩ := joinU (hi := hi) hs64 hlo
    have hlq0 := Nat.zero_le (lo / 2 ^ (64 - sh))
    obtain ⟨U, hU⟩ : ∃ U, hi * 2 ^ sh + lo / 2 ^ (64 - sh) = U := ⟨_, rfl⟩
    have hhY : hi * 2 ^ sh + 2 ^ sh ≤ Y := by rw [← hY]; have := Nat.mul_le_mul_right (2 ^ sh) (show hi + 1 ≤ y by omega); rwa [Nat.add_mul, Nat.one_mul] at this
    have hUY : U < Y := by omega
    obtain ⟨V, hV⟩ : ∃ V, lo * 2 ^ sh % 18446744073709551616 = V := ⟨_, rfl⟩
    have hVl : V < 18446744073709551616 := by rw [← hV]; exact Nat.mod_lt _ (by omega)
    obtain ⟨Y1, hY1⟩ : ∃ n, Y / 4294967296 = n := ⟨_, rfl⟩
    obtain ⟨Y0, hY0⟩ : ∃ n, Y % 4294967296 = n := ⟨_, rfl⟩
    obtain ⟨W1, hW1⟩ : ∃ n, V / 4294967296 = n := ⟨_, rfl⟩
    obtain ⟨W0, hW0⟩ : ∃ n, V % 4294967296 = n := ⟨_, rfl⟩
    have hyd : Y = Y1 * 4294967296 + Y0 := by omega
    obtain ⟨Q1, hQ1⟩ : ∃ Q1, (U * 4294967296 + W1) / Y = Q1 := ⟨_, rfl⟩
    obtain ⟨R1, hR1⟩ : ∃ R1, (U * 4294967296 + W1) % Y = R1 := ⟨_, rfl⟩
    have hRY : R1 < Y := by rw [← hR1]; exact Nat.mod_lt _ (by omega)
    obtain ⟨Q0, hQ0⟩ : ∃ Q0, (R1 * 4294967296 + W0) / Y = Q0 := ⟨_, rfl⟩
    obtain ⟨R0, hR0⟩ : ∃ R0, (R1 * 4294967296 + W0) % Y = R0 := ⟨_, rfl⟩
    have hQ1l : Q1 < 4294967296 := by rw [← hQ1, Nat.div_lt_iff_lt_mul (by omega)]; omega
    have hQ0l : Q0 < 4294967296 := by rw [← hQ0, Nat.div_lt_iff_lt_mul (by omega)]; omega
    have hy1p : 0 < Y1 := by omega
    refine g2 ?_
    refine RW.q (v := iV (sh : Int)) rfl (q_as (v := iV ((64 - Lib.bitLen y : Nat) : Int)) (q_call (args := #[.int .u64 (y : Int)]) oK rfl rfl (fun w1 hw1 => LeadingZeros64_c w1 (Go.K.hp w1) (Hp.le_refl _) (by omega) (by omega))) (congrArg (Value.int .i64) (by rw [hsh]))) (RW.q (v := .int .u64 (sh : Int)) rfl (q_toU (r := sh) rfl Tryz.underlying3 Tryz.underlying192 rfl (by omega)) ?_)
    refine g7 ?_
    refine RW.q (v := .int .u64 (Y : Int)) rfl (q_shlU (a := y) (c := sh) rfl rfl (by omega) (by rw [hY]; exact Nat.mod_eq_of_lt (by omega))) ?_
    refine g6 ?_
    refine RW.q (v := .int .u64 (Y1 : Int)) rfl (q_as (v := .int .u64 ((Y / 4294967296 : Nat) : Int)) (q_shr32U (a := Y) rfl rfl) (congrArg (Value.int .u64) (by rw [hY1]))) ?_
    refine g6 ?_
    refine RW.q (v := .int .u64 (Y0 : Int)) rfl (q_as (v := .int .u64 ((Y % 4294967296 : Nat) : Int)) (q_maskU (a := Y) rfl rfl (by omega)) (congrArg (Value.int .u64) (by rw [hY0]))) ?_
    refine g7 ?_
    refine RW.q (v := .int .u64 ((hi * 2 ^ sh : Nat) : Int)) rfl (q_shlU (a := hi) (c := sh) rfl rfl (by omega) (Nat.mod_eq_of_lt (by omega))) ?_
    refine g2 ?_
    refine RW.q (v := .int .u64 ((64 - sh : Nat) : Int)) rfl (q_subU (a := 64) (b := sh) rfl rfl (by omega)) (RW.q (v := .int .u64 ((lo / 2 ^ (64 - sh) : Nat) : Int)) rfl (q_shrU' (a := lo) (c := (64 - sh)) rfl rfl (by omega)) (RW.q (v := .int .u64 (U : Int)) rfl (q_as (v := .int .u64 (((hi * 2 ^ sh) ||| (lo / 2 ^ (64 - sh)) : Nat) : Int)) (q_orU (a := (hi * 2 ^ sh)) (b := (lo / 2 ^ (64 - sh))) rfl rfl (by omega) (by have := Nat.div_le_self lo (2 ^ (64 - sh)); omega)) (congrArg (Value.int .u64) (by rw [hj1, hU]))) ?_))
    refine g7 ?_
    refine RW.q (v := .int .u64 (V : Int)) rfl (q_shlU (a := lo) (c := sh) rfl rfl (by omega) hV) ?_
    refine g6 ?_
    refine RW.q (v := .int .u64 (W1 : Int)) rfl (q_as (v := .int .u64 ((V / 4294967296 : Nat) : Int)) (q_shr32U (a := V) rfl rfl) (congrArg (Value.int .u64) (by rw [hW1]))) ?_
    refine g6 ?_
    refine RW.q (v := .int .u64 (W0 : Int)) rfl (q_as (v := .int .u64 ((V % 4294967296 : Nat) : Int)) (q_maskU (a := V) rfl rfl (by omega)) (congrArg (Value.int .u64) (by rw [hW0]))) ?_
    refine g4 ?_
    have hf1 := Nums.kn_first (u := U) (d := W1) hyd hy1p (by omega)
    rw [hQ1] at hf1
    have hf2 := Nums.kn_top (u := U) (B := 4294967296) hyd (by omega) (by omega) hUY hy1p
    have hf3 : U / (Y1) * (Y1) ≤ U := Nat.div_mul_le_self _ _
    have hf4 : U / (Y1) * (Y1) + U % (Y1) = U := Nat.div_add_mod' _ _
    have hf5 : U % (Y1) < Y1 := Nat.mod_lt _ hy1p
    refine g3 ?_
    refine RW.q (v := .int .u64 ((U / Y1 : Nat) : Int)) rfl (q_quoU (a := U) (b := Y1) rfl rfl (by omega) (by omega)) ?_
    refine g8 ?_
    refine RW.q (v := .int .u64 (((U / Y1) * Y1 : Nat) : Int)) rfl (q_mulU (a := (U / Y1)) (b := Y1) rfl rfl (Nat.mod_eq_of_lt (by omega))) (RW.q (v := .int .u64 ((U % (Y1) : Nat) : Int)) rfl (q_as (v := .int .u64 ((U - ((U / Y1) * Y1) : Nat) : Int)) (q_subU (a := U) (b := ((U / Y1) * Y1)) rfl rfl (by omega)) (congrArg (Value.int .u64) (by omega))) ?_)
    refine g5 ?_
    refine AW.loop (fun s J m => ∃ (q : Nat), ∃ (r : Nat), s = [(2, .int .u64 (Y : Int)), (8, .int .u64 (sh : Int)), (9, .int .u64 (Y1 : Int)), (10, .int .u64 (Y0 : Int)), (11, .int .u64 (U : Int)), (13, .int .u64 (W1 : Int)), (14, .int .u64 (W0 : Int)), (15, .int .u64 (q : Int)), (16, .int .u64 (r : Int))] ∧ J = St ⟨w, Φ, []⟩ Φ [] ∧ m = q + 0 * q ∧ (q * (Y1) + r = U) ∧ (Q1 ≤ q) ∧ (q ≤ 4294967296 + 1) ∧ (r < 4294967296)) (s0 := _) (J1 := _) (m0 := _) ⟨_, _, rfl, rfl, rfl, hf4, hf1, hf2, (by omega)⟩ ⟨rfl, rfl, rfl, rfl, rfl, rfl, rfl, rfl, rfl, trivial⟩ (fun _ h => h) ?_
    rintro _ _ _ _ ⟨q, r, rfl, rfl, rfl, hq, hQ, hqB, hr⟩
    refine g2 ?_
    have hm9 : q * (Y0) ≤ (4294967296 + 1) * 4294967295 := Nat.mul_le_mul (by omega) (by omega)
    refine g6 ?_
    refine RW.g (b := (decide (((4294967296 : Nat) : Int) ≤ (q : Int)))) (v := .int .u64 ((q * Y0 : Nat) : Int)) rfl rfl rfl (fun h => q_mulU (a := q) (b := Y0) (gv_pos h) (gv_pos h) (Nat.mod_eq_of_lt (by (try simp [-List.getD_eq_getElem?_getD] at h); omega))) ?_
    refine g1 ?_
    refine RW.g (b := (decide (((4294967296 : Nat) : Int) ≤ (q : Int)))) (v := .int .u64 ((4294967296 * r : Nat) : Int)) rfl rfl rfl (fun h => q_mulU (a := 4294967296) (b := r) rfl (gv_pos h) (Nat.mod_eq_of_lt (by (try simp [-List.getD_eq_getElem?_getD] at h); omega))) ?_
    refine g1 ?_
    refine RW.g (b := (decide (((4294967296 : Nat) : Int) ≤ (q : Int)))) (v := .int .u64 (((4294967296 * r) + W1 : Nat) : Int)) rfl rfl rfl (fun h => q_addU (a := (4294967296 * r)) (b := W1) (gv_pos h) (gv_pos h) (Nat.mod_eq_of_lt (by (try simp [-List.getD_eq_getElem?_getD] at h); omega))) ?_
    refine g1 ?_
    obtain ⟨qb1, hqb1⟩ : ∃ qz : Bool, ((decide (((4294967296 : Nat) : Int) ≤ (q : Int))) || (decide ((((4294967296 * r) + W1 : Nat) : Int) < ((q * Y0 : Nat) : Int)))) = qz := ⟨_, rfl⟩
    refine RW.q (v := .bool qb1) rfl (q_as (v := .bool ((decide (((4294967296 : Nat) : Int) ≤ (q : Int))) || (decide ((((4294967296 * r) + W1 : Nat) : Int) < ((q * Y0 : Nat) : Int))))) (qpO rfl rfl rfl) (congrArg Value.bool hqb1)) ?_
    subst hqb1
    refine g2 ?_
    refine AW.cond rfl (fun hc4 => ?_) fun hc4 => ?_
    ·
     simp [-List.getD_eq_getElem?_getD] at hc4
     refine g4 ?_
     have hdn := Nums.kn_down (d := W1) hyd hq hUY (by omega) (by rw [hQ1]; exact hQ) (by omega)
     rw [hQ1] at hdn
     refine g2 ?_
     refine RW.q (v := .int .u64 ((q - 1 : Nat) : Int)) rfl (q_subU (a := q) (b := 1) rfl rfl (by omega)) ?_
     refine g7 ?_
     refine RW.q (v := .int .u64 ((r + Y1 : Nat) : Int)) rfl (q_addU (a := r) (b := Y1) rfl rfl (Nat.mod_eq_of_lt (by omega))) ?_
     refine g9 ?_
     refine AW.cond rfl (fun hc5 => ?_) fun hc5 => ?_
     ·
      simp [-List.getD_eq_getElem?_getD] at hc5
      refine g6 ?_
      have hqe : q - 1 = Q1 := by
       have hp9 := Nums.kn_end (d := W1) (q := q - 1) (r := r + Y1) hyd (kn_dec hq hdn.1) hUY (by rw [hQ1]; exact hdn.2) (Nums.kn_break (by omega) (by omega) (by omega))
       rw [hp9, hQ1]
      rw [hqe]
      obtain ⟨ha1, hb1⟩ := Nums.kn_rest (u := U) (d := W1) (y := Y) (B := 4294967296) (M := 18446744073709551616) (by omega) (by omega)
      rw [hQ1, hR1] at hb1
      refine g2 ?_
      refine RW.q (v := .int .u64 ((U * 4294967296 % 18446744073709551616 : Nat) : Int)) rfl (q_mulU (a := U) (b := 4294967296) rfl rfl rfl) ?_
      refine g1 ?_
      refine RW.q (v := .int .u64 (((U * 4294967296 % 18446744073709551616 + W1) % 18446744073709551616 : Nat) : Int)) rfl (q_addU (a := (U * 4294967296 % 18446744073709551616)) (b := W1) rfl rfl rfl) ?_
      refine g2 ?_
      refine RW.q (v := .int .u64 ((Q1 * Y % 18446744073709551616 : Nat) : Int)) rfl (q_mulU (a := Q1) (b := Y) rfl rfl rfl) (RW.q (v := .int .u64 (R1 : Int)) rfl (q_subU (a := ((U * 4294967296 % 18446744073709551616 + W1) % 18446744073709551616)) (b := (Q1 * Y % 18446744073709551616)) rfl rfl (by rw [ha1]; exact hb1)) ?_)
      refine g4 ?_
      have hf1 := Nums.kn_first (u := R1) (d := W0) hyd hy1p (by omega)
      rw [hQ0] at hf1
      have hf2 := Nums.kn_top (u := R1) (B := 4294967296) hyd (by omega) (by omega) hRY hy1p
      have hf3 : R1 / (Y1) * (Y1) ≤ R1 := Nat.div_mul_le_self _ _
      have hf4 : R1 / (Y1) * (Y1) + R1 % (Y1) = R1 := Nat.div_add_mod' _ _
      have hf5 : R1 % (Y1) < Y1 := Nat.mod_lt _ hy1p
      refine g3 ?_
      refine RW.q (v := .int .u64 ((R1 / Y1 : Nat) : Int)) rfl (q_quoU (a := R1) (b := Y1) rfl rfl (by omega) (by omega)) ?_
      refine g8 ?_
      refine RW.q (v := .int .u64 (((R1 / Y1) * Y1 : Nat) : Int)) rfl (q_mulU (a := (R1 / Y1)) (b := Y1) rfl rfl (Nat.mod_eq_of_lt (by omega))) (RW.q (v := .int .u64 ((R1 % (Y1) : Nat) : Int)) rfl (q_as (v := .int .u64 ((R1 - ((R1 / Y1) * Y1) : Nat) : Int)) (q_subU (a := R1) (b := ((R1 / Y1) * Y1)) rfl rfl (by omega)) (congrArg (Value.int .u64) (by omega))) ?_)
      refine g5 ?_
      refine AW.loop (fun s J m => ∃ (q : Nat), ∃ (r : Nat), s = [(2, .int .u64 (Y : Int)), (8, .int .u64 (sh : Int)), (9, .int .u64 (Y1 : Int)), (10, .int .u64 (Y0 : Int)), (13, .int .u64 (W1 : Int)), (14, .int .u64 (W0 : Int)), (15, .int .u64 (Q1 : Int)), (17, .int .u64 (R1 : Int)), (18, .int .u64 (q : Int)), (16, .int .u64 (r : Int))] ∧ J = St ⟨w, Φ, []⟩ Φ [] ∧ m = q + 0 * q ∧ (q * (Y1) + r = R1) ∧ (Q0 ≤ q) ∧ (q ≤ 4294967296 + 1) ∧ (r < 4294967296)) (s0 := _) (J1 := _) (m0 := _) ⟨_, _, rfl, rfl, rfl, hf4, hf1, hf2, (by omega)⟩ ⟨rfl, rfl, rfl, rfl, rfl, rfl, rfl, rfl, rfl, rfl, trivial⟩ (fun _ h => h) ?_
      rintro _ _ _ _ ⟨q, r, rfl, rfl, rfl, hq, hQ, hqB, hr⟩
      refine g2 ?_
      have hm9 : q * (Y0) ≤ (4294967296 + 1) * 4294967295 := Nat.mul_le_mul (by omega) (by omega)
      refine g6 ?_
      refine RW.g (b := (decide (((4294967296 : Nat) : Int) ≤ (q : Int)))) (v := .int .u64 ((q * Y0 : Nat) : Int)) rfl rfl rfl (fun h => q_mulU (a := q) (b := Y0) (gv_pos h) (gv_pos h) (Nat.mod_eq_of_lt (by (try simp [-List.getD_eq_getElem?_getD] at h); omega))) ?_
      refine g1 ?_
      refine RW.g (b := (decide (((4294967296 : Nat) : Int) ≤ (q : Int)))) (v := .int .u64 ((4294967296 * r : Nat) : Int)) rfl rfl rfl (fun h => q_mulU (a := 4294967296) (b := r) rfl (gv_pos h) (Nat.mod_eq_of_lt (by (try simp [-List.getD_eq_getElem?_getD] at h); omega))) ?_
      refine g1 ?_
      refine RW.g (b := (decide (((4294967296 : Nat) : Int) ≤ (q : Int)))) (v := .int .u64 (((4294967296 * r) + W0 : Nat) : Int)) rfl rfl rfl (fun h => q_addU (a := (4294967296 * r)) (b := W0) (gv_pos h) (gv_pos h) (Nat.mod_eq_of_lt (by (try simp [-List.getD_eq_getElem?_getD] at h); omega))) ?_
      refine g1 ?_
      obtain ⟨qb2, hqb2⟩ : ∃ qz : Bool, ((decide (((4294967296 : Nat) : Int) ≤ (q : Int))) || (decide ((((4294967296 * r) + W0 : Nat) : Int) < ((q * Y0 : Nat) : Int)))) = qz := ⟨_, rfl⟩
      refine RW.q (v := .bool qb2) rfl (q_as (v := .bool ((decide (((4294967296 : Nat) : Int) ≤ (q : Int))) || (decide ((((4294967296 * r) + W0 : Nat) : Int) < ((q * Y0 : Nat) : Int))))) (qpO rfl rfl rfl) (congrArg Value.bool hqb2)) ?_
      subst hqb2
      refine g2 ?_
      refine AW.cond rfl (fun hc6 => ?_) fun hc6 => ?_
      ·
       simp [-List.getD_eq_getElem?_getD] at hc6
       refine g4 ?_
       have hdn := Nums.kn_down (d := W0) hyd hq hRY (by omega) (by rw [hQ0]; exact hQ) (by omega)
       rw [hQ0] at hdn
       refine g2 ?_
       refine RW.q (v := .int .u64 ((q - 1 : Nat) : Int)) rfl (q_subU (a := q) (b := 1) rfl rfl (by omega)) ?_
       refine g7 ?_
       refine RW.q (v := .int .u64 ((r + Y1 : Nat) : Int)) rfl (q_addU (a := r) (b := Y1) rfl rfl (Nat.mod_eq_of_lt (by omega))) ?_
       refine g9 ?_
       refine AW.cond rfl (fun hc7 => ?_) fun hc7 => ?_
       ·
        simp [-List.getD_eq_getElem?_getD] at hc7
        refine g6 ?_
        have hqe : q - 1 = Q0 := by
         have hp9 := Nums.kn_end (d := W0) (q := q - 1) (r := r + Y1) hyd (kn_dec hq hdn.1) hRY (by rw [hQ0]; exact hdn.2) (Nums.kn_break (by omega) (by omega) (by omega))
         rw [hp9, hQ0]
        rw [hqe]
        obtain ⟨ha0, hb0⟩ := Nums.kn_rest (u := R1) (d := W0) (y := Y) (B := 4294967296) (M := 18446744073709551616) (by omega) (by omega)
        rw [hQ0, hR0] at hb0
        refine g2 ?_
        refine RW.q (v := .int .u64 ((Q1 * 4294967296 : Nat) : Int)) rfl (q_mulU (a := Q1) (b := 4294967296) rfl rfl (Nat.mod_eq_of_lt (by omega))) ?_
        refine g1 ?_
        refine RW.q (v := .int .u64 (((Q1 * 4294967296) + Q0 : Nat) : Int)) rfl (q_addU (a := (Q1 * 4294967296)) (b := Q0) rfl rfl (Nat.mod_eq_of_lt (by omega))) ?_
        refine g1 ?_
        refine RW.q (v := .int .u64 ((R1 * 4294967296 % 18446744073709551616 : Nat) : Int)) rfl (q_mulU (a := R1) (b := 4294967296) rfl rfl rfl) ?_
        refine g1 ?_
        refine RW.q (v := .int .u64 (((R1 * 4294967296 % 18446744073709551616 + W0) % 18446744073709551616 : Nat) : Int)) rfl (q_addU (a := (R1 * 4294967296 % 18446744073709551616)) (b := W0) rfl rfl rfl) ?_
        refine g2 ?_
        refine RW.q (v := .int .u64 ((Q0 * Y % 18446744073709551616 : Nat) : Int)) rfl (q_mulU (a := Q0) (b := Y) rfl rfl rfl) (RW.q (v := .int .u64 (R0 : Int)) rfl (q_subU (a := ((R1 * 4294967296 % 18446744073709551616 + W0) % 18446744073709551616)) (b := (Q0 * Y % 18446744073709551616)) rfl rfl (by rw [ha0]; exact hb0)) ?_)
        refine g1 ?_
        refine RW.q (v := .int .u64 ((R0 / 2 ^ sh : Nat) : Int)) rfl (q_shrU' (a := R0) (c := sh) rfl rfl (by omega)) ?_
        refine g5 ?_
        refine fin_out2 (v := .int .u64 (((Q1 * 4294967296) + Q0 : Nat) : Int)) (u := .int .u64 ((R0 / 2 ^ sh : Nat) : Int)) rfl rfl rfl rfl (fun w' hw => ?_)
        refine ⟨?_, hw.below rfl⟩
        subst hW1 hW0
        have hfin := Nums.div128 (hi := hi) (lo := lo) (y := y) (u := U) (v := V) (y' := Y) (Q1 := Q1) (r1 := R1) (Q0 := Q0) hs64 hY.symm hU.symm hV.symm hy0 hQ1.symm hR1.symm hQ0.symm
        rw [hR0] at hfin
        rw [hfin.1, hfin.2]
       ·
        simp [-List.getD_eq_getElem?_getD] at hc7
        refine g2 ?_
        exact Post.back (s' := _) (J' := _) (m' := _) (by omega) ⟨q - 1, r + Y1, rfl, rfl, rfl, (kn_dec hq hdn.1), hdn.2, (by omega), (by omega)⟩ ⟨rfl, rfl, rfl, rfl, rfl, rfl, rfl, rfl, rfl, rfl, trivial⟩ (fun _ h => h)
      ·
       simp [-List.getD_eq_getElem?_getD] at hc6
       refine g6 ?_
       have hqe : q = Q0 := by
        have hp9 := Nums.kn_end (d := W0) hyd hq hRY (by rw [hQ0]; exact hQ) (by omega)
        rw [hp9, hQ0]
       rw [hqe]
       obtain ⟨ha0, hb0⟩ := Nums.kn_rest (u := R1) (d := W0) (y := Y) (B := 4294967296) (M := 18446744073709551616) (by omega) (by omega)
       rw [hQ0, hR0] at hb0
       refine g2 ?_
       refine RW.q (v := .int .u64 ((Q1 * 4294967296 : Nat) : Int)) rfl (q_mulU (a := Q1) (b := 4294967296) rfl rfl (Nat.mod_eq_of_lt (by omega))) ?_
       refine g1 ?_
       refine RW.q (v := .int .u64 (((Q1 * 4294967296) + Q0 : Nat) : Int)) rfl (q_addU (a := (Q1 * 4294967296)) (b := Q0) rfl rfl (Nat.mod_eq_of_lt (by omega))) ?_
       refine g1 ?_
       refine RW.q (v := .int .u64 ((R1 * 4294967296 % 18446744073709551616 : Nat) : Int)) rfl (q_mulU (a := R1) (b := 4294967296) rfl rfl rfl) ?_
       refine g1 ?_
       refine RW.q (v := .int .u64 (((R1 * 4294967296 % 18446744073709551616 + W0) % 18446744073709551616 : Nat) : Int)) rfl (q_addU (a := (R1 * 4294967296 % 18446744073709551616)) (b := W0) rfl rfl rfl) ?_
       refine g2 ?_
       refine RW.q (v := .int .u64 ((Q0 * Y % 18446744073709551616 : Nat) : Int)) rfl (q_mulU (a := Q0) (b := Y) rfl rfl rfl) (RW.q (v := .int .u64 (R0 : Int)) rfl (q_subU (a := ((R1 * 4294967296 % 18446744073709551616 + W0) % 18446744073709551616)) (b := (Q0 * Y % 18446744073709551616)) rfl rfl (by rw [ha0]; exact hb0)) ?_)
       refine g1 ?_
       refine RW.q (v := .int .u64 ((R0 / 2 ^ sh : Nat) : Int)) rfl (q_shrU' (a := R0) (c := sh) rfl rfl (by omega)) ?_
       refine g5 ?_
       refine fin_out2 (v := .int .u64 (((Q1 * 4294967296) + Q0 : Nat) : Int)) (u := .int .u64 ((R0 / 2 ^ sh : Nat) : Int)) rfl rfl rfl rfl (fun w' hw => ?_)
       refine ⟨?_, hw.below rfl⟩
       subst hW1 hW0
       have hfin := Nums.div128 (hi := hi) (lo := lo) (y := y) (u := U) (v := V) (y' := Y) (Q1 := Q1) (r1 := R1) (Q0 := Q0) hs64 hY.symm hU.symm hV.symm hy0 hQ1.symm hR1.symm hQ0.symm
       rw [hR0] at hfin
       rw [hfin.1, hfin.2]
     ·
      simp [-List.getD_eq_getElem?_getD] at hc5
      refine g2 ?_
      exact Post.back (s' := _) (J' := _) (m' := _) (by omega) ⟨q - 1, r + Y1, rfl, rfl, rfl, (kn_dec hq hdn.1), hdn.2, (by omega), (by omega)⟩ ⟨rfl, rfl, rfl, rfl, rfl, rfl, rfl, rfl, rfl, trivial⟩ (fun _ h => h)
    ·
     simp [-List.getD_eq_getElem?_getD] at hc4
     refine g6 ?_
     have hqe : q = Q1 := by
      have hp9 := Nums.kn_end (d := W1) hyd hq hUY (by rw [hQ1]; exact hQ) (by omega)
      rw [hp9, hQ1]
     rw [hqe]
     obtain ⟨ha1, hb1⟩ := Nums.kn_rest (u := U) (d := W1) (y := Y) (B := 4294967296) (M := 18446744073709551616) (by omega) (by omega)
     rw [hQ1, hR1] at hb1
     refine g2 ?_
     refine RW.q (v := .int .u64 ((U * 4294967296 % 18446744073709551616 : Nat) : Int)) rfl (q_mulU (a := U) (b := 4294967296) rfl rfl rfl) ?_
     refine g1 ?_
     refine RW.q (v := .int .u64 (((U * 4294967296 % 18446744073709551616 + W1) % 18446744073709551616 : Nat) : Int)) rfl (q_addU (a := (U * 4294967296 % 18446744073709551616)) (b := W1) rfl rfl rfl) ?_
     refine g2 ?_
     refine RW.q (v := .int .u64 ((Q1 * Y % 18446744073709551616 : Nat) : Int)) rfl (q_mulU (a := Q1) (b := Y) rfl rfl rfl) (RW.q (v := .int .u64 (R1 : Int)) rfl (q_subU (a := ((U * 4294967296 % 18446744073709551616 + W1) % 18446744073709551616)) (b := (Q1 * Y % 18446744073709551616)) rfl rfl (by rw [ha1]; exact hb1)) ?_)
     refine g4 ?_
     have hf1 := Nums.kn_first (u := R1) (d := W0) hyd hy1p (by omega)
     rw [hQ0] at hf1
     have hf2 := Nums.kn_top (u := R1) (B := 4294967296) hyd (by omega) (by omega) hRY hy1p
     have hf3 : R1 / (Y1) * (Y1) ≤ R1 := Nat.div_mul_le_self _ _
     have hf4 : R1 / (Y1) * (Y1) + R1 % (Y1) = R1 := Nat.div_add_mod' _ _
     have hf5 : R1 % (Y1) < Y1 := Nat.mod_lt _ hy1p
     refine g3 ?_
     refine RW.q (v := .int .u64 ((R1 / Y1 : Nat) : Int)) rfl (q_quoU (a := R1) (b := Y1) rfl rfl (by omega) (by omega)) ?_
     refine g8 ?_
     refine RW.q (v := .int .u64 (((R1 / Y1) * Y1 : Nat) : Int)) rfl (q_mulU (a := (R1 / Y1)) (b := Y1) rfl rfl (Nat.mod_eq_of_lt (by omega))) (RW.q (v := .int .u64 ((R1 % (Y1) : Nat) : Int)) rfl (q_as (v := .int .u64 ((R1 - ((R1 / Y1) * Y1) : Nat) : Int)) (q_subU (a := R1) (b := ((R1 / Y1) * Y1)) rfl rfl (by omega)) (congrArg (Value.int .u64) (by omega))) ?_)
     refine g5 ?_
     refine AW.loop (fun s J m => ∃ (q : Nat), ∃ (r : Nat), s = [(2, .int .u64 (Y : Int)), (8, .int .u64 (sh : Int)), (9, .int .u64 (Y1 : Int)), (10, .int .u64 (Y0 : Int)), (13, .int .u64 (W1 : Int)), (14, .int .u64 (W0 : Int)), (15, .int .u64 (Q1 : Int)), (17, .int .u64 (R1 : Int)), (18, .int .u64 (q : Int)), (16, .int .u64 (r : Int))] ∧ J = St ⟨w, Φ, []⟩ Φ [] ∧ m = q + 0 * q ∧ (q * (Y1) + r = R1) ∧ (Q0 ≤ q) ∧ (q ≤ 4294967296 + 1) ∧ (r < 4294967296)) (s0 := _) (J1 := _) (m0 := _) ⟨_, _, rfl, rfl, rfl, hf4, hf1, hf2, (by omega)⟩ ⟨rfl, rfl, rfl, rfl, rfl, rfl, rfl, rfl, rfl, rfl, trivial⟩ (fun _ h => h) ?_
     rintro _ _ _ _ ⟨q, r, rfl, rfl, rfl, hq, hQ, hqB, hr⟩
     refine g2 ?_
     have hm9 : q * (Y0) ≤ (4294967296 + 1) * 4294967295 := Nat.mul_le_mul (by omega) (by omega)
     refine g6 ?_
     refine RW.g (b := (decide (((4294967296 : Nat) : Int) ≤ (q : Int)))) (v := .int .u64 ((q * Y0 : Nat) : Int)) rfl rfl rfl (fun h => q_mulU (a := q) (b := Y0) (gv_pos h) (gv_pos h) (Nat.mod_eq_of_lt (by (try simp [-List.getD_eq_getElem?_getD] at h); omega))) ?_
     refine g1 ?_
     refine RW.g (b := (decide (((4294967296 : Nat) : Int) ≤ (q : Int)))) (v := .int .u64 ((4294967296 * r : Nat) : Int)) rfl rfl rfl (fun h => q_mulU (a := 4294967296) (b := r) rfl (gv_pos h) (Nat.mod_eq_of_lt (by (try simp [-List.getD_eq_getElem?_getD] at h); omega))) ?_
     refine g1 ?_
     refine RW.g (b := (decide (((4294967296 : Nat) : Int) ≤ (q : Int)))) (v := .int .u64 (((4294967296 * r) + W0 : Nat) : Int)) rfl rfl rfl (fun h => q_addU (a := (4294967296 * r)) (b := W0) (gv_pos h) (gv_pos h) (Nat.mod_eq_of_lt (by (try simp [-List.getD_eq_getElem?_getD] at h); omega))) ?_
     refine g1 ?_
     obtain ⟨qb3, hqb3⟩ : ∃ qz : Bool, ((decide (((4294967296 : Nat) : Int) ≤ (q : Int))) || (decide ((((4294967296 * r) + W0 : Nat) : Int) < ((q * Y0 : Nat) : Int)))) = qz := ⟨_, rfl⟩
     refine RW.q (v := .bool qb3) rfl (q_as (v := .bool ((decide (((4294967296 : Nat) : Int) ≤ (q : Int))) || (decide ((((4294967296 * r) + W0 : Nat) : Int) < ((q * Y0 : Nat) : Int))))) (qpO rfl rfl rfl) (congrArg Value.bool hqb3)) ?_
     subst hqb3
     refine g2 ?_
     refine AW.cond rfl (fun hc8 => ?_) fun hc8 => ?_
     ·
      simp [-List.getD_eq_getElem?_getD] at hc8
      refine g4 ?_
      have hdn := Nums.kn_down (d := W0) hyd hq hRY (by omega) (by rw [hQ0]; exact hQ) (by omega)
      rw [hQ0] at hdn
      refine g2 ?_
      refine RW.q (v := .int .u64 ((q - 1 : Nat) : Int)) rfl (q_subU (a := q) (b := 1) rfl rfl (by omega)) ?_
      refine g7 ?_
      refine RW.q (v := .int .u64 ((r + Y1 : Nat) : Int)) rfl (q_addU (a := r) (b := Y1) rfl rfl (Nat.mod_eq_of_lt (by omega))) ?_
      refine g9 ?_
      refine AW.cond rfl (fun hc9 => ?_) fun hc9 => ?_
      ·
       simp [-List.getD_eq_getElem?_getD] at hc9
       refine g6 ?_
       have hqe : q - 1 = Q0 := by
        have hp9 := Nums.kn_end (d := W0) (q := q - 1) (r := r + Y1) hyd (kn_dec hq hdn.1) hRY (by rw [hQ0]; exact hdn.2) (Nums.kn_break (by omega) (by omega) (by omega))
        rw [hp9, hQ0]
       rw [hqe]
       obtain ⟨ha0, hb0⟩ := Nums.kn_rest (u := R1) (d := W0) (y := Y) (B := 4294967296) (M := 18446744073709551616) (by omega) (by omega)
       rw [hQ0, hR0] at hb0
       refine g2 ?_
       refine RW.q (v := .int .u64 ((Q1 * 4294967296 : Nat) : Int)) rfl (q_mulU (a := Q1) (b := 4294967296) rfl rfl (Nat.mod_eq_of_lt (by omega))) ?_
       refine g1 ?_
       refine RW.q (v := .int .u64 (((Q1 * 4294967296) + Q0 : Nat) : Int)) rfl (q_addU (a := (Q1 * 4294967296)) (b := Q0) rfl rfl (Nat.mod_eq_of_lt (by omega))) ?_
       refine g1 ?_
       refine RW.q (v := .int .u64 ((R1 * 4294967296 % 18446744073709551616 : Nat) : Int)) rfl (q_mulU (a := R1) (b := 4294967296) rfl rfl rfl) ?_
       refine g1 ?_
       refine RW.q (v := .int .u64 (((R1 * 4294967296 % 18446744073709551616 + W0) % 18446744073709551616 : Nat) : Int)) rfl (q_addU (a := (R1 * 4294967296 % 18446744073709551616)) (b := W0) rfl rfl rfl) ?_
       refine g2 ?_
       refine RW.q (v := .int .u64 ((Q0 * Y % 18446744073709551616 : Nat) : Int)) rfl (q_mulU (a := Q0) (b := Y) rfl rfl rfl) (RW.q (v := .int .u64 (R0 : Int)) rfl (q_subU (a := ((R1 * 4294967296 % 18446744073709551616 + W0) % 18446744073709551616)) (b := (Q0 * Y % 18446744073709551616)) rfl rfl (by rw [ha0]; exact hb0)) ?_)
       refine g1 ?_
       refine RW.q (v := .int .u64 ((R0 / 2 ^ sh : Nat) : Int)) rfl (q_shrU' (a := R0) (c := sh) rfl rfl (by omega)) ?_
       refine g5 ?_
       refine fin_out2 (v := .int .u64 (((Q1 * 4294967296) + Q0 : Nat) : Int)) (u := .int .u64 ((R0 / 2 ^ sh : Nat) : Int)) rfl rfl rfl rfl (fun w' hw => ?_)
       refine ⟨?_, hw.below rfl⟩
       subst hW1 hW0
       have hfin := Nums.div128 (hi := hi) (lo := lo) (y := y) (u := U) (v := V) (y' := Y) (Q1 := Q1) (r1 := R1) (Q0 := Q0) hs64 hY.symm hU.symm hV.symm hy0 hQ1.symm hR1.symm hQ0.symm
       rw [hR0] at hfin
       rw [hfin.1, hfin.2]
      ·
       simp [-List.getD_eq_getElem?_getD] at hc9
       refine g2 ?_
       exact Post.back (s' := _) (J' := _) (m' := _) (by omega) ⟨q - 1, r + Y1, rfl, rfl, rfl, (kn_dec hq hdn.1), hdn.2, (by omega), (by omega)⟩ ⟨rfl, rfl, rfl, rfl, rfl, rfl, rfl, rfl, rfl, rfl, trivial⟩ (fun _ h => h)
     ·
      simp [-List.getD_eq_getElem?_getD] at hc8
      refine g6 ?_
      have hqe : q = Q0 := by
       have hp9 := Nums.kn_end (d := W0) hyd hq hRY (by rw [hQ0]; exact hQ) (by omega)
       rw [hp9, hQ0]
      rw [hqe]
      obtain ⟨ha0, hb0⟩ := Nums.kn_rest (u := R1) (d := W0) (y := Y) (B := 4294967296) (M := 18446744073709551616) (by omega) (by omega)
      rw [hQ0, hR0] at hb0
      refine g2 ?_
      refine RW.q (v := .int .u64 ((Q1 * 4294967296 : Nat) : Int)) rfl (q_mulU (a := Q1) (b := 4294967296) rfl rfl (Nat.mod_eq_of_lt (by omega))) ?_
      refine g1 ?_
      refine RW.q (v := .int .u64 (((Q1 * 4294967296) + Q0 : Nat) : Int)) rfl (q_addU (a := (Q1 * 4294967296)) (b := Q0) rfl rfl (Nat.mod_eq_of_lt (by omega))) ?_
      refine g1 ?_
      refine RW.q (v := .int .u64 ((R1 * 4294967296 % 18446744073709551616 : Nat) : Int)) rfl (q_mulU (a := R1) (b := 4294967296) rfl rfl rfl) ?_
      refine g1 ?_
      refine RW.q (v := .int .u64 (((R1 * 4294967296 % 18446744073709551616 + W0) % 18446744073709551616 : Nat) : Int)) rfl (q_addU (a := (R1 * 4294967296 % 18446744073709551616)) (b := W0) rfl rfl rfl) ?_
      refine g2 ?_
      refine RW.q (v := .int .u64 ((Q0 * Y % 18446744073709551616 : Nat) : Int)) rfl (q_mulU (a := Q0) (b := Y) rfl rfl rfl) (RW.q (v := .int .u64 (R0 : Int)) rfl (q_subU (a := ((R1 * 4294967296 % 18446744073709551616 + W0) % 18446744073709551616)) (b := (Q0 * Y % 18446744073709551616)) rfl rfl (by rw [ha0]; exact hb0)) ?_)
      refine g1 ?_
      refine RW.q (v := .int .u64 ((R0 / 2 ^ sh : Nat) : Int)) rfl (q_shrU' (a := R0) (c := sh) rfl rfl (by omega)) ?_
      refine g5 ?_
      refine fin_out2 (v := .int .u64 (((Q1 * 4294967296) + Q0 : Nat) : Int)) (u := .int .u64 ((R0 / 2 ^ sh : Nat) : Int)) rfl rfl rfl rfl (fun w' hw => ?_)
      refine ⟨?_, hw.below rfl⟩
      subst hW1 hW0
      have hfin := Nums.div128 (hi := hi) (lo := lo) (y := y) (u := U) (v := V) (y' := Y) (Q1 := Q1) (r1 := R1) (Q0 := Q0) hs64 hY.symm hU.symm hV.symm hy0 hQ1.symm hR1.symm hQ0.symm
      rw [hR0] at hfin
      rw [hfin.1, hfin.2]
end Go.Proofs.YtnfmjfheciihjaaGreatDoor
