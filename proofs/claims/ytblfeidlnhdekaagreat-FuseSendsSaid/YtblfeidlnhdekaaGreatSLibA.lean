/- Lemmas. Conditions: those of each theorem. -/
import Derived.Test.YtblfeidlnhdekaaGreatRows
import Derived.Test.YtblfeidlnhdekaaGreatSNums
import Derived.Test.YtblfeidlnhdekaaGreatSLen
import Derived.Test.YtblfeidlnhdekaaGreatSTypes
import Derived.Test.YtblfeidlnhdekaaGreatSAuto3
import Derived.Lib.ItoaNum
set_option maxRecDepth 8000
set_option maxHeartbeats 16000000
namespace Go.Proofs.YtblfeidlnhdekaaGreat
open Go Go.K Go.RowKit
theorem oK {k : FuncId} (h : (Tryz.prog.funcs[k]?).map (fun fn => fn.name == "runtime.NumGoroutine" || fn.body.isNone) = some false := by kernel_rfl) : Go.K.Own Tryz.prog k := own_of h
noncomputable abbrev pg := Tryz.prog
theorem uT3 : type_of% @Tryz.underlying3 := @Tryz.underlying3
theorem uT9 : type_of% @Tryz.underlying9 := @Tryz.underlying9
theorem uT23 : type_of% @Tryz.underlying23 := @Tryz.underlying23
theorem uT26 : type_of% @Tryz.underlying26 := @Tryz.underlying26
theorem uT29 : type_of% @Tryz.underlying29 := @Tryz.underlying29
theorem uT31 : type_of% @Tryz.underlying31 := @Tryz.underlying31
theorem uT32 : type_of% @Tryz.underlying32 := @Tryz.underlying32
theorem uT36 : type_of% @Tryz.underlying36 := @Tryz.underlying36
theorem uT37 : type_of% @Tryz.underlying37 := @Tryz.underlying37
theorem uT38 : type_of% @Tryz.underlying38 := @Tryz.underlying38
theorem uT39 : type_of% @Tryz.underlying39 := @Tryz.underlying39
theorem uT41 : type_of% @Tryz.underlying41 := @Tryz.underlying41
theorem uT45 : type_of% @Tryz.underlying45 := @Tryz.underlying45
theorem uT47 : type_of% @Tryz.underlying47 := @Tryz.underlying47
theorem uT49 : type_of% @Tryz.underlying49 := @Tryz.underlying49
theorem uT51 : type_of% @Tryz.underlying51 := @Tryz.underlying51
theorem uT53 : type_of% @Tryz.underlying53 := @Tryz.underlying53
theorem uT57 : type_of% @Tryz.underlying57 := @Tryz.underlying57
theorem uT58 : type_of% @Tryz.underlying58 := @Tryz.underlying58
theorem uT67 : type_of% @Tryz.underlying67 := @Tryz.underlying67
theorem uT68 : type_of% @Tryz.underlying68 := @Tryz.underlying68
theorem uT71 : type_of% @Tryz.underlying71 := @Tryz.underlying71
theorem uT81 : type_of% @Tryz.underlying81 := @Tryz.underlying81
theorem uT82 : type_of% @Tryz.underlying82 := @Tryz.underlying82
theorem uT84 : type_of% @Tryz.underlying84 := @Tryz.underlying84
theorem uT90 : type_of% @Tryz.underlying90 := @Tryz.underlying90
theorem uT98 : type_of% @Tryz.underlying98 := @Tryz.underlying98
theorem uT101 : type_of% @Tryz.underlying101 := @Tryz.underlying101
theorem uT122 : type_of% @Tryz.underlying122 := @Tryz.underlying122
theorem uT124 : type_of% @Tryz.underlying124 := @Tryz.underlying124
theorem uT131 : type_of% @Tryz.underlying131 := @Tryz.underlying131
theorem uT133 : type_of% @Tryz.underlying133 := @Tryz.underlying133
theorem uT139 : type_of% @Tryz.underlying139 := @Tryz.underlying139
theorem uT142 : type_of% @Tryz.underlying142 := @Tryz.underlying142
theorem uT144 : type_of% @Tryz.underlying144 := @Tryz.underlying144
theorem uT146 : type_of% @Tryz.underlying146 := @Tryz.underlying146
theorem uT147 : type_of% @Tryz.underlying147 := @Tryz.underlying147
theorem uT154 : type_of% @Tryz.underlying154 := @Tryz.underlying154
theorem uT158 : type_of% @Tryz.underlying158 := @Tryz.underlying158
theorem uT160 : type_of% @Tryz.underlying160 := @Tryz.underlying160
theorem uT162 : type_of% @Tryz.underlying162 := @Tryz.underlying162
theorem uT165 : type_of% @Tryz.underlying165 := @Tryz.underlying165
theorem uT168 : type_of% @Tryz.underlying168 := @Tryz.underlying168
theorem uT171 : type_of% @Tryz.underlying171 := @Tryz.underlying171
theorem uT183 : type_of% @Tryz.underlying183 := @Tryz.underlying183
theorem uT188 : type_of% @Tryz.underlying188 := @Tryz.underlying188
theorem uT191 : type_of% @Tryz.underlying191 := @Tryz.underlying191
abbrev cl31 (x : Bt.Basin) (u1 u3 u4 u5 u6 u7 u8 u9 : Value) : List Value := [.string x.Name, u1, iV x.Cells, u3, u4, u5, u6, u7, u8, u9, iV x.Err]
abbrev cl36 (x : Bt.State) (u1 u2 u3 u4 u5 u6 : Value) : List Value := [iV x.Hour, u1, u2, u3, u4, u5, u6]
abbrev cl49 (x : Bt.Gauge) : List Value := [.string x.Name, iV x.Kind, iV x.Target, iV x.Err, iV x.Drift]
abbrev cl53 (x : Bt.Reading) : List Value := [iV x.Gauge, iV x.Hour, iV x.Value.Lo, iV x.Value.Hi]
abbrev cl57 (x : Bt.Gram) : List Value := [iV x.Gauge, iV x.Seq, iV x.Clock, iV x.Value, .string x.Tag]
abbrev cl71 (x : Bt.Place) (u4 u5 u11 : Value) : List Value := [.string x.Name, iV x.Kind, iV x.Office, iV x.Cap, u4, u5, iV x.Num, iV x.Den, iV x.Down, iV x.Delay, iV x.Floor, u11]
abbrev cl81 (x : Bt.Gate) : List Value := [iV x.Pos, iV x.Target, .bool x.Stuck, .bool x.Open]
abbrev cl98 (x : Bt.Sum) : List Value := [iV x.At, iV x.To, iV x.Vol.Lo, iV x.Vol.Hi]
abbrev cl101 (x : Bt.Known) : List Value := [iV x.Pos.Lo, iV x.Pos.Hi, iV x.Target, iV x.Open.Lo, iV x.Open.Hi]
abbrev cl124 (x : Bt.Link) (u4 u5 u6 : Value) : List Value := [.string x.Name, iV x.Kind, iV x.From, iV x.To, u4, u5, u6, iV x.Positions, iV x.Speed, iV x.Leak, iV x.Crest, iV x.Num, iV x.Den, iV x.Prime, iV x.Break, iV x.BackNum, iV x.BackDen, iV x.Delay]
abbrev cl158 (x : Bt.Town) : List Value := [.string x.Name, iV x.Place, iV x.Flood, iV x.Lead, iV x.People, iV x.Watch, iV x.Quorum]
abbrev cl162 (x : Bt.Road) : List Value := [.string x.Name, iV x.From, iV x.To, iV x.Hours, iV x.Flow, iV x.By, iV x.Limit]
theorem hmix : Tryz.prog.follows .mixedOrders = true := by kernel_rfl
theorem sz3 : (Tryz.prog.info? 3).map (·.size) = some 1 := by kernel_rfl
theorem zero3 : (Tryz.prog.info? 3).map (·.zero) = some (some (iV 0)) := by kernel_rfl
theorem inf3 : (Tryz.prog.info? 3).map (fun i => (i.zero, i.size, i.bytes)) = some (some (iV 0), 1, 8) := by kernel_rfl
theorem sz4 : (Tryz.prog.info? 4).map (·.size) = some 1 := by kernel_rfl
theorem zero4 : (Tryz.prog.info? 4).map (·.zero) = some (some (.bool false)) := by kernel_rfl
theorem sz9 : (Tryz.prog.info? 9).map (·.size) = some 1 := by kernel_rfl
theorem sz22 : (Tryz.prog.info? 22).map (·.size) = some 1 := by kernel_rfl
theorem sz23 : (Tryz.prog.info? 23).map (·.size) = some 1 := by kernel_rfl
theorem sz24 : (Tryz.prog.info? 24).map (·.size) = some 1 := by kernel_rfl
theorem sz25 : (Tryz.prog.info? 25).map (·.size) = some 1 := by kernel_rfl
theorem sz26 : (Tryz.prog.info? 26).map (·.size) = some 1 := by kernel_rfl
theorem sz27 : (Tryz.prog.info? 27).map (·.size) = some 1 := by kernel_rfl
theorem sz28 : (Tryz.prog.info? 28).map (·.size) = some 1 := by kernel_rfl
theorem sz29 : (Tryz.prog.info? 29).map (·.size) = some 1 := by kernel_rfl
theorem inf29 : (Tryz.prog.info? 29).map (fun i => (i.zero, i.size, i.bytes)) = some (some nS, 1, 24) := by kernel_rfl
theorem sz31 : (Tryz.prog.info? 31).map (·.size) = some 11 := by kernel_rfl
theorem zero31 : (Tryz.prog.info? 31).map (·.zero) = some (some (.agg #[.string ⟨#[]⟩, .slice none 0 0, iV 0, .slice none 0 0, .slice none 0 0, .slice none 0 0, .slice none 0 0, .slice none 0 0, .slice none 0 0, .slice none 0 0, iV 0])) := by kernel_rfl
theorem places31 : Plc Tryz.prog (fO Tryz.underlying31) #[(0, 1), (1, 1), (2, 1), (3, 1), (4, 1), (5, 1), (6, 1), (7, 1), (8, 1), (9, 1), (10, 1)] := fun w => by kernel_rfl
theorem sz32 : (Tryz.prog.info? 32).map (·.size) = some 1 := by kernel_rfl
theorem sz34 : (Tryz.prog.info? 34).map (·.size) = some 1 := by kernel_rfl
theorem sz36 : (Tryz.prog.info? 36).map (·.size) = some 7 := by kernel_rfl
theorem sz37 : (Tryz.prog.info? 37).map (·.size) = some 1 := by kernel_rfl
theorem sz38 : (Tryz.prog.info? 38).map (·.size) = some 1 := by kernel_rfl
theorem sz39 : (Tryz.prog.info? 39).map (·.size) = some 1 := by kernel_rfl
theorem sz41 : (Tryz.prog.info? 41).map (·.size) = some 4 := by kernel_rfl
theorem zero41 : (Tryz.prog.info? 41).map (·.zero) = some (some (.agg #[iV 0, .slice none 0 0, .slice none 0 0, .slice none 0 0])) := by kernel_rfl
theorem places41 : Plc Tryz.prog (fO Tryz.underlying41) #[(0, 1), (1, 1), (2, 1), (3, 1)] := fun w => by kernel_rfl
theorem sz47 : (Tryz.prog.info? 47).map (·.size) = some 3 := by kernel_rfl
theorem zero47 : (Tryz.prog.info? 47).map (·.zero) = some (some (.agg #[iV 0, iV 0, iV 0])) := by kernel_rfl
theorem sz49 : (Tryz.prog.info? 49).map (·.size) = some 5 := by kernel_rfl
theorem zero49 : (Tryz.prog.info? 49).map (·.zero) = some (some (.agg #[.string ⟨#[]⟩, iV 0, iV 0, iV 0, iV 0])) := by kernel_rfl
theorem inf49 : (Tryz.prog.info? 49).map (fun i => (i.zero, i.size, i.bytes)) = some (some (.agg #[.string ⟨#[]⟩, iV 0, iV 0, iV 0, iV 0]), 5, 48) := by kernel_rfl
theorem places49 : Plc Tryz.prog (fO Tryz.underlying49) #[(0, 1), (1, 1), (2, 1), (3, 1), (4, 1)] := fun w => by kernel_rfl
theorem sz51 : (Tryz.prog.info? 51).map (·.size) = some 2 := by kernel_rfl
theorem zero51 : (Tryz.prog.info? 51).map (·.zero) = some (some (.agg #[iV 0, iV 0])) := by kernel_rfl
theorem inf51 : (Tryz.prog.info? 51).map (fun i => (i.zero, i.size, i.bytes)) = some (some (.agg #[iV 0, iV 0]), 2, 16) := by kernel_rfl
theorem places51 : Plc Tryz.prog (fO Tryz.underlying51) #[(0, 1), (1, 1)] := fun w => by kernel_rfl
theorem sz53 : (Tryz.prog.info? 53).map (·.size) = some 4 := by kernel_rfl
theorem zero53 : (Tryz.prog.info? 53).map (·.zero) = some (some (.agg #[iV 0, iV 0, iV 0, iV 0])) := by kernel_rfl
theorem inf53 : (Tryz.prog.info? 53).map (fun i => (i.zero, i.size, i.bytes)) = some (some (.agg #[iV 0, iV 0, iV 0, iV 0]), 4, 32) := by kernel_rfl
theorem places53 : Plc Tryz.prog (fO Tryz.underlying53) #[(0, 1), (1, 1), (2, 2)] := fun w => by kernel_rfl
theorem sz57 : (Tryz.prog.info? 57).map (·.size) = some 5 := by kernel_rfl
theorem zero57 : (Tryz.prog.info? 57).map (·.zero) = some (some (.agg #[iV 0, iV 0, iV 0, iV 0, .string ⟨#[]⟩])) := by kernel_rfl
theorem inf57 : (Tryz.prog.info? 57).map (fun i => (i.zero, i.size, i.bytes)) = some (some (.agg #[iV 0, iV 0, iV 0, iV 0, .string ⟨#[]⟩]), 5, 48) := by kernel_rfl
theorem places57 : Plc Tryz.prog (fO Tryz.underlying57) #[(0, 1), (1, 1), (2, 1), (3, 1), (4, 1)] := fun w => by kernel_rfl
theorem sz67 : (Tryz.prog.info? 67).map (·.size) = some 2 := by kernel_rfl
theorem zero67 : (Tryz.prog.info? 67).map (·.zero) = some (some (.agg #[iV 0, iV 0])) := by kernel_rfl
theorem inf67 : (Tryz.prog.info? 67).map (fun i => (i.zero, i.size, i.bytes)) = some (some (.agg #[iV 0, iV 0]), 2, 16) := by kernel_rfl
theorem places67 : Plc Tryz.prog (fO Tryz.underlying67) #[(0, 1), (1, 1)] := fun w => by kernel_rfl
theorem sz68 : (Tryz.prog.info? 68).map (·.size) = some 1 := by kernel_rfl
theorem inf68 : (Tryz.prog.info? 68).map (fun i => (i.zero, i.size, i.bytes)) = some (some nS, 1, 24) := by kernel_rfl
theorem sz69 : (Tryz.prog.info? 69).map (·.size) = some 1 := by kernel_rfl
theorem sz71 : (Tryz.prog.info? 71).map (·.size) = some 12 := by kernel_rfl
theorem zero71 : (Tryz.prog.info? 71).map (·.zero) = some (some (.agg #[.string ⟨#[]⟩, iV 0, iV 0, iV 0, .slice none 0 0, .slice none 0 0, iV 0, iV 0, iV 0, iV 0, iV 0, .slice none 0 0])) := by kernel_rfl
theorem inf71 : (Tryz.prog.info? 71).map (fun i => (i.zero, i.size, i.bytes)) = some (some (.agg #[.string ⟨#[]⟩, iV 0, iV 0, iV 0, .slice none 0 0, .slice none 0 0, iV 0, iV 0, iV 0, iV 0, iV 0, .slice none 0 0]), 12, 152) := by kernel_rfl
theorem places71 : Plc Tryz.prog (fO Tryz.underlying71) #[(0, 1), (1, 1), (2, 1), (3, 1), (4, 1), (5, 1), (6, 1), (7, 1), (8, 1), (9, 1), (10, 1), (11, 1)] := fun w => by kernel_rfl
theorem sz81 : (Tryz.prog.info? 81).map (·.size) = some 4 := by kernel_rfl
theorem zero81 : (Tryz.prog.info? 81).map (·.zero) = some (some (.agg #[iV 0, iV 0, .bool false, .bool false])) := by kernel_rfl
theorem sz90 : (Tryz.prog.info? 90).map (·.size) = some 2 := by kernel_rfl
theorem zero90 : (Tryz.prog.info? 90).map (·.zero) = some (some (.agg #[iV 0, iV 0])) := by kernel_rfl
theorem places90 : Plc Tryz.prog (fO Tryz.underlying90) #[(0, 1), (1, 1)] := fun w => by kernel_rfl
theorem sz98 : (Tryz.prog.info? 98).map (·.size) = some 4 := by kernel_rfl
theorem zero98 : (Tryz.prog.info? 98).map (·.zero) = some (some (.agg #[iV 0, iV 0, iV 0, iV 0])) := by kernel_rfl
theorem inf98 : (Tryz.prog.info? 98).map (fun i => (i.zero, i.size, i.bytes)) = some (some (.agg #[iV 0, iV 0, iV 0, iV 0]), 4, 32) := by kernel_rfl
theorem sz101 : (Tryz.prog.info? 101).map (·.size) = some 5 := by kernel_rfl
theorem zero101 : (Tryz.prog.info? 101).map (·.zero) = some (some (.agg #[iV 0, iV 0, iV 0, iV 0, iV 0])) := by kernel_rfl
theorem inf101 : (Tryz.prog.info? 101).map (fun i => (i.zero, i.size, i.bytes)) = some (some (.agg #[iV 0, iV 0, iV 0, iV 0, iV 0]), 5, 40) := by kernel_rfl
theorem sz122 : (Tryz.prog.info? 122).map (·.size) = some 2 := by kernel_rfl
theorem sz124 : (Tryz.prog.info? 124).map (·.size) = some 18 := by kernel_rfl
theorem zero124 : (Tryz.prog.info? 124).map (·.zero) = some (some (.agg #[.string ⟨#[]⟩, iV 0, iV 0, iV 0, .slice none 0 0, .slice none 0 0, .slice none 0 0, iV 0, iV 0, iV 0, iV 0, iV 0, iV 0, iV 0, iV 0, iV 0, iV 0, iV 0])) := by kernel_rfl
theorem sz133 : (Tryz.prog.info? 133).map (·.size) = some 2 := by kernel_rfl
theorem zero133 : (Tryz.prog.info? 133).map (·.zero) = some (some (.agg #[iV 0, iV 0])) := by kernel_rfl
theorem places133 : Plc Tryz.prog (fO Tryz.underlying133) #[(0, 1), (1, 1)] := fun w => by kernel_rfl
theorem sz144 : (Tryz.prog.info? 144).map (·.size) = some 3 := by kernel_rfl
theorem zero144 : (Tryz.prog.info? 144).map (·.zero) = some (some (.agg #[iV 0, iV 0, .slice none 0 0])) := by kernel_rfl
theorem sz146 : (Tryz.prog.info? 146).map (·.size) = some 2 := by kernel_rfl
theorem zero146 : (Tryz.prog.info? 146).map (·.zero) = some (some (.agg #[iV 0, iV 0])) := by kernel_rfl
theorem places146 : Plc Tryz.prog (fO Tryz.underlying146) #[(0, 1), (1, 1)] := fun w => by kernel_rfl
theorem sz158 : (Tryz.prog.info? 158).map (·.size) = some 7 := by kernel_rfl
theorem zero158 : (Tryz.prog.info? 158).map (·.zero) = some (some (.agg #[.string ⟨#[]⟩, iV 0, iV 0, iV 0, iV 0, iV 0, iV 0])) := by kernel_rfl
theorem sz160 : (Tryz.prog.info? 160).map (·.size) = some 2 := by kernel_rfl
theorem zero160 : (Tryz.prog.info? 160).map (·.zero) = some (some (.agg #[.string ⟨#[]⟩, iV 0])) := by kernel_rfl
theorem sz162 : (Tryz.prog.info? 162).map (·.size) = some 7 := by kernel_rfl
theorem zero162 : (Tryz.prog.info? 162).map (·.zero) = some (some (.agg #[.string ⟨#[]⟩, iV 0, iV 0, iV 0, iV 0, iV 0, iV 0])) := by kernel_rfl
theorem sz165 : (Tryz.prog.info? 165).map (·.size) = some 2 := by kernel_rfl
theorem zero165 : (Tryz.prog.info? 165).map (·.zero) = some (some (.agg #[iV 0, iV 0])) := by kernel_rfl
theorem sz188 : (Tryz.prog.info? 188).map (·.size) = some 2 := by kernel_rfl
theorem zero188 : (Tryz.prog.info? 188).map (·.zero) = some (some (.agg #[.string ⟨#[]⟩, .string ⟨#[]⟩])) := by kernel_rfl
theorem places188 : Plc Tryz.prog (fO Tryz.underlying188) #[(0, 1), (1, 1)] := fun w => by kernel_rfl
instance : FA Tryz.prog 31 0 0 := fA Tryz.underlying31 rfl sz9
instance : FA Tryz.prog 31 1 1 := fA Tryz.underlying31 rfl sz22
instance : FA Tryz.prog 31 2 2 := fA Tryz.underlying31 rfl sz3
instance : FA Tryz.prog 31 3 3 := fA Tryz.underlying31 rfl sz23
instance : FA Tryz.prog 31 4 4 := fA Tryz.underlying31 rfl sz24
instance : FA Tryz.prog 31 5 5 := fA Tryz.underlying31 rfl sz25
instance : FA Tryz.prog 31 6 6 := fA Tryz.underlying31 rfl sz26
instance : FA Tryz.prog 31 7 7 := fA Tryz.underlying31 rfl sz27
instance : FA Tryz.prog 31 8 8 := fA Tryz.underlying31 rfl sz28
instance : FA Tryz.prog 31 9 9 := fA Tryz.underlying31 rfl sz29
instance : FA Tryz.prog 31 10 10 := fA Tryz.underlying31 rfl sz3
instance : FA Tryz.prog 36 0 0 := fA Tryz.underlying36 rfl sz3
instance : FA Tryz.prog 36 1 1 := fA Tryz.underlying36 rfl sz32
instance : FA Tryz.prog 36 2 2 := fA Tryz.underlying36 rfl sz29
instance : FA Tryz.prog 36 4 4 := fA Tryz.underlying36 rfl sz34
instance : FA Tryz.prog 36 5 5 := fA Tryz.underlying36 rfl sz29
instance : FA Tryz.prog 36 6 6 := fA Tryz.underlying36 rfl sz29
instance : FA Tryz.prog 41 0 0 := fA Tryz.underlying41 rfl sz3
instance : FA Tryz.prog 41 1 1 := fA Tryz.underlying41 rfl sz37
instance : FA Tryz.prog 41 2 2 := fA Tryz.underlying41 rfl sz38
instance : FA Tryz.prog 41 3 3 := fA Tryz.underlying41 rfl sz39
instance : FA Tryz.prog 47 0 0 := fA Tryz.underlying47 rfl sz3
instance : FA Tryz.prog 47 1 1 := fA Tryz.underlying47 rfl sz3
instance : FA Tryz.prog 47 2 2 := fA Tryz.underlying47 rfl sz3
instance : FA Tryz.prog 49 0 0 := fA Tryz.underlying49 rfl sz9
instance : FA Tryz.prog 49 1 1 := fA Tryz.underlying49 rfl sz3
instance : FA Tryz.prog 49 2 2 := fA Tryz.underlying49 rfl sz3
instance : FA Tryz.prog 49 3 3 := fA Tryz.underlying49 rfl sz3
instance : FA Tryz.prog 49 4 4 := fA Tryz.underlying49 rfl sz3
instance : FA Tryz.prog 51 0 0 := fA Tryz.underlying51 rfl sz3
instance : FA Tryz.prog 51 1 1 := fA Tryz.underlying51 rfl sz3
instance : FA Tryz.prog 53 0 0 := fA Tryz.underlying53 rfl sz3
instance : FA Tryz.prog 53 1 1 := fA Tryz.underlying53 rfl sz3
instance : FA Tryz.prog 53 2 2 := fA Tryz.underlying53 rfl sz51
instance : FA Tryz.prog 57 0 0 := fA Tryz.underlying57 rfl sz3
instance : FA Tryz.prog 57 1 1 := fA Tryz.underlying57 rfl sz3
instance : FA Tryz.prog 57 2 2 := fA Tryz.underlying57 rfl sz3
instance : FA Tryz.prog 57 3 3 := fA Tryz.underlying57 rfl sz3
instance : FA Tryz.prog 57 4 4 := fA Tryz.underlying57 rfl sz9
instance : FA Tryz.prog 67 0 0 := fA Tryz.underlying67 rfl sz3
instance : FA Tryz.prog 67 1 1 := fA Tryz.underlying67 rfl sz3
instance : FA Tryz.prog 71 0 0 := fA Tryz.underlying71 rfl sz9
instance : FA Tryz.prog 71 1 1 := fA Tryz.underlying71 rfl sz3
instance : FA Tryz.prog 71 2 2 := fA Tryz.underlying71 rfl sz3
instance : FA Tryz.prog 71 3 3 := fA Tryz.underlying71 rfl sz3
instance : FA Tryz.prog 71 4 4 := fA Tryz.underlying71 rfl sz68
instance : FA Tryz.prog 71 5 5 := fA Tryz.underlying71 rfl sz29
instance : FA Tryz.prog 71 6 6 := fA Tryz.underlying71 rfl sz3
instance : FA Tryz.prog 71 7 7 := fA Tryz.underlying71 rfl sz3
instance : FA Tryz.prog 71 8 8 := fA Tryz.underlying71 rfl sz3
instance : FA Tryz.prog 71 9 9 := fA Tryz.underlying71 rfl sz3
instance : FA Tryz.prog 71 10 10 := fA Tryz.underlying71 rfl sz3
instance : FA Tryz.prog 71 11 11 := fA Tryz.underlying71 rfl sz69
instance : FA Tryz.prog 81 0 0 := fA Tryz.underlying81 rfl sz3
instance : FA Tryz.prog 81 1 1 := fA Tryz.underlying81 rfl sz3
instance : FA Tryz.prog 81 3 3 := fA Tryz.underlying81 rfl sz4
instance : FA Tryz.prog 90 0 0 := fA Tryz.underlying90 rfl sz3
instance : FA Tryz.prog 90 1 1 := fA Tryz.underlying90 rfl sz3
instance : FA Tryz.prog 98 0 0 := fA Tryz.underlying98 rfl sz3
instance : FA Tryz.prog 98 1 1 := fA Tryz.underlying98 rfl sz3
instance : FA Tryz.prog 98 2 2 := fA Tryz.underlying98 rfl sz51
instance : FA Tryz.prog 101 0 0 := fA Tryz.underlying101 rfl sz51
instance : FA Tryz.prog 101 1 2 := fA Tryz.underlying101 rfl sz3
instance : FA Tryz.prog 101 2 3 := fA Tryz.underlying101 rfl sz51
instance : FA Tryz.prog 122 0 0 := fA Tryz.underlying122 rfl sz68
instance : FA Tryz.prog 122 1 1 := fA Tryz.underlying122 rfl sz68
instance : FA Tryz.prog 124 0 0 := fA Tryz.underlying124 rfl sz9
instance : FA Tryz.prog 124 1 1 := fA Tryz.underlying124 rfl sz3
instance : FA Tryz.prog 124 2 2 := fA Tryz.underlying124 rfl sz3
instance : FA Tryz.prog 124 3 3 := fA Tryz.underlying124 rfl sz3
instance : FA Tryz.prog 124 4 4 := fA Tryz.underlying124 rfl sz68
instance : FA Tryz.prog 124 5 5 := fA Tryz.underlying124 rfl sz122
instance : FA Tryz.prog 124 6 7 := fA Tryz.underlying124 rfl sz3
instance : FA Tryz.prog 124 7 8 := fA Tryz.underlying124 rfl sz3
instance : FA Tryz.prog 124 8 9 := fA Tryz.underlying124 rfl sz3
instance : FA Tryz.prog 124 9 10 := fA Tryz.underlying124 rfl sz3
instance : FA Tryz.prog 124 10 11 := fA Tryz.underlying124 rfl sz3
instance : FA Tryz.prog 124 11 12 := fA Tryz.underlying124 rfl sz3
instance : FA Tryz.prog 124 12 13 := fA Tryz.underlying124 rfl sz3
instance : FA Tryz.prog 124 13 14 := fA Tryz.underlying124 rfl sz3
instance : FA Tryz.prog 124 14 15 := fA Tryz.underlying124 rfl sz3
instance : FA Tryz.prog 124 15 16 := fA Tryz.underlying124 rfl sz3
instance : FA Tryz.prog 124 16 17 := fA Tryz.underlying124 rfl sz3
instance : FA Tryz.prog 144 0 0 := fA Tryz.underlying144 rfl sz3
instance : FA Tryz.prog 144 1 1 := fA Tryz.underlying144 rfl sz3
instance : FA Tryz.prog 144 2 2 := fA Tryz.underlying144 rfl sz29
instance : FA Tryz.prog 158 0 0 := fA Tryz.underlying158 rfl sz9
instance : FA Tryz.prog 158 1 1 := fA Tryz.underlying158 rfl sz3
instance : FA Tryz.prog 158 2 2 := fA Tryz.underlying158 rfl sz3
instance : FA Tryz.prog 158 3 3 := fA Tryz.underlying158 rfl sz3
instance : FA Tryz.prog 158 4 4 := fA Tryz.underlying158 rfl sz3
instance : FA Tryz.prog 158 5 5 := fA Tryz.underlying158 rfl sz3
instance : FA Tryz.prog 158 6 6 := fA Tryz.underlying158 rfl sz3
instance : FA Tryz.prog 160 0 0 := fA Tryz.underlying160 rfl sz9
instance : FA Tryz.prog 160 1 1 := fA Tryz.underlying160 rfl sz3
instance : FA Tryz.prog 162 0 0 := fA Tryz.underlying162 rfl sz9
instance : FA Tryz.prog 162 1 1 := fA Tryz.underlying162 rfl sz3
instance : FA Tryz.prog 162 2 2 := fA Tryz.underlying162 rfl sz3
instance : FA Tryz.prog 162 3 3 := fA Tryz.underlying162 rfl sz3
instance : FA Tryz.prog 162 4 4 := fA Tryz.underlying162 rfl sz3
instance : FA Tryz.prog 162 5 5 := fA Tryz.underlying162 rfl sz3
instance : FA Tryz.prog 162 6 6 := fA Tryz.underlying162 rfl sz3
instance : FA Tryz.prog 165 0 0 := fA Tryz.underlying165 rfl sz3
instance : FA Tryz.prog 165 1 1 := fA Tryz.underlying165 rfl sz3
instance : NA Tryz.prog 3 := ⟨_, Tryz.underlying3, rfl⟩
instance : NA Tryz.prog 4 := ⟨_, Tryz.underlying4, rfl⟩
instance : NA Tryz.prog 9 := ⟨_, Tryz.underlying9, rfl⟩
instance : NA Tryz.prog 22 := ⟨_, Tryz.underlying22, rfl⟩
instance : NA Tryz.prog 23 := ⟨_, Tryz.underlying23, rfl⟩
instance : NA Tryz.prog 24 := ⟨_, Tryz.underlying24, rfl⟩
instance : NA Tryz.prog 25 := ⟨_, Tryz.underlying25, rfl⟩
instance : NA Tryz.prog 26 := ⟨_, Tryz.underlying26, rfl⟩
instance : NA Tryz.prog 27 := ⟨_, Tryz.underlying27, rfl⟩
instance : NA Tryz.prog 28 := ⟨_, Tryz.underlying28, rfl⟩
instance : NA Tryz.prog 29 := ⟨_, Tryz.underlying29, rfl⟩
instance : AG Tryz.prog 31 11 := ⟨_, Tryz.underlying31, rfl, sz31⟩
instance : NA Tryz.prog 32 := ⟨_, Tryz.underlying32, rfl⟩
instance : NA Tryz.prog 33 := ⟨_, Tryz.underlying33, rfl⟩
instance : NA Tryz.prog 34 := ⟨_, Tryz.underlying34, rfl⟩
instance : AG Tryz.prog 36 7 := ⟨_, Tryz.underlying36, rfl, sz36⟩
instance : NA Tryz.prog 37 := ⟨_, Tryz.underlying37, rfl⟩
instance : NA Tryz.prog 38 := ⟨_, Tryz.underlying38, rfl⟩
instance : NA Tryz.prog 39 := ⟨_, Tryz.underlying39, rfl⟩
instance : AG Tryz.prog 41 4 := ⟨_, Tryz.underlying41, rfl, sz41⟩
instance : AG Tryz.prog 49 5 := ⟨_, Tryz.underlying49, rfl, sz49⟩
instance : AG Tryz.prog 51 2 := ⟨_, Tryz.underlying51, rfl, sz51⟩
instance : AG Tryz.prog 53 4 := ⟨_, Tryz.underlying53, rfl, sz53⟩
instance : AG Tryz.prog 57 5 := ⟨_, Tryz.underlying57, rfl, sz57⟩
instance : NA Tryz.prog 68 := ⟨_, Tryz.underlying68, rfl⟩
instance : NA Tryz.prog 69 := ⟨_, Tryz.underlying69, rfl⟩
instance : AG Tryz.prog 90 2 := ⟨_, Tryz.underlying90, rfl, sz90⟩
instance : AG Tryz.prog 98 4 := ⟨_, Tryz.underlying98, rfl, sz98⟩
instance : AG Tryz.prog 101 5 := ⟨_, Tryz.underlying101, rfl, sz101⟩
instance : AG Tryz.prog 124 18 := ⟨_, Tryz.underlying124, rfl, sz124⟩
instance : AG Tryz.prog 133 2 := ⟨_, Tryz.underlying133, rfl, sz133⟩
instance : AG Tryz.prog 146 2 := ⟨_, Tryz.underlying146, rfl, sz146⟩
instance : NA Tryz.prog 154 := ⟨_, Tryz.underlying154, rfl⟩
instance : AG Tryz.prog 188 2 := ⟨_, Tryz.underlying188, rfl, sz188⟩
instance : SY Tryz.prog 22 := ⟨_, Tryz.underlying22⟩
instance : SY Tryz.prog 23 := ⟨_, Tryz.underlying23⟩
instance : SY Tryz.prog 24 := ⟨_, Tryz.underlying24⟩
instance : SY Tryz.prog 25 := ⟨_, Tryz.underlying25⟩
instance : SY Tryz.prog 26 := ⟨_, Tryz.underlying26⟩
instance : SY Tryz.prog 27 := ⟨_, Tryz.underlying27⟩
instance : SY Tryz.prog 28 := ⟨_, Tryz.underlying28⟩
instance : SY Tryz.prog 29 := ⟨_, Tryz.underlying29⟩
instance : SY Tryz.prog 32 := ⟨_, Tryz.underlying32⟩
instance : SY Tryz.prog 33 := ⟨_, Tryz.underlying33⟩
instance : SY Tryz.prog 34 := ⟨_, Tryz.underlying34⟩
instance : SY Tryz.prog 37 := ⟨_, Tryz.underlying37⟩
instance : SY Tryz.prog 38 := ⟨_, Tryz.underlying38⟩
instance : SY Tryz.prog 39 := ⟨_, Tryz.underlying39⟩
instance : SY Tryz.prog 42 := ⟨_, Tryz.underlying42⟩
instance : SY Tryz.prog 45 := ⟨_, Tryz.underlying45⟩
instance : SY Tryz.prog 58 := ⟨_, Tryz.underlying58⟩
instance : SY Tryz.prog 68 := ⟨_, Tryz.underlying68⟩
instance : SY Tryz.prog 69 := ⟨_, Tryz.underlying69⟩
instance : SY Tryz.prog 191 := ⟨_, Tryz.underlying191⟩
instance : SZ Tryz.prog 3 1 := ⟨sz3⟩
instance : SZ Tryz.prog 4 1 := ⟨sz4⟩
instance : SZ Tryz.prog 31 11 := ⟨sz31⟩
instance : SZ Tryz.prog 41 4 := ⟨sz41⟩
instance : SZ Tryz.prog 47 3 := ⟨sz47⟩
instance : SZ Tryz.prog 49 5 := ⟨sz49⟩
instance : SZ Tryz.prog 51 2 := ⟨sz51⟩
instance : SZ Tryz.prog 53 4 := ⟨sz53⟩
instance : SZ Tryz.prog 57 5 := ⟨sz57⟩
instance : SZ Tryz.prog 67 2 := ⟨sz67⟩
instance : SZ Tryz.prog 81 4 := ⟨sz81⟩
instance : SZ Tryz.prog 90 2 := ⟨sz90⟩
instance : SZ Tryz.prog 98 4 := ⟨sz98⟩
instance : SZ Tryz.prog 101 5 := ⟨sz101⟩
instance : SZ Tryz.prog 133 2 := ⟨sz133⟩
instance : SZ Tryz.prog 146 2 := ⟨sz146⟩
instance : SZ Tryz.prog 158 7 := ⟨sz158⟩
instance : SZ Tryz.prog 160 2 := ⟨sz160⟩
instance : SZ Tryz.prog 162 7 := ⟨sz162⟩
instance : SZ Tryz.prog 165 2 := ⟨sz165⟩
instance : SZ Tryz.prog 188 2 := ⟨sz188⟩
instance : IX Tryz.prog 22 1 := ⟨_, Tryz.underlying22, sz9⟩
instance : IX Tryz.prog 23 12 := ⟨_, Tryz.underlying23, sz71⟩
instance : IX Tryz.prog 24 18 := ⟨_, Tryz.underlying24, sz124⟩
instance : IX Tryz.prog 25 7 := ⟨_, Tryz.underlying25, sz158⟩
instance : IX Tryz.prog 26 5 := ⟨_, Tryz.underlying26, sz49⟩
instance : IX Tryz.prog 27 7 := ⟨_, Tryz.underlying27, sz162⟩
instance : IX Tryz.prog 28 2 := ⟨_, Tryz.underlying28, sz160⟩
instance : IX Tryz.prog 29 1 := ⟨_, Tryz.underlying29, sz3⟩
instance : IX Tryz.prog 32 1 := ⟨_, Tryz.underlying32, sz29⟩
instance : IX Tryz.prog 33 3 := ⟨_, Tryz.underlying33, sz144⟩
instance : IX Tryz.prog 34 4 := ⟨_, Tryz.underlying34, sz81⟩
instance : IX Tryz.prog 37 2 := ⟨_, Tryz.underlying37, sz51⟩
instance : IX Tryz.prog 38 4 := ⟨_, Tryz.underlying38, sz98⟩
instance : IX Tryz.prog 39 5 := ⟨_, Tryz.underlying39, sz101⟩
instance : IX Tryz.prog 42 3 := ⟨_, Tryz.underlying42, sz47⟩
instance : IX Tryz.prog 45 5 := ⟨_, Tryz.underlying45, sz57⟩
instance : IX Tryz.prog 58 4 := ⟨_, Tryz.underlying58, sz53⟩
instance : IX Tryz.prog 68 2 := ⟨_, Tryz.underlying68, sz67⟩
instance : IX Tryz.prog 69 2 := ⟨_, Tryz.underlying69, sz165⟩
instance : IX Tryz.prog 191 1 := ⟨_, Tryz.underlying191, sz68⟩
instance : ZL Tryz.prog 3 [iV 0] := ⟨_, zero3, rfl⟩
instance : ZL Tryz.prog 4 [.bool false] := ⟨_, zero4, rfl⟩
instance : ZL Tryz.prog 31 [.string (bs ([])), nS, iV 0, nS, nS, nS, nS, nS, nS, nS, iV 0] := ⟨_, zero31, rfl⟩
instance : ZL Tryz.prog 41 [iV 0, nS, nS, nS] := ⟨_, zero41, rfl⟩
instance : ZL Tryz.prog 47 [iV 0, iV 0, iV 0] := ⟨_, zero47, rfl⟩
instance : ZL Tryz.prog 49 [.string (bs ([])), iV 0, iV 0, iV 0, iV 0] := ⟨_, zero49, rfl⟩
instance : ZL Tryz.prog 51 [iV 0, iV 0] := ⟨_, zero51, rfl⟩
instance : ZL Tryz.prog 53 [iV 0, iV 0, iV 0, iV 0] := ⟨_, zero53, rfl⟩
instance : ZL Tryz.prog 57 [iV 0, iV 0, iV 0, iV 0, .string (bs ([]))] := ⟨_, zero57, rfl⟩
instance : ZL Tryz.prog 67 [iV 0, iV 0] := ⟨_, zero67, rfl⟩
instance : ZL Tryz.prog 71 [.string (bs ([])), iV 0, iV 0, iV 0, nS, nS, iV 0, iV 0, iV 0, iV 0, iV 0, nS] := ⟨_, zero71, rfl⟩
instance : ZL Tryz.prog 81 [iV 0, iV 0, .bool false, .bool false] := ⟨_, zero81, rfl⟩
instance : ZL Tryz.prog 90 [iV 0, iV 0] := ⟨_, zero90, rfl⟩
instance : ZL Tryz.prog 98 [iV 0, iV 0, iV 0, iV 0] := ⟨_, zero98, rfl⟩
instance : ZL Tryz.prog 101 [iV 0, iV 0, iV 0, iV 0, iV 0] := ⟨_, zero101, rfl⟩
instance : ZL Tryz.prog 124 [.string (bs ([])), iV 0, iV 0, iV 0, nS, nS, nS, iV 0, iV 0, iV 0, iV 0, iV 0, iV 0, iV 0, iV 0, iV 0, iV 0, iV 0] := ⟨_, zero124, rfl⟩
instance : ZL Tryz.prog 133 [iV 0, iV 0] := ⟨_, zero133, rfl⟩
instance : ZL Tryz.prog 144 [iV 0, iV 0, nS] := ⟨_, zero144, rfl⟩
instance : ZL Tryz.prog 146 [iV 0, iV 0] := ⟨_, zero146, rfl⟩
instance : ZL Tryz.prog 158 [.string (bs ([])), iV 0, iV 0, iV 0, iV 0, iV 0, iV 0] := ⟨_, zero158, rfl⟩
instance : ZL Tryz.prog 160 [.string (bs ([])), iV 0] := ⟨_, zero160, rfl⟩
instance : ZL Tryz.prog 162 [.string (bs ([])), iV 0, iV 0, iV 0, iV 0, iV 0, iV 0] := ⟨_, zero162, rfl⟩
instance : ZL Tryz.prog 165 [iV 0, iV 0] := ⟨_, zero165, rfl⟩
instance : ZL Tryz.prog 188 [.string (bs ([])), .string (bs ([]))] := ⟨_, zero188, rfl⟩
instance : OwnI Tryz.prog 3 := ⟨oK⟩
instance : OwnI Tryz.prog 4 := ⟨oK⟩
instance : OwnI Tryz.prog 5 := ⟨oK⟩
instance : OwnI Tryz.prog 6 := ⟨oK⟩
instance : OwnI Tryz.prog 7 := ⟨oK⟩
instance : OwnI Tryz.prog 8 := ⟨oK⟩
instance : OwnI Tryz.prog 9 := ⟨oK⟩
instance : OwnI Tryz.prog 10 := ⟨oK⟩
instance : OwnI Tryz.prog 11 := ⟨oK⟩
instance : OwnI Tryz.prog 12 := ⟨oK⟩
instance : OwnI Tryz.prog 13 := ⟨oK⟩
instance : OwnI Tryz.prog 14 := ⟨oK⟩
instance : OwnI Tryz.prog 15 := ⟨oK⟩
instance : OwnI Tryz.prog 16 := ⟨oK⟩
instance : OwnI Tryz.prog 17 := ⟨oK⟩
instance : OwnI Tryz.prog 18 := ⟨oK⟩
instance : OwnI Tryz.prog 19 := ⟨oK⟩
instance : OwnI Tryz.prog 20 := ⟨oK⟩
instance : OwnI Tryz.prog 21 := ⟨oK⟩
instance : OwnI Tryz.prog 22 := ⟨oK⟩
instance : OwnI Tryz.prog 23 := ⟨oK⟩
instance : OwnI Tryz.prog 24 := ⟨oK⟩
instance : OwnI Tryz.prog 25 := ⟨oK⟩
instance : OwnI Tryz.prog 26 := ⟨oK⟩
instance : OwnI Tryz.prog 27 := ⟨oK⟩
instance : OwnI Tryz.prog 28 := ⟨oK⟩
instance : OwnI Tryz.prog 29 := ⟨oK⟩
instance : OwnI Tryz.prog 30 := ⟨oK⟩
instance : OwnI Tryz.prog 31 := ⟨oK⟩
instance : OwnI Tryz.prog 32 := ⟨oK⟩
instance : OwnI Tryz.prog 33 := ⟨oK⟩
instance : OwnI Tryz.prog 34 := ⟨oK⟩
instance : OwnI Tryz.prog 35 := ⟨oK⟩
instance : OwnI Tryz.prog 36 := ⟨oK⟩
instance : OwnI Tryz.prog 37 := ⟨oK⟩
instance : OwnI Tryz.prog 38 := ⟨oK⟩
instance : OwnI Tryz.prog 39 := ⟨oK⟩
instance : OwnI Tryz.prog 40 := ⟨oK⟩
instance : OwnI Tryz.prog 41 := ⟨oK⟩
instance : OwnI Tryz.prog 42 := ⟨oK⟩
instance : OwnI Tryz.prog 43 := ⟨oK⟩
instance : OwnI Tryz.prog 44 := ⟨oK⟩
instance : OwnI Tryz.prog 45 := ⟨oK⟩
instance : OwnI Tryz.prog 46 := ⟨oK⟩
instance : OwnI Tryz.prog 47 := ⟨oK⟩
instance : OwnI Tryz.prog 48 := ⟨oK⟩
instance : OwnI Tryz.prog 49 := ⟨oK⟩
instance : OwnI Tryz.prog 50 := ⟨oK⟩
instance : OwnI Tryz.prog 51 := ⟨oK⟩
instance : OwnI Tryz.prog 52 := ⟨oK⟩
instance : OwnI Tryz.prog 53 := ⟨oK⟩
instance : OwnI Tryz.prog 54 := ⟨oK⟩
instance : OwnI Tryz.prog 55 := ⟨oK⟩
instance : OwnI Tryz.prog 56 := ⟨oK⟩
instance : OwnI Tryz.prog 57 := ⟨oK⟩
instance : OwnI Tryz.prog 58 := ⟨oK⟩
instance : OwnI Tryz.prog 59 := ⟨oK⟩
instance : OwnI Tryz.prog 60 := ⟨oK⟩
instance : OwnI Tryz.prog 61 := ⟨oK⟩
instance : OwnI Tryz.prog 62 := ⟨oK⟩
instance : OwnI Tryz.prog 63 := ⟨oK⟩
instance : OwnI Tryz.prog 64 := ⟨oK⟩
instance : OwnI Tryz.prog 65 := ⟨oK⟩
instance : OwnI Tryz.prog 66 := ⟨oK⟩
instance : OwnI Tryz.prog 67 := ⟨oK⟩
instance : OwnI Tryz.prog 68 := ⟨oK⟩
instance : OwnI Tryz.prog 69 := ⟨oK⟩
instance : OwnI Tryz.prog 70 := ⟨oK⟩
instance : OwnI Tryz.prog 71 := ⟨oK⟩
instance : OwnI Tryz.prog 72 := ⟨oK⟩
instance : OwnI Tryz.prog 73 := ⟨oK⟩
instance : OwnI Tryz.prog 74 := ⟨oK⟩
instance : OwnI Tryz.prog 75 := ⟨oK⟩
instance : OwnI Tryz.prog 76 := ⟨oK⟩
instance : OwnI Tryz.prog 77 := ⟨oK⟩
instance : OwnI Tryz.prog 78 := ⟨oK⟩
instance : OwnI Tryz.prog 79 := ⟨oK⟩
instance : OwnI Tryz.prog 80 := ⟨oK⟩
instance : OwnI Tryz.prog 81 := ⟨oK⟩
instance : OwnI Tryz.prog 82 := ⟨oK⟩
instance : OwnI Tryz.prog 83 := ⟨oK⟩
instance : OwnI Tryz.prog 84 := ⟨oK⟩
instance : OwnI Tryz.prog 85 := ⟨oK⟩
instance : OwnI Tryz.prog 86 := ⟨oK⟩
instance : OwnI Tryz.prog 87 := ⟨oK⟩
instance : OwnI Tryz.prog 88 := ⟨oK⟩
instance : OwnI Tryz.prog 89 := ⟨oK⟩
instance : OwnI Tryz.prog 90 := ⟨oK⟩
instance : OwnI Tryz.prog 91 := ⟨oK⟩
instance : OwnI Tryz.prog 92 := ⟨oK⟩
instance : OwnI Tryz.prog 93 := ⟨oK⟩
instance : OwnI Tryz.prog 94 := ⟨oK⟩
instance : OwnI Tryz.prog 95 := ⟨oK⟩
instance : OwnI Tryz.prog 96 := ⟨oK⟩
instance : OwnI Tryz.prog 97 := ⟨oK⟩
instance : OwnI Tryz.prog 98 := ⟨oK⟩
instance : OwnI Tryz.prog 99 := ⟨oK⟩
instance : OwnI Tryz.prog 100 := ⟨oK⟩
instance : OwnI Tryz.prog 101 := ⟨oK⟩
instance : OwnI Tryz.prog 102 := ⟨oK⟩
instance : OwnI Tryz.prog 103 := ⟨oK⟩
instance : OwnI Tryz.prog 104 := ⟨oK⟩
instance : OwnI Tryz.prog 105 := ⟨oK⟩
instance : OwnI Tryz.prog 106 := ⟨oK⟩
instance : OwnI Tryz.prog 107 := ⟨oK⟩
instance : OwnI Tryz.prog 108 := ⟨oK⟩
instance : OwnI Tryz.prog 109 := ⟨oK⟩
instance : OwnI Tryz.prog 110 := ⟨oK⟩
instance : OwnI Tryz.prog 111 := ⟨oK⟩
instance : OwnI Tryz.prog 112 := ⟨oK⟩
instance : OwnI Tryz.prog 113 := ⟨oK⟩
instance : OwnI Tryz.prog 114 := ⟨oK⟩
instance : OwnI Tryz.prog 115 := ⟨oK⟩
instance : OwnI Tryz.prog 116 := ⟨oK⟩
instance : OwnI Tryz.prog 117 := ⟨oK⟩
instance : OwnI Tryz.prog 118 := ⟨oK⟩
instance : OwnI Tryz.prog 119 := ⟨oK⟩
instance : OwnI Tryz.prog 120 := ⟨oK⟩
theorem bitLen_b {y : Nat} (h0 : 0 < y) (h : y < 18446744073709551616) : 1 ≤ Lib.bitLen y ∧ Lib.bitLen y ≤ 64 ∧ 2 ^ (Lib.bitLen y - 1) ≤ y ∧ y < 2 ^ Lib.bitLen y := by
 obtain ⟨h1, h2, h3⟩ := Lib.bitLenAux_bounds 64 y (by omega) (by omega)
 refine ⟨h1, ?_, h2, h3⟩
 show Lib.bitLenAux 64 y ≤ 64
 have h4 : 2 ^ (Lib.bitLenAux 64 y - 1) < 2 ^ 64 := Nat.lt_of_le_of_lt h2 (by omega)
 have := (Nat.pow_lt_pow_iff_right (by omega)).1 h4
 omega
theorem kn_dec {q a r U : Nat} (h : q * a + r = U) (hq : 1 ≤ q) : (q - 1) * a + (r + a) = U := by
 obtain ⟨j, rfl⟩ : ∃ j, q = j + 1 := ⟨q - 1, by omega⟩
 rw [Nat.add_mul, Nat.one_mul] at h
 rw [Nat.add_sub_cancel]
 omega
theorem joinU {hi lo sh : Nat} (hs : sh ≤ 64) (hlo : lo < 18446744073709551616) : hi * 2 ^ sh ||| lo / 2 ^ (64 - sh) = hi * 2 ^ sh + lo / 2 ^ (64 - sh) ∧ lo / 2 ^ (64 - sh) < 2 ^ sh := by
 have h1 : lo / 2 ^ (64 - sh) < 2 ^ sh := by
  rw [Nat.div_lt_iff_lt_mul (Nat.two_pow_pos _), ← Nat.pow_add, show sh + (64 - sh) = 64 by omega]; omega
 exact ⟨nat_join sh _ _ (Nat.mul_mod_left _ _) h1, h1⟩
theorem Mul64_c (w : World) (Φ : Hp) (hΦ : Hp.le Φ (hp w)) {x y : Nat} (hx : x < 18446744073709551616) (hy : y < 18446744073709551616) :
  Calls Tryz.prog 107 #[.int .u64 (x : Int), .int .u64 (y : Int)] w fun e w' => e = .returned (.tuple #[.int .u64 ((x * y / 18446744073709551616 : Nat) : Int), .int .u64 ((x * y % 18446744073709551616 : Nat) : Int)]) ∧ Bel w.heap.size w w' := by
 refine calls_of_AW (args := [.int .u64 (x : Int), .int .u64 (y : Int)]) Tryz.func107 rfl (lBT rfl) (St ⟨w, Φ, []⟩ Φ []) (StP.init w Φ hΦ []) ?_
 show AW Tryz.prog 51 [] _ _ _ [(0, .int .u64 (x : Int)), (1, .int .u64 (y : Int))] _
 obtain ⟨bd, bt, bw, hhi⟩ := Lib.mul64_hi x y hx hy
 have ba := Lib.half_mul_le (a := x / 4294967296) (b := y / 4294967296) (by omega) (by omega)
 have bb := Lib.half_mul_le (a := x / 4294967296) (b := y % 4294967296) (by omega) (by omega)
 have bc := Lib.half_mul_le (a := x % 4294967296) (b := y / 4294967296) (by omega) (by omega)
 refine AW.seq (AW.region (RW.q (v := .int .u64 ((0 : Nat) : Int)) rfl (q_assign rfl) (RW.q (v := .int .u64 ((0 : Nat) : Int)) rfl (q_assign rfl) (RW.nil (Post.then_n (AW.seq (AW.region (RW.q rfl (q_move rfl) (RW.q (v := .int .u64 ((x % 4294967296 : Nat) : Int)) rfl (q_maskU (a := x) rfl rfl (by omega)) ?_)))))))))
 refine RW.q (v := .int .u64 ((x % 4294967296 : Nat) : Int)) rfl (q_assign rfl) (RW.nil (Post.then_n (AW.seq (AW.region (RW.q rfl (q_move rfl) (RW.q (v := .int .u64 ((x / 4294967296 : Nat) : Int)) rfl (q_shr32U (a := x) rfl rfl) (RW.q (v := .int .u64 ((x / 4294967296 : Nat) : Int)) rfl (q_assign rfl) (RW.nil (Post.then_n ?_)))))))))
 refine AW.seq (AW.region (RW.q rfl (q_move rfl) (RW.q (v := .int .u64 ((y % 4294967296 : Nat) : Int)) rfl (q_maskU (a := y) rfl rfl (by omega)) (RW.q (v := .int .u64 ((y % 4294967296 : Nat) : Int)) rfl (q_assign rfl) (RW.nil (Post.then_n (AW.seq (AW.region (RW.q rfl (q_move rfl) ?_)))))))))
 refine RW.q (v := .int .u64 ((y / 4294967296 : Nat) : Int)) rfl (q_shr32U (a := y) rfl rfl) (RW.q (v := .int .u64 ((y / 4294967296 : Nat) : Int)) rfl (q_assign rfl) (RW.nil (Post.then_n (AW.seq (AW.region (RW.q rfl (q_move rfl) (RW.q rfl (q_move rfl) (RW.q (v := .int .u64 (((x % 4294967296) * (y % 4294967296) : Nat) : Int)) rfl (q_mulU (a := (x % 4294967296)) (b := (y % 4294967296)) rfl rfl (Nat.mod_eq_of_lt (by omega))) (RW.q (v := .int .u64 (((x % 4294967296) * (y % 4294967296) : Nat) : Int)) rfl (q_assign rfl) ?_)))))))))
 refine RW.nil (Post.then_n (AW.seq (AW.region (RW.q rfl (q_move rfl) (RW.q rfl (q_move rfl) (RW.q (v := .int .u64 (((x / 4294967296) * (y % 4294967296) : Nat) : Int)) rfl (q_mulU (a := (x / 4294967296)) (b := (y % 4294967296)) rfl rfl (Nat.mod_eq_of_lt (by omega))) (RW.q rfl (q_move rfl) (RW.q (v := .int .u64 ((((x % 4294967296) * (y % 4294967296)) / 4294967296 : Nat) : Int)) rfl (q_shr32U (a := ((x % 4294967296) * (y % 4294967296))) rfl rfl) (RW.q (v := .int .u64 ((((x / 4294967296) * (y % 4294967296)) + (((x % 4294967296) * (y % 4294967296)) / 4294967296) : Nat) : Int)) rfl (q_addU (a := ((x / 4294967296) * (y % 4294967296))) (b := (((x % 4294967296) * (y % 4294967296)) / 4294967296)) rfl rfl (Nat.mod_eq_of_lt (by omega))) ?_)))))))))
 refine RW.q (v := .int .u64 ((((x / 4294967296) * (y % 4294967296)) + (((x % 4294967296) * (y % 4294967296)) / 4294967296) : Nat) : Int)) rfl (q_assign rfl) (RW.nil (Post.then_n (AW.seq (AW.region (RW.q (v := .int .u64 ((((x / 4294967296) * (y % 4294967296)) + (((x % 4294967296) * (y % 4294967296)) / 4294967296) : Nat) : Int)) rfl (q_move rfl) (RW.q (v := .int .u64 (((((x / 4294967296) * (y % 4294967296)) + (((x % 4294967296) * (y % 4294967296)) / 4294967296)) % 4294967296 : Nat) : Int)) rfl (q_maskU (a := (((x / 4294967296) * (y % 4294967296)) + (((x % 4294967296) * (y % 4294967296)) / 4294967296))) rfl rfl (by omega)) (RW.q (v := .int .u64 (((((x / 4294967296) * (y % 4294967296)) + (((x % 4294967296) * (y % 4294967296)) / 4294967296)) % 4294967296 : Nat) : Int)) rfl (q_assign rfl) (RW.nil (Post.then_n ?_)))))))))
 refine AW.seq (AW.region (RW.q (v := .int .u64 ((((x / 4294967296) * (y % 4294967296)) + (((x % 4294967296) * (y % 4294967296)) / 4294967296) : Nat) : Int)) rfl (q_move rfl) (RW.q (v := .int .u64 (((((x / 4294967296) * (y % 4294967296)) + (((x % 4294967296) * (y % 4294967296)) / 4294967296)) / 4294967296 : Nat) : Int)) rfl (q_shr32U (a := (((x / 4294967296) * (y % 4294967296)) + (((x % 4294967296) * (y % 4294967296)) / 4294967296))) rfl rfl) (RW.q (v := .int .u64 (((((x / 4294967296) * (y % 4294967296)) + (((x % 4294967296) * (y % 4294967296)) / 4294967296)) / 4294967296 : Nat) : Int)) rfl (q_assign rfl) (RW.nil (Post.then_n (AW.seq (AW.region (RW.q (v := .int .u64 (((((x / 4294967296) * (y % 4294967296)) + (((x % 4294967296) * (y % 4294967296)) / 4294967296)) % 4294967296 : Nat) : Int)) rfl (q_move rfl) ?_)))))))))
 refine RW.q rfl (q_move rfl) (RW.q rfl (q_move rfl) (RW.q (v := .int .u64 (((x % 4294967296) * (y / 4294967296) : Nat) : Int)) rfl (q_mulU (a := (x % 4294967296)) (b := (y / 4294967296)) rfl rfl (Nat.mod_eq_of_lt (by omega))) (RW.q (v := .int .u64 ((((((x / 4294967296) * (y % 4294967296)) + (((x % 4294967296) * (y % 4294967296)) / 4294967296)) % 4294967296) + ((x % 4294967296) * (y / 4294967296)) : Nat) : Int)) rfl (q_addU (a := ((((x / 4294967296) * (y % 4294967296)) + (((x % 4294967296) * (y % 4294967296)) / 4294967296)) % 4294967296)) (b := ((x % 4294967296) * (y / 4294967296))) rfl rfl (Nat.mod_eq_of_lt (by omega))) (RW.q (v := .int .u64 ((((((x / 4294967296) * (y % 4294967296)) + (((x % 4294967296) * (y % 4294967296)) / 4294967296)) % 4294967296) + ((x % 4294967296) * (y / 4294967296)) : Nat) : Int)) rfl (q_assign rfl) (RW.nil (Post.then_n (AW.seq (AW.region (RW.q rfl (q_move rfl) ?_)))))))))
 refine RW.q rfl (q_move rfl) (RW.q (v := .int .u64 (((x / 4294967296) * (y / 4294967296) : Nat) : Int)) rfl (q_mulU (a := (x / 4294967296)) (b := (y / 4294967296)) rfl rfl (Nat.mod_eq_of_lt (by omega))) (RW.q (v := .int .u64 (((((x / 4294967296) * (y % 4294967296)) + (((x % 4294967296) * (y % 4294967296)) / 4294967296)) / 4294967296 : Nat) : Int)) rfl (q_move rfl) (RW.q (v := .int .u64 ((((x / 4294967296) * (y / 4294967296)) + ((((x / 4294967296) * (y % 4294967296)) + (((x % 4294967296) * (y % 4294967296)) / 4294967296)) / 4294967296) : Nat) : Int)) rfl (q_addU (a := ((x / 4294967296) * (y / 4294967296))) (b := ((((x / 4294967296) * (y % 4294967296)) + (((x % 4294967296) * (y % 4294967296)) / 4294967296)) / 4294967296)) rfl rfl (Nat.mod_eq_of_lt (by omega))) (RW.q (v := .int .u64 ((((((x / 4294967296) * (y % 4294967296)) + (((x % 4294967296) * (y % 4294967296)) / 4294967296)) % 4294967296) + ((x % 4294967296) * (y / 4294967296)) : Nat) : Int)) rfl (q_move rfl) (RW.q (v := .int .u64 (((((((x / 4294967296) * (y % 4294967296)) + (((x % 4294967296) * (y % 4294967296)) / 4294967296)) % 4294967296) + ((x % 4294967296) * (y / 4294967296))) / 4294967296 : Nat) : Int)) rfl (q_shr32U (a := (((((x / 4294967296) * (y % 4294967296)) + (((x % 4294967296) * (y % 4294967296)) / 4294967296)) % 4294967296) + ((x % 4294967296) * (y / 4294967296)))) rfl rfl) (RW.q (v := .int .u64 (((((x / 4294967296) * (y / 4294967296)) + ((((x / 4294967296) * (y % 4294967296)) + (((x % 4294967296) * (y % 4294967296)) / 4294967296)) / 4294967296)) + ((((((x / 4294967296) * (y % 4294967296)) + (((x % 4294967296) * (y % 4294967296)) / 4294967296)) % 4294967296) + ((x % 4294967296) * (y / 4294967296))) / 4294967296) : Nat) : Int)) rfl (q_addU (a := (((x / 4294967296) * (y / 4294967296)) + ((((x / 4294967296) * (y % 4294967296)) + (((x % 4294967296) * (y % 4294967296)) / 4294967296)) / 4294967296))) (b := ((((((x / 4294967296) * (y % 4294967296)) + (((x % 4294967296) * (y % 4294967296)) / 4294967296)) % 4294967296) + ((x % 4294967296) * (y / 4294967296))) / 4294967296)) rfl rfl (Nat.mod_eq_of_lt (by omega))) (RW.q (v := .int .u64 (((((x / 4294967296) * (y / 4294967296)) + ((((x / 4294967296) * (y % 4294967296)) + (((x % 4294967296) * (y % 4294967296)) / 4294967296)) / 4294967296)) + ((((((x / 4294967296) * (y % 4294967296)) + (((x % 4294967296) * (y % 4294967296)) / 4294967296)) % 4294967296) + ((x % 4294967296) * (y / 4294967296))) / 4294967296) : Nat) : Int)) rfl (q_assign rfl) (RW.nil (Post.then_n ?_)))))))))
 refine AW.seq (AW.region (RW.q rfl (q_move rfl) (RW.q rfl (q_move rfl) (RW.q (v := .int .u64 ((x * y % 18446744073709551616 : Nat) : Int)) rfl (q_mulU (a := x) (b := y) rfl rfl rfl) (RW.q (v := .int .u64 ((x * y % 18446744073709551616 : Nat) : Int)) rfl (q_assign rfl) (RW.nil (Post.then_n (AW.ret (fin_out2 (v := .int .u64 (((((x / 4294967296) * (y / 4294967296)) + ((((x / 4294967296) * (y % 4294967296)) + (((x % 4294967296) * (y % 4294967296)) / 4294967296)) / 4294967296)) + ((((((x / 4294967296) * (y % 4294967296)) + (((x % 4294967296) * (y % 4294967296)) / 4294967296)) % 4294967296) + ((x % 4294967296) * (y / 4294967296))) / 4294967296) : Nat) : Int)) (u := .int .u64 ((x * y % 18446744073709551616 : Nat) : Int)) rfl rfl rfl rfl (fun w' hw => ?_))))))))))
 refine ⟨?_, hw.below rfl⟩
 rw [← hhi]
theorem LeadingZeros64_c (w : World) (Φ : Hp) (hΦ : Hp.le Φ (hp w)) {y : Nat} (h0 : 0 < y) (hy : y < 18446744073709551616) :
  Calls Tryz.prog 118 #[.int .u64 (y : Int)] w fun e w' => e = .returned (iV ((64 - Lib.bitLen y : Nat) : Int)) ∧ Bel w.heap.size w w' := by
 refine calls_of_AW (args := [.int .u64 (y : Int)]) Tryz.func118 rfl (lBT rfl) (St ⟨w, Φ, []⟩ Φ []) (StP.init w Φ hΦ []) ?_
 show AW Tryz.prog 6 [] _ _ _ [(0, .int .u64 (y : Int))] _
 obtain ⟨hl1, hl2, _, _⟩ := bitLen_b h0 hy
 refine AW.seq (AW.region (RW.q (v := iV 0) rfl (q_assign rfl) (RW.nil (Post.then_n (AW.seq (AW.region (RW.q rfl (q_move rfl) (RW.q (v := iV ((Lib.bitLen y : Nat) : Int)) rfl (q_call (args := #[.int .u64 (y : Int)]) oK rfl rfl (fun w1 hw1 => (Tryz.bits_Len64 (y : Nat) w1 (by omega) (by omega)).mono fun e w2 ⟨he, hw2⟩ => ⟨by rw [he, Int.toNat_natCast], by rw [hw2]; exact Bel.refl _ _⟩)) (RW.q (v := iV ((64 - Lib.bitLen y : Nat) : Int)) rfl (q_sub rfl rfl (by omega) (by unfold I64; omega)) ?_)))))))))
 refine RW.q (v := iV ((64 - Lib.bitLen y : Nat) : Int)) rfl (q_assign rfl) (RW.nil (Post.then_n (AW.ret ?_)))
 exact fin_val (v' := iV ((64 - Lib.bitLen y : Nat) : Int)) rfl rfl rfl (rfl)
theorem Div64_c (w : World) (Φ : Hp) (hΦ : Hp.le Φ (hp w)) {hi lo y : Nat} (hhi : hi < y) (hlo : lo < 18446744073709551616) (hy : y < 18446744073709551616) :
  Calls Tryz.prog 108 #[.int .u64 (hi : Int), .int .u64 (lo : Int), .int .u64 (y : Int)] w fun e w' => e = .returned (.tuple #[.int .u64 (((hi * 18446744073709551616 + lo) / y : Nat) : Int), .int .u64 (((hi * 18446744073709551616 + lo) % y : Nat) : Int)]) ∧ Bel w.heap.size w w' := by
 refine calls_of_AW (args := [.int .u64 (hi : Int), .int .u64 (lo : Int), .int .u64 (y : Int)]) Tryz.func108 rfl (lBT rfl) (St ⟨w, Φ, []⟩ Φ []) (StP.init w Φ hΦ []) ?_
 show AW Tryz.prog 135 [] _ _ _ [(0, .int .u64 (hi : Int)), (1, .int .u64 (lo : Int)), (2, .int .u64 (y : Int))] _
 refine AW.seq (AW.region (RW.q (v := .int .u64 ((0 : Nat) : Int)) rfl (q_assign rfl) (RW.q (v := .int .u64 ((0 : Nat) : Int)) rfl (q_assign rfl) (RW.nil (Post.then_n (AW.seq (AW.seq (AW.region (RW.q rfl (q_move rfl) ?_)))))))))
 refine RW.q (v := .bool (decide ((y : Int) = ((0 : Nat) : Int)))) rfl (q_eql rfl rfl) (RW.nil (Post.then_n (AW.cond (b := decide ((y : Int) = ((0 : Nat) : Int))) rfl (fun hc1 => ?_) (fun hc1 => ?_))))
 ·
  simp [-List.getD_eq_getElem?_getD] at hc1
  omega
 ·
  simp [-List.getD_eq_getElem?_getD] at hc1
  refine AW.skip (Post.then_n (AW.seq (AW.seq (AW.region (RW.q rfl (q_move rfl) (RW.q rfl (q_move rfl) (RW.q (v := .bool (decide ((y : Int) ≤ (hi : Int)))) rfl (q_leq rfl rfl) (RW.nil (Post.then_n ?_)))))))))
  refine AW.cond (b := decide ((y : Int) ≤ (hi : Int))) rfl (fun hc2 => ?_) (fun hc2 => ?_)
  ·
   simp [-List.getD_eq_getElem?_getD] at hc2
   omega
  ·
   simp [-List.getD_eq_getElem?_getD] at hc2
   refine AW.skip (Post.then_n (AW.seq (AW.seq (AW.region (RW.q rfl (q_move rfl) (RW.q (v := .bool (decide ((hi : Int) = ((0 : Nat) : Int)))) rfl (q_eql rfl rfl) (RW.nil (Post.then_n (AW.cond (b := decide ((hi : Int) = ((0 : Nat) : Int))) rfl (fun hc3 => ?_) (fun hc3 => ?_))))))))))
   ·
    simp [-List.getD_eq_getElem?_getD] at hc3
    refine AW.seq (AW.draw (J0 := St ⟨w, Φ, []⟩ Φ []) [.q, .q, .q, .q, .q, .q, .q, .q] [0, 1, 2, 3, 4, 5, 6, 7] hmix (by kernel_rfl) (DW.q (fun _ h => h) rfl (q_move rfl) (DW.q (fun _ h => h) rfl (q_move rfl) (DW.q (v := .int .u64 ((lo / y : Nat) : Int)) (fun _ h => h) rfl (q_quoU (a := lo) (b := y) rfl rfl (by omega) (by omega)) (DW.q (fun _ h => h) rfl (q_move rfl) (DW.q (fun _ h => h) rfl (q_move rfl) (DW.q (v := .int .u64 ((lo % y : Nat) : Int)) (fun _ h => h) rfl (q_remU (a := lo) (b := y) rfl rfl (by omega)) (DW.q (v := .int .u64 ((lo / y : Nat) : Int)) (fun _ h => h) rfl (q_assign rfl) (DW.q (v := .int .u64 ((lo % y : Nat) : Int)) (fun _ h => h) rfl (q_assign rfl) ?_)))))))))
    refine DW.nil (Post.then_n (AW.ret (Post.then_r (fin_out2 (v := .int .u64 ((lo / y : Nat) : Int)) (u := .int .u64 ((lo % y : Nat) : Int)) rfl rfl rfl rfl (fun w' hw => ?_)))))
    refine ⟨?_, hw.below rfl⟩
    have hi0 : hi = 0 := by omega
    rw [hi0, Nat.zero_mul, Nat.zero_add]
   ·
    simp [-List.getD_eq_getElem?_getD] at hc3
    refine AW.skip (Post.then_n (AW.seq ?_))
    have hy0 : 0 < y := by omega
    obtain ⟨hl1, hl2, hl3, hl4⟩ := bitLen_b hy0 hy
    obtain ⟨sh, hsh⟩ : ∃ sh, 64 - Lib.bitLen y = sh := ⟨_, rfl⟩
    have hs64 : sh ≤ 64 := by omega
    obtain ⟨Y, hY⟩ : ∃ Y, y * 2 ^ sh = Y := ⟨_, rfl⟩
    have hnz := Nums.le_of_lz hl3 hl4 hl1 hl2
    rw [hsh, hY] at hnz
    obtain ⟨hj1, hj2⟩ := joinU (hi := hi) hs64 hlo
    have hlq0 := Nat.zero_le (lo / 2 ^ (64 - sh))
    obtain ⟨U, hU⟩ : ∃ U, hi * 2 ^ sh + lo / 2 ^ (64 - sh) = U := ⟨_, rfl⟩
    have hhY : hi * 2 ^ sh + 2 ^ sh ≤ Y := by rw [← hY]; have := Nat.mul_le_mul_right (2 ^ sh) (show hi + 1 ≤ y by omega); rwa [Nat.add_mul, Nat.one_mul] at this
    have hUY : U < Y := by omega
    obtain ⟨V, hV⟩ : ∃ V, lo * 2 ^ sh % 18446744073709551616 = V := ⟨_, rfl⟩
    have hVl : V < 18446744073709551616 := by rw [← hV]; exact Nat.mod_lt _ (by omega)
    obtain ⟨Y1, hY1⟩ : ∃ n, Y / 4294967296 = n := ⟨_, rfl⟩
    obtain ⟨Y0, hY0⟩ : ∃ n, Y % 4294967296 = n := ⟨_, rfl⟩
    obtain ⟨W1, hW1⟩ : ∃ n, V / 4294967296 = n := ⟨_, rfl⟩
    obtain ⟨W0, hW0⟩ : ∃ n, V % 4294967296 = n := ⟨_, rfl⟩
    have hyd : Y = Y1 * 4294967296 + Y0 := by omega
    obtain ⟨Q1, hQ1⟩ : ∃ Q1, (U * 4294967296 + W1) / Y = Q1 := ⟨_, rfl⟩
    obtain ⟨R1, hR1⟩ : ∃ R1, (U * 4294967296 + W1) % Y = R1 := ⟨_, rfl⟩
    have hRY : R1 < Y := by rw [← hR1]; exact Nat.mod_lt _ (by omega)
    obtain ⟨Q0, hQ0⟩ : ∃ Q0, (R1 * 4294967296 + W0) / Y = Q0 := ⟨_, rfl⟩
    obtain ⟨R0, hR0⟩ : ∃ R0, (R1 * 4294967296 + W0) % Y = R0 := ⟨_, rfl⟩
    have hQ1l : Q1 < 4294967296 := by rw [← hQ1, Nat.div_lt_iff_lt_mul (by omega)]; omega
    have hQ0l : Q0 < 4294967296 := by rw [← hQ0, Nat.div_lt_iff_lt_mul (by omega)]; omega
    have hy1p : 0 < Y1 := by omega
    refine AW.region (RW.q rfl (q_move rfl) (RW.q (v := iV (sh : Int)) rfl (q_as (v := iV ((64 - Lib.bitLen y : Nat) : Int)) (q_call (args := #[.int .u64 (y : Int)]) oK rfl rfl (fun w1 hw1 => LeadingZeros64_c w1 (Go.K.hp w1) (Hp.le_refl _) (by omega) (by omega))) (congrArg (Value.int .i64) (by rw [hsh]))) (RW.q (v := .int .u64 (sh : Int)) rfl (q_toU (r := sh) rfl Tryz.underlying3 Tryz.underlying139 rfl (by omega)) (RW.q (v := .int .u64 (sh : Int)) rfl (q_assign rfl) (RW.nil (Post.then_n (AW.seq (AW.region (RW.q rfl (q_move rfl) ?_)))))))))
    refine RW.q rfl (q_move rfl) (RW.q (v := .int .u64 (Y : Int)) rfl (q_shlU (a := y) (c := sh) rfl rfl (by omega) (by rw [hY]; exact Nat.mod_eq_of_lt (by omega))) (RW.q (v := .int .u64 (Y : Int)) rfl (q_assign rfl) (RW.nil (Post.then_n (AW.seq (AW.region (RW.q rfl (q_move rfl) (RW.q (v := .int .u64 (Y1 : Int)) rfl (q_as (v := .int .u64 ((Y / 4294967296 : Nat) : Int)) (q_shr32U (a := Y) rfl rfl) (congrArg (Value.int .u64) (by rw [hY1]))) (RW.q (v := .int .u64 (Y1 : Int)) rfl (q_assign rfl) ?_)))))))))
    refine RW.nil (Post.then_n (AW.seq (AW.region (RW.q rfl (q_move rfl) (RW.q (v := .int .u64 (Y0 : Int)) rfl (q_as (v := .int .u64 ((Y % 4294967296 : Nat) : Int)) (q_maskU (a := Y) rfl rfl (by omega)) (congrArg (Value.int .u64) (by rw [hY0]))) (RW.q (v := .int .u64 (Y0 : Int)) rfl (q_assign rfl) (RW.nil (Post.then_n (AW.seq ?_)))))))))
    refine AW.region (RW.q rfl (q_move rfl) (RW.q rfl (q_move rfl) (RW.q (v := .int .u64 ((hi * 2 ^ sh : Nat) : Int)) rfl (q_shlU (a := hi) (c := sh) rfl rfl (by omega) (Nat.mod_eq_of_lt (by omega))) (RW.q rfl (q_move rfl) (RW.q rfl (q_move rfl) (RW.q (v := .int .u64 ((64 - sh : Nat) : Int)) rfl (q_subU (a := 64) (b := sh) rfl rfl (by omega)) (RW.q (v := .int .u64 ((lo / 2 ^ (64 - sh) : Nat) : Int)) rfl (q_shrU' (a := lo) (c := (64 - sh)) rfl rfl (by omega)) (RW.q (v := .int .u64 (U : Int)) rfl (q_as (v := .int .u64 (((hi * 2 ^ sh) ||| (lo / 2 ^ (64 - sh)) : Nat) : Int)) (q_orU (a := (hi * 2 ^ sh)) (b := (lo / 2 ^ (64 - sh))) rfl rfl (by omega) (by have := Nat.div_le_self lo (2 ^ (64 - sh)); omega)) (congrArg (Value.int .u64) (by rw [hj1, hU]))) (RW.q (v := .int .u64 (U : Int)) rfl (q_assign rfl) ?_)))))))))
    refine RW.nil (Post.then_n (AW.seq (AW.region (RW.q rfl (q_move rfl) (RW.q rfl (q_move rfl) (RW.q (v := .int .u64 (V : Int)) rfl (q_shlU (a := lo) (c := sh) rfl rfl (by omega) hV) (RW.q (v := .int .u64 (V : Int)) rfl (q_assign rfl) (RW.nil (Post.then_n ?_)))))))))
    refine AW.seq (AW.region (RW.q rfl (q_move rfl) (RW.q (v := .int .u64 (W1 : Int)) rfl (q_as (v := .int .u64 ((V / 4294967296 : Nat) : Int)) (q_shr32U (a := V) rfl rfl) (congrArg (Value.int .u64) (by rw [hW1]))) (RW.q (v := .int .u64 (W1 : Int)) rfl (q_assign rfl) (RW.nil (Post.then_n (AW.seq (AW.region (RW.q rfl (q_move rfl) ?_)))))))))
    refine RW.q (v := .int .u64 (W0 : Int)) rfl (q_as (v := .int .u64 ((V % 4294967296 : Nat) : Int)) (q_maskU (a := V) rfl rfl (by omega)) (congrArg (Value.int .u64) (by rw [hW0]))) (RW.q (v := .int .u64 (W0 : Int)) rfl (q_assign rfl) (RW.nil (Post.then_n (AW.seq ?_))))
    have hf1 := Nums.kn_first (u := U) (d := W1) hyd hy1p (by omega)
    rw [hQ1] at hf1
    have hf2 := Nums.kn_top (u := U) (B := 4294967296) hyd (by omega) (by omega) hUY hy1p
    have hf3 : U / (Y1) * (Y1) ≤ U := Nat.div_mul_le_self _ _
    have hf4 : U / (Y1) * (Y1) + U % (Y1) = U := Nat.div_add_mod' _ _
    have hf5 : U % (Y1) < Y1 := Nat.mod_lt _ hy1p
    refine AW.region (RW.q rfl (q_move rfl) (RW.q rfl (q_move rfl) (RW.q (v := .int .u64 ((U / Y1 : Nat) : Int)) rfl (q_quoU (a := U) (b := Y1) rfl rfl (by omega) (by omega)) (RW.q (v := .int .u64 ((U / Y1 : Nat) : Int)) rfl (q_assign rfl) (RW.nil (Post.then_n (AW.seq (AW.region (RW.q rfl (q_move rfl) ?_)))))))))
    refine RW.q rfl (q_move rfl) (RW.q rfl (q_move rfl) (RW.q (v := .int .u64 (((U / Y1) * Y1 : Nat) : Int)) rfl (q_mulU (a := (U / Y1)) (b := Y1) rfl rfl (Nat.mod_eq_of_lt (by omega))) (RW.q (v := .int .u64 ((U % (Y1) : Nat) : Int)) rfl (q_as (v := .int .u64 ((U - ((U / Y1) * Y1) : Nat) : Int)) (q_subU (a := U) (b := ((U / Y1) * Y1)) rfl rfl (by omega)) (congrArg (Value.int .u64) (by omega))) (RW.q (v := .int .u64 ((U % (Y1) : Nat) : Int)) rfl (q_assign rfl) (RW.nil (Post.then_n (AW.seq (AW.block (AW.loop (fun s J m => ∃ (q : Nat), ∃ (r : Nat), s = [(2, .int .u64 (Y : Int)), (8, .int .u64 (sh : Int)), (9, .int .u64 (Y1 : Int)), (10, .int .u64 (Y0 : Int)), (11, .int .u64 (U : Int)), (13, .int .u64 (W1 : Int)), (14, .int .u64 (W0 : Int)), (15, .int .u64 (q : Int)), (16, .int .u64 (r : Int))] ∧ J = St ⟨w, Φ, []⟩ Φ [] ∧ m = q + 0 * q ∧ (q * (Y1) + r = U) ∧ (Q1 ≤ q) ∧ (q ≤ 4294967296 + 1) ∧ (r < 4294967296)) (s0 := _) (J1 := _) (m0 := _) ⟨_, _, rfl, rfl, rfl, hf4, hf1, hf2, (by omega)⟩ ⟨rfl, rfl, rfl, rfl, rfl, rfl, rfl, rfl, rfl, trivial⟩ (fun _ h => h) ?_)))))))))
    rintro _ _ _ _ ⟨q, r, rfl, rfl, rfl, hq, hQ, hqB, hr⟩
    refine AW.seq (AW.seq ?_)
    have hm9 : q * (Y0) ≤ (4294967296 + 1) * 4294967295 := Nat.mul_le_mul (by omega) (by omega)
    refine AW.region (RW.q rfl (q_move rfl) (RW.q (v := .bool (decide (((4294967296 : Nat) : Int) ≤ (q : Int)))) rfl (q_geq rfl rfl) (RW.q rfl (q_move rfl) (RW.g (b := (decide (((4294967296 : Nat) : Int) ≤ (q : Int)))) (v := .int .u64 (q : Int)) rfl rfl rfl (fun h => q_move rfl) (RW.g (b := (decide (((4294967296 : Nat) : Int) ≤ (q : Int)))) (v := .int .u64 (Y0 : Int)) rfl rfl rfl (fun h => q_move rfl) (RW.g (b := (decide (((4294967296 : Nat) : Int) ≤ (q : Int)))) (v := .int .u64 ((q * Y0 : Nat) : Int)) rfl rfl rfl (fun h => q_mulU (a := q) (b := Y0) (gv_pos h) (gv_pos h) (Nat.mod_eq_of_lt (by (try simp [-List.getD_eq_getElem?_getD] at h); omega))) ?_))))))
    refine RW.g (b := (decide (((4294967296 : Nat) : Int) ≤ (q : Int)))) (v := .int .u64 (r : Int)) rfl rfl rfl (fun h => q_move rfl) (RW.g (b := (decide (((4294967296 : Nat) : Int) ≤ (q : Int)))) (v := .int .u64 ((4294967296 * r : Nat) : Int)) rfl rfl rfl (fun h => q_mulU (a := 4294967296) (b := r) rfl (gv_pos h) (Nat.mod_eq_of_lt (by (try simp [-List.getD_eq_getElem?_getD] at h); omega))) ?_)
    refine RW.g (b := (decide (((4294967296 : Nat) : Int) ≤ (q : Int)))) (v := .int .u64 (W1 : Int)) rfl rfl rfl (fun h => q_move rfl) (RW.g (b := (decide (((4294967296 : Nat) : Int) ≤ (q : Int)))) (v := .int .u64 (((4294967296 * r) + W1 : Nat) : Int)) rfl rfl rfl (fun h => q_addU (a := (4294967296 * r)) (b := W1) (gv_pos h) (gv_pos h) (Nat.mod_eq_of_lt (by (try simp [-List.getD_eq_getElem?_getD] at h); omega))) ?_)
    refine RW.g (b := (decide (((4294967296 : Nat) : Int) ≤ (q : Int)))) (v := .bool (decide ((((4294967296 * r) + W1 : Nat) : Int) < ((q * Y0 : Nat) : Int)))) rfl rfl rfl (fun h => q_gtr (gv_pos h) (gv_pos h)) ?_
    obtain ⟨qb1, hqb1⟩ : ∃ qz : Bool, ((decide (((4294967296 : Nat) : Int) ≤ (q : Int))) || (decide ((((4294967296 * r) + W1 : Nat) : Int) < ((q * Y0 : Nat) : Int)))) = qz := ⟨_, rfl⟩
    refine RW.q (v := .bool qb1) rfl (q_as (v := .bool ((decide (((4294967296 : Nat) : Int) ≤ (q : Int))) || (decide ((((4294967296 * r) + W1 : Nat) : Int) < ((q * Y0 : Nat) : Int))))) (qpO rfl rfl rfl) (congrArg Value.bool hqb1)) ?_
    subst hqb1
    refine RW.nil (Post.then_n (AW.cond (b := ((decide (((4294967296 : Nat) : Int) ≤ (q : Int))) || (decide ((((4294967296 * r) + W1 : Nat) : Int) < ((q * Y0 : Nat) : Int))))) rfl (fun hc4 => ?_) (fun hc4 => ?_)))
    ·
     simp [-List.getD_eq_getElem?_getD] at hc4
     refine AW.skip (Post.then_n (AW.block (AW.seq ?_)))
     have hdn := Nums.kn_down (d := W1) hyd hq hUY (by omega) (by rw [hQ1]; exact hQ) (by omega)
     rw [hQ1] at hdn
     refine AW.region (RW.q rfl (q_move rfl) (RW.q (v := .int .u64 ((q - 1 : Nat) : Int)) rfl (q_subU (a := q) (b := 1) rfl rfl (by omega)) (RW.q (v := .int .u64 ((q - 1 : Nat) : Int)) rfl (q_assign rfl) (RW.nil (Post.then_n (AW.seq (AW.region (RW.q rfl (q_move rfl) (RW.q rfl (q_move rfl) ?_)))))))))
     refine RW.q (v := .int .u64 ((r + Y1 : Nat) : Int)) rfl (q_addU (a := r) (b := Y1) rfl rfl (Nat.mod_eq_of_lt (by omega))) (RW.q (v := .int .u64 ((r + Y1 : Nat) : Int)) rfl (q_assign rfl) (RW.nil (Post.then_n (AW.seq (AW.region (RW.q rfl (q_move rfl) (RW.q (v := .bool (decide (((4294967296 : Nat) : Int) ≤ ((r + Y1 : Nat) : Int)))) rfl (q_geq rfl rfl) (RW.nil (Post.then_n ?_)))))))))
     refine AW.cond (b := decide (((4294967296 : Nat) : Int) ≤ ((r + Y1 : Nat) : Int))) rfl (fun hc5 => ?_) (fun hc5 => ?_)
     ·
      simp [-List.getD_eq_getElem?_getD] at hc5
      refine AW.exit (Post.blk_miss rfl (Post.then_x (Post.blk_hit (Post.then_n ?_))))
      refine AW.seq ?_
      have hqe : q - 1 = Q1 := by
       have hp9 := Nums.kn_end (d := W1) (q := q - 1) (r := r + Y1) hyd (kn_dec hq hdn.1) hUY (by rw [hQ1]; exact hdn.2) (Nums.kn_break (by omega) (by omega) (by omega))
       rw [hp9, hQ1]
      rw [hqe]
      obtain ⟨ha1, hb1⟩ := Nums.kn_rest (u := U) (d := W1) (y := Y) (B := 4294967296) (M := 18446744073709551616) (by omega) (by omega)
      rw [hQ1, hR1] at hb1
      refine AW.region (RW.q rfl (q_move rfl) (RW.q (v := .int .u64 ((U * 4294967296 % 18446744073709551616 : Nat) : Int)) rfl (q_mulU (a := U) (b := 4294967296) rfl rfl rfl) (RW.q rfl (q_move rfl) (RW.q (v := .int .u64 (((U * 4294967296 % 18446744073709551616 + W1) % 18446744073709551616 : Nat) : Int)) rfl (q_addU (a := (U * 4294967296 % 18446744073709551616)) (b := W1) rfl rfl rfl) (RW.q rfl (q_move rfl) (RW.q rfl (q_move rfl) (RW.q (v := .int .u64 ((Q1 * Y % 18446744073709551616 : Nat) : Int)) rfl (q_mulU (a := Q1) (b := Y) rfl rfl rfl) (RW.q (v := .int .u64 (R1 : Int)) rfl (q_subU (a := ((U * 4294967296 % 18446744073709551616 + W1) % 18446744073709551616)) (b := (Q1 * Y % 18446744073709551616)) rfl rfl (by rw [ha1]; exact hb1)) (RW.q (v := .int .u64 (R1 : Int)) rfl (q_assign rfl) ?_)))))))))
      refine RW.nil (Post.then_n (AW.seq ?_))
      have hf1 := Nums.kn_first (u := R1) (d := W0) hyd hy1p (by omega)
      rw [hQ0] at hf1
      have hf2 := Nums.kn_top (u := R1) (B := 4294967296) hyd (by omega) (by omega) hRY hy1p
      have hf3 : R1 / (Y1) * (Y1) ≤ R1 := Nat.div_mul_le_self _ _
      have hf4 : R1 / (Y1) * (Y1) + R1 % (Y1) = R1 := Nat.div_add_mod' _ _
      have hf5 : R1 % (Y1) < Y1 := Nat.mod_lt _ hy1p
      refine AW.region (RW.q rfl (q_move rfl) (RW.q rfl (q_move rfl) (RW.q (v := .int .u64 ((R1 / Y1 : Nat) : Int)) rfl (q_quoU (a := R1) (b := Y1) rfl rfl (by omega) (by omega)) (RW.q (v := .int .u64 ((R1 / Y1 : Nat) : Int)) rfl (q_assign rfl) (RW.nil (Post.then_n (AW.seq (AW.region (RW.q rfl (q_move rfl) ?_)))))))))
      refine RW.q rfl (q_move rfl) (RW.q rfl (q_move rfl) (RW.q (v := .int .u64 (((R1 / Y1) * Y1 : Nat) : Int)) rfl (q_mulU (a := (R1 / Y1)) (b := Y1) rfl rfl (Nat.mod_eq_of_lt (by omega))) (RW.q (v := .int .u64 ((R1 % (Y1) : Nat) : Int)) rfl (q_as (v := .int .u64 ((R1 - ((R1 / Y1) * Y1) : Nat) : Int)) (q_subU (a := R1) (b := ((R1 / Y1) * Y1)) rfl rfl (by omega)) (congrArg (Value.int .u64) (by omega))) (RW.q (v := .int .u64 ((R1 % (Y1) : Nat) : Int)) rfl (q_assign rfl) (RW.nil (Post.then_n (AW.seq (AW.block (AW.loop (fun s J m => ∃ (q : Nat), ∃ (r : Nat), s = [(2, .int .u64 (Y : Int)), (8, .int .u64 (sh : Int)), (9, .int .u64 (Y1 : Int)), (10, .int .u64 (Y0 : Int)), (13, .int .u64 (W1 : Int)), (14, .int .u64 (W0 : Int)), (15, .int .u64 (Q1 : Int)), (17, .int .u64 (R1 : Int)), (18, .int .u64 (q : Int)), (16, .int .u64 (r : Int))] ∧ J = St ⟨w, Φ, []⟩ Φ [] ∧ m = q + 0 * q ∧ (q * (Y1) + r = R1) ∧ (Q0 ≤ q) ∧ (q ≤ 4294967296 + 1) ∧ (r < 4294967296)) (s0 := _) (J1 := _) (m0 := _) ⟨_, _, rfl, rfl, rfl, hf4, hf1, hf2, (by omega)⟩ ⟨rfl, rfl, rfl, rfl, rfl, rfl, rfl, rfl, rfl, rfl, trivial⟩ (fun _ h => h) ?_)))))))))
      rintro _ _ _ _ ⟨q, r, rfl, rfl, rfl, hq, hQ, hqB, hr⟩
      refine AW.seq (AW.seq ?_)
      have hm9 : q * (Y0) ≤ (4294967296 + 1) * 4294967295 := Nat.mul_le_mul (by omega) (by omega)
      refine AW.region (RW.q rfl (q_move rfl) (RW.q (v := .bool (decide (((4294967296 : Nat) : Int) ≤ (q : Int)))) rfl (q_geq rfl rfl) (RW.q rfl (q_move rfl) (RW.g (b := (decide (((4294967296 : Nat) : Int) ≤ (q : Int)))) (v := .int .u64 (q : Int)) rfl rfl rfl (fun h => q_move rfl) (RW.g (b := (decide (((4294967296 : Nat) : Int) ≤ (q : Int)))) (v := .int .u64 (Y0 : Int)) rfl rfl rfl (fun h => q_move rfl) (RW.g (b := (decide (((4294967296 : Nat) : Int) ≤ (q : Int)))) (v := .int .u64 ((q * Y0 : Nat) : Int)) rfl rfl rfl (fun h => q_mulU (a := q) (b := Y0) (gv_pos h) (gv_pos h) (Nat.mod_eq_of_lt (by (try simp [-List.getD_eq_getElem?_getD] at h); omega))) ?_))))))
      refine RW.g (b := (decide (((4294967296 : Nat) : Int) ≤ (q : Int)))) (v := .int .u64 (r : Int)) rfl rfl rfl (fun h => q_move rfl) (RW.g (b := (decide (((4294967296 : Nat) : Int) ≤ (q : Int)))) (v := .int .u64 ((4294967296 * r : Nat) : Int)) rfl rfl rfl (fun h => q_mulU (a := 4294967296) (b := r) rfl (gv_pos h) (Nat.mod_eq_of_lt (by (try simp [-List.getD_eq_getElem?_getD] at h); omega))) ?_)
      refine RW.g (b := (decide (((4294967296 : Nat) : Int) ≤ (q : Int)))) (v := .int .u64 (W0 : Int)) rfl rfl rfl (fun h => q_move rfl) (RW.g (b := (decide (((4294967296 : Nat) : Int) ≤ (q : Int)))) (v := .int .u64 (((4294967296 * r) + W0 : Nat) : Int)) rfl rfl rfl (fun h => q_addU (a := (4294967296 * r)) (b := W0) (gv_pos h) (gv_pos h) (Nat.mod_eq_of_lt (by (try simp [-List.getD_eq_getElem?_getD] at h); omega))) ?_)
      refine RW.g (b := (decide (((4294967296 : Nat) : Int) ≤ (q : Int)))) (v := .bool (decide ((((4294967296 * r) + W0 : Nat) : Int) < ((q * Y0 : Nat) : Int)))) rfl rfl rfl (fun h => q_gtr (gv_pos h) (gv_pos h)) ?_
      obtain ⟨qb2, hqb2⟩ : ∃ qz : Bool, ((decide (((4294967296 : Nat) : Int) ≤ (q : Int))) || (decide ((((4294967296 * r) + W0 : Nat) : Int) < ((q * Y0 : Nat) : Int)))) = qz := ⟨_, rfl⟩
      refine RW.q (v := .bool qb2) rfl (q_as (v := .bool ((decide (((4294967296 : Nat) : Int) ≤ (q : Int))) || (decide ((((4294967296 * r) + W0 : Nat) : Int) < ((q * Y0 : Nat) : Int))))) (qpO rfl rfl rfl) (congrArg Value.bool hqb2)) ?_
      subst hqb2
      refine RW.nil (Post.then_n (AW.cond (b := ((decide (((4294967296 : Nat) : Int) ≤ (q : Int))) || (decide ((((4294967296 * r) + W0 : Nat) : Int) < ((q * Y0 : Nat) : Int))))) rfl (fun hc6 => ?_) (fun hc6 => ?_)))
      ·
       simp [-List.getD_eq_getElem?_getD] at hc6
       refine AW.skip (Post.then_n (AW.block (AW.seq ?_)))
       have hdn := Nums.kn_down (d := W0) hyd hq hRY (by omega) (by rw [hQ0]; exact hQ) (by omega)
       rw [hQ0] at hdn
       refine AW.region (RW.q rfl (q_move rfl) (RW.q (v := .int .u64 ((q - 1 : Nat) : Int)) rfl (q_subU (a := q) (b := 1) rfl rfl (by omega)) (RW.q (v := .int .u64 ((q - 1 : Nat) : Int)) rfl (q_assign rfl) (RW.nil (Post.then_n (AW.seq (AW.region (RW.q rfl (q_move rfl) (RW.q rfl (q_move rfl) ?_)))))))))
       refine RW.q (v := .int .u64 ((r + Y1 : Nat) : Int)) rfl (q_addU (a := r) (b := Y1) rfl rfl (Nat.mod_eq_of_lt (by omega))) (RW.q (v := .int .u64 ((r + Y1 : Nat) : Int)) rfl (q_assign rfl) (RW.nil (Post.then_n (AW.seq (AW.region (RW.q rfl (q_move rfl) (RW.q (v := .bool (decide (((4294967296 : Nat) : Int) ≤ ((r + Y1 : Nat) : Int)))) rfl (q_geq rfl rfl) (RW.nil (Post.then_n ?_)))))))))
       refine AW.cond (b := decide (((4294967296 : Nat) : Int) ≤ ((r + Y1 : Nat) : Int))) rfl (fun hc7 => ?_) (fun hc7 => ?_)
       ·
        simp [-List.getD_eq_getElem?_getD] at hc7
        refine AW.exit (Post.blk_miss rfl (Post.then_x (Post.blk_hit (Post.then_n ?_))))
        refine AW.seq ?_
        have hqe : q - 1 = Q0 := by
         have hp9 := Nums.kn_end (d := W0) (q := q - 1) (r := r + Y1) hyd (kn_dec hq hdn.1) hRY (by rw [hQ0]; exact hdn.2) (Nums.kn_break (by omega) (by omega) (by omega))
         rw [hp9, hQ0]
        rw [hqe]
        obtain ⟨ha0, hb0⟩ := Nums.kn_rest (u := R1) (d := W0) (y := Y) (B := 4294967296) (M := 18446744073709551616) (by omega) (by omega)
        rw [hQ0, hR0] at hb0
        refine AW.region (RW.q rfl (q_move rfl) (RW.q (v := .int .u64 ((Q1 * 4294967296 : Nat) : Int)) rfl (q_mulU (a := Q1) (b := 4294967296) rfl rfl (Nat.mod_eq_of_lt (by omega))) (RW.q rfl (q_move rfl) (RW.q (v := .int .u64 (((Q1 * 4294967296) + Q0 : Nat) : Int)) rfl (q_addU (a := (Q1 * 4294967296)) (b := Q0) rfl rfl (Nat.mod_eq_of_lt (by omega))) (RW.q rfl (q_move rfl) (RW.q (v := .int .u64 ((R1 * 4294967296 % 18446744073709551616 : Nat) : Int)) rfl (q_mulU (a := R1) (b := 4294967296) rfl rfl rfl) (RW.q rfl (q_move rfl) (RW.q (v := .int .u64 (((R1 * 4294967296 % 18446744073709551616 + W0) % 18446744073709551616 : Nat) : Int)) rfl (q_addU (a := (R1 * 4294967296 % 18446744073709551616)) (b := W0) rfl rfl rfl) (RW.q rfl (q_move rfl) ?_)))))))))
        refine RW.q rfl (q_move rfl) (RW.q (v := .int .u64 ((Q0 * Y % 18446744073709551616 : Nat) : Int)) rfl (q_mulU (a := Q0) (b := Y) rfl rfl rfl) (RW.q (v := .int .u64 (R0 : Int)) rfl (q_subU (a := ((R1 * 4294967296 % 18446744073709551616 + W0) % 18446744073709551616)) (b := (Q0 * Y % 18446744073709551616)) rfl rfl (by rw [ha0]; exact hb0)) (RW.q rfl (q_move rfl) (RW.q (v := .int .u64 ((R0 / 2 ^ sh : Nat) : Int)) rfl (q_shrU' (a := R0) (c := sh) rfl rfl (by omega)) (RW.q (v := .int .u64 (((Q1 * 4294967296) + Q0 : Nat) : Int)) rfl (q_assign rfl) (RW.q (v := .int .u64 ((R0 / 2 ^ sh : Nat) : Int)) rfl (q_assign rfl) (RW.nil (Post.then_n (AW.ret ?_)))))))))
        refine fin_out2 (v := .int .u64 (((Q1 * 4294967296) + Q0 : Nat) : Int)) (u := .int .u64 ((R0 / 2 ^ sh : Nat) : Int)) rfl rfl rfl rfl (fun w' hw => ?_)
        refine ⟨?_, hw.below rfl⟩
        subst hW1 hW0
        have hfin := Nums.div128 (hi := hi) (lo := lo) (y := y) (u := U) (v := V) (y' := Y) (Q1 := Q1) (r1 := R1) (Q0 := Q0) hs64 hY.symm hU.symm hV.symm hy0 hQ1.symm hR1.symm hQ0.symm
        rw [hR0] at hfin
        rw [hfin.1, hfin.2]
       ·
        simp [-List.getD_eq_getElem?_getD] at hc7
        refine AW.skip (Post.blk_n ?_)
        exact Post.back (s' := _) (J' := _) (m' := _) (by omega) ⟨q - 1, r + Y1, rfl, rfl, rfl, (kn_dec hq hdn.1), hdn.2, (by omega), (by omega)⟩ ⟨rfl, rfl, rfl, rfl, rfl, rfl, rfl, rfl, rfl, rfl, trivial⟩ (fun _ h => h)
      ·
       simp [-List.getD_eq_getElem?_getD] at hc6
       refine AW.exit (Post.then_x (Post.then_x (Post.blk_hit (Post.then_n ?_))))
       refine AW.seq ?_
       have hqe : q = Q0 := by
        have hp9 := Nums.kn_end (d := W0) hyd hq hRY (by rw [hQ0]; exact hQ) (by omega)
        rw [hp9, hQ0]
       rw [hqe]
       obtain ⟨ha0, hb0⟩ := Nums.kn_rest (u := R1) (d := W0) (y := Y) (B := 4294967296) (M := 18446744073709551616) (by omega) (by omega)
       rw [hQ0, hR0] at hb0
       refine AW.region (RW.q rfl (q_move rfl) (RW.q (v := .int .u64 ((Q1 * 4294967296 : Nat) : Int)) rfl (q_mulU (a := Q1) (b := 4294967296) rfl rfl (Nat.mod_eq_of_lt (by omega))) (RW.q rfl (q_move rfl) (RW.q (v := .int .u64 (((Q1 * 4294967296) + Q0 : Nat) : Int)) rfl (q_addU (a := (Q1 * 4294967296)) (b := Q0) rfl rfl (Nat.mod_eq_of_lt (by omega))) (RW.q rfl (q_move rfl) (RW.q (v := .int .u64 ((R1 * 4294967296 % 18446744073709551616 : Nat) : Int)) rfl (q_mulU (a := R1) (b := 4294967296) rfl rfl rfl) (RW.q rfl (q_move rfl) (RW.q (v := .int .u64 (((R1 * 4294967296 % 18446744073709551616 + W0) % 18446744073709551616 : Nat) : Int)) rfl (q_addU (a := (R1 * 4294967296 % 18446744073709551616)) (b := W0) rfl rfl rfl) (RW.q rfl (q_move rfl) ?_)))))))))
       refine RW.q rfl (q_move rfl) (RW.q (v := .int .u64 ((Q0 * Y % 18446744073709551616 : Nat) : Int)) rfl (q_mulU (a := Q0) (b := Y) rfl rfl rfl) (RW.q (v := .int .u64 (R0 : Int)) rfl (q_subU (a := ((R1 * 4294967296 % 18446744073709551616 + W0) % 18446744073709551616)) (b := (Q0 * Y % 18446744073709551616)) rfl rfl (by rw [ha0]; exact hb0)) (RW.q rfl (q_move rfl) (RW.q (v := .int .u64 ((R0 / 2 ^ sh : Nat) : Int)) rfl (q_shrU' (a := R0) (c := sh) rfl rfl (by omega)) (RW.q (v := .int .u64 (((Q1 * 4294967296) + Q0 : Nat) : Int)) rfl (q_assign rfl) (RW.q (v := .int .u64 ((R0 / 2 ^ sh : Nat) : Int)) rfl (q_assign rfl) (RW.nil (Post.then_n (AW.ret ?_)))))))))
       refine fin_out2 (v := .int .u64 (((Q1 * 4294967296) + Q0 : Nat) : Int)) (u := .int .u64 ((R0 / 2 ^ sh : Nat) : Int)) rfl rfl rfl rfl (fun w' hw => ?_)
       refine ⟨?_, hw.below rfl⟩
       subst hW1 hW0
       have hfin := Nums.div128 (hi := hi) (lo := lo) (y := y) (u := U) (v := V) (y' := Y) (Q1 := Q1) (r1 := R1) (Q0 := Q0) hs64 hY.symm hU.symm hV.symm hy0 hQ1.symm hR1.symm hQ0.symm
       rw [hR0] at hfin
       rw [hfin.1, hfin.2]
     ·
      simp [-List.getD_eq_getElem?_getD] at hc5
      refine AW.skip (Post.blk_n ?_)
      exact Post.back (s' := _) (J' := _) (m' := _) (by omega) ⟨q - 1, r + Y1, rfl, rfl, rfl, (kn_dec hq hdn.1), hdn.2, (by omega), (by omega)⟩ ⟨rfl, rfl, rfl, rfl, rfl, rfl, rfl, rfl, rfl, trivial⟩ (fun _ h => h)
    ·
     simp [-List.getD_eq_getElem?_getD] at hc4
     refine AW.exit (Post.then_x (Post.then_x (Post.blk_hit (Post.then_n ?_))))
     refine AW.seq ?_
     have hqe : q = Q1 := by
      have hp9 := Nums.kn_end (d := W1) hyd hq hUY (by rw [hQ1]; exact hQ) (by omega)
      rw [hp9, hQ1]
     rw [hqe]
     obtain ⟨ha1, hb1⟩ := Nums.kn_rest (u := U) (d := W1) (y := Y) (B := 4294967296) (M := 18446744073709551616) (by omega) (by omega)
     rw [hQ1, hR1] at hb1
     refine AW.region (RW.q rfl (q_move rfl) (RW.q (v := .int .u64 ((U * 4294967296 % 18446744073709551616 : Nat) : Int)) rfl (q_mulU (a := U) (b := 4294967296) rfl rfl rfl) (RW.q rfl (q_move rfl) (RW.q (v := .int .u64 (((U * 4294967296 % 18446744073709551616 + W1) % 18446744073709551616 : Nat) : Int)) rfl (q_addU (a := (U * 4294967296 % 18446744073709551616)) (b := W1) rfl rfl rfl) (RW.q rfl (q_move rfl) (RW.q rfl (q_move rfl) (RW.q (v := .int .u64 ((Q1 * Y % 18446744073709551616 : Nat) : Int)) rfl (q_mulU (a := Q1) (b := Y) rfl rfl rfl) (RW.q (v := .int .u64 (R1 : Int)) rfl (q_subU (a := ((U * 4294967296 % 18446744073709551616 + W1) % 18446744073709551616)) (b := (Q1 * Y % 18446744073709551616)) rfl rfl (by rw [ha1]; exact hb1)) (RW.q (v := .int .u64 (R1 : Int)) rfl (q_assign rfl) ?_)))))))))
     refine RW.nil (Post.then_n (AW.seq ?_))
     have hf1 := Nums.kn_first (u := R1) (d := W0) hyd hy1p (by omega)
     rw [hQ0] at hf1
     have hf2 := Nums.kn_top (u := R1) (B := 4294967296) hyd (by omega) (by omega) hRY hy1p
     have hf3 : R1 / (Y1) * (Y1) ≤ R1 := Nat.div_mul_le_self _ _
     have hf4 : R1 / (Y1) * (Y1) + R1 % (Y1) = R1 := Nat.div_add_mod' _ _
     have hf5 : R1 % (Y1) < Y1 := Nat.mod_lt _ hy1p
     refine AW.region (RW.q rfl (q_move rfl) (RW.q rfl (q_move rfl) (RW.q (v := .int .u64 ((R1 / Y1 : Nat) : Int)) rfl (q_quoU (a := R1) (b := Y1) rfl rfl (by omega) (by omega)) (RW.q (v := .int .u64 ((R1 / Y1 : Nat) : Int)) rfl (q_assign rfl) (RW.nil (Post.then_n (AW.seq (AW.region (RW.q rfl (q_move rfl) ?_)))))))))
     refine RW.q rfl (q_move rfl) (RW.q rfl (q_move rfl) (RW.q (v := .int .u64 (((R1 / Y1) * Y1 : Nat) : Int)) rfl (q_mulU (a := (R1 / Y1)) (b := Y1) rfl rfl (Nat.mod_eq_of_lt (by omega))) (RW.q (v := .int .u64 ((R1 % (Y1) : Nat) : Int)) rfl (q_as (v := .int .u64 ((R1 - ((R1 / Y1) * Y1) : Nat) : Int)) (q_subU (a := R1) (b := ((R1 / Y1) * Y1)) rfl rfl (by omega)) (congrArg (Value.int .u64) (by omega))) (RW.q (v := .int .u64 ((R1 % (Y1) : Nat) : Int)) rfl (q_assign rfl) (RW.nil (Post.then_n (AW.seq (AW.block (AW.loop (fun s J m => ∃ (q : Nat), ∃ (r : Nat), s = [(2, .int .u64 (Y : Int)), (8, .int .u64 (sh : Int)), (9, .int .u64 (Y1 : Int)), (10, .int .u64 (Y0 : Int)), (13, .int .u64 (W1 : Int)), (14, .int .u64 (W0 : Int)), (15, .int .u64 (Q1 : Int)), (17, .int .u64 (R1 : Int)), (18, .int .u64 (q : Int)), (16, .int .u64 (r : Int))] ∧ J = St ⟨w, Φ, []⟩ Φ [] ∧ m = q + 0 * q ∧ (q * (Y1) + r = R1) ∧ (Q0 ≤ q) ∧ (q ≤ 4294967296 + 1) ∧ (r < 4294967296)) (s0 := _) (J1 := _) (m0 := _) ⟨_, _, rfl, rfl, rfl, hf4, hf1, hf2, (by omega)⟩ ⟨rfl, rfl, rfl, rfl, rfl, rfl, rfl, rfl, rfl, rfl, trivial⟩ (fun _ h => h) ?_)))))))))
     rintro _ _ _ _ ⟨q, r, rfl, rfl, rfl, hq, hQ, hqB, hr⟩
     refine AW.seq (AW.seq ?_)
     have hm9 : q * (Y0) ≤ (4294967296 + 1) * 4294967295 := Nat.mul_le_mul (by omega) (by omega)
     refine AW.region (RW.q rfl (q_move rfl) (RW.q (v := .bool (decide (((4294967296 : Nat) : Int) ≤ (q : Int)))) rfl (q_geq rfl rfl) (RW.q rfl (q_move rfl) (RW.g (b := (decide (((4294967296 : Nat) : Int) ≤ (q : Int)))) (v := .int .u64 (q : Int)) rfl rfl rfl (fun h => q_move rfl) (RW.g (b := (decide (((4294967296 : Nat) : Int) ≤ (q : Int)))) (v := .int .u64 (Y0 : Int)) rfl rfl rfl (fun h => q_move rfl) (RW.g (b := (decide (((4294967296 : Nat) : Int) ≤ (q : Int)))) (v := .int .u64 ((q * Y0 : Nat) : Int)) rfl rfl rfl (fun h => q_mulU (a := q) (b := Y0) (gv_pos h) (gv_pos h) (Nat.mod_eq_of_lt (by (try simp [-List.getD_eq_getElem?_getD] at h); omega))) ?_))))))
     refine RW.g (b := (decide (((4294967296 : Nat) : Int) ≤ (q : Int)))) (v := .int .u64 (r : Int)) rfl rfl rfl (fun h => q_move rfl) (RW.g (b := (decide (((4294967296 : Nat) : Int) ≤ (q : Int)))) (v := .int .u64 ((4294967296 * r : Nat) : Int)) rfl rfl rfl (fun h => q_mulU (a := 4294967296) (b := r) rfl (gv_pos h) (Nat.mod_eq_of_lt (by (try simp [-List.getD_eq_getElem?_getD] at h); omega))) ?_)
     refine RW.g (b := (decide (((4294967296 : Nat) : Int) ≤ (q : Int)))) (v := .int .u64 (W0 : Int)) rfl rfl rfl (fun h => q_move rfl) (RW.g (b := (decide (((4294967296 : Nat) : Int) ≤ (q : Int)))) (v := .int .u64 (((4294967296 * r) + W0 : Nat) : Int)) rfl rfl rfl (fun h => q_addU (a := (4294967296 * r)) (b := W0) (gv_pos h) (gv_pos h) (Nat.mod_eq_of_lt (by (try simp [-List.getD_eq_getElem?_getD] at h); omega))) ?_)
     refine RW.g (b := (decide (((4294967296 : Nat) : Int) ≤ (q : Int)))) (v := .bool (decide ((((4294967296 * r) + W0 : Nat) : Int) < ((q * Y0 : Nat) : Int)))) rfl rfl rfl (fun h => q_gtr (gv_pos h) (gv_pos h)) ?_
     obtain ⟨qb3, hqb3⟩ : ∃ qz : Bool, ((decide (((4294967296 : Nat) : Int) ≤ (q : Int))) || (decide ((((4294967296 * r) + W0 : Nat) : Int) < ((q * Y0 : Nat) : Int)))) = qz := ⟨_, rfl⟩
     refine RW.q (v := .bool qb3) rfl (q_as (v := .bool ((decide (((4294967296 : Nat) : Int) ≤ (q : Int))) || (decide ((((4294967296 * r) + W0 : Nat) : Int) < ((q * Y0 : Nat) : Int))))) (qpO rfl rfl rfl) (congrArg Value.bool hqb3)) ?_
     subst hqb3
     refine RW.nil (Post.then_n (AW.cond (b := ((decide (((4294967296 : Nat) : Int) ≤ (q : Int))) || (decide ((((4294967296 * r) + W0 : Nat) : Int) < ((q * Y0 : Nat) : Int))))) rfl (fun hc8 => ?_) (fun hc8 => ?_)))
     ·
      simp [-List.getD_eq_getElem?_getD] at hc8
      refine AW.skip (Post.then_n (AW.block (AW.seq ?_)))
      have hdn := Nums.kn_down (d := W0) hyd hq hRY (by omega) (by rw [hQ0]; exact hQ) (by omega)
      rw [hQ0] at hdn
      refine AW.region (RW.q rfl (q_move rfl) (RW.q (v := .int .u64 ((q - 1 : Nat) : Int)) rfl (q_subU (a := q) (b := 1) rfl rfl (by omega)) (RW.q (v := .int .u64 ((q - 1 : Nat) : Int)) rfl (q_assign rfl) (RW.nil (Post.then_n (AW.seq (AW.region (RW.q rfl (q_move rfl) (RW.q rfl (q_move rfl) ?_)))))))))
      refine RW.q (v := .int .u64 ((r + Y1 : Nat) : Int)) rfl (q_addU (a := r) (b := Y1) rfl rfl (Nat.mod_eq_of_lt (by omega))) (RW.q (v := .int .u64 ((r + Y1 : Nat) : Int)) rfl (q_assign rfl) (RW.nil (Post.then_n (AW.seq (AW.region (RW.q rfl (q_move rfl) (RW.q (v := .bool (decide (((4294967296 : Nat) : Int) ≤ ((r + Y1 : Nat) : Int)))) rfl (q_geq rfl rfl) (RW.nil (Post.then_n ?_)))))))))
      refine AW.cond (b := decide (((4294967296 : Nat) : Int) ≤ ((r + Y1 : Nat) : Int))) rfl (fun hc9 => ?_) (fun hc9 => ?_)
      ·
       simp [-List.getD_eq_getElem?_getD] at hc9
       refine AW.exit (Post.blk_miss rfl (Post.then_x (Post.blk_hit (Post.then_n ?_))))
       refine AW.seq ?_
       have hqe : q - 1 = Q0 := by
        have hp9 := Nums.kn_end (d := W0) (q := q - 1) (r := r + Y1) hyd (kn_dec hq hdn.1) hRY (by rw [hQ0]; exact hdn.2) (Nums.kn_break (by omega) (by omega) (by omega))
        rw [hp9, hQ0]
       rw [hqe]
       obtain ⟨ha0, hb0⟩ := Nums.kn_rest (u := R1) (d := W0) (y := Y) (B := 4294967296) (M := 18446744073709551616) (by omega) (by omega)
       rw [hQ0, hR0] at hb0
       refine AW.region (RW.q rfl (q_move rfl) (RW.q (v := .int .u64 ((Q1 * 4294967296 : Nat) : Int)) rfl (q_mulU (a := Q1) (b := 4294967296) rfl rfl (Nat.mod_eq_of_lt (by omega))) (RW.q rfl (q_move rfl) (RW.q (v := .int .u64 (((Q1 * 4294967296) + Q0 : Nat) : Int)) rfl (q_addU (a := (Q1 * 4294967296)) (b := Q0) rfl rfl (Nat.mod_eq_of_lt (by omega))) (RW.q rfl (q_move rfl) (RW.q (v := .int .u64 ((R1 * 4294967296 % 18446744073709551616 : Nat) : Int)) rfl (q_mulU (a := R1) (b := 4294967296) rfl rfl rfl) (RW.q rfl (q_move rfl) (RW.q (v := .int .u64 (((R1 * 4294967296 % 18446744073709551616 + W0) % 18446744073709551616 : Nat) : Int)) rfl (q_addU (a := (R1 * 4294967296 % 18446744073709551616)) (b := W0) rfl rfl rfl) (RW.q rfl (q_move rfl) ?_)))))))))
       refine RW.q rfl (q_move rfl) (RW.q (v := .int .u64 ((Q0 * Y % 18446744073709551616 : Nat) : Int)) rfl (q_mulU (a := Q0) (b := Y) rfl rfl rfl) (RW.q (v := .int .u64 (R0 : Int)) rfl (q_subU (a := ((R1 * 4294967296 % 18446744073709551616 + W0) % 18446744073709551616)) (b := (Q0 * Y % 18446744073709551616)) rfl rfl (by rw [ha0]; exact hb0)) (RW.q rfl (q_move rfl) (RW.q (v := .int .u64 ((R0 / 2 ^ sh : Nat) : Int)) rfl (q_shrU' (a := R0) (c := sh) rfl rfl (by omega)) (RW.q (v := .int .u64 (((Q1 * 4294967296) + Q0 : Nat) : Int)) rfl (q_assign rfl) (RW.q (v := .int .u64 ((R0 / 2 ^ sh : Nat) : Int)) rfl (q_assign rfl) (RW.nil (Post.then_n (AW.ret ?_)))))))))
       refine fin_out2 (v := .int .u64 (((Q1 * 4294967296) + Q0 : Nat) : Int)) (u := .int .u64 ((R0 / 2 ^ sh : Nat) : Int)) rfl rfl rfl rfl (fun w' hw => ?_)
       refine ⟨?_, hw.below rfl⟩
       subst hW1 hW0
       have hfin := Nums.div128 (hi := hi) (lo := lo) (y := y) (u := U) (v := V) (y' := Y) (Q1 := Q1) (r1 := R1) (Q0 := Q0) hs64 hY.symm hU.symm hV.symm hy0 hQ1.symm hR1.symm hQ0.symm
       rw [hR0] at hfin
       rw [hfin.1, hfin.2]
      ·
       simp [-List.getD_eq_getElem?_getD] at hc9
       refine AW.skip (Post.blk_n ?_)
       exact Post.back (s' := _) (J' := _) (m' := _) (by omega) ⟨q - 1, r + Y1, rfl, rfl, rfl, (kn_dec hq hdn.1), hdn.2, (by omega), (by omega)⟩ ⟨rfl, rfl, rfl, rfl, rfl, rfl, rfl, rfl, rfl, rfl, trivial⟩ (fun _ h => h)
     ·
      simp [-List.getD_eq_getElem?_getD] at hc8
      refine AW.exit (Post.then_x (Post.then_x (Post.blk_hit (Post.then_n ?_))))
      refine AW.seq ?_
      have hqe : q = Q0 := by
       have hp9 := Nums.kn_end (d := W0) hyd hq hRY (by rw [hQ0]; exact hQ) (by omega)
       rw [hp9, hQ0]
      rw [hqe]
      obtain ⟨ha0, hb0⟩ := Nums.kn_rest (u := R1) (d := W0) (y := Y) (B := 4294967296) (M := 18446744073709551616) (by omega) (by omega)
      rw [hQ0, hR0] at hb0
      refine AW.region (RW.q rfl (q_move rfl) (RW.q (v := .int .u64 ((Q1 * 4294967296 : Nat) : Int)) rfl (q_mulU (a := Q1) (b := 4294967296) rfl rfl (Nat.mod_eq_of_lt (by omega))) (RW.q rfl (q_move rfl) (RW.q (v := .int .u64 (((Q1 * 4294967296) + Q0 : Nat) : Int)) rfl (q_addU (a := (Q1 * 4294967296)) (b := Q0) rfl rfl (Nat.mod_eq_of_lt (by omega))) (RW.q rfl (q_move rfl) (RW.q (v := .int .u64 ((R1 * 4294967296 % 18446744073709551616 : Nat) : Int)) rfl (q_mulU (a := R1) (b := 4294967296) rfl rfl rfl) (RW.q rfl (q_move rfl) (RW.q (v := .int .u64 (((R1 * 4294967296 % 18446744073709551616 + W0) % 18446744073709551616 : Nat) : Int)) rfl (q_addU (a := (R1 * 4294967296 % 18446744073709551616)) (b := W0) rfl rfl rfl) (RW.q rfl (q_move rfl) ?_)))))))))
      refine RW.q rfl (q_move rfl) (RW.q (v := .int .u64 ((Q0 * Y % 18446744073709551616 : Nat) : Int)) rfl (q_mulU (a := Q0) (b := Y) rfl rfl rfl) (RW.q (v := .int .u64 (R0 : Int)) rfl (q_subU (a := ((R1 * 4294967296 % 18446744073709551616 + W0) % 18446744073709551616)) (b := (Q0 * Y % 18446744073709551616)) rfl rfl (by rw [ha0]; exact hb0)) (RW.q rfl (q_move rfl) (RW.q (v := .int .u64 ((R0 / 2 ^ sh : Nat) : Int)) rfl (q_shrU' (a := R0) (c := sh) rfl rfl (by omega)) (RW.q (v := .int .u64 (((Q1 * 4294967296) + Q0 : Nat) : Int)) rfl (q_assign rfl) (RW.q (v := .int .u64 ((R0 / 2 ^ sh : Nat) : Int)) rfl (q_assign rfl) (RW.nil (Post.then_n (AW.ret ?_)))))))))
      refine fin_out2 (v := .int .u64 (((Q1 * 4294967296) + Q0 : Nat) : Int)) (u := .int .u64 ((R0 / 2 ^ sh : Nat) : Int)) rfl rfl rfl rfl (fun w' hw => ?_)
      refine ⟨?_, hw.below rfl⟩
      subst hW1 hW0
      have hfin := Nums.div128 (hi := hi) (lo := lo) (y := y) (u := U) (v := V) (y' := Y) (Q1 := Q1) (r1 := R1) (Q0 := Q0) hs64 hY.symm hU.symm hV.symm hy0 hQ1.symm hR1.symm hQ0.symm
      rw [hR0] at hfin
      rw [hfin.1, hfin.2]
end Go.Proofs.YtblfeidlnhdekaaGreat
