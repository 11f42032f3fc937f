/- Lemmas. Conditions: those of each theorem. -/
import Derived.Test.YtpapfpoefiikpaaGreatDoorVNums
import Derived.Test.YtpapfpoefiikpaaGreatDoorVLen
import Derived.Test.YtpapfpoefiikpaaGreatDoorVOpen
import Derived.Test.YtpapfpoefiikpaaGreatDoorVAuto3
import Derived.Lib.ItoaNum
set_option maxRecDepth 8000
set_option maxHeartbeats 16000000
namespace Go.Proofs.YtpapfpoefiikpaaGreatDoor
open Go Go.K Go.RowKit
theorem oK {k : FuncId} (h : (Tryz.prog.funcs[k]?).map (fun fn => fn.name == "runtime.NumGoroutine" || fn.body.isNone) = some false := by kernel_rfl) : Go.K.Own Tryz.prog k := own_of h
noncomputable abbrev pg := Tryz.prog
theorem uT3 : type_of% @Tryz.underlying3 := @Tryz.underlying3
theorem uT5 : type_of% @Tryz.underlying5 := @Tryz.underlying5
theorem uT9 : type_of% @Tryz.underlying9 := @Tryz.underlying9
theorem uT23 : type_of% @Tryz.underlying23 := @Tryz.underlying23
theorem uT29 : type_of% @Tryz.underlying29 := @Tryz.underlying29
theorem uT31 : type_of% @Tryz.underlying31 := @Tryz.underlying31
theorem uT37 : type_of% @Tryz.underlying37 := @Tryz.underlying37
theorem uT50 : type_of% @Tryz.underlying50 := @Tryz.underlying50
theorem uT54 : type_of% @Tryz.underlying54 := @Tryz.underlying54
theorem uT55 : type_of% @Tryz.underlying55 := @Tryz.underlying55
theorem uT58 : type_of% @Tryz.underlying58 := @Tryz.underlying58
theorem uT61 : type_of% @Tryz.underlying61 := @Tryz.underlying61
theorem uT65 : type_of% @Tryz.underlying65 := @Tryz.underlying65
theorem uT70 : type_of% @Tryz.underlying70 := @Tryz.underlying70
theorem uT72 : type_of% @Tryz.underlying72 := @Tryz.underlying72
theorem uT75 : type_of% @Tryz.underlying75 := @Tryz.underlying75
theorem uT84 : type_of% @Tryz.underlying84 := @Tryz.underlying84
theorem uT89 : type_of% @Tryz.underlying89 := @Tryz.underlying89
theorem uT92 : type_of% @Tryz.underlying92 := @Tryz.underlying92
theorem uT95 : type_of% @Tryz.underlying95 := @Tryz.underlying95
theorem uT138 : type_of% @Tryz.underlying138 := @Tryz.underlying138
theorem uT145 : type_of% @Tryz.underlying145 := @Tryz.underlying145
theorem uT152 : type_of% @Tryz.underlying152 := @Tryz.underlying152
theorem uT184 : type_of% @Tryz.underlying184 := @Tryz.underlying184
theorem uT191 : type_of% @Tryz.underlying191 := @Tryz.underlying191
theorem uT192 : type_of% @Tryz.underlying192 := @Tryz.underlying192
theorem uT196 : type_of% @Tryz.underlying196 := @Tryz.underlying196
theorem uT225 : type_of% @Tryz.underlying225 := @Tryz.underlying225
theorem uT226 : type_of% @Tryz.underlying226 := @Tryz.underlying226
abbrev cl31 (x : Bt.Basin) (u1 u3 u4 u5 u6 u7 u8 u9 : Value) : List Value := [.string x.Name, u1, iV x.Cells, u3, u4, u5, u6, u7, u8, u9, iV x.Err]
abbrev cl58 (x : Bt.Place) (u4 u5 u11 : Value) : List Value := [.string x.Name, iV x.Kind, iV x.Office, iV x.Cap, u4, u5, iV x.Num, iV x.Den, iV x.Down, iV x.Delay, iV x.Floor, u11]
abbrev cl72 (x : Bt.Link) (u4 u5 u6 : Value) : List Value := [.string x.Name, iV x.Kind, iV x.From, iV x.To, u4, u5, u6, iV x.Positions, iV x.Speed, iV x.Leak, iV x.Crest, iV x.Num, iV x.Den, iV x.Prime, iV x.Break, iV x.BackNum, iV x.BackDen, iV x.Delay]
abbrev cl84 (x : Bt.Town) : List Value := [.string x.Name, iV x.Place, iV x.Flood, iV x.Lead, iV x.People, iV x.Watch, iV x.Quorum]
abbrev cl89 (x : Bt.Gauge) : List Value := [.string x.Name, iV x.Kind, iV x.Target, iV x.Err, iV x.Drift]
abbrev cl92 (x : Bt.Road) : List Value := [.string x.Name, iV x.From, iV x.To, iV x.Hours, iV x.Flow, iV x.By, iV x.Limit]
theorem hmix : Tryz.prog.follows .mixedOrders = true := by kernel_rfl
theorem sz3 : (Tryz.prog.info? 3).map (·.size) = some 1 := by kernel_rfl
theorem zero3 : (Tryz.prog.info? 3).map (·.zero) = some (some (iV 0)) := by kernel_rfl
theorem inf3 : (Tryz.prog.info? 3).map (fun i => (i.zero, i.size, i.bytes)) = some (some (iV 0), 1, 8) := by kernel_rfl
theorem sz4 : (Tryz.prog.info? 4).map (·.size) = some 1 := by kernel_rfl
theorem zero4 : (Tryz.prog.info? 4).map (·.zero) = some (some (.bool false)) := by kernel_rfl
theorem inf4 : (Tryz.prog.info? 4).map (fun i => (i.zero, i.size, i.bytes)) = some (some (.bool false), 1, 1) := by kernel_rfl
theorem sz9 : (Tryz.prog.info? 9).map (·.size) = some 1 := by kernel_rfl
theorem inf9 : (Tryz.prog.info? 9).map (fun i => (i.zero, i.size, i.bytes)) = some (some (.string ⟨#[]⟩), 1, 16) := by kernel_rfl
theorem sz22 : (Tryz.prog.info? 22).map (·.size) = some 1 := by kernel_rfl
theorem sz23 : (Tryz.prog.info? 23).map (·.size) = some 1 := by kernel_rfl
theorem sz24 : (Tryz.prog.info? 24).map (·.size) = some 1 := by kernel_rfl
theorem sz25 : (Tryz.prog.info? 25).map (·.size) = some 1 := by kernel_rfl
theorem sz26 : (Tryz.prog.info? 26).map (·.size) = some 1 := by kernel_rfl
theorem sz27 : (Tryz.prog.info? 27).map (·.size) = some 1 := by kernel_rfl
theorem sz28 : (Tryz.prog.info? 28).map (·.size) = some 1 := by kernel_rfl
theorem sz29 : (Tryz.prog.info? 29).map (·.size) = some 1 := by kernel_rfl
theorem sz31 : (Tryz.prog.info? 31).map (·.size) = some 11 := by kernel_rfl
theorem zero31 : (Tryz.prog.info? 31).map (·.zero) = some (some (.agg #[.string ⟨#[]⟩, .slice none 0 0, iV 0, .slice none 0 0, .slice none 0 0, .slice none 0 0, .slice none 0 0, .slice none 0 0, .slice none 0 0, .slice none 0 0, iV 0])) := by kernel_rfl
theorem places31 : Plc Tryz.prog (fO Tryz.underlying31) #[(0, 1), (1, 1), (2, 1), (3, 1), (4, 1), (5, 1), (6, 1), (7, 1), (8, 1), (9, 1), (10, 1)] := fun w => by kernel_rfl
theorem sz37 : (Tryz.prog.info? 37).map (·.size) = some 2 := by kernel_rfl
theorem zero37 : (Tryz.prog.info? 37).map (·.zero) = some (some (.agg #[iV 0, iV 0])) := by kernel_rfl
theorem places37 : Plc Tryz.prog (fO Tryz.underlying37) #[(0, 1), (1, 1)] := fun w => by kernel_rfl
theorem sz38 : (Tryz.prog.info? 38).map (·.size) = some 1 := by kernel_rfl
theorem sz40 : (Tryz.prog.info? 40).map (·.size) = some 6 := by kernel_rfl
theorem zero40 : (Tryz.prog.info? 40).map (·.zero) = some (some (.agg #[iV 0, .string ⟨#[]⟩, iV 0, iV 0, iV 0, .slice none 0 0])) := by kernel_rfl
theorem inf40 : (Tryz.prog.info? 40).map (fun i => (i.zero, i.size, i.bytes)) = some (some (.agg #[iV 0, .string ⟨#[]⟩, iV 0, iV 0, iV 0, .slice none 0 0]), 6, 72) := by kernel_rfl
theorem places40 : Plc Tryz.prog (fO Tryz.underlying40) #[(0, 1), (1, 1), (2, 2), (4, 1), (5, 1)] := fun w => by kernel_rfl
theorem sz41 : (Tryz.prog.info? 41).map (·.size) = some 1 := by kernel_rfl
theorem zero41 : (Tryz.prog.info? 41).map (·.zero) = some (some (iV 0)) := by kernel_rfl
theorem sz50 : (Tryz.prog.info? 50).map (·.size) = some 1 := by kernel_rfl
theorem zero50 : (Tryz.prog.info? 50).map (·.zero) = some (some nS) := by kernel_rfl
theorem sz54 : (Tryz.prog.info? 54).map (·.size) = some 2 := by kernel_rfl
theorem zero54 : (Tryz.prog.info? 54).map (·.zero) = some (some (.agg #[iV 0, iV 0])) := by kernel_rfl
theorem inf54 : (Tryz.prog.info? 54).map (fun i => (i.zero, i.size, i.bytes)) = some (some (.agg #[iV 0, iV 0]), 2, 16) := by kernel_rfl
theorem places54 : Plc Tryz.prog (fO Tryz.underlying54) #[(0, 1), (1, 1)] := fun w => by kernel_rfl
theorem sz55 : (Tryz.prog.info? 55).map (·.size) = some 1 := by kernel_rfl
theorem inf55 : (Tryz.prog.info? 55).map (fun i => (i.zero, i.size, i.bytes)) = some (some nS, 1, 24) := by kernel_rfl
theorem sz56 : (Tryz.prog.info? 56).map (·.size) = some 1 := by kernel_rfl
theorem sz58 : (Tryz.prog.info? 58).map (·.size) = some 12 := by kernel_rfl
theorem zero58 : (Tryz.prog.info? 58).map (·.zero) = some (some (.agg #[.string ⟨#[]⟩, iV 0, iV 0, iV 0, .slice none 0 0, .slice none 0 0, iV 0, iV 0, iV 0, iV 0, iV 0, .slice none 0 0])) := by kernel_rfl
theorem inf58 : (Tryz.prog.info? 58).map (fun i => (i.zero, i.size, i.bytes)) = some (some (.agg #[.string ⟨#[]⟩, iV 0, iV 0, iV 0, .slice none 0 0, .slice none 0 0, iV 0, iV 0, iV 0, iV 0, iV 0, .slice none 0 0]), 12, 152) := by kernel_rfl
theorem places58 : Plc Tryz.prog (fO Tryz.underlying58) #[(0, 1), (1, 1), (2, 1), (3, 1), (4, 1), (5, 1), (6, 1), (7, 1), (8, 1), (9, 1), (10, 1), (11, 1)] := fun w => by kernel_rfl
theorem sz61 : (Tryz.prog.info? 61).map (·.size) = some 1 := by kernel_rfl
theorem zero61 : (Tryz.prog.info? 61).map (·.zero) = some (some nS) := by kernel_rfl
theorem sz65 : (Tryz.prog.info? 65).map (·.size) = some 3 := by kernel_rfl
theorem zero65 : (Tryz.prog.info? 65).map (·.zero) = some (some (.agg #[iV 0, .string ⟨#[]⟩, iV 0])) := by kernel_rfl
theorem inf65 : (Tryz.prog.info? 65).map (fun i => (i.zero, i.size, i.bytes)) = some (some (.agg #[iV 0, .string ⟨#[]⟩, iV 0]), 3, 32) := by kernel_rfl
theorem places65 : Plc Tryz.prog (fO Tryz.underlying65) #[(0, 1), (1, 1), (2, 1)] := fun w => by kernel_rfl
theorem sz70 : (Tryz.prog.info? 70).map (·.size) = some 2 := by kernel_rfl
theorem zero70 : (Tryz.prog.info? 70).map (·.zero) = some (some (.agg #[.slice none 0 0, .slice none 0 0])) := by kernel_rfl
theorem places70 : Plc Tryz.prog (fO Tryz.underlying70) #[(0, 1), (1, 1)] := fun w => by kernel_rfl
theorem sz72 : (Tryz.prog.info? 72).map (·.size) = some 18 := by kernel_rfl
theorem zero72 : (Tryz.prog.info? 72).map (·.zero) = some (some (.agg #[.string ⟨#[]⟩, iV 0, iV 0, iV 0, .slice none 0 0, .slice none 0 0, .slice none 0 0, iV 0, iV 0, iV 0, iV 0, iV 0, iV 0, iV 0, iV 0, iV 0, iV 0, iV 0])) := by kernel_rfl
theorem inf72 : (Tryz.prog.info? 72).map (fun i => (i.zero, i.size, i.bytes)) = some (some (.agg #[.string ⟨#[]⟩, iV 0, iV 0, iV 0, .slice none 0 0, .slice none 0 0, .slice none 0 0, iV 0, iV 0, iV 0, iV 0, iV 0, iV 0, iV 0, iV 0, iV 0, iV 0, iV 0]), 18, 200) := by kernel_rfl
theorem places72 : Plc Tryz.prog (fO Tryz.underlying72) #[(0, 1), (1, 1), (2, 1), (3, 1), (4, 1), (5, 2), (7, 1), (8, 1), (9, 1), (10, 1), (11, 1), (12, 1), (13, 1), (14, 1), (15, 1), (16, 1), (17, 1)] := fun w => by kernel_rfl
theorem sz75 : (Tryz.prog.info? 75).map (·.size) = some 2 := by kernel_rfl
theorem zero75 : (Tryz.prog.info? 75).map (·.zero) = some (some (.agg #[iV 0, iV 0])) := by kernel_rfl
theorem inf75 : (Tryz.prog.info? 75).map (fun i => (i.zero, i.size, i.bytes)) = some (some (.agg #[iV 0, iV 0]), 2, 16) := by kernel_rfl
theorem places75 : Plc Tryz.prog (fO Tryz.underlying75) #[(0, 1), (1, 1)] := fun w => by kernel_rfl
theorem sz84 : (Tryz.prog.info? 84).map (·.size) = some 7 := by kernel_rfl
theorem zero84 : (Tryz.prog.info? 84).map (·.zero) = some (some (.agg #[.string ⟨#[]⟩, iV 0, iV 0, iV 0, iV 0, iV 0, iV 0])) := by kernel_rfl
theorem inf84 : (Tryz.prog.info? 84).map (fun i => (i.zero, i.size, i.bytes)) = some (some (.agg #[.string ⟨#[]⟩, iV 0, iV 0, iV 0, iV 0, iV 0, iV 0]), 7, 64) := by kernel_rfl
theorem places84 : Plc Tryz.prog (fO Tryz.underlying84) #[(0, 1), (1, 1), (2, 1), (3, 1), (4, 1), (5, 1), (6, 1)] := fun w => by kernel_rfl
theorem sz89 : (Tryz.prog.info? 89).map (·.size) = some 5 := by kernel_rfl
theorem zero89 : (Tryz.prog.info? 89).map (·.zero) = some (some (.agg #[.string ⟨#[]⟩, iV 0, iV 0, iV 0, iV 0])) := by kernel_rfl
theorem inf89 : (Tryz.prog.info? 89).map (fun i => (i.zero, i.size, i.bytes)) = some (some (.agg #[.string ⟨#[]⟩, iV 0, iV 0, iV 0, iV 0]), 5, 48) := by kernel_rfl
theorem places89 : Plc Tryz.prog (fO Tryz.underlying89) #[(0, 1), (1, 1), (2, 1), (3, 1), (4, 1)] := fun w => by kernel_rfl
theorem sz92 : (Tryz.prog.info? 92).map (·.size) = some 7 := by kernel_rfl
theorem zero92 : (Tryz.prog.info? 92).map (·.zero) = some (some (.agg #[.string ⟨#[]⟩, iV 0, iV 0, iV 0, iV 0, iV 0, iV 0])) := by kernel_rfl
theorem inf92 : (Tryz.prog.info? 92).map (fun i => (i.zero, i.size, i.bytes)) = some (some (.agg #[.string ⟨#[]⟩, iV 0, iV 0, iV 0, iV 0, iV 0, iV 0]), 7, 64) := by kernel_rfl
theorem places92 : Plc Tryz.prog (fO Tryz.underlying92) #[(0, 1), (1, 1), (2, 1), (3, 1), (4, 1), (5, 1), (6, 1)] := fun w => by kernel_rfl
theorem sz95 : (Tryz.prog.info? 95).map (·.size) = some 2 := by kernel_rfl
theorem zero95 : (Tryz.prog.info? 95).map (·.zero) = some (some (.agg #[.string ⟨#[]⟩, iV 0])) := by kernel_rfl
theorem inf95 : (Tryz.prog.info? 95).map (fun i => (i.zero, i.size, i.bytes)) = some (some (.agg #[.string ⟨#[]⟩, iV 0]), 2, 24) := by kernel_rfl
theorem places95 : Plc Tryz.prog (fO Tryz.underlying95) #[(0, 1), (1, 1)] := fun w => by kernel_rfl
theorem sz100 : (Tryz.prog.info? 100).map (·.size) = some 2 := by kernel_rfl
theorem zero100 : (Tryz.prog.info? 100).map (·.zero) = some (some (.agg #[iV 0, iV 0])) := by kernel_rfl
theorem places100 : Plc Tryz.prog (fO Tryz.underlying100) #[(0, 1), (1, 1)] := fun w => by kernel_rfl
theorem zero104 : (Tryz.prog.info? 104).map (·.zero) = some (some (.agg #[.slice none 0 0, iV 0])) := by kernel_rfl
theorem places104 : Plc Tryz.prog (fO Tryz.underlying104) #[(0, 1), (1, 1)] := fun w => by kernel_rfl
theorem sz110 : (Tryz.prog.info? 110).map (·.size) = some 4 := by kernel_rfl
theorem zero110 : (Tryz.prog.info? 110).map (·.zero) = some (some (.agg #[.map none, .map none, .map none, .map none])) := by kernel_rfl
theorem places110 : Plc Tryz.prog (fO Tryz.underlying110) #[(0, 1), (1, 1), (2, 1), (3, 1)] := fun w => by kernel_rfl
theorem sz138 : (Tryz.prog.info? 138).map (·.size) = some 2 := by kernel_rfl
theorem zero138 : (Tryz.prog.info? 138).map (·.zero) = some (some (.agg #[iV 0, iV 0])) := by kernel_rfl
theorem inf138 : (Tryz.prog.info? 138).map (fun i => (i.zero, i.size, i.bytes)) = some (some (.agg #[iV 0, iV 0]), 2, 16) := by kernel_rfl
theorem places138 : Plc Tryz.prog (fO Tryz.underlying138) #[(0, 1), (1, 1)] := fun w => by kernel_rfl
theorem zero157 : (Tryz.prog.info? 157).map (·.zero) = some (some nS) := by kernel_rfl
theorem sz167 : (Tryz.prog.info? 167).map (·.size) = some 4 := by kernel_rfl
theorem zero167 : (Tryz.prog.info? 167).map (·.zero) = some (some (.agg #[.string ⟨#[]⟩, .slice none 0 0, .bool false, .bool false])) := by kernel_rfl
theorem inf167 : (Tryz.prog.info? 167).map (fun i => (i.zero, i.size, i.bytes)) = some (some (.agg #[.string ⟨#[]⟩, .slice none 0 0, .bool false, .bool false]), 4, 48) := by kernel_rfl
theorem places167 : Plc Tryz.prog (fO Tryz.underlying167) #[(0, 1), (1, 1), (2, 1), (3, 1)] := fun w => by kernel_rfl
theorem sz191 : (Tryz.prog.info? 191).map (·.size) = some 2 := by kernel_rfl
theorem zero191 : (Tryz.prog.info? 191).map (·.zero) = some (some (.agg #[.string ⟨#[]⟩, .string ⟨#[]⟩])) := by kernel_rfl
theorem places191 : Plc Tryz.prog (fO Tryz.underlying191) #[(0, 1), (1, 1)] := fun w => by kernel_rfl
theorem sz225 : (Tryz.prog.info? 225).map (·.size) = some 4 := by kernel_rfl
theorem zero225 : (Tryz.prog.info? 225).map (·.zero) = some (some (.agg #[.string ⟨#[]⟩, iV 0, iV 0, iV 0])) := by kernel_rfl
theorem places225 : Plc Tryz.prog (fO Tryz.underlying225) #[(0, 1), (1, 1), (2, 1), (3, 1)] := fun w => by kernel_rfl
instance : FA Tryz.prog 31 0 0 := fA Tryz.underlying31 rfl sz9
instance : FA Tryz.prog 31 1 1 := fA Tryz.underlying31 rfl sz22
instance : FA Tryz.prog 31 2 2 := fA Tryz.underlying31 rfl sz3
instance : FA Tryz.prog 31 3 3 := fA Tryz.underlying31 rfl sz23
instance : FA Tryz.prog 31 4 4 := fA Tryz.underlying31 rfl sz24
instance : FA Tryz.prog 31 5 5 := fA Tryz.underlying31 rfl sz25
instance : FA Tryz.prog 31 6 6 := fA Tryz.underlying31 rfl sz26
instance : FA Tryz.prog 31 7 7 := fA Tryz.underlying31 rfl sz27
instance : FA Tryz.prog 31 8 8 := fA Tryz.underlying31 rfl sz28
instance : FA Tryz.prog 31 9 9 := fA Tryz.underlying31 rfl sz29
instance : FA Tryz.prog 31 10 10 := fA Tryz.underlying31 rfl sz3
instance : FA Tryz.prog 37 0 0 := fA Tryz.underlying37 rfl sz3
instance : FA Tryz.prog 37 1 1 := fA Tryz.underlying37 rfl sz3
instance : FA Tryz.prog 40 0 0 := fA Tryz.underlying40 rfl sz3
instance : FA Tryz.prog 40 1 1 := fA Tryz.underlying40 rfl sz9
instance : FA Tryz.prog 40 2 2 := fA Tryz.underlying40 rfl sz37
instance : FA Tryz.prog 40 3 4 := fA Tryz.underlying40 rfl sz3
instance : FA Tryz.prog 40 4 5 := fA Tryz.underlying40 rfl sz38
instance : FA Tryz.prog 54 0 0 := fA Tryz.underlying54 rfl sz3
instance : FA Tryz.prog 54 1 1 := fA Tryz.underlying54 rfl sz3
instance : FA Tryz.prog 58 0 0 := fA Tryz.underlying58 rfl sz9
instance : FA Tryz.prog 58 1 1 := fA Tryz.underlying58 rfl sz3
instance : FA Tryz.prog 58 2 2 := fA Tryz.underlying58 rfl sz3
instance : FA Tryz.prog 58 3 3 := fA Tryz.underlying58 rfl sz3
instance : FA Tryz.prog 58 4 4 := fA Tryz.underlying58 rfl sz55
instance : FA Tryz.prog 58 5 5 := fA Tryz.underlying58 rfl sz29
instance : FA Tryz.prog 58 6 6 := fA Tryz.underlying58 rfl sz3
instance : FA Tryz.prog 58 7 7 := fA Tryz.underlying58 rfl sz3
instance : FA Tryz.prog 58 8 8 := fA Tryz.underlying58 rfl sz3
instance : FA Tryz.prog 58 9 9 := fA Tryz.underlying58 rfl sz3
instance : FA Tryz.prog 58 10 10 := fA Tryz.underlying58 rfl sz3
instance : FA Tryz.prog 58 11 11 := fA Tryz.underlying58 rfl sz56
instance : FA Tryz.prog 65 0 0 := fA Tryz.underlying65 rfl sz3
instance : FA Tryz.prog 65 1 1 := fA Tryz.underlying65 rfl sz9
instance : FA Tryz.prog 65 2 2 := fA Tryz.underlying65 rfl sz3
instance : FA Tryz.prog 70 0 0 := fA Tryz.underlying70 rfl sz55
instance : FA Tryz.prog 70 1 1 := fA Tryz.underlying70 rfl sz55
instance : FA Tryz.prog 72 0 0 := fA Tryz.underlying72 rfl sz9
instance : FA Tryz.prog 72 1 1 := fA Tryz.underlying72 rfl sz3
instance : FA Tryz.prog 72 2 2 := fA Tryz.underlying72 rfl sz3
instance : FA Tryz.prog 72 3 3 := fA Tryz.underlying72 rfl sz3
instance : FA Tryz.prog 72 4 4 := fA Tryz.underlying72 rfl sz55
instance : FA Tryz.prog 72 5 5 := fA Tryz.underlying72 rfl sz70
instance : FA Tryz.prog 72 6 7 := fA Tryz.underlying72 rfl sz3
instance : FA Tryz.prog 72 7 8 := fA Tryz.underlying72 rfl sz3
instance : FA Tryz.prog 72 8 9 := fA Tryz.underlying72 rfl sz3
instance : FA Tryz.prog 72 9 10 := fA Tryz.underlying72 rfl sz3
instance : FA Tryz.prog 72 10 11 := fA Tryz.underlying72 rfl sz3
instance : FA Tryz.prog 72 11 12 := fA Tryz.underlying72 rfl sz3
instance : FA Tryz.prog 72 12 13 := fA Tryz.underlying72 rfl sz3
instance : FA Tryz.prog 72 13 14 := fA Tryz.underlying72 rfl sz3
instance : FA Tryz.prog 72 14 15 := fA Tryz.underlying72 rfl sz3
instance : FA Tryz.prog 72 15 16 := fA Tryz.underlying72 rfl sz3
instance : FA Tryz.prog 72 16 17 := fA Tryz.underlying72 rfl sz3
instance : FA Tryz.prog 75 0 0 := fA Tryz.underlying75 rfl sz3
instance : FA Tryz.prog 75 1 1 := fA Tryz.underlying75 rfl sz3
instance : FA Tryz.prog 84 0 0 := fA Tryz.underlying84 rfl sz9
instance : FA Tryz.prog 84 1 1 := fA Tryz.underlying84 rfl sz3
instance : FA Tryz.prog 84 2 2 := fA Tryz.underlying84 rfl sz3
instance : FA Tryz.prog 84 3 3 := fA Tryz.underlying84 rfl sz3
instance : FA Tryz.prog 84 4 4 := fA Tryz.underlying84 rfl sz3
instance : FA Tryz.prog 84 5 5 := fA Tryz.underlying84 rfl sz3
instance : FA Tryz.prog 84 6 6 := fA Tryz.underlying84 rfl sz3
instance : FA Tryz.prog 89 0 0 := fA Tryz.underlying89 rfl sz9
instance : FA Tryz.prog 89 1 1 := fA Tryz.underlying89 rfl sz3
instance : FA Tryz.prog 89 2 2 := fA Tryz.underlying89 rfl sz3
instance : FA Tryz.prog 89 3 3 := fA Tryz.underlying89 rfl sz3
instance : FA Tryz.prog 89 4 4 := fA Tryz.underlying89 rfl sz3
instance : FA Tryz.prog 92 0 0 := fA Tryz.underlying92 rfl sz9
instance : FA Tryz.prog 92 1 1 := fA Tryz.underlying92 rfl sz3
instance : FA Tryz.prog 92 2 2 := fA Tryz.underlying92 rfl sz3
instance : FA Tryz.prog 92 3 3 := fA Tryz.underlying92 rfl sz3
instance : FA Tryz.prog 92 4 4 := fA Tryz.underlying92 rfl sz3
instance : FA Tryz.prog 92 5 5 := fA Tryz.underlying92 rfl sz3
instance : FA Tryz.prog 92 6 6 := fA Tryz.underlying92 rfl sz3
instance : FA Tryz.prog 95 0 0 := fA Tryz.underlying95 rfl sz9
instance : FA Tryz.prog 95 1 1 := fA Tryz.underlying95 rfl sz3
instance : FA Tryz.prog 100 0 0 := fA Tryz.underlying100 rfl sz41
instance : FA Tryz.prog 100 1 1 := fA Tryz.underlying100 rfl sz3
instance : FA Tryz.prog 104 0 0 := fA Tryz.underlying104 rfl sz61
instance : FA Tryz.prog 104 1 1 := fA Tryz.underlying104 rfl sz3
instance : FA Tryz.prog 138 0 0 := fA Tryz.underlying138 rfl sz3
instance : FA Tryz.prog 138 1 1 := fA Tryz.underlying138 rfl sz3
instance : FA Tryz.prog 167 0 0 := fA Tryz.underlying167 rfl sz9
instance : FA Tryz.prog 167 1 1 := fA Tryz.underlying167 rfl sz22
instance : FA Tryz.prog 167 2 2 := fA Tryz.underlying167 rfl sz4
instance : FA Tryz.prog 167 3 3 := fA Tryz.underlying167 rfl sz4
instance : FA Tryz.prog 225 0 0 := fA Tryz.underlying225 rfl sz9
instance : FA Tryz.prog 225 1 1 := fA Tryz.underlying225 rfl sz3
instance : FA Tryz.prog 225 2 2 := fA Tryz.underlying225 rfl sz3
instance : FA Tryz.prog 225 3 3 := fA Tryz.underlying225 rfl sz3
instance : FO Tryz.prog 40 1 1 := ⟨_, _, _, Tryz.underlying40, rfl, rfl, Tryz.underlying9, rfl⟩
instance : FO Tryz.prog 65 0 0 := ⟨_, _, _, Tryz.underlying65, rfl, rfl, Tryz.underlying3, rfl⟩
instance : FO Tryz.prog 65 2 2 := ⟨_, _, _, Tryz.underlying65, rfl, rfl, Tryz.underlying3, rfl⟩
instance : NI Tryz.prog 100 := ⟨_, Tryz.underlying100, rfl⟩
instance : NA Tryz.prog 3 := ⟨_, Tryz.underlying3, rfl⟩
instance : NA Tryz.prog 4 := ⟨_, Tryz.underlying4, rfl⟩
instance : NA Tryz.prog 9 := ⟨_, Tryz.underlying9, rfl⟩
instance : NA Tryz.prog 22 := ⟨_, Tryz.underlying22, rfl⟩
instance : NA Tryz.prog 23 := ⟨_, Tryz.underlying23, rfl⟩
instance : NA Tryz.prog 24 := ⟨_, Tryz.underlying24, rfl⟩
instance : NA Tryz.prog 25 := ⟨_, Tryz.underlying25, rfl⟩
instance : NA Tryz.prog 26 := ⟨_, Tryz.underlying26, rfl⟩
instance : NA Tryz.prog 27 := ⟨_, Tryz.underlying27, rfl⟩
instance : NA Tryz.prog 28 := ⟨_, Tryz.underlying28, rfl⟩
instance : NA Tryz.prog 29 := ⟨_, Tryz.underlying29, rfl⟩
instance : AG Tryz.prog 31 11 := ⟨_, Tryz.underlying31, rfl, sz31⟩
instance : AG Tryz.prog 37 2 := ⟨_, Tryz.underlying37, rfl, sz37⟩
instance : NA Tryz.prog 38 := ⟨_, Tryz.underlying38, rfl⟩
instance : AG Tryz.prog 40 6 := ⟨_, Tryz.underlying40, rfl, sz40⟩
instance : NA Tryz.prog 41 := ⟨_, Tryz.underlying41, rfl⟩
instance : NA Tryz.prog 50 := ⟨_, Tryz.underlying50, rfl⟩
instance : AG Tryz.prog 54 2 := ⟨_, Tryz.underlying54, rfl, sz54⟩
instance : NA Tryz.prog 55 := ⟨_, Tryz.underlying55, rfl⟩
instance : NA Tryz.prog 56 := ⟨_, Tryz.underlying56, rfl⟩
instance : AG Tryz.prog 58 12 := ⟨_, Tryz.underlying58, rfl, sz58⟩
instance : NA Tryz.prog 61 := ⟨_, Tryz.underlying61, rfl⟩
instance : AG Tryz.prog 65 3 := ⟨_, Tryz.underlying65, rfl, sz65⟩
instance : AG Tryz.prog 72 18 := ⟨_, Tryz.underlying72, rfl, sz72⟩
instance : AG Tryz.prog 75 2 := ⟨_, Tryz.underlying75, rfl, sz75⟩
instance : AG Tryz.prog 89 5 := ⟨_, Tryz.underlying89, rfl, sz89⟩
instance : AG Tryz.prog 92 7 := ⟨_, Tryz.underlying92, rfl, sz92⟩
instance : AG Tryz.prog 110 4 := ⟨_, Tryz.underlying110, rfl, sz110⟩
instance : NA Tryz.prog 145 := ⟨_, Tryz.underlying145, rfl⟩
instance : AG Tryz.prog 167 4 := ⟨_, Tryz.underlying167, rfl, sz167⟩
instance : AG Tryz.prog 191 2 := ⟨_, Tryz.underlying191, rfl, sz191⟩
instance : AG Tryz.prog 225 4 := ⟨_, Tryz.underlying225, rfl, sz225⟩
instance : SY Tryz.prog 22 := ⟨_, Tryz.underlying22⟩
instance : SY Tryz.prog 23 := ⟨_, Tryz.underlying23⟩
instance : SY Tryz.prog 24 := ⟨_, Tryz.underlying24⟩
instance : SY Tryz.prog 25 := ⟨_, Tryz.underlying25⟩
instance : SY Tryz.prog 26 := ⟨_, Tryz.underlying26⟩
instance : SY Tryz.prog 27 := ⟨_, Tryz.underlying27⟩
instance : SY Tryz.prog 28 := ⟨_, Tryz.underlying28⟩
instance : SY Tryz.prog 29 := ⟨_, Tryz.underlying29⟩
instance : SY Tryz.prog 38 := ⟨_, Tryz.underlying38⟩
instance : SY Tryz.prog 50 := ⟨_, Tryz.underlying50⟩
instance : SY Tryz.prog 55 := ⟨_, Tryz.underlying55⟩
instance : SY Tryz.prog 56 := ⟨_, Tryz.underlying56⟩
instance : SY Tryz.prog 157 := ⟨_, Tryz.underlying157⟩
instance : SY Tryz.prog 196 := ⟨_, Tryz.underlying196⟩
instance : SZ Tryz.prog 3 1 := ⟨sz3⟩
instance : SZ Tryz.prog 4 1 := ⟨sz4⟩
instance : SZ Tryz.prog 9 1 := ⟨sz9⟩
instance : SZ Tryz.prog 22 1 := ⟨sz22⟩
instance : SZ Tryz.prog 23 1 := ⟨sz23⟩
instance : SZ Tryz.prog 24 1 := ⟨sz24⟩
instance : SZ Tryz.prog 25 1 := ⟨sz25⟩
instance : SZ Tryz.prog 26 1 := ⟨sz26⟩
instance : SZ Tryz.prog 27 1 := ⟨sz27⟩
instance : SZ Tryz.prog 28 1 := ⟨sz28⟩
instance : SZ Tryz.prog 29 1 := ⟨sz29⟩
instance : SZ Tryz.prog 31 11 := ⟨sz31⟩
instance : SZ Tryz.prog 37 2 := ⟨sz37⟩
instance : SZ Tryz.prog 40 6 := ⟨sz40⟩
instance : SZ Tryz.prog 41 1 := ⟨sz41⟩
instance : SZ Tryz.prog 54 2 := ⟨sz54⟩
instance : SZ Tryz.prog 56 1 := ⟨sz56⟩
instance : SZ Tryz.prog 58 12 := ⟨sz58⟩
instance : SZ Tryz.prog 61 1 := ⟨sz61⟩
instance : SZ Tryz.prog 65 3 := ⟨sz65⟩
instance : SZ Tryz.prog 72 18 := ⟨sz72⟩
instance : SZ Tryz.prog 75 2 := ⟨sz75⟩
instance : SZ Tryz.prog 84 7 := ⟨sz84⟩
instance : SZ Tryz.prog 89 5 := ⟨sz89⟩
instance : SZ Tryz.prog 92 7 := ⟨sz92⟩
instance : SZ Tryz.prog 95 2 := ⟨sz95⟩
instance : SZ Tryz.prog 100 2 := ⟨sz100⟩
instance : SZ Tryz.prog 110 4 := ⟨sz110⟩
instance : SZ Tryz.prog 138 2 := ⟨sz138⟩
instance : SZ Tryz.prog 167 4 := ⟨sz167⟩
instance : SZ Tryz.prog 191 2 := ⟨sz191⟩
instance : IX Tryz.prog 22 1 := ⟨_, Tryz.underlying22, sz9⟩
instance : IX Tryz.prog 23 12 := ⟨_, Tryz.underlying23, sz58⟩
instance : IX Tryz.prog 24 18 := ⟨_, Tryz.underlying24, sz72⟩
instance : IX Tryz.prog 25 7 := ⟨_, Tryz.underlying25, sz84⟩
instance : IX Tryz.prog 26 5 := ⟨_, Tryz.underlying26, sz89⟩
instance : IX Tryz.prog 27 7 := ⟨_, Tryz.underlying27, sz92⟩
instance : IX Tryz.prog 28 2 := ⟨_, Tryz.underlying28, sz95⟩
instance : IX Tryz.prog 29 1 := ⟨_, Tryz.underlying29, sz3⟩
instance : IX Tryz.prog 38 6 := ⟨_, Tryz.underlying38, sz40⟩
instance : IX Tryz.prog 50 2 := ⟨_, Tryz.underlying50, sz54⟩
instance : IX Tryz.prog 52 1 := ⟨_, Tryz.underlying52, sz4⟩
instance : IX Tryz.prog 55 2 := ⟨_, Tryz.underlying55, sz75⟩
instance : IX Tryz.prog 56 2 := ⟨_, Tryz.underlying56, sz138⟩
instance : IX Tryz.prog 157 4 := ⟨_, Tryz.underlying157, sz167⟩
instance : IX Tryz.prog 196 1 := ⟨_, Tryz.underlying196, sz55⟩
instance : ZL Tryz.prog 3 [iV 0] := ⟨_, zero3, rfl⟩
instance : ZL Tryz.prog 4 [.bool false] := ⟨_, zero4, rfl⟩
instance : ZL Tryz.prog 31 [.string (bs ([])), nS, iV 0, nS, nS, nS, nS, nS, nS, nS, iV 0] := ⟨_, zero31, rfl⟩
instance : ZL Tryz.prog 37 [iV 0, iV 0] := ⟨_, zero37, rfl⟩
instance : ZL Tryz.prog 40 [iV 0, .string (bs ([])), iV 0, iV 0, iV 0, nS] := ⟨_, zero40, rfl⟩
instance : ZL Tryz.prog 41 [iV 0] := ⟨_, zero41, rfl⟩
instance : ZL Tryz.prog 50 [nS] := ⟨_, zero50, rfl⟩
instance : ZL Tryz.prog 54 [iV 0, iV 0] := ⟨_, zero54, rfl⟩
instance : ZL Tryz.prog 58 [.string (bs ([])), iV 0, iV 0, iV 0, nS, nS, iV 0, iV 0, iV 0, iV 0, iV 0, nS] := ⟨_, zero58, rfl⟩
instance : ZL Tryz.prog 61 [nS] := ⟨_, zero61, rfl⟩
instance : ZL Tryz.prog 65 [iV 0, .string (bs ([])), iV 0] := ⟨_, zero65, rfl⟩
instance : ZL Tryz.prog 72 [.string (bs ([])), iV 0, iV 0, iV 0, nS, nS, nS, iV 0, iV 0, iV 0, iV 0, iV 0, iV 0, iV 0, iV 0, iV 0, iV 0, iV 0] := ⟨_, zero72, rfl⟩
instance : ZL Tryz.prog 75 [iV 0, iV 0] := ⟨_, zero75, rfl⟩
instance : ZL Tryz.prog 84 [.string (bs ([])), iV 0, iV 0, iV 0, iV 0, iV 0, iV 0] := ⟨_, zero84, rfl⟩
instance : ZL Tryz.prog 89 [.string (bs ([])), iV 0, iV 0, iV 0, iV 0] := ⟨_, zero89, rfl⟩
instance : ZL Tryz.prog 92 [.string (bs ([])), iV 0, iV 0, iV 0, iV 0, iV 0, iV 0] := ⟨_, zero92, rfl⟩
instance : ZL Tryz.prog 95 [.string (bs ([])), iV 0] := ⟨_, zero95, rfl⟩
instance : ZL Tryz.prog 100 [iV 0, iV 0] := ⟨_, zero100, rfl⟩
instance : ZL Tryz.prog 138 [iV 0, iV 0] := ⟨_, zero138, rfl⟩
instance : ZL Tryz.prog 167 [.string (bs ([])), nS, .bool false, .bool false] := ⟨_, zero167, rfl⟩
instance : ZL Tryz.prog 191 [.string (bs ([])), .string (bs ([]))] := ⟨_, zero191, rfl⟩
instance : ZL Tryz.prog 225 [.string (bs ([])), iV 0, iV 0, iV 0] := ⟨_, zero225, rfl⟩
instance : OwnI Tryz.prog 3 := ⟨oK⟩
instance : OwnI Tryz.prog 4 := ⟨oK⟩
instance : OwnI Tryz.prog 5 := ⟨oK⟩
instance : OwnI Tryz.prog 6 := ⟨oK⟩
instance : OwnI Tryz.prog 7 := ⟨oK⟩
instance : OwnI Tryz.prog 8 := ⟨oK⟩
instance : OwnI Tryz.prog 9 := ⟨oK⟩
instance : OwnI Tryz.prog 10 := ⟨oK⟩
instance : OwnI Tryz.prog 11 := ⟨oK⟩
instance : OwnI Tryz.prog 12 := ⟨oK⟩
instance : OwnI Tryz.prog 13 := ⟨oK⟩
instance : OwnI Tryz.prog 14 := ⟨oK⟩
instance : OwnI Tryz.prog 15 := ⟨oK⟩
instance : OwnI Tryz.prog 16 := ⟨oK⟩
instance : OwnI Tryz.prog 17 := ⟨oK⟩
instance : OwnI Tryz.prog 18 := ⟨oK⟩
instance : OwnI Tryz.prog 19 := ⟨oK⟩
instance : OwnI Tryz.prog 20 := ⟨oK⟩
instance : OwnI Tryz.prog 21 := ⟨oK⟩
instance : OwnI Tryz.prog 22 := ⟨oK⟩
instance : OwnI Tryz.prog 23 := ⟨oK⟩
instance : OwnI Tryz.prog 24 := ⟨oK⟩
instance : OwnI Tryz.prog 25 := ⟨oK⟩
instance : OwnI Tryz.prog 26 := ⟨oK⟩
instance : OwnI Tryz.prog 27 := ⟨oK⟩
instance : OwnI Tryz.prog 28 := ⟨oK⟩
instance : OwnI Tryz.prog 29 := ⟨oK⟩
instance : OwnI Tryz.prog 30 := ⟨oK⟩
instance : OwnI Tryz.prog 31 := ⟨oK⟩
instance : OwnI Tryz.prog 32 := ⟨oK⟩
instance : OwnI Tryz.prog 33 := ⟨oK⟩
instance : OwnI Tryz.prog 34 := ⟨oK⟩
instance : OwnI Tryz.prog 35 := ⟨oK⟩
instance : OwnI Tryz.prog 36 := ⟨oK⟩
instance : OwnI Tryz.prog 37 := ⟨oK⟩
instance : OwnI Tryz.prog 38 := ⟨oK⟩
instance : OwnI Tryz.prog 39 := ⟨oK⟩
instance : OwnI Tryz.prog 40 := ⟨oK⟩
instance : OwnI Tryz.prog 41 := ⟨oK⟩
instance : OwnI Tryz.prog 42 := ⟨oK⟩
instance : OwnI Tryz.prog 43 := ⟨oK⟩
instance : OwnI Tryz.prog 44 := ⟨oK⟩
instance : OwnI Tryz.prog 45 := ⟨oK⟩
instance : OwnI Tryz.prog 46 := ⟨oK⟩
instance : OwnI Tryz.prog 47 := ⟨oK⟩
instance : OwnI Tryz.prog 48 := ⟨oK⟩
instance : OwnI Tryz.prog 49 := ⟨oK⟩
instance : OwnI Tryz.prog 50 := ⟨oK⟩
instance : OwnI Tryz.prog 51 := ⟨oK⟩
instance : OwnI Tryz.prog 52 := ⟨oK⟩
instance : OwnI Tryz.prog 53 := ⟨oK⟩
instance : OwnI Tryz.prog 54 := ⟨oK⟩
instance : OwnI Tryz.prog 55 := ⟨oK⟩
instance : OwnI Tryz.prog 56 := ⟨oK⟩
instance : OwnI Tryz.prog 57 := ⟨oK⟩
instance : OwnI Tryz.prog 58 := ⟨oK⟩
instance : OwnI Tryz.prog 59 := ⟨oK⟩
instance : OwnI Tryz.prog 60 := ⟨oK⟩
instance : OwnI Tryz.prog 61 := ⟨oK⟩
instance : OwnI Tryz.prog 62 := ⟨oK⟩
instance : OwnI Tryz.prog 63 := ⟨oK⟩
instance : OwnI Tryz.prog 64 := ⟨oK⟩
instance : OwnI Tryz.prog 65 := ⟨oK⟩
instance : OwnI Tryz.prog 66 := ⟨oK⟩
instance : OwnI Tryz.prog 67 := ⟨oK⟩
instance : OwnI Tryz.prog 68 := ⟨oK⟩
instance : OwnI Tryz.prog 69 := ⟨oK⟩
instance : OwnI Tryz.prog 70 := ⟨oK⟩
instance : OwnI Tryz.prog 71 := ⟨oK⟩
instance : OwnI Tryz.prog 72 := ⟨oK⟩
instance : OwnI Tryz.prog 73 := ⟨oK⟩
instance : OwnI Tryz.prog 74 := ⟨oK⟩
instance : OwnI Tryz.prog 75 := ⟨oK⟩
instance : OwnI Tryz.prog 76 := ⟨oK⟩
instance : OwnI Tryz.prog 77 := ⟨oK⟩
instance : OwnI Tryz.prog 78 := ⟨oK⟩
instance : OwnI Tryz.prog 79 := ⟨oK⟩
instance : OwnI Tryz.prog 80 := ⟨oK⟩
instance : OwnI Tryz.prog 81 := ⟨oK⟩
instance : OwnI Tryz.prog 82 := ⟨oK⟩
instance : OwnI Tryz.prog 83 := ⟨oK⟩
instance : OwnI Tryz.prog 84 := ⟨oK⟩
instance : OwnI Tryz.prog 85 := ⟨oK⟩
instance : OwnI Tryz.prog 86 := ⟨oK⟩
instance : OwnI Tryz.prog 87 := ⟨oK⟩
instance : OwnI Tryz.prog 88 := ⟨oK⟩
instance : OwnI Tryz.prog 89 := ⟨oK⟩
instance : OwnI Tryz.prog 90 := ⟨oK⟩
instance : OwnI Tryz.prog 92 := ⟨oK⟩
instance : OwnI Tryz.prog 93 := ⟨oK⟩
instance : OwnI Tryz.prog 94 := ⟨oK⟩
instance : OwnI Tryz.prog 95 := ⟨oK⟩
instance : OwnI Tryz.prog 96 := ⟨oK⟩
instance : OwnI Tryz.prog 97 := ⟨oK⟩
instance : OwnI Tryz.prog 98 := ⟨oK⟩
instance : OwnI Tryz.prog 99 := ⟨oK⟩
instance : OwnI Tryz.prog 100 := ⟨oK⟩
instance : OwnI Tryz.prog 101 := ⟨oK⟩
instance : OwnI Tryz.prog 102 := ⟨oK⟩
instance : OwnI Tryz.prog 103 := ⟨oK⟩
instance : OwnI Tryz.prog 104 := ⟨oK⟩
instance : OwnI Tryz.prog 105 := ⟨oK⟩
instance : OwnI Tryz.prog 106 := ⟨oK⟩
instance : OwnI Tryz.prog 107 := ⟨oK⟩
instance : OwnI Tryz.prog 108 := ⟨oK⟩
instance : OwnI Tryz.prog 109 := ⟨oK⟩
instance : OwnI Tryz.prog 110 := ⟨oK⟩
instance : OwnI Tryz.prog 111 := ⟨oK⟩
instance : OwnI Tryz.prog 112 := ⟨oK⟩
instance : OwnI Tryz.prog 113 := ⟨oK⟩
instance : OwnI Tryz.prog 114 := ⟨oK⟩
instance : OwnI Tryz.prog 115 := ⟨oK⟩
instance : OwnI Tryz.prog 116 := ⟨oK⟩
instance : OwnI Tryz.prog 117 := ⟨oK⟩
instance : OwnI Tryz.prog 118 := ⟨oK⟩
instance : OwnI Tryz.prog 119 := ⟨oK⟩
instance : OwnI Tryz.prog 120 := ⟨oK⟩
instance : OwnI Tryz.prog 121 := ⟨oK⟩
instance : OwnI Tryz.prog 122 := ⟨oK⟩
instance : OwnI Tryz.prog 123 := ⟨oK⟩
instance : OwnI Tryz.prog 124 := ⟨oK⟩
instance : OwnI Tryz.prog 125 := ⟨oK⟩
instance : OwnI Tryz.prog 126 := ⟨oK⟩
instance : OwnI Tryz.prog 127 := ⟨oK⟩
instance : OwnI Tryz.prog 128 := ⟨oK⟩
instance : OwnI Tryz.prog 129 := ⟨oK⟩
instance : OwnI Tryz.prog 130 := ⟨oK⟩
instance : OwnI Tryz.prog 131 := ⟨oK⟩
instance : OwnI Tryz.prog 132 := ⟨oK⟩
instance : OwnI Tryz.prog 133 := ⟨oK⟩
instance : OwnI Tryz.prog 134 := ⟨oK⟩
instance : OwnI Tryz.prog 135 := ⟨oK⟩
instance : OwnI Tryz.prog 136 := ⟨oK⟩
instance : OwnI Tryz.prog 137 := ⟨oK⟩
instance : OwnI Tryz.prog 138 := ⟨oK⟩
instance : OwnI Tryz.prog 139 := ⟨oK⟩
instance : OwnI Tryz.prog 140 := ⟨oK⟩
instance : OwnI Tryz.prog 142 := ⟨oK⟩
instance : OwnI Tryz.prog 143 := ⟨oK⟩
instance : OwnI Tryz.prog 144 := ⟨oK⟩
instance : OwnI Tryz.prog 145 := ⟨oK⟩
instance : OwnI Tryz.prog 146 := ⟨oK⟩
instance : OwnI Tryz.prog 147 := ⟨oK⟩
instance : OwnI Tryz.prog 148 := ⟨oK⟩
instance : OwnI Tryz.prog 149 := ⟨oK⟩
instance : OwnI Tryz.prog 150 := ⟨oK⟩
instance : OwnI Tryz.prog 151 := ⟨oK⟩
instance : OwnI Tryz.prog 152 := ⟨oK⟩
instance : OwnI Tryz.prog 153 := ⟨oK⟩
instance : OwnI Tryz.prog 154 := ⟨oK⟩
instance : OwnI Tryz.prog 155 := ⟨oK⟩
instance : OwnI Tryz.prog 156 := ⟨oK⟩
instance : OwnI Tryz.prog 157 := ⟨oK⟩
instance : OwnI Tryz.prog 158 := ⟨oK⟩
instance : OwnI Tryz.prog 159 := ⟨oK⟩
instance : OwnI Tryz.prog 160 := ⟨oK⟩
instance : OwnI Tryz.prog 161 := ⟨oK⟩
instance : OwnI Tryz.prog 162 := ⟨oK⟩
instance : OwnI Tryz.prog 163 := ⟨oK⟩
instance : OwnI Tryz.prog 164 := ⟨oK⟩
instance : OwnI Tryz.prog 165 := ⟨oK⟩
instance : OwnI Tryz.prog 166 := ⟨oK⟩
instance : OwnI Tryz.prog 167 := ⟨oK⟩
instance : OwnI Tryz.prog 168 := ⟨oK⟩
instance : OwnI Tryz.prog 169 := ⟨oK⟩
instance : OwnI Tryz.prog 170 := ⟨oK⟩
instance : OwnI Tryz.prog 171 := ⟨oK⟩
instance : OwnI Tryz.prog 172 := ⟨oK⟩
instance : OwnI Tryz.prog 173 := ⟨oK⟩
instance : OwnI Tryz.prog 174 := ⟨oK⟩
instance : OwnI Tryz.prog 175 := ⟨oK⟩
instance : OwnI Tryz.prog 176 := ⟨oK⟩
instance : OwnI Tryz.prog 177 := ⟨oK⟩
instance : OwnI Tryz.prog 179 := ⟨oK⟩
instance : OwnI Tryz.prog 180 := ⟨oK⟩
instance : OwnI Tryz.prog 181 := ⟨oK⟩
instance : OwnI Tryz.prog 182 := ⟨oK⟩
instance : OwnI Tryz.prog 183 := ⟨oK⟩
instance : OwnI Tryz.prog 184 := ⟨oK⟩
instance : OwnI Tryz.prog 185 := ⟨oK⟩
instance : OwnI Tryz.prog 186 := ⟨oK⟩
instance : OwnI Tryz.prog 187 := ⟨oK⟩
instance : OwnI Tryz.prog 188 := ⟨oK⟩
instance : OwnI Tryz.prog 189 := ⟨oK⟩
instance : OwnI Tryz.prog 190 := ⟨oK⟩
instance : OwnI Tryz.prog 191 := ⟨oK⟩
instance : OwnI Tryz.prog 192 := ⟨oK⟩
instance : OwnI Tryz.prog 193 := ⟨oK⟩
instance : OwnI Tryz.prog 194 := ⟨oK⟩
instance : OwnI Tryz.prog 195 := ⟨oK⟩
instance : OwnI Tryz.prog 197 := ⟨oK⟩
instance : OwnI Tryz.prog 198 := ⟨oK⟩
instance : OwnI Tryz.prog 199 := ⟨oK⟩
instance : OwnI Tryz.prog 200 := ⟨oK⟩
instance : OwnI Tryz.prog 201 := ⟨oK⟩
instance : OwnI Tryz.prog 202 := ⟨oK⟩
instance : OwnI Tryz.prog 203 := ⟨oK⟩
instance : OwnI Tryz.prog 204 := ⟨oK⟩
instance : OwnI Tryz.prog 206 := ⟨oK⟩
instance : OwnI Tryz.prog 207 := ⟨oK⟩
instance : OwnI Tryz.prog 209 := ⟨oK⟩
theorem bitLen_b {y : Nat} (h0 : 0 < y) (h : y < 18446744073709551616) : 1 ≤ Lib.bitLen y ∧ Lib.bitLen y ≤ 64 ∧ 2 ^ (Lib.bitLen y - 1) ≤ y ∧ y < 2 ^ Lib.bitLen y := by
 obtain ⟨h1, h2, h3⟩ := Lib.bitLenAux_bounds 64 y (by omega) (by omega)
 refine ⟨h1, ?_, h2, h3⟩
 show Lib.bitLenAux 64 y ≤ 64
 have h4 : 2 ^ (Lib.bitLenAux 64 y - 1) < 2 ^ 64 := Nat.lt_of_le_of_lt h2 (by omega)
 have := (Nat.pow_lt_pow_iff_right (by omega)).1 h4
 omega
theorem kn_dec {q a r U : Nat} (h : q * a + r = U) (hq : 1 ≤ q) : (q - 1) * a + (r + a) = U := by
 obtain ⟨j, rfl⟩ : ∃ j, q = j + 1 := ⟨q - 1, by omega⟩
 rw [Nat.add_mul, Nat.one_mul] at h
 rw [Nat.add_sub_cancel]
 omega
theorem joinU {hi lo sh : Nat} (hs : sh ≤ 64) (hlo : lo < 18446744073709551616) : hi * 2 ^ sh ||| lo / 2 ^ (64 - sh) = hi * 2 ^ sh + lo / 2 ^ (64 - sh) ∧ lo / 2 ^ (64 - sh) < 2 ^ sh := by
 have h1 : lo / 2 ^ (64 - sh) < 2 ^ sh := by
  rw [Nat.div_lt_iff_lt_mul (Nat.two_pow_pos _), ← Nat.pow_add, show sh + (64 - sh) = 64 by omega]; omega
 exact ⟨nat_join sh _ _ (Nat.mul_mod_left _ _) h1, h1⟩
theorem Mul64_c (w : World) (Φ : Hp) (hΦ : Hp.le Φ (hp w)) {x y : Nat} (hx : x < 18446744073709551616) (hy : y < 18446744073709551616) :
  Calls Tryz.prog 122 #[.int .u64 (x : Int), .int .u64 (y : Int)] w fun e w' => e = .returned (.tuple #[.int .u64 ((x * y / 18446744073709551616 : Nat) : Int), .int .u64 ((x * y % 18446744073709551616 : Nat) : Int)]) ∧ Bel w.heap.size w w' := by
 refine calls_of_AW (args := [.int .u64 (x : Int), .int .u64 (y : Int)]) Tryz.func122 rfl (lBT rfl) (St ⟨w, Φ, []⟩ Φ []) (StP.init w Φ hΦ []) ?_
 show AW Tryz.prog 51 [] _ _ _ [(0, .int .u64 (x : Int)), (1, .int .u64 (y : Int))] _
 obtain ⟨bd, bt, bw, hhi⟩ := Lib.mul64_hi x y hx hy
 have ba := Lib.half_mul_le (a := x / 4294967296) (b := y / 4294967296) (by omega) (by omega)
 have bb := Lib.half_mul_le (a := x / 4294967296) (b := y % 4294967296) (by omega) (by omega)
 have bc := Lib.half_mul_le (a := x % 4294967296) (b := y / 4294967296) (by omega) (by omega)
 refine AW.seq (AW.region (RW.q (v := .int .u64 ((0 : Nat) : Int)) rfl (q_assign rfl) (RW.q (v := .int .u64 ((0 : Nat) : Int)) rfl (q_assign rfl) (RW.nil (Post.then_n (AW.seq (AW.region (RW.q rfl (q_move rfl) (RW.q (v := .int .u64 ((x % 4294967296 : Nat) : Int)) rfl (q_maskU (a := x) rfl rfl (by omega)) ?_)))))))))
 refine RW.q (v := .int .u64 ((x % 4294967296 : Nat) : Int)) rfl (q_assign rfl) (RW.nil (Post.then_n (AW.seq (AW.region (RW.q rfl (q_move rfl) (RW.q (v := .int .u64 ((x / 4294967296 : Nat) : Int)) rfl (q_shr32U (a := x) rfl rfl) (RW.q (v := .int .u64 ((x / 4294967296 : Nat) : Int)) rfl (q_assign rfl) (RW.nil (Post.then_n ?_)))))))))
 refine AW.seq (AW.region (RW.q rfl (q_move rfl) (RW.q (v := .int .u64 ((y % 4294967296 : Nat) : Int)) rfl (q_maskU (a := y) rfl rfl (by omega)) (RW.q (v := .int .u64 ((y % 4294967296 : Nat) : Int)) rfl (q_assign rfl) (RW.nil (Post.then_n (AW.seq (AW.region (RW.q rfl (q_move rfl) ?_)))))))))
 refine RW.q (v := .int .u64 ((y / 4294967296 : Nat) : Int)) rfl (q_shr32U (a := y) rfl rfl) (RW.q (v := .int .u64 ((y / 4294967296 : Nat) : Int)) rfl (q_assign rfl) (RW.nil (Post.then_n (AW.seq (AW.region (RW.q rfl (q_move rfl) (RW.q rfl (q_move rfl) (RW.q (v := .int .u64 (((x % 4294967296) * (y % 4294967296) : Nat) : Int)) rfl (q_mulU (a := (x % 4294967296)) (b := (y % 4294967296)) rfl rfl (Nat.mod_eq_of_lt (by omega))) (RW.q (v := .int .u64 (((x % 4294967296) * (y % 4294967296) : Nat) : Int)) rfl (q_assign rfl) ?_)))))))))
 refine RW.nil (Post.then_n (AW.seq (AW.region (RW.q rfl (q_move rfl) (RW.q rfl (q_move rfl) (RW.q (v := .int .u64 (((x / 4294967296) * (y % 4294967296) : Nat) : Int)) rfl (q_mulU (a := (x / 4294967296)) (b := (y % 4294967296)) rfl rfl (Nat.mod_eq_of_lt (by omega))) (RW.q rfl (q_move rfl) (RW.q (v := .int .u64 ((((x % 4294967296) * (y % 4294967296)) / 4294967296 : Nat) : Int)) rfl (q_shr32U (a := ((x % 4294967296) * (y % 4294967296))) rfl rfl) (RW.q (v := .int .u64 ((((x / 4294967296) * (y % 4294967296)) + (((x % 4294967296) * (y % 4294967296)) / 4294967296) : Nat) : Int)) rfl (q_addU (a := ((x / 4294967296) * (y % 4294967296))) (b := (((x % 4294967296) * (y % 4294967296)) / 4294967296)) rfl rfl (Nat.mod_eq_of_lt (by omega))) ?_)))))))))
 refine RW.q (v := .int .u64 ((((x / 4294967296) * (y % 4294967296)) + (((x % 4294967296) * (y % 4294967296)) / 4294967296) : Nat) : Int)) rfl (q_assign rfl) (RW.nil (Post.then_n (AW.seq (AW.region (RW.q (v := .int .u64 ((((x / 4294967296) * (y % 4294967296)) + (((x % 4294967296) * (y % 4294967296)) / 4294967296) : Nat) : Int)) rfl (q_move rfl) (RW.q (v := .int .u64 (((((x / 4294967296) * (y % 4294967296)) + (((x % 4294967296) * (y % 4294967296)) / 4294967296)) % 4294967296 : Nat) : Int)) rfl (q_maskU (a := (((x / 4294967296) * (y % 4294967296)) + (((x % 4294967296) * (y % 4294967296)) / 4294967296))) rfl rfl (by omega)) (RW.q (v := .int .u64 (((((x / 4294967296) * (y % 4294967296)) + (((x % 4294967296) * (y % 4294967296)) / 4294967296)) % 4294967296 : Nat) : Int)) rfl (q_assign rfl) (RW.nil (Post.then_n ?_)))))))))
 refine AW.seq (AW.region (RW.q (v := .int .u64 ((((x / 4294967296) * (y % 4294967296)) + (((x % 4294967296) * (y % 4294967296)) / 4294967296) : Nat) : Int)) rfl (q_move rfl) (RW.q (v := .int .u64 (((((x / 4294967296) * (y % 4294967296)) + (((x % 4294967296) * (y % 4294967296)) / 4294967296)) / 4294967296 : Nat) : Int)) rfl (q_shr32U (a := (((x / 4294967296) * (y % 4294967296)) + (((x % 4294967296) * (y % 4294967296)) / 4294967296))) rfl rfl) (RW.q (v := .int .u64 (((((x / 4294967296) * (y % 4294967296)) + (((x % 4294967296) * (y % 4294967296)) / 4294967296)) / 4294967296 : Nat) : Int)) rfl (q_assign rfl) (RW.nil (Post.then_n (AW.seq (AW.region (RW.q (v := .int .u64 (((((x / 4294967296) * (y % 4294967296)) + (((x % 4294967296) * (y % 4294967296)) / 4294967296)) % 4294967296 : Nat) : Int)) rfl (q_move rfl) ?_)))))))))
 refine RW.q rfl (q_move rfl) (RW.q rfl (q_move rfl) (RW.q (v := .int .u64 (((x % 4294967296) * (y / 4294967296) : Nat) : Int)) rfl (q_mulU (a := (x % 4294967296)) (b := (y / 4294967296)) rfl rfl (Nat.mod_eq_of_lt (by omega))) (RW.q (v := .int .u64 ((((((x / 4294967296) * (y % 4294967296)) + (((x % 4294967296) * (y % 4294967296)) / 4294967296)) % 4294967296) + ((x % 4294967296) * (y / 4294967296)) : Nat) : Int)) rfl (q_addU (a := ((((x / 4294967296) * (y % 4294967296)) + (((x % 4294967296) * (y % 4294967296)) / 4294967296)) % 4294967296)) (b := ((x % 4294967296) * (y / 4294967296))) rfl rfl (Nat.mod_eq_of_lt (by omega))) (RW.q (v := .int .u64 ((((((x / 4294967296) * (y % 4294967296)) + (((x % 4294967296) * (y % 4294967296)) / 4294967296)) % 4294967296) + ((x % 4294967296) * (y / 4294967296)) : Nat) : Int)) rfl (q_assign rfl) (RW.nil (Post.then_n (AW.seq (AW.region (RW.q rfl (q_move rfl) ?_)))))))))
 refine RW.q rfl (q_move rfl) (RW.q (v := .int .u64 (((x / 4294967296) * (y / 4294967296) : Nat) : Int)) rfl (q_mulU (a := (x / 4294967296)) (b := (y / 4294967296)) rfl rfl (Nat.mod_eq_of_lt (by omega))) (RW.q (v := .int .u64 (((((x / 4294967296) * (y % 4294967296)) + (((x % 4294967296) * (y % 4294967296)) / 4294967296)) / 4294967296 : Nat) : Int)) rfl (q_move rfl) (RW.q (v := .int .u64 ((((x / 4294967296) * (y / 4294967296)) + ((((x / 4294967296) * (y % 4294967296)) + (((x % 4294967296) * (y % 4294967296)) / 4294967296)) / 4294967296) : Nat) : Int)) rfl (q_addU (a := ((x / 4294967296) * (y / 4294967296))) (b := ((((x / 4294967296) * (y % 4294967296)) + (((x % 4294967296) * (y % 4294967296)) / 4294967296)) / 4294967296)) rfl rfl (Nat.mod_eq_of_lt (by omega))) (RW.q (v := .int .u64 ((((((x / 4294967296) * (y % 4294967296)) + (((x % 4294967296) * (y % 4294967296)) / 4294967296)) % 4294967296) + ((x % 4294967296) * (y / 4294967296)) : Nat) : Int)) rfl (q_move rfl) (RW.q (v := .int .u64 (((((((x / 4294967296) * (y % 4294967296)) + (((x % 4294967296) * (y % 4294967296)) / 4294967296)) % 4294967296) + ((x % 4294967296) * (y / 4294967296))) / 4294967296 : Nat) : Int)) rfl (q_shr32U (a := (((((x / 4294967296) * (y % 4294967296)) + (((x % 4294967296) * (y % 4294967296)) / 4294967296)) % 4294967296) + ((x % 4294967296) * (y / 4294967296)))) rfl rfl) (RW.q (v := .int .u64 (((((x / 4294967296) * (y / 4294967296)) + ((((x / 4294967296) * (y % 4294967296)) + (((x % 4294967296) * (y % 4294967296)) / 4294967296)) / 4294967296)) + ((((((x / 4294967296) * (y % 4294967296)) + (((x % 4294967296) * (y % 4294967296)) / 4294967296)) % 4294967296) + ((x % 4294967296) * (y / 4294967296))) / 4294967296) : Nat) : Int)) rfl (q_addU (a := (((x / 4294967296) * (y / 4294967296)) + ((((x / 4294967296) * (y % 4294967296)) + (((x % 4294967296) * (y % 4294967296)) / 4294967296)) / 4294967296))) (b := ((((((x / 4294967296) * (y % 4294967296)) + (((x % 4294967296) * (y % 4294967296)) / 4294967296)) % 4294967296) + ((x % 4294967296) * (y / 4294967296))) / 4294967296)) rfl rfl (Nat.mod_eq_of_lt (by omega))) (RW.q (v := .int .u64 (((((x / 4294967296) * (y / 4294967296)) + ((((x / 4294967296) * (y % 4294967296)) + (((x % 4294967296) * (y % 4294967296)) / 4294967296)) / 4294967296)) + ((((((x / 4294967296) * (y % 4294967296)) + (((x % 4294967296) * (y % 4294967296)) / 4294967296)) % 4294967296) + ((x % 4294967296) * (y / 4294967296))) / 4294967296) : Nat) : Int)) rfl (q_assign rfl) (RW.nil (Post.then_n ?_)))))))))
 refine AW.seq (AW.region (RW.q rfl (q_move rfl) (RW.q rfl (q_move rfl) (RW.q (v := .int .u64 ((x * y % 18446744073709551616 : Nat) : Int)) rfl (q_mulU (a := x) (b := y) rfl rfl rfl) (RW.q (v := .int .u64 ((x * y % 18446744073709551616 : Nat) : Int)) rfl (q_assign rfl) (RW.nil (Post.then_n (AW.ret (fin_out2 (v := .int .u64 (((((x / 4294967296) * (y / 4294967296)) + ((((x / 4294967296) * (y % 4294967296)) + (((x % 4294967296) * (y % 4294967296)) / 4294967296)) / 4294967296)) + ((((((x / 4294967296) * (y % 4294967296)) + (((x % 4294967296) * (y % 4294967296)) / 4294967296)) % 4294967296) + ((x % 4294967296) * (y / 4294967296))) / 4294967296) : Nat) : Int)) (u := .int .u64 ((x * y % 18446744073709551616 : Nat) : Int)) rfl rfl rfl rfl (fun w' hw => ?_))))))))))
 refine ⟨?_, hw.below rfl⟩
 rw [← hhi]
theorem LeadingZeros64_c (w : World) (Φ : Hp) (hΦ : Hp.le Φ (hp w)) {y : Nat} (h0 : 0 < y) (hy : y < 18446744073709551616) :
  Calls Tryz.prog 163 #[.int .u64 (y : Int)] w fun e w' => e = .returned (iV ((64 - Lib.bitLen y : Nat) : Int)) ∧ Bel w.heap.size w w' := by
 refine calls_of_AW (args := [.int .u64 (y : Int)]) Tryz.func163 rfl (lBT rfl) (St ⟨w, Φ, []⟩ Φ []) (StP.init w Φ hΦ []) ?_
 show AW Tryz.prog 6 [] _ _ _ [(0, .int .u64 (y : Int))] _
 obtain ⟨hl1, hl2, _, _⟩ := bitLen_b h0 hy
 refine AW.seq (AW.region (RW.q (v := iV 0) rfl (q_assign rfl) (RW.nil (Post.then_n (AW.seq (AW.region (RW.q rfl (q_move rfl) (RW.q (v := iV ((Lib.bitLen y : Nat) : Int)) rfl (q_call (args := #[.int .u64 (y : Int)]) oK rfl rfl (fun w1 hw1 => (Tryz.bits_Len64 (y : Nat) w1 (by omega) (by omega)).mono fun e w2 ⟨he, hw2⟩ => ⟨by rw [he, Int.toNat_natCast], by rw [hw2]; exact Bel.refl _ _⟩)) (RW.q (v := iV ((64 - Lib.bitLen y : Nat) : Int)) rfl (q_sub rfl rfl (by omega) (by unfold I64; omega)) ?_)))))))))
 refine RW.q (v := iV ((64 - Lib.bitLen y : Nat) : Int)) rfl (q_assign rfl) (RW.nil (Post.then_n (AW.ret ?_)))
 exact fin_val (v' := iV ((64 - Lib.bitLen y : Nat) : Int)) rfl rfl rfl (rfl)
theorem Div64_c (w : World) (Φ : Hp) (hΦ : Hp.le Φ (hp w)) {hi lo y : Nat} (hhi : hi < y) (hlo : lo < 18446744073709551616) (hy : y < 18446744073709551616) :
  Calls Tryz.prog 123 #[.int .u64 (hi : Int), .int .u64 (lo : Int), .int .u64 (y : Int)] w fun e w' => e = .returned (.tuple #[.int .u64 (((hi * 18446744073709551616 + lo) / y : Nat) : Int), .int .u64 (((hi * 18446744073709551616 + lo) % y : Nat) : Int)]) ∧ Bel w.heap.size w w' := by
 refine calls_of_AW (args := [.int .u64 (hi : Int), .int .u64 (lo : Int), .int .u64 (y : Int)]) Tryz.func123 rfl (lBT rfl) (St ⟨w, Φ, []⟩ Φ []) (StP.init w Φ hΦ []) ?_
 show AW Tryz.prog 135 [] _ _ _ [(0, .int .u64 (hi : Int)), (1, .int .u64 (lo : Int)), (2, .int .u64 (y : Int))] _
 refine AW.seq (AW.region (RW.q (v := .int .u64 ((0 : Nat) : Int)) rfl (q_assign rfl) (RW.q (v := .int .u64 ((0 : Nat) : Int)) rfl (q_assign rfl) (RW.nil (Post.then_n (AW.seq (AW.seq (AW.region (RW.q rfl (q_move rfl) ?_)))))))))
 refine RW.q (v := .bool (decide ((y : Int) = ((0 : Nat) : Int)))) rfl (q_eql rfl rfl) (RW.nil (Post.then_n (AW.cond (b := decide ((y : Int) = ((0 : Nat) : Int))) rfl (fun hc1 => ?_) (fun hc1 => ?_))))
 ·
  simp [-List.getD_eq_getElem?_getD] at hc1
  omega
 ·
  simp [-List.getD_eq_getElem?_getD] at hc1
  refine AW.skip (Post.then_n (AW.seq (AW.seq (AW.region (RW.q rfl (q_move rfl) (RW.q rfl (q_move rfl) (RW.q (v := .bool (decide ((y : Int) ≤ (hi : Int)))) rfl (q_leq rfl rfl) (RW.nil (Post.then_n ?_)))))))))
  refine AW.cond (b := decide ((y : Int) ≤ (hi : Int))) rfl (fun hc2 => ?_) (fun hc2 => ?_)
  ·
   simp [-List.getD_eq_getElem?_getD] at hc2
   omega
  ·
   simp [-List.getD_eq_getElem?_getD] at hc2
   refine AW.skip (Post.then_n (AW.seq (AW.seq (AW.region (RW.q rfl (q_move rfl) (RW.q (v := .bool (decide ((hi : Int) = ((0 : Nat) : Int)))) rfl (q_eql rfl rfl) (RW.nil (Post.then_n (AW.cond (b := decide ((hi : Int) = ((0 : Nat) : Int))) rfl (fun hc3 => ?_) (fun hc3 => ?_))))))))))
   ·
    simp [-List.getD_eq_getElem?_getD] at hc3
    refine AW.seq (AW.draw (J0 := St ⟨w, Φ, []⟩ Φ []) [.q, .q, .q, .q, .q, .q, .q, .q] [0, 1, 2, 3, 4, 5, 6, 7] hmix (by kernel_rfl) (DW.q (fun _ h => h) rfl (q_move rfl) (DW.q (fun _ h => h) rfl (q_move rfl) (DW.q (v := .int .u64 ((lo / y : Nat) : Int)) (fun _ h => h) rfl (q_quoU (a := lo) (b := y) rfl rfl (by omega) (by omega)) (DW.q (fun _ h => h) rfl (q_move rfl) (DW.q (fun _ h => h) rfl (q_move rfl) (DW.q (v := .int .u64 ((lo % y : Nat) : Int)) (fun _ h => h) rfl (q_remU (a := lo) (b := y) rfl rfl (by omega)) (DW.q (v := .int .u64 ((lo / y : Nat) : Int)) (fun _ h => h) rfl (q_assign rfl) (DW.q (v := .int .u64 ((lo % y : Nat) : Int)) (fun _ h => h) rfl (q_assign rfl) ?_)))))))))
    refine DW.nil (Post.then_n (AW.ret (Post.then_r (fin_out2 (v := .int .u64 ((lo / y : Nat) : Int)) (u := .int .u64 ((lo % y : Nat) : Int)) rfl rfl rfl rfl (fun w' hw => ?_)))))
    refine ⟨?_, hw.below rfl⟩
    have hi0 : hi = 0 := by omega
    rw [hi0, Nat.zero_mul, Nat.zero_add]
   ·
    simp [-List.getD_eq_getElem?_getD] at hc3
    refine AW.skip (Post.then_n (AW.seq ?_))
    have hy0 : 0 < y := by omega
    obtain ⟨hl1, hl2, hl3, hl4⟩ := bitLen_b hy0 hy
    obtain ⟨sh, hsh⟩ : ∃ sh, 64 - Lib.bitLen y = sh := ⟨_, rfl⟩
    have hs64 : sh ≤ 64 := by omega
    obtain ⟨Y, hY⟩ : ∃ Y, y * 2 ^ sh = Y := ⟨_, rfl⟩
    have hnz := Nums.le_of_lz hl3 hl4 hl1 hl2
    rw [hsh, hY] at hnz
    obtain ⟨hj1, hj2⟩ := joinU (hi := hi) hs64 hlo
    have hlq0 := Nat.zero_le (lo / 2 ^ (64 - sh))
    obtain ⟨U, hU⟩ : ∃ U, hi * 2 ^ sh + lo / 2 ^ (64 - sh) = U := ⟨_, rfl⟩
    have hhY : hi * 2 ^ sh + 2 ^ sh ≤ Y := by rw [← hY]; have := Nat.mul_le_mul_right (2 ^ sh) (show hi + 1 ≤ y by omega); rwa [Nat.add_mul, Nat.one_mul] at this
    have hUY : U < Y := by omega
    obtain ⟨V, hV⟩ : ∃ V, lo * 2 ^ sh % 18446744073709551616 = V := ⟨_, rfl⟩
    have hVl : V < 18446744073709551616 := by rw [← hV]; exact Nat.mod_lt _ (by omega)
    obtain ⟨Y1, hY1⟩ : ∃ n, Y / 4294967296 = n := ⟨_, rfl⟩
    obtain ⟨Y0, hY0⟩ : ∃ n, Y % 4294967296 = n := ⟨_, rfl⟩
    obtain ⟨W1, hW1⟩ : ∃ n, V / 4294967296 = n := ⟨_, rfl⟩
    obtain ⟨W0, hW0⟩ : ∃ n, V % 4294967296 = n := ⟨_, rfl⟩
    have hyd : Y = Y1 * 4294967296 + Y0 := by omega
    obtain ⟨Q1, hQ1⟩ : ∃ Q1, (U * 4294967296 + W1) / Y = Q1 := ⟨_, rfl⟩
    obtain ⟨R1, hR1⟩ : ∃ R1, (U * 4294967296 + W1) % Y = R1 := ⟨_, rfl⟩
    have hRY : R1 < Y := by rw [← hR1]; exact Nat.mod_lt _ (by omega)
    obtain ⟨Q0, hQ0⟩ : ∃ Q0, (R1 * 4294967296 + W0) / Y = Q0 := ⟨_, rfl⟩
    obtain ⟨R0, hR0⟩ : ∃ R0, (R1 * 4294967296 + W0) % Y = R0 := ⟨_, rfl⟩
    have hQ1l : Q1 < 4294967296 := by rw [← hQ1, Nat.div_lt_iff_lt_mul (by omega)]; omega
    have hQ0l : Q0 < 4294967296 := by rw [← hQ0, Nat.div_lt_iff_lt_mul (by omega)]; omega
    have hy1p : 0 < Y1 := by omega
    refine AW.region (RW.q rfl (q_move rfl) (RW.q (v := iV (sh : Int)) rfl (q_as (v := iV ((64 - Lib.bitLen y : Nat) : Int)) (q_call (args := #[.int .u64 (y : Int)]) oK rfl rfl (fun w1 hw1 => LeadingZeros64_c w1 (Go.K.hp w1) (Hp.le_refl _) (by omega) (by omega))) (congrArg (Value.int .i64) (by rw [hsh]))) (RW.q (v := .int .u64 (sh : Int)) rfl (q_toU (r := sh) rfl Tryz.underlying3 Tryz.underlying184 rfl (by omega)) (RW.q (v := .int .u64 (sh : Int)) rfl (q_assign rfl) (RW.nil (Post.then_n (AW.seq (AW.region (RW.q rfl (q_move rfl) ?_)))))))))
    refine RW.q rfl (q_move rfl) (RW.q (v := .int .u64 (Y : Int)) rfl (q_shlU (a := y) (c := sh) rfl rfl (by omega) (by rw [hY]; exact Nat.mod_eq_of_lt (by omega))) (RW.q (v := .int .u64 (Y : Int)) rfl (q_assign rfl) (RW.nil (Post.then_n (AW.seq (AW.region (RW.q rfl (q_move rfl) (RW.q (v := .int .u64 (Y1 : Int)) rfl (q_as (v := .int .u64 ((Y / 4294967296 : Nat) : Int)) (q_shr32U (a := Y) rfl rfl) (congrArg (Value.int .u64) (by rw [hY1]))) (RW.q (v := .int .u64 (Y1 : Int)) rfl (q_assign rfl) ?_)))))))))
    refine RW.nil (Post.then_n (AW.seq (AW.region (RW.q rfl (q_move rfl) (RW.q (v := .int .u64 (Y0 : Int)) rfl (q_as (v := .int .u64 ((Y % 4294967296 : Nat) : Int)) (q_maskU (a := Y) rfl rfl (by omega)) (congrArg (Value.int .u64) (by rw [hY0]))) (RW.q (v := .int .u64 (Y0 : Int)) rfl (q_assign rfl) (RW.nil (Post.then_n (AW.seq ?_)))))))))
    refine AW.region (RW.q rfl (q_move rfl) (RW.q rfl (q_move rfl) (RW.q (v := .int .u64 ((hi * 2 ^ sh : Nat) : Int)) rfl (q_shlU (a := hi) (c := sh) rfl rfl (by omega) (Nat.mod_eq_of_lt (by omega))) (RW.q rfl (q_move rfl) (RW.q rfl (q_move rfl) (RW.q (v := .int .u64 ((64 - sh : Nat) : Int)) rfl (q_subU (a := 64) (b := sh) rfl rfl (by omega)) (RW.q (v := .int .u64 ((lo / 2 ^ (64 - sh) : Nat) : Int)) rfl (q_shrU' (a := lo) (c := (64 - sh)) rfl rfl (by omega)) (RW.q (v := .int .u64 (U : Int)) rfl (q_as (v := .int .u64 (((hi * 2 ^ sh) ||| (lo / 2 ^ (64 - sh)) : Nat) : Int)) (q_orU (a := (hi * 2 ^ sh)) (b := (lo / 2 ^ (64 - sh))) rfl rfl (by omega) (by have := Nat.div_le_self lo (2 ^ (64 - sh)); omega)) (congrArg (Value.int .u64) (by rw [hj1, hU]))) (RW.q (v := .int .u64 (U : Int)) rfl (q_assign rfl) ?_)))))))))
    refine RW.nil (Post.then_n (AW.seq (AW.region (RW.q rfl (q_move rfl) (RW.q rfl (q_move rfl) (RW.q (v := .int .u64 (V : Int)) rfl (q_shlU (a := lo) (c := sh) rfl rfl (by omega) hV) (RW.q (v := .int .u64 (V : Int)) rfl (q_assign rfl) (RW.nil (Post.then_n ?_)))))))))
    refine AW.seq (AW.region (RW.q rfl (q_move rfl) (RW.q (v := .int .u64 (W1 : Int)) rfl (q_as (v := .int .u64 ((V / 4294967296 : Nat) : Int)) (q_shr32U (a := V) rfl rfl) (congrArg (Value.int .u64) (by rw [hW1]))) (RW.q (v := .int .u64 (W1 : Int)) rfl (q_assign rfl) (RW.nil (Post.then_n (AW.seq (AW.region (RW.q rfl (q_move rfl) ?_)))))))))
    refine RW.q (v := .int .u64 (W0 : Int)) rfl (q_as (v := .int .u64 ((V % 4294967296 : Nat) : Int)) (q_maskU (a := V) rfl rfl (by omega)) (congrArg (Value.int .u64) (by rw [hW0]))) (RW.q (v := .int .u64 (W0 : Int)) rfl (q_assign rfl) (RW.nil (Post.then_n (AW.seq ?_))))
    have hf1 := Nums.kn_first (u := U) (d := W1) hyd hy1p (by omega)
    rw [hQ1] at hf1
    have hf2 := Nums.kn_top (u := U) (B := 4294967296) hyd (by omega) (by omega) hUY hy1p
    have hf3 : U / (Y1) * (Y1) ≤ U := Nat.div_mul_le_self _ _
    have hf4 : U / (Y1) * (Y1) + U % (Y1) = U := Nat.div_add_mod' _ _
    have hf5 : U % (Y1) < Y1 := Nat.mod_lt _ hy1p
    refine AW.region (RW.q rfl (q_move rfl) (RW.q rfl (q_move rfl) (RW.q (v := .int .u64 ((U / Y1 : Nat) : Int)) rfl (q_quoU (a := U) (b := Y1) rfl rfl (by omega) (by omega)) (RW.q (v := .int .u64 ((U / Y1 : Nat) : Int)) rfl (q_assign rfl) (RW.nil (Post.then_n (AW.seq (AW.region (RW.q rfl (q_move rfl) ?_)))))))))
    refine RW.q rfl (q_move rfl) (RW.q rfl (q_move rfl) (RW.q (v := .int .u64 (((U / Y1) * Y1 : Nat) : Int)) rfl (q_mulU (a := (U / Y1)) (b := Y1) rfl rfl (Nat.mod_eq_of_lt (by omega))) (RW.q (v := .int .u64 ((U % (Y1) : Nat) : Int)) rfl (q_as (v := .int .u64 ((U - ((U / Y1) * Y1) : Nat) : Int)) (q_subU (a := U) (b := ((U / Y1) * Y1)) rfl rfl (by omega)) (congrArg (Value.int .u64) (by omega))) (RW.q (v := .int .u64 ((U % (Y1) : Nat) : Int)) rfl (q_assign rfl) (RW.nil (Post.then_n (AW.seq (AW.block (AW.loop (fun s J m => ∃ (q : Nat), ∃ (r : Nat), s = [(2, .int .u64 (Y : Int)), (8, .int .u64 (sh : Int)), (9, .int .u64 (Y1 : Int)), (10, .int .u64 (Y0 : Int)), (11, .int .u64 (U : Int)), (13, .int .u64 (W1 : Int)), (14, .int .u64 (W0 : Int)), (15, .int .u64 (q : Int)), (16, .int .u64 (r : Int))] ∧ J = St ⟨w, Φ, []⟩ Φ [] ∧ m = q + 0 * q ∧ (q * (Y1) + r = U) ∧ (Q1 ≤ q) ∧ (q ≤ 4294967296 + 1) ∧ (r < 4294967296)) (s0 := _) (J1 := _) (m0 := _) ⟨_, _, rfl, rfl, rfl, hf4, hf1, hf2, (by omega)⟩ ⟨rfl, rfl, rfl, rfl, rfl, rfl, rfl, rfl, rfl, trivial⟩ (fun _ h => h) ?_)))))))))
    rintro _ _ _ _ ⟨q, r, rfl, rfl, rfl, hq, hQ, hqB, hr⟩
    refine AW.seq (AW.seq ?_)
    have hm9 : q * (Y0) ≤ (4294967296 + 1) * 4294967295 := Nat.mul_le_mul (by omega) (by omega)
    refine AW.region (RW.q rfl (q_move rfl) (RW.q (v := .bool (decide (((4294967296 : Nat) : Int) ≤ (q : Int)))) rfl (q_geq rfl rfl) (RW.q rfl (q_move rfl) (RW.g (b := (decide (((4294967296 : Nat) : Int) ≤ (q : Int)))) (v := .int .u64 (q : Int)) rfl rfl rfl (fun h => q_move rfl) (RW.g (b := (decide (((4294967296 : Nat) : Int) ≤ (q : Int)))) (v := .int .u64 (Y0 : Int)) rfl rfl rfl (fun h => q_move rfl) (RW.g (b := (decide (((4294967296 : Nat) : Int) ≤ (q : Int)))) (v := .int .u64 ((q * Y0 : Nat) : Int)) rfl rfl rfl (fun h => q_mulU (a := q) (b := Y0) (gv_pos h) (gv_pos h) (Nat.mod_eq_of_lt (by (try simp [-List.getD_eq_getElem?_getD] at h); omega))) ?_))))))
    refine RW.g (b := (decide (((4294967296 : Nat) : Int) ≤ (q : Int)))) (v := .int .u64 (r : Int)) rfl rfl rfl (fun h => q_move rfl) (RW.g (b := (decide (((4294967296 : Nat) : Int) ≤ (q : Int)))) (v := .int .u64 ((4294967296 * r : Nat) : Int)) rfl rfl rfl (fun h => q_mulU (a := 4294967296) (b := r) rfl (gv_pos h) (Nat.mod_eq_of_lt (by (try simp [-List.getD_eq_getElem?_getD] at h); omega))) ?_)
    refine RW.g (b := (decide (((4294967296 : Nat) : Int) ≤ (q : Int)))) (v := .int .u64 (W1 : Int)) rfl rfl rfl (fun h => q_move rfl) (RW.g (b := (decide (((4294967296 : Nat) : Int) ≤ (q : Int)))) (v := .int .u64 (((4294967296 * r) + W1 : Nat) : Int)) rfl rfl rfl (fun h => q_addU (a := (4294967296 * r)) (b := W1) (gv_pos h) (gv_pos h) (Nat.mod_eq_of_lt (by (try simp [-List.getD_eq_getElem?_getD] at h); omega))) ?_)
    refine RW.g (b := (decide (((4294967296 : Nat) : Int) ≤ (q : Int)))) (v := .bool (decide ((((4294967296 * r) + W1 : Nat) : Int) < ((q * Y0 : Nat) : Int)))) rfl rfl rfl (fun h => q_gtr (gv_pos h) (gv_pos h)) ?_
    obtain ⟨qb1, hqb1⟩ : ∃ qz : Bool, ((decide (((4294967296 : Nat) : Int) ≤ (q : Int))) || (decide ((((4294967296 * r) + W1 : Nat) : Int) < ((q * Y0 : Nat) : Int)))) = qz := ⟨_, rfl⟩
    refine RW.q (v := .bool qb1) rfl (q_as (v := .bool ((decide (((4294967296 : Nat) : Int) ≤ (q : Int))) || (decide ((((4294967296 * r) + W1 : Nat) : Int) < ((q * Y0 : Nat) : Int))))) (qpO rfl rfl rfl) (congrArg Value.bool hqb1)) ?_
    subst hqb1
    refine RW.nil (Post.then_n (AW.cond (b := ((decide (((4294967296 : Nat) : Int) ≤ (q : Int))) || (decide ((((4294967296 * r) + W1 : Nat) : Int) < ((q * Y0 : Nat) : Int))))) rfl (fun hc4 => ?_) (fun hc4 => ?_)))
    ·
     simp [-List.getD_eq_getElem?_getD] at hc4
     refine AW.skip (Post.then_n (AW.block (AW.seq ?_)))
     have hdn := Nums.kn_down (d := W1) hyd hq hUY (by omega) (by rw [hQ1]; exact hQ) (by omega)
     rw [hQ1] at hdn
     refine AW.region (RW.q rfl (q_move rfl) (RW.q (v := .int .u64 ((q - 1 : Nat) : Int)) rfl (q_subU (a := q) (b := 1) rfl rfl (by omega)) (RW.q (v := .int .u64 ((q - 1 : Nat) : Int)) rfl (q_assign rfl) (RW.nil (Post.then_n (AW.seq (AW.region (RW.q rfl (q_move rfl) (RW.q rfl (q_move rfl) ?_)))))))))
     refine RW.q (v := .int .u64 ((r + Y1 : Nat) : Int)) rfl (q_addU (a := r) (b := Y1) rfl rfl (Nat.mod_eq_of_lt (by omega))) (RW.q (v := .int .u64 ((r + Y1 : Nat) : Int)) rfl (q_assign rfl) (RW.nil (Post.then_n (AW.seq (AW.region (RW.q rfl (q_move rfl) (RW.q (v := .bool (decide (((4294967296 : Nat) : Int) ≤ ((r + Y1 : Nat) : Int)))) rfl (q_geq rfl rfl) (RW.nil (Post.then_n ?_)))))))))
     refine AW.cond (b := decide (((4294967296 : Nat) : Int) ≤ ((r + Y1 : Nat) : Int))) rfl (fun hc5 => ?_) (fun hc5 => ?_)
     ·
      simp [-List.getD_eq_getElem?_getD] at hc5
      refine AW.exit (Post.blk_miss rfl (Post.then_x (Post.blk_hit (Post.then_n ?_))))
      refine AW.seq ?_
      have hqe : q - 1 = Q1 := by
       have hp9 := Nums.kn_end (d := W1) (q := q - 1) (r := r + Y1) hyd (kn_dec hq hdn.1) hUY (by rw [hQ1]; exact hdn.2) (Nums.kn_break (by omega) (by omega) (by omega))
       rw [hp9, hQ1]
      rw [hqe]
      obtain ⟨ha1, hb1⟩ := Nums.kn_rest (u := U) (d := W1) (y := Y) (B := 4294967296) (M := 18446744073709551616) (by omega) (by omega)
      rw [hQ1, hR1] at hb1
      refine AW.region (RW.q rfl (q_move rfl) (RW.q (v := .int .u64 ((U * 4294967296 % 18446744073709551616 : Nat) : Int)) rfl (q_mulU (a := U) (b := 4294967296) rfl rfl rfl) (RW.q rfl (q_move rfl) (RW.q (v := .int .u64 (((U * 4294967296 % 18446744073709551616 + W1) % 18446744073709551616 : Nat) : Int)) rfl (q_addU (a := (U * 4294967296 % 18446744073709551616)) (b := W1) rfl rfl rfl) (RW.q rfl (q_move rfl) (RW.q rfl (q_move rfl) (RW.q (v := .int .u64 ((Q1 * Y % 18446744073709551616 : Nat) : Int)) rfl (q_mulU (a := Q1) (b := Y) rfl rfl rfl) (RW.q (v := .int .u64 (R1 : Int)) rfl (q_subU (a := ((U * 4294967296 % 18446744073709551616 + W1) % 18446744073709551616)) (b := (Q1 * Y % 18446744073709551616)) rfl rfl (by rw [ha1]; exact hb1)) (RW.q (v := .int .u64 (R1 : Int)) rfl (q_assign rfl) ?_)))))))))
      refine RW.nil (Post.then_n (AW.seq ?_))
      have hf1 := Nums.kn_first (u := R1) (d := W0) hyd hy1p (by omega)
      rw [hQ0] at hf1
      have hf2 := Nums.kn_top (u := R1) (B := 4294967296) hyd (by omega) (by omega) hRY hy1p
      have hf3 : R1 / (Y1) * (Y1) ≤ R1 := Nat.div_mul_le_self _ _
      have hf4 : R1 / (Y1) * (Y1) + R1 % (Y1) = R1 := Nat.div_add_mod' _ _
      have hf5 : R1 % (Y1) < Y1 := Nat.mod_lt _ hy1p
      refine AW.region (RW.q rfl (q_move rfl) (RW.q rfl (q_move rfl) (RW.q (v := .int .u64 ((R1 / Y1 : Nat) : Int)) rfl (q_quoU (a := R1) (b := Y1) rfl rfl (by omega) (by omega)) (RW.q (v := .int .u64 ((R1 / Y1 : Nat) : Int)) rfl (q_assign rfl) (RW.nil (Post.then_n (AW.seq (AW.region (RW.q rfl (q_move rfl) ?_)))))))))
      refine RW.q rfl (q_move rfl) (RW.q rfl (q_move rfl) (RW.q (v := .int .u64 (((R1 / Y1) * Y1 : Nat) : Int)) rfl (q_mulU (a := (R1 / Y1)) (b := Y1) rfl rfl (Nat.mod_eq_of_lt (by omega))) (RW.q (v := .int .u64 ((R1 % (Y1) : Nat) : Int)) rfl (q_as (v := .int .u64 ((R1 - ((R1 / Y1) * Y1) : Nat) : Int)) (q_subU (a := R1) (b := ((R1 / Y1) * Y1)) rfl rfl (by omega)) (congrArg (Value.int .u64) (by omega))) (RW.q (v := .int .u64 ((R1 % (Y1) : Nat) : Int)) rfl (q_assign rfl) (RW.nil (Post.then_n (AW.seq (AW.block (AW.loop (fun s J m => ∃ (q : Nat), ∃ (r : Nat), s = [(2, .int .u64 (Y : Int)), (8, .int .u64 (sh : Int)), (9, .int .u64 (Y1 : Int)), (10, .int .u64 (Y0 : Int)), (13, .int .u64 (W1 : Int)), (14, .int .u64 (W0 : Int)), (15, .int .u64 (Q1 : Int)), (17, .int .u64 (R1 : Int)), (18, .int .u64 (q : Int)), (16, .int .u64 (r : Int))] ∧ J = St ⟨w, Φ, []⟩ Φ [] ∧ m = q + 0 * q ∧ (q * (Y1) + r = R1) ∧ (Q0 ≤ q) ∧ (q ≤ 4294967296 + 1) ∧ (r < 4294967296)) (s0 := _) (J1 := _) (m0 := _) ⟨_, _, rfl, rfl, rfl, hf4, hf1, hf2, (by omega)⟩ ⟨rfl, rfl, rfl, rfl, rfl, rfl, rfl, rfl, rfl, rfl, trivial⟩ (fun _ h => h) ?_)))))))))
      rintro _ _ _ _ ⟨q, r, rfl, rfl, rfl, hq, hQ, hqB, hr⟩
      refine AW.seq (AW.seq ?_)
      have hm9 : q * (Y0) ≤ (4294967296 + 1) * 4294967295 := Nat.mul_le_mul (by omega) (by omega)
      refine AW.region (RW.q rfl (q_move rfl) (RW.q (v := .bool (decide (((4294967296 : Nat) : Int) ≤ (q : Int)))) rfl (q_geq rfl rfl) (RW.q rfl (q_move rfl) (RW.g (b := (decide (((4294967296 : Nat) : Int) ≤ (q : Int)))) (v := .int .u64 (q : Int)) rfl rfl rfl (fun h => q_move rfl) (RW.g (b := (decide (((4294967296 : Nat) : Int) ≤ (q : Int)))) (v := .int .u64 (Y0 : Int)) rfl rfl rfl (fun h => q_move rfl) (RW.g (b := (decide (((4294967296 : Nat) : Int) ≤ (q : Int)))) (v := .int .u64 ((q * Y0 : Nat) : Int)) rfl rfl rfl (fun h => q_mulU (a := q) (b := Y0) (gv_pos h) (gv_pos h) (Nat.mod_eq_of_lt (by (try simp [-List.getD_eq_getElem?_getD] at h); omega))) ?_))))))
      refine RW.g (b := (decide (((4294967296 : Nat) : Int) ≤ (q : Int)))) (v := .int .u64 (r : Int)) rfl rfl rfl (fun h => q_move rfl) (RW.g (b := (decide (((4294967296 : Nat) : Int) ≤ (q : Int)))) (v := .int .u64 ((4294967296 * r : Nat) : Int)) rfl rfl rfl (fun h => q_mulU (a := 4294967296) (b := r) rfl (gv_pos h) (Nat.mod_eq_of_lt (by (try simp [-List.getD_eq_getElem?_getD] at h); omega))) ?_)
      refine RW.g (b := (decide (((4294967296 : Nat) : Int) ≤ (q : Int)))) (v := .int .u64 (W0 : Int)) rfl rfl rfl (fun h => q_move rfl) (RW.g (b := (decide (((4294967296 : Nat) : Int) ≤ (q : Int)))) (v := .int .u64 (((4294967296 * r) + W0 : Nat) : Int)) rfl rfl rfl (fun h => q_addU (a := (4294967296 * r)) (b := W0) (gv_pos h) (gv_pos h) (Nat.mod_eq_of_lt (by (try simp [-List.getD_eq_getElem?_getD] at h); omega))) ?_)
      refine RW.g (b := (decide (((4294967296 : Nat) : Int) ≤ (q : Int)))) (v := .bool (decide ((((4294967296 * r) + W0 : Nat) : Int) < ((q * Y0 : Nat) : Int)))) rfl rfl rfl (fun h => q_gtr (gv_pos h) (gv_pos h)) ?_
      obtain ⟨qb2, hqb2⟩ : ∃ qz : Bool, ((decide (((4294967296 : Nat) : Int) ≤ (q : Int))) || (decide ((((4294967296 * r) + W0 : Nat) : Int) < ((q * Y0 : Nat) : Int)))) = qz := ⟨_, rfl⟩
      refine RW.q (v := .bool qb2) rfl (q_as (v := .bool ((decide (((4294967296 : Nat) : Int) ≤ (q : Int))) || (decide ((((4294967296 * r) + W0 : Nat) : Int) < ((q * Y0 : Nat) : Int))))) (qpO rfl rfl rfl) (congrArg Value.bool hqb2)) ?_
      subst hqb2
      refine RW.nil (Post.then_n (AW.cond (b := ((decide (((4294967296 : Nat) : Int) ≤ (q : Int))) || (decide ((((4294967296 * r) + W0 : Nat) : Int) < ((q * Y0 : Nat) : Int))))) rfl (fun hc6 => ?_) (fun hc6 => ?_)))
      ·
       simp [-List.getD_eq_getElem?_getD] at hc6
       refine AW.skip (Post.then_n (AW.block (AW.seq ?_)))
       have hdn := Nums.kn_down (d := W0) hyd hq hRY (by omega) (by rw [hQ0]; exact hQ) (by omega)
       rw [hQ0] at hdn
       refine AW.region (RW.q rfl (q_move rfl) (RW.q (v := .int .u64 ((q - 1 : Nat) : Int)) rfl (q_subU (a := q) (b := 1) rfl rfl (by omega)) (RW.q (v := .int .u64 ((q - 1 : Nat) : Int)) rfl (q_assign rfl) (RW.nil (Post.then_n (AW.seq (AW.region (RW.q rfl (q_move rfl) (RW.q rfl (q_move rfl) ?_)))))))))
       refine RW.q (v := .int .u64 ((r + Y1 : Nat) : Int)) rfl (q_addU (a := r) (b := Y1) rfl rfl (Nat.mod_eq_of_lt (by omega))) (RW.q (v := .int .u64 ((r + Y1 : Nat) : Int)) rfl (q_assign rfl) (RW.nil (Post.then_n (AW.seq (AW.region (RW.q rfl (q_move rfl) (RW.q (v := .bool (decide (((4294967296 : Nat) : Int) ≤ ((r + Y1 : Nat) : Int)))) rfl (q_geq rfl rfl) (RW.nil (Post.then_n ?_)))))))))
       refine AW.cond (b := decide (((4294967296 : Nat) : Int) ≤ ((r + Y1 : Nat) : Int))) rfl (fun hc7 => ?_) (fun hc7 => ?_)
       ·
        simp [-List.getD_eq_getElem?_getD] at hc7
        refine AW.exit (Post.blk_miss rfl (Post.then_x (Post.blk_hit (Post.then_n ?_))))
        refine AW.seq ?_
        have hqe : q - 1 = Q0 := by
         have hp9 := Nums.kn_end (d := W0) (q := q - 1) (r := r + Y1) hyd (kn_dec hq hdn.1) hRY (by rw [hQ0]; exact hdn.2) (Nums.kn_break (by omega) (by omega) (by omega))
         rw [hp9, hQ0]
        rw [hqe]
        obtain ⟨ha0, hb0⟩ := Nums.kn_rest (u := R1) (d := W0) (y := Y) (B := 4294967296) (M := 18446744073709551616) (by omega) (by omega)
        rw [hQ0, hR0] at hb0
        refine AW.region (RW.q rfl (q_move rfl) (RW.q (v := .int .u64 ((Q1 * 4294967296 : Nat) : Int)) rfl (q_mulU (a := Q1) (b := 4294967296) rfl rfl (Nat.mod_eq_of_lt (by omega))) (RW.q rfl (q_move rfl) (RW.q (v := .int .u64 (((Q1 * 4294967296) + Q0 : Nat) : Int)) rfl (q_addU (a := (Q1 * 4294967296)) (b := Q0) rfl rfl (Nat.mod_eq_of_lt (by omega))) (RW.q rfl (q_move rfl) (RW.q (v := .int .u64 ((R1 * 4294967296 % 18446744073709551616 : Nat) : Int)) rfl (q_mulU (a := R1) (b := 4294967296) rfl rfl rfl) (RW.q rfl (q_move rfl) (RW.q (v := .int .u64 (((R1 * 4294967296 % 18446744073709551616 + W0) % 18446744073709551616 : Nat) : Int)) rfl (q_addU (a := (R1 * 4294967296 % 18446744073709551616)) (b := W0) rfl rfl rfl) (RW.q rfl (q_move rfl) ?_)))))))))
        refine RW.q rfl (q_move rfl) (RW.q (v := .int .u64 ((Q0 * Y % 18446744073709551616 : Nat) : Int)) rfl (q_mulU (a := Q0) (b := Y) rfl rfl rfl) (RW.q (v := .int .u64 (R0 : Int)) rfl (q_subU (a := ((R1 * 4294967296 % 18446744073709551616 + W0) % 18446744073709551616)) (b := (Q0 * Y % 18446744073709551616)) rfl rfl (by rw [ha0]; exact hb0)) (RW.q rfl (q_move rfl) (RW.q (v := .int .u64 ((R0 / 2 ^ sh : Nat) : Int)) rfl (q_shrU' (a := R0) (c := sh) rfl rfl (by omega)) (RW.q (v := .int .u64 (((Q1 * 4294967296) + Q0 : Nat) : Int)) rfl (q_assign rfl) (RW.q (v := .int .u64 ((R0 / 2 ^ sh : Nat) : Int)) rfl (q_assign rfl) (RW.nil (Post.then_n (AW.ret ?_)))))))))
        refine fin_out2 (v := .int .u64 (((Q1 * 4294967296) + Q0 : Nat) : Int)) (u := .int .u64 ((R0 / 2 ^ sh : Nat) : Int)) rfl rfl rfl rfl (fun w' hw => ?_)
        refine ⟨?_, hw.below rfl⟩
        subst hW1 hW0
        have hfin := Nums.div128 (hi := hi) (lo := lo) (y := y) (u := U) (v := V) (y' := Y) (Q1 := Q1) (r1 := R1) (Q0 := Q0) hs64 hY.symm hU.symm hV.symm hy0 hQ1.symm hR1.symm hQ0.symm
        rw [hR0] at hfin
        rw [hfin.1, hfin.2]
       ·
        simp [-List.getD_eq_getElem?_getD] at hc7
        refine AW.skip (Post.blk_n ?_)
        exact Post.back (s' := _) (J' := _) (m' := _) (by omega) ⟨q - 1, r + Y1, rfl, rfl, rfl, (kn_dec hq hdn.1), hdn.2, (by omega), (by omega)⟩ ⟨rfl, rfl, rfl, rfl, rfl, rfl, rfl, rfl, rfl, rfl, trivial⟩ (fun _ h => h)
      ·
       simp [-List.getD_eq_getElem?_getD] at hc6
       refine AW.exit (Post.then_x (Post.then_x (Post.blk_hit (Post.then_n ?_))))
       refine AW.seq ?_
       have hqe : q = Q0 := by
        have hp9 := Nums.kn_end (d := W0) hyd hq hRY (by rw [hQ0]; exact hQ) (by omega)
        rw [hp9, hQ0]
       rw [hqe]
       obtain ⟨ha0, hb0⟩ := Nums.kn_rest (u := R1) (d := W0) (y := Y) (B := 4294967296) (M := 18446744073709551616) (by omega) (by omega)
       rw [hQ0, hR0] at hb0
       refine AW.region (RW.q rfl (q_move rfl) (RW.q (v := .int .u64 ((Q1 * 4294967296 : Nat) : Int)) rfl (q_mulU (a := Q1) (b := 4294967296) rfl rfl (Nat.mod_eq_of_lt (by omega))) (RW.q rfl (q_move rfl) (RW.q (v := .int .u64 (((Q1 * 4294967296) + Q0 : Nat) : Int)) rfl (q_addU (a := (Q1 * 4294967296)) (b := Q0) rfl rfl (Nat.mod_eq_of_lt (by omega))) (RW.q rfl (q_move rfl) (RW.q (v := .int .u64 ((R1 * 4294967296 % 18446744073709551616 : Nat) : Int)) rfl (q_mulU (a := R1) (b := 4294967296) rfl rfl rfl) (RW.q rfl (q_move rfl) (RW.q (v := .int .u64 (((R1 * 4294967296 % 18446744073709551616 + W0) % 18446744073709551616 : Nat) : Int)) rfl (q_addU (a := (R1 * 4294967296 % 18446744073709551616)) (b := W0) rfl rfl rfl) (RW.q rfl (q_move rfl) ?_)))))))))
       refine RW.q rfl (q_move rfl) (RW.q (v := .int .u64 ((Q0 * Y % 18446744073709551616 : Nat) : Int)) rfl (q_mulU (a := Q0) (b := Y) rfl rfl rfl) (RW.q (v := .int .u64 (R0 : Int)) rfl (q_subU (a := ((R1 * 4294967296 % 18446744073709551616 + W0) % 18446744073709551616)) (b := (Q0 * Y % 18446744073709551616)) rfl rfl (by rw [ha0]; exact hb0)) (RW.q rfl (q_move rfl) (RW.q (v := .int .u64 ((R0 / 2 ^ sh : Nat) : Int)) rfl (q_shrU' (a := R0) (c := sh) rfl rfl (by omega)) (RW.q (v := .int .u64 (((Q1 * 4294967296) + Q0 : Nat) : Int)) rfl (q_assign rfl) (RW.q (v := .int .u64 ((R0 / 2 ^ sh : Nat) : Int)) rfl (q_assign rfl) (RW.nil (Post.then_n (AW.ret ?_)))))))))
       refine fin_out2 (v := .int .u64 (((Q1 * 4294967296) + Q0 : Nat) : Int)) (u := .int .u64 ((R0 / 2 ^ sh : Nat) : Int)) rfl rfl rfl rfl (fun w' hw => ?_)
       refine ⟨?_, hw.below rfl⟩
       subst hW1 hW0
       have hfin := Nums.div128 (hi := hi) (lo := lo) (y := y) (u := U) (v := V) (y' := Y) (Q1 := Q1) (r1 := R1) (Q0 := Q0) hs64 hY.symm hU.symm hV.symm hy0 hQ1.symm hR1.symm hQ0.symm
       rw [hR0] at hfin
       rw [hfin.1, hfin.2]
     ·
      simp [-List.getD_eq_getElem?_getD] at hc5
      refine AW.skip (Post.blk_n ?_)
      exact Post.back (s' := _) (J' := _) (m' := _) (by omega) ⟨q - 1, r + Y1, rfl, rfl, rfl, (kn_dec hq hdn.1), hdn.2, (by omega), (by omega)⟩ ⟨rfl, rfl, rfl, rfl, rfl, rfl, rfl, rfl, rfl, trivial⟩ (fun _ h => h)
    ·
     simp [-List.getD_eq_getElem?_getD] at hc4
     refine AW.exit (Post.then_x (Post.then_x (Post.blk_hit (Post.then_n ?_))))
     refine AW.seq ?_
     have hqe : q = Q1 := by
      have hp9 := Nums.kn_end (d := W1) hyd hq hUY (by rw [hQ1]; exact hQ) (by omega)
      rw [hp9, hQ1]
     rw [hqe]
     obtain ⟨ha1, hb1⟩ := Nums.kn_rest (u := U) (d := W1) (y := Y) (B := 4294967296) (M := 18446744073709551616) (by omega) (by omega)
     rw [hQ1, hR1] at hb1
     refine AW.region (RW.q rfl (q_move rfl) (RW.q (v := .int .u64 ((U * 4294967296 % 18446744073709551616 : Nat) : Int)) rfl (q_mulU (a := U) (b := 4294967296) rfl rfl rfl) (RW.q rfl (q_move rfl) (RW.q (v := .int .u64 (((U * 4294967296 % 18446744073709551616 + W1) % 18446744073709551616 : Nat) : Int)) rfl (q_addU (a := (U * 4294967296 % 18446744073709551616)) (b := W1) rfl rfl rfl) (RW.q rfl (q_move rfl) (RW.q rfl (q_move rfl) (RW.q (v := .int .u64 ((Q1 * Y % 18446744073709551616 : Nat) : Int)) rfl (q_mulU (a := Q1) (b := Y) rfl rfl rfl) (RW.q (v := .int .u64 (R1 : Int)) rfl (q_subU (a := ((U * 4294967296 % 18446744073709551616 + W1) % 18446744073709551616)) (b := (Q1 * Y % 18446744073709551616)) rfl rfl (by rw [ha1]; exact hb1)) (RW.q (v := .int .u64 (R1 : Int)) rfl (q_assign rfl) ?_)))))))))
     refine RW.nil (Post.then_n (AW.seq ?_))
     have hf1 := Nums.kn_first (u := R1) (d := W0) hyd hy1p (by omega)
     rw [hQ0] at hf1
     have hf2 := Nums.kn_top (u := R1) (B := 4294967296) hyd (by omega) (by omega) hRY hy1p
     have hf3 : R1 / (Y1) * (Y1) ≤ R1 := Nat.div_mul_le_self _ _
     have hf4 : R1 / (Y1) * (Y1) + R1 % (Y1) = R1 := Nat.div_add_mod' _ _
     have hf5 : R1 % (Y1) < Y1 := Nat.mod_lt _ hy1p
     refine AW.region (RW.q rfl (q_move rfl) (RW.q rfl (q_move rfl) (RW.q (v := .int .u64 ((R1 / Y1 : Nat) : Int)) rfl (q_quoU (a := R1) (b := Y1) rfl rfl (by omega) (by omega)) (RW.q (v := .int .u64 ((R1 / Y1 : Nat) : Int)) rfl (q_assign rfl) (RW.nil (Post.then_n (AW.seq (AW.region (RW.q rfl (q_move rfl) ?_)))))))))
     refine RW.q rfl (q_move rfl) (RW.q rfl (q_move rfl) (RW.q (v := .int .u64 (((R1 / Y1) * Y1 : Nat) : Int)) rfl (q_mulU (a := (R1 / Y1)) (b := Y1) rfl rfl (Nat.mod_eq_of_lt (by omega))) (RW.q (v := .int .u64 ((R1 % (Y1) : Nat) : Int)) rfl (q_as (v := .int .u64 ((R1 - ((R1 / Y1) * Y1) : Nat) : Int)) (q_subU (a := R1) (b := ((R1 / Y1) * Y1)) rfl rfl (by omega)) (congrArg (Value.int .u64) (by omega))) (RW.q (v := .int .u64 ((R1 % (Y1) : Nat) : Int)) rfl (q_assign rfl) (RW.nil (Post.then_n (AW.seq (AW.block (AW.loop (fun s J m => ∃ (q : Nat), ∃ (r : Nat), s = [(2, .int .u64 (Y : Int)), (8, .int .u64 (sh : Int)), (9, .int .u64 (Y1 : Int)), (10, .int .u64 (Y0 : Int)), (13, .int .u64 (W1 : Int)), (14, .int .u64 (W0 : Int)), (15, .int .u64 (Q1 : Int)), (17, .int .u64 (R1 : Int)), (18, .int .u64 (q : Int)), (16, .int .u64 (r : Int))] ∧ J = St ⟨w, Φ, []⟩ Φ [] ∧ m = q + 0 * q ∧ (q * (Y1) + r = R1) ∧ (Q0 ≤ q) ∧ (q ≤ 4294967296 + 1) ∧ (r < 4294967296)) (s0 := _) (J1 := _) (m0 := _) ⟨_, _, rfl, rfl, rfl, hf4, hf1, hf2, (by omega)⟩ ⟨rfl, rfl, rfl, rfl, rfl, rfl, rfl, rfl, rfl, rfl, trivial⟩ (fun _ h => h) ?_)))))))))
     rintro _ _ _ _ ⟨q, r, rfl, rfl, rfl, hq, hQ, hqB, hr⟩
     refine AW.seq (AW.seq ?_)
     have hm9 : q * (Y0) ≤ (4294967296 + 1) * 4294967295 := Nat.mul_le_mul (by omega) (by omega)
     refine AW.region (RW.q rfl (q_move rfl) (RW.q (v := .bool (decide (((4294967296 : Nat) : Int) ≤ (q : Int)))) rfl (q_geq rfl rfl) (RW.q rfl (q_move rfl) (RW.g (b := (decide (((4294967296 : Nat) : Int) ≤ (q : Int)))) (v := .int .u64 (q : Int)) rfl rfl rfl (fun h => q_move rfl) (RW.g (b := (decide (((4294967296 : Nat) : Int) ≤ (q : Int)))) (v := .int .u64 (Y0 : Int)) rfl rfl rfl (fun h => q_move rfl) (RW.g (b := (decide (((4294967296 : Nat) : Int) ≤ (q : Int)))) (v := .int .u64 ((q * Y0 : Nat) : Int)) rfl rfl rfl (fun h => q_mulU (a := q) (b := Y0) (gv_pos h) (gv_pos h) (Nat.mod_eq_of_lt (by (try simp [-List.getD_eq_getElem?_getD] at h); omega))) ?_))))))
     refine RW.g (b := (decide (((4294967296 : Nat) : Int) ≤ (q : Int)))) (v := .int .u64 (r : Int)) rfl rfl rfl (fun h => q_move rfl) (RW.g (b := (decide (((4294967296 : Nat) : Int) ≤ (q : Int)))) (v := .int .u64 ((4294967296 * r : Nat) : Int)) rfl rfl rfl (fun h => q_mulU (a := 4294967296) (b := r) rfl (gv_pos h) (Nat.mod_eq_of_lt (by (try simp [-List.getD_eq_getElem?_getD] at h); omega))) ?_)
     refine RW.g (b := (decide (((4294967296 : Nat) : Int) ≤ (q : Int)))) (v := .int .u64 (W0 : Int)) rfl rfl rfl (fun h => q_move rfl) (RW.g (b := (decide (((4294967296 : Nat) : Int) ≤ (q : Int)))) (v := .int .u64 (((4294967296 * r) + W0 : Nat) : Int)) rfl rfl rfl (fun h => q_addU (a := (4294967296 * r)) (b := W0) (gv_pos h) (gv_pos h) (Nat.mod_eq_of_lt (by (try simp [-List.getD_eq_getElem?_getD] at h); omega))) ?_)
     refine RW.g (b := (decide (((4294967296 : Nat) : Int) ≤ (q : Int)))) (v := .bool (decide ((((4294967296 * r) + W0 : Nat) : Int) < ((q * Y0 : Nat) : Int)))) rfl rfl rfl (fun h => q_gtr (gv_pos h) (gv_pos h)) ?_
     obtain ⟨qb3, hqb3⟩ : ∃ qz : Bool, ((decide (((4294967296 : Nat) : Int) ≤ (q : Int))) || (decide ((((4294967296 * r) + W0 : Nat) : Int) < ((q * Y0 : Nat) : Int)))) = qz := ⟨_, rfl⟩
     refine RW.q (v := .bool qb3) rfl (q_as (v := .bool ((decide (((4294967296 : Nat) : Int) ≤ (q : Int))) || (decide ((((4294967296 * r) + W0 : Nat) : Int) < ((q * Y0 : Nat) : Int))))) (qpO rfl rfl rfl) (congrArg Value.bool hqb3)) ?_
     subst hqb3
     refine RW.nil (Post.then_n (AW.cond (b := ((decide (((4294967296 : Nat) : Int) ≤ (q : Int))) || (decide ((((4294967296 * r) + W0 : Nat) : Int) < ((q * Y0 : Nat) : Int))))) rfl (fun hc8 => ?_) (fun hc8 => ?_)))
     ·
      simp [-List.getD_eq_getElem?_getD] at hc8
      refine AW.skip (Post.then_n (AW.block (AW.seq ?_)))
      have hdn := Nums.kn_down (d := W0) hyd hq hRY (by omega) (by rw [hQ0]; exact hQ) (by omega)
      rw [hQ0] at hdn
      refine AW.region (RW.q rfl (q_move rfl) (RW.q (v := .int .u64 ((q - 1 : Nat) : Int)) rfl (q_subU (a := q) (b := 1) rfl rfl (by omega)) (RW.q (v := .int .u64 ((q - 1 : Nat) : Int)) rfl (q_assign rfl) (RW.nil (Post.then_n (AW.seq (AW.region (RW.q rfl (q_move rfl) (RW.q rfl (q_move rfl) ?_)))))))))
      refine RW.q (v := .int .u64 ((r + Y1 : Nat) : Int)) rfl (q_addU (a := r) (b := Y1) rfl rfl (Nat.mod_eq_of_lt (by omega))) (RW.q (v := .int .u64 ((r + Y1 : Nat) : Int)) rfl (q_assign rfl) (RW.nil (Post.then_n (AW.seq (AW.region (RW.q rfl (q_move rfl) (RW.q (v := .bool (decide (((4294967296 : Nat) : Int) ≤ ((r + Y1 : Nat) : Int)))) rfl (q_geq rfl rfl) (RW.nil (Post.then_n ?_)))))))))
      refine AW.cond (b := decide (((4294967296 : Nat) : Int) ≤ ((r + Y1 : Nat) : Int))) rfl (fun hc9 => ?_) (fun hc9 => ?_)
      ·
       simp [-List.getD_eq_getElem?_getD] at hc9
       refine AW.exit (Post.blk_miss rfl (Post.then_x (Post.blk_hit (Post.then_n ?_))))
       refine AW.seq ?_
       have hqe : q - 1 = Q0 := by
        have hp9 := Nums.kn_end (d := W0) (q := q - 1) (r := r + Y1) hyd (kn_dec hq hdn.1) hRY (by rw [hQ0]; exact hdn.2) (Nums.kn_break (by omega) (by omega) (by omega))
        rw [hp9, hQ0]
       rw [hqe]
       obtain ⟨ha0, hb0⟩ := Nums.kn_rest (u := R1) (d := W0) (y := Y) (B := 4294967296) (M := 18446744073709551616) (by omega) (by omega)
       rw [hQ0, hR0] at hb0
       refine AW.region (RW.q rfl (q_move rfl) (RW.q (v := .int .u64 ((Q1 * 4294967296 : Nat) : Int)) rfl (q_mulU (a := Q1) (b := 4294967296) rfl rfl (Nat.mod_eq_of_lt (by omega))) (RW.q rfl (q_move rfl) (RW.q (v := .int .u64 (((Q1 * 4294967296) + Q0 : Nat) : Int)) rfl (q_addU (a := (Q1 * 4294967296)) (b := Q0) rfl rfl (Nat.mod_eq_of_lt (by omega))) (RW.q rfl (q_move rfl) (RW.q (v := .int .u64 ((R1 * 4294967296 % 18446744073709551616 : Nat) : Int)) rfl (q_mulU (a := R1) (b := 4294967296) rfl rfl rfl) (RW.q rfl (q_move rfl) (RW.q (v := .int .u64 (((R1 * 4294967296 % 18446744073709551616 + W0) % 18446744073709551616 : Nat) : Int)) rfl (q_addU (a := (R1 * 4294967296 % 18446744073709551616)) (b := W0) rfl rfl rfl) (RW.q rfl (q_move rfl) ?_)))))))))
       refine RW.q rfl (q_move rfl) (RW.q (v := .int .u64 ((Q0 * Y % 18446744073709551616 : Nat) : Int)) rfl (q_mulU (a := Q0) (b := Y) rfl rfl rfl) (RW.q (v := .int .u64 (R0 : Int)) rfl (q_subU (a := ((R1 * 4294967296 % 18446744073709551616 + W0) % 18446744073709551616)) (b := (Q0 * Y % 18446744073709551616)) rfl rfl (by rw [ha0]; exact hb0)) (RW.q rfl (q_move rfl) (RW.q (v := .int .u64 ((R0 / 2 ^ sh : Nat) : Int)) rfl (q_shrU' (a := R0) (c := sh) rfl rfl (by omega)) (RW.q (v := .int .u64 (((Q1 * 4294967296) + Q0 : Nat) : Int)) rfl (q_assign rfl) (RW.q (v := .int .u64 ((R0 / 2 ^ sh : Nat) : Int)) rfl (q_assign rfl) (RW.nil (Post.then_n (AW.ret ?_)))))))))
       refine fin_out2 (v := .int .u64 (((Q1 * 4294967296) + Q0 : Nat) : Int)) (u := .int .u64 ((R0 / 2 ^ sh : Nat) : Int)) rfl rfl rfl rfl (fun w' hw => ?_)
       refine ⟨?_, hw.below rfl⟩
       subst hW1 hW0
       have hfin := Nums.div128 (hi := hi) (lo := lo) (y := y) (u := U) (v := V) (y' := Y) (Q1 := Q1) (r1 := R1) (Q0 := Q0) hs64 hY.symm hU.symm hV.symm hy0 hQ1.symm hR1.symm hQ0.symm
       rw [hR0] at hfin
       rw [hfin.1, hfin.2]
      ·
       simp [-List.getD_eq_getElem?_getD] at hc9
       refine AW.skip (Post.blk_n ?_)
       exact Post.back (s' := _) (J' := _) (m' := _) (by omega) ⟨q - 1, r + Y1, rfl, rfl, rfl, (kn_dec hq hdn.1), hdn.2, (by omega), (by omega)⟩ ⟨rfl, rfl, rfl, rfl, rfl, rfl, rfl, rfl, rfl, rfl, trivial⟩ (fun _ h => h)
     ·
      simp [-List.getD_eq_getElem?_getD] at hc8
      refine AW.exit (Post.then_x (Post.then_x (Post.blk_hit (Post.then_n ?_))))
      refine AW.seq ?_
      have hqe : q = Q0 := by
       have hp9 := Nums.kn_end (d := W0) hyd hq hRY (by rw [hQ0]; exact hQ) (by omega)
       rw [hp9, hQ0]
      rw [hqe]
      obtain ⟨ha0, hb0⟩ := Nums.kn_rest (u := R1) (d := W0) (y := Y) (B := 4294967296) (M := 18446744073709551616) (by omega) (by omega)
      rw [hQ0, hR0] at hb0
      refine AW.region (RW.q rfl (q_move rfl) (RW.q (v := .int .u64 ((Q1 * 4294967296 : Nat) : Int)) rfl (q_mulU (a := Q1) (b := 4294967296) rfl rfl (Nat.mod_eq_of_lt (by omega))) (RW.q rfl (q_move rfl) (RW.q (v := .int .u64 (((Q1 * 4294967296) + Q0 : Nat) : Int)) rfl (q_addU (a := (Q1 * 4294967296)) (b := Q0) rfl rfl (Nat.mod_eq_of_lt (by omega))) (RW.q rfl (q_move rfl) (RW.q (v := .int .u64 ((R1 * 4294967296 % 18446744073709551616 : Nat) : Int)) rfl (q_mulU (a := R1) (b := 4294967296) rfl rfl rfl) (RW.q rfl (q_move rfl) (RW.q (v := .int .u64 (((R1 * 4294967296 % 18446744073709551616 + W0) % 18446744073709551616 : Nat) : Int)) rfl (q_addU (a := (R1 * 4294967296 % 18446744073709551616)) (b := W0) rfl rfl rfl) (RW.q rfl (q_move rfl) ?_)))))))))
      refine RW.q rfl (q_move rfl) (RW.q (v := .int .u64 ((Q0 * Y % 18446744073709551616 : Nat) : Int)) rfl (q_mulU (a := Q0) (b := Y) rfl rfl rfl) (RW.q (v := .int .u64 (R0 : Int)) rfl (q_subU (a := ((R1 * 4294967296 % 18446744073709551616 + W0) % 18446744073709551616)) (b := (Q0 * Y % 18446744073709551616)) rfl rfl (by rw [ha0]; exact hb0)) (RW.q rfl (q_move rfl) (RW.q (v := .int .u64 ((R0 / 2 ^ sh : Nat) : Int)) rfl (q_shrU' (a := R0) (c := sh) rfl rfl (by omega)) (RW.q (v := .int .u64 (((Q1 * 4294967296) + Q0 : Nat) : Int)) rfl (q_assign rfl) (RW.q (v := .int .u64 ((R0 / 2 ^ sh : Nat) : Int)) rfl (q_assign rfl) (RW.nil (Post.then_n (AW.ret ?_)))))))))
      refine fin_out2 (v := .int .u64 (((Q1 * 4294967296) + Q0 : Nat) : Int)) (u := .int .u64 ((R0 / 2 ^ sh : Nat) : Int)) rfl rfl rfl rfl (fun w' hw => ?_)
      refine ⟨?_, hw.below rfl⟩
      subst hW1 hW0
      have hfin := Nums.div128 (hi := hi) (lo := lo) (y := y) (u := U) (v := V) (y' := Y) (Q1 := Q1) (r1 := R1) (Q0 := Q0) hs64 hY.symm hU.symm hV.symm hy0 hQ1.symm hR1.symm hQ0.symm
      rw [hR0] at hfin
      rw [hfin.1, hfin.2]
end Go.Proofs.YtpapfpoefiikpaaGreatDoor
