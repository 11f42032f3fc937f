/- Lemmas. Conditions: those of each theorem. -/
import Derived.Test.YtjmeeofdffdpnaaGreatDoorRows
import Derived.Test.YtjmeeofdffdpnaaGreatDoorMNums
import Derived.Test.YtjmeeofdffdpnaaGreatDoorMLen
import Derived.Test.YtjmeeofdffdpnaaGreatDoorMAuto
import Derived.Lib.ItoaNum
import Derived.Lib.IndexMore
import Derived.Lib.LaidTab
import Derived.Test.YtjmeeofdffdpnaaGreatDoorMTop
import Derived.LaidMore
import Derived.LaidLaws
import Derived.LaidHandle
import Derived.OpenShut
set_option maxRecDepth 8000
set_option maxHeartbeats 16000000
namespace Go.Proofs.YtjmeeofdffdpnaaGreatDoor
open Go Go.K Go.RowKit
theorem oK {k : FuncId} (h : (Tryz.prog.funcs[k]?).map (fun fn => fn.name == "runtime.NumGoroutine" || fn.body.isNone) = some false := by kernel_rfl) : Go.K.Own Tryz.prog k := own_of h
noncomputable abbrev pg := Tryz.prog
theorem uT3 : type_of% @Tryz.underlying3 := @Tryz.underlying3
theorem uT4 : type_of% @Tryz.underlying4 := @Tryz.underlying4
theorem uT9 : type_of% @Tryz.underlying9 := @Tryz.underlying9
theorem uT20 : type_of% @Tryz.underlying20 := @Tryz.underlying20
theorem uT29 : type_of% @Tryz.underlying29 := @Tryz.underlying29
theorem uT32 : type_of% @Tryz.underlying32 := @Tryz.underlying32
theorem uT39 : type_of% @Tryz.underlying39 := @Tryz.underlying39
theorem uT48 : type_of% @Tryz.underlying48 := @Tryz.underlying48
theorem uT51 : type_of% @Tryz.underlying51 := @Tryz.underlying51
theorem uT73 : type_of% @Tryz.underlying73 := @Tryz.underlying73
theorem uT86 : type_of% @Tryz.underlying86 := @Tryz.underlying86
theorem uT88 : type_of% @Tryz.underlying88 := @Tryz.underlying88
theorem uT101 : type_of% @Tryz.underlying101 := @Tryz.underlying101
theorem uT115 : type_of% @Tryz.underlying115 := @Tryz.underlying115
theorem uT116 : type_of% @Tryz.underlying116 := @Tryz.underlying116
theorem uT123 : type_of% @Tryz.underlying123 := @Tryz.underlying123
theorem uT125 : type_of% @Tryz.underlying125 := @Tryz.underlying125
theorem uT128 : type_of% @Tryz.underlying128 := @Tryz.underlying128
theorem uT141 : type_of% @Tryz.underlying141 := @Tryz.underlying141
theorem uT175 : type_of% @Tryz.underlying175 := @Tryz.underlying175
theorem uT207 : type_of% @Tryz.underlying207 := @Tryz.underlying207
theorem uT234 : type_of% @Tryz.underlying234 := @Tryz.underlying234
attribute [local irreducible] AW RW DW Post Qt
theorem hmix : Tryz.prog.follows .mixedOrders = true := by kernel_rfl
theorem sz3 : (Tryz.prog.info? 3).map (·.size) = some 1 := by kernel_rfl
theorem zero3 : (Tryz.prog.info? 3).map (·.zero) = some (some (iV 0)) := by kernel_rfl
theorem inf3 : (Tryz.prog.info? 3).map (fun i => (i.zero, i.size, i.bytes)) = some (some (iV 0), 1, 8) := by kernel_rfl
theorem sz4 : (Tryz.prog.info? 4).map (·.size) = some 1 := by kernel_rfl
theorem zero4 : (Tryz.prog.info? 4).map (·.zero) = some (some (.bool false)) := by kernel_rfl
theorem inf4 : (Tryz.prog.info? 4).map (fun i => (i.zero, i.size, i.bytes)) = some (some (.bool false), 1, 1) := by kernel_rfl
theorem sz9 : (Tryz.prog.info? 9).map (·.size) = some 1 := by kernel_rfl
theorem sz22 : (Tryz.prog.info? 22).map (·.size) = some 1 := by kernel_rfl
theorem sz23 : (Tryz.prog.info? 23).map (·.size) = some 1 := by kernel_rfl
theorem sz24 : (Tryz.prog.info? 24).map (·.size) = some 1 := by kernel_rfl
theorem sz25 : (Tryz.prog.info? 25).map (·.size) = some 1 := by kernel_rfl
theorem sz29 : (Tryz.prog.info? 29).map (·.size) = some 1 := by kernel_rfl
theorem sz31 : (Tryz.prog.info? 31).map (·.size) = some 11 := by kernel_rfl
theorem sz32 : (Tryz.prog.info? 32).map (·.size) = some 1 := by kernel_rfl
theorem sz33 : (Tryz.prog.info? 33).map (·.size) = some 1 := by kernel_rfl
theorem sz35 : (Tryz.prog.info? 35).map (·.size) = some 2 := by kernel_rfl
theorem sz36 : (Tryz.prog.info? 36).map (·.size) = some 1 := by kernel_rfl
theorem sz38 : (Tryz.prog.info? 38).map (·.size) = some 3 := by kernel_rfl
theorem zero38 : (Tryz.prog.info? 38).map (·.zero) = some (some (.agg #[.slice none 0 0, .slice none 0 0, .slice none 0 0])) := by kernel_rfl
theorem places38 : Plc Tryz.prog (fO Tryz.underlying38) #[(0, 1), (1, 1), (2, 1)] := fun w => by kernel_rfl
theorem sz39 : (Tryz.prog.info? 39).map (·.size) = some 1 := by kernel_rfl
theorem sz41 : (Tryz.prog.info? 41).map (·.size) = some 6 := by kernel_rfl
theorem sz48 : (Tryz.prog.info? 48).map (·.size) = some 1 := by kernel_rfl
theorem sz49 : (Tryz.prog.info? 49).map (·.size) = some 1 := by kernel_rfl
theorem zero49 : (Tryz.prog.info? 49).map (·.zero) = some (some (iV 0)) := by kernel_rfl
theorem sz51 : (Tryz.prog.info? 51).map (·.size) = some 3 := by kernel_rfl
theorem zero51 : (Tryz.prog.info? 51).map (·.zero) = some (some (.agg #[.slice none 0 0, iV 0, iV 0])) := by kernel_rfl
theorem places51 : Plc Tryz.prog (fO Tryz.underlying51) #[(0, 1), (1, 1), (2, 1)] := fun w => by kernel_rfl
theorem sz56 : (Tryz.prog.info? 56).map (·.size) = some 3 := by kernel_rfl
theorem zero56 : (Tryz.prog.info? 56).map (·.zero) = some (some (.agg #[iV 0, iV 0, iV 0])) := by kernel_rfl
theorem inf56 : (Tryz.prog.info? 56).map (fun i => (i.zero, i.size, i.bytes)) = some (some (.agg #[iV 0, iV 0, iV 0]), 3, 24) := by kernel_rfl
theorem places56 : Plc Tryz.prog (fO Tryz.underlying56) #[(0, 1), (1, 1), (2, 1)] := fun w => by kernel_rfl
theorem sz57 : (Tryz.prog.info? 57).map (·.size) = some 1 := by kernel_rfl
theorem sz59 : (Tryz.prog.info? 59).map (·.size) = some 5 := by kernel_rfl
theorem zero59 : (Tryz.prog.info? 59).map (·.zero) = some (some (.agg #[iV 0, iV 0, iV 0, iV 0, .slice none 0 0])) := by kernel_rfl
theorem sz61 : (Tryz.prog.info? 61).map (·.size) = some 8 := by kernel_rfl
theorem zero61 : (Tryz.prog.info? 61).map (·.zero) = some (some (.agg #[.string ⟨#[]⟩, .slice none 0 0, iV 0, iV 0, iV 0, iV 0, iV 0, .slice none 0 0])) := by kernel_rfl
theorem sz73 : (Tryz.prog.info? 73).map (·.size) = some 2 := by kernel_rfl
theorem zero73 : (Tryz.prog.info? 73).map (·.zero) = some (some (.agg #[iV 0, iV 0])) := by kernel_rfl
theorem inf73 : (Tryz.prog.info? 73).map (fun i => (i.zero, i.size, i.bytes)) = some (some (.agg #[iV 0, iV 0]), 2, 16) := by kernel_rfl
theorem places73 : Plc Tryz.prog (fO Tryz.underlying73) #[(0, 1), (1, 1)] := fun w => by kernel_rfl
theorem sz76 : (Tryz.prog.info? 76).map (·.size) = some 11 := by kernel_rfl
theorem zero76 : (Tryz.prog.info? 76).map (·.zero) = some (some (.agg #[iV 0, iV 0, iV 0, iV 0, .slice none 0 0, iV 0, iV 0, iV 0, iV 0, iV 0, .slice none 0 0])) := by kernel_rfl
theorem zero78 : (Tryz.prog.info? 78).map (·.zero) = some (some (.agg #[.slice none 0 0])) := by kernel_rfl
theorem sz86 : (Tryz.prog.info? 86).map (·.size) = some 1 := by kernel_rfl
theorem sz88 : (Tryz.prog.info? 88).map (·.size) = some 4 := by kernel_rfl
theorem zero88 : (Tryz.prog.info? 88).map (·.zero) = some (some (.agg #[iV 0, iV 0, iV 0, iV 0])) := by kernel_rfl
theorem places88 : Plc Tryz.prog (fO Tryz.underlying88) #[(0, 1), (1, 1), (2, 1), (3, 1)] := fun w => by kernel_rfl
theorem sz89 : (Tryz.prog.info? 89).map (·.size) = some 1 := by kernel_rfl
theorem zero91 : (Tryz.prog.info? 91).map (·.zero) = some (some (.agg #[.string ⟨#[]⟩, .slice none 0 0, iV 0, .slice none 0 0, .slice none 0 0, .slice none 0 0, .slice none 0 0, .slice none 0 0, .slice none 0 0, .slice none 0 0, iV 0, .slice none 0 0, .slice none 0 0, .slice none 0 0, .slice none 0 0, .slice none 0 0, .slice none 0 0, .slice none 0 0, iV 0, .slice none 0 0, iV 0, iV 0, iV 0, iV 0, iV 0, .slice none 0 0, .slice none 0 0, iV 0, .slice none 0 0, .slice none 0 0, iV 0, .bool false])) := by kernel_rfl
theorem places91 : Plc Tryz.prog (fO Tryz.underlying91) #[(0, 11), (11, 3), (14, 6), (20, 4), (24, 1), (25, 1), (26, 1), (27, 1), (28, 1), (29, 1), (30, 1), (31, 1)] := fun w => by kernel_rfl
theorem sz106 : (Tryz.prog.info? 106).map (·.size) = some 12 := by kernel_rfl
theorem sz111 : (Tryz.prog.info? 111).map (·.size) = some 18 := by kernel_rfl
theorem sz113 : (Tryz.prog.info? 113).map (·.size) = some 7 := by kernel_rfl
theorem sz128 : (Tryz.prog.info? 128).map (·.size) = some 1 := by kernel_rfl
theorem zero128 : (Tryz.prog.info? 128).map (·.zero) = some (some nS) := by kernel_rfl
theorem sz175 : (Tryz.prog.info? 175).map (·.size) = some 3 := by kernel_rfl
theorem zero175 : (Tryz.prog.info? 175).map (·.zero) = some (some (.agg #[iV 0, .string ⟨#[]⟩, iV 0])) := by kernel_rfl
theorem inf175 : (Tryz.prog.info? 175).map (fun i => (i.zero, i.size, i.bytes)) = some (some (.agg #[iV 0, .string ⟨#[]⟩, iV 0]), 3, 32) := by kernel_rfl
theorem places175 : Plc Tryz.prog (fO Tryz.underlying175) #[(0, 1), (1, 1), (2, 1)] := fun w => by kernel_rfl
theorem sz209 : (Tryz.prog.info? 209).map (·.size) = some 2 := by kernel_rfl
theorem zero209 : (Tryz.prog.info? 209).map (·.zero) = some (some (.agg #[iV 0, .slice none 0 0])) := by kernel_rfl
theorem inf209 : (Tryz.prog.info? 209).map (fun i => (i.zero, i.size, i.bytes)) = some (some (.agg #[iV 0, .slice none 0 0]), 2, 32) := by kernel_rfl
theorem places209 : Plc Tryz.prog (fO Tryz.underlying209) #[(0, 1), (1, 1)] := fun w => by kernel_rfl
instance : FA Tryz.prog 31 1 1 := fA Tryz.underlying31 rfl sz22
instance : FA Tryz.prog 31 3 3 := fA Tryz.underlying31 rfl sz23
instance : FA Tryz.prog 31 4 4 := fA Tryz.underlying31 rfl sz24
instance : FA Tryz.prog 31 5 5 := fA Tryz.underlying31 rfl sz25
instance : FA Tryz.prog 35 0 0 := fA Tryz.underlying35 rfl sz32
instance : FA Tryz.prog 35 1 1 := fA Tryz.underlying35 rfl sz33
instance : FA Tryz.prog 38 0 0 := fA Tryz.underlying38 rfl sz36
instance : FA Tryz.prog 38 1 1 := fA Tryz.underlying38 rfl sz29
instance : FA Tryz.prog 38 2 2 := fA Tryz.underlying38 rfl sz29
instance : FA Tryz.prog 41 0 0 := fA Tryz.underlying41 rfl sz29
instance : FA Tryz.prog 41 1 1 := fA Tryz.underlying41 rfl sz29
instance : FA Tryz.prog 41 2 2 := fA Tryz.underlying41 rfl sz39
instance : FA Tryz.prog 41 3 3 := fA Tryz.underlying41 rfl sz29
instance : FA Tryz.prog 41 4 4 := fA Tryz.underlying41 rfl sz3
instance : FA Tryz.prog 41 5 5 := fA Tryz.underlying41 rfl sz29
instance : FA Tryz.prog 51 0 0 := fA Tryz.underlying51 rfl sz48
instance : FA Tryz.prog 51 1 1 := fA Tryz.underlying51 rfl sz3
instance : FA Tryz.prog 51 2 2 := fA Tryz.underlying51 rfl sz49
instance : FA Tryz.prog 56 0 0 := fA Tryz.underlying56 rfl sz3
instance : FA Tryz.prog 56 1 1 := fA Tryz.underlying56 rfl sz3
instance : FA Tryz.prog 56 2 2 := fA Tryz.underlying56 rfl sz3
instance : FA Tryz.prog 59 0 0 := fA Tryz.underlying59 rfl sz3
instance : FA Tryz.prog 59 1 1 := fA Tryz.underlying59 rfl sz3
instance : FA Tryz.prog 59 2 2 := fA Tryz.underlying59 rfl sz3
instance : FA Tryz.prog 59 3 3 := fA Tryz.underlying59 rfl sz3
instance : FA Tryz.prog 59 4 4 := fA Tryz.underlying59 rfl sz57
instance : FA Tryz.prog 61 0 0 := fA Tryz.underlying61 rfl sz9
instance : FA Tryz.prog 61 1 1 := fA Tryz.underlying61 rfl sz29
instance : FA Tryz.prog 61 2 2 := fA Tryz.underlying61 rfl sz3
instance : FA Tryz.prog 61 3 3 := fA Tryz.underlying61 rfl sz59
instance : FA Tryz.prog 76 0 0 := fA Tryz.underlying76 rfl sz59
instance : FA Tryz.prog 76 1 5 := fA Tryz.underlying76 rfl sz3
instance : FA Tryz.prog 76 2 6 := fA Tryz.underlying76 rfl sz59
instance : FA Tryz.prog 78 0 0 := fA Tryz.underlying78 rfl sz36
instance : FA Tryz.prog 88 1 1 := fA Tryz.underlying88 rfl sz3
instance : FA Tryz.prog 88 2 2 := fA Tryz.underlying88 rfl sz3
instance : FA Tryz.prog 88 3 3 := fA Tryz.underlying88 rfl sz3
instance : FA Tryz.prog 91 0 0 := fA Tryz.underlying91 rfl sz31
instance : FA Tryz.prog 91 1 11 := fA Tryz.underlying91 rfl sz38
instance : FA Tryz.prog 91 2 14 := fA Tryz.underlying91 rfl sz41
instance : FA Tryz.prog 91 3 20 := fA Tryz.underlying91 rfl sz88
instance : FA Tryz.prog 91 4 24 := fA Tryz.underlying91 rfl sz3
instance : FA Tryz.prog 91 5 25 := fA Tryz.underlying91 rfl sz29
instance : FA Tryz.prog 91 6 26 := fA Tryz.underlying91 rfl sz89
instance : FA Tryz.prog 91 7 27 := fA Tryz.underlying91 rfl sz3
instance : FA Tryz.prog 91 8 28 := fA Tryz.underlying91 rfl sz29
instance : FA Tryz.prog 91 9 29 := fA Tryz.underlying91 rfl sz86
instance : FA Tryz.prog 91 10 30 := fA Tryz.underlying91 rfl sz49
instance : FA Tryz.prog 91 11 31 := fA Tryz.underlying91 rfl sz4
instance : FA Tryz.prog 106 0 0 := fA Tryz.underlying106 rfl sz9
instance : FA Tryz.prog 111 0 0 := fA Tryz.underlying111 rfl sz9
instance : FA Tryz.prog 111 6 7 := fA Tryz.underlying111 rfl sz3
instance : FA Tryz.prog 113 0 0 := fA Tryz.underlying113 rfl sz9
instance : FA Tryz.prog 115 0 0 := fA Tryz.underlying115 rfl sz32
instance : FA Tryz.prog 123 0 0 := fA Tryz.underlying123 rfl sz35
instance : FA Tryz.prog 123 1 2 := fA Tryz.underlying123 rfl sz41
instance : FA Tryz.prog 123 2 8 := fA Tryz.underlying123 rfl sz88
instance : FA Tryz.prog 123 3 12 := fA Tryz.underlying123 rfl sz3
instance : FA Tryz.prog 123 4 13 := fA Tryz.underlying123 rfl sz3
instance : FA Tryz.prog 123 5 14 := fA Tryz.underlying123 rfl sz29
instance : FA Tryz.prog 123 6 15 := fA Tryz.underlying123 rfl sz86
instance : FA Tryz.prog 125 0 0 := fA Tryz.underlying125 rfl sz49
instance : FA Tryz.prog 175 2 2 := fA Tryz.underlying175 rfl sz3
instance : FA Tryz.prog 209 0 0 := fA Tryz.underlying209 rfl sz3
instance : FA Tryz.prog 209 1 1 := fA Tryz.underlying209 rfl sz29
instance : FO Tryz.prog 51 2 2 := ⟨_, _, _, Tryz.underlying51, rfl, rfl, Tryz.underlying49, rfl⟩
instance : NI Tryz.prog 125 := ⟨_, Tryz.underlying125, rfl⟩
instance : NA Tryz.prog 3 := ⟨_, Tryz.underlying3, rfl⟩
instance : NA Tryz.prog 4 := ⟨_, Tryz.underlying4, rfl⟩
instance : NA Tryz.prog 9 := ⟨_, Tryz.underlying9, rfl⟩
instance : NA Tryz.prog 22 := ⟨_, Tryz.underlying22, rfl⟩
instance : NA Tryz.prog 23 := ⟨_, Tryz.underlying23, rfl⟩
instance : NA Tryz.prog 24 := ⟨_, Tryz.underlying24, rfl⟩
instance : NA Tryz.prog 25 := ⟨_, Tryz.underlying25, rfl⟩
instance : NA Tryz.prog 29 := ⟨_, Tryz.underlying29, rfl⟩
instance : AG Tryz.prog 31 11 := ⟨_, Tryz.underlying31, rfl, sz31⟩
instance : NA Tryz.prog 32 := ⟨_, Tryz.underlying32, rfl⟩
instance : NA Tryz.prog 33 := ⟨_, Tryz.underlying33, rfl⟩
instance : AG Tryz.prog 35 2 := ⟨_, Tryz.underlying35, rfl, sz35⟩
instance : NA Tryz.prog 36 := ⟨_, Tryz.underlying36, rfl⟩
instance : AG Tryz.prog 38 3 := ⟨_, Tryz.underlying38, rfl, sz38⟩
instance : NA Tryz.prog 39 := ⟨_, Tryz.underlying39, rfl⟩
instance : AG Tryz.prog 41 6 := ⟨_, Tryz.underlying41, rfl, sz41⟩
instance : NA Tryz.prog 48 := ⟨_, Tryz.underlying48, rfl⟩
instance : NA Tryz.prog 49 := ⟨_, Tryz.underlying49, rfl⟩
instance : AG Tryz.prog 51 3 := ⟨_, Tryz.underlying51, rfl, sz51⟩
instance : AG Tryz.prog 56 3 := ⟨_, Tryz.underlying56, rfl, sz56⟩
instance : NA Tryz.prog 57 := ⟨_, Tryz.underlying57, rfl⟩
instance : AG Tryz.prog 59 5 := ⟨_, Tryz.underlying59, rfl, sz59⟩
instance : AG Tryz.prog 61 8 := ⟨_, Tryz.underlying61, rfl, sz61⟩
instance : AG Tryz.prog 73 2 := ⟨_, Tryz.underlying73, rfl, sz73⟩
instance : AG Tryz.prog 76 11 := ⟨_, Tryz.underlying76, rfl, sz76⟩
instance : NA Tryz.prog 86 := ⟨_, Tryz.underlying86, rfl⟩
instance : NA Tryz.prog 89 := ⟨_, Tryz.underlying89, rfl⟩
instance : NA Tryz.prog 101 := ⟨_, Tryz.underlying101, rfl⟩
instance : NA Tryz.prog 121 := ⟨_, Tryz.underlying121, rfl⟩
instance : NA Tryz.prog 128 := ⟨_, Tryz.underlying128, rfl⟩
instance : NA Tryz.prog 156 := ⟨_, Tryz.underlying156, rfl⟩
instance : AG Tryz.prog 175 3 := ⟨_, Tryz.underlying175, rfl, sz175⟩
instance : SY Tryz.prog 22 := ⟨_, Tryz.underlying22⟩
instance : SY Tryz.prog 23 := ⟨_, Tryz.underlying23⟩
instance : SY Tryz.prog 24 := ⟨_, Tryz.underlying24⟩
instance : SY Tryz.prog 25 := ⟨_, Tryz.underlying25⟩
instance : SY Tryz.prog 29 := ⟨_, Tryz.underlying29⟩
instance : SY Tryz.prog 32 := ⟨_, Tryz.underlying32⟩
instance : SY Tryz.prog 33 := ⟨_, Tryz.underlying33⟩
instance : SY Tryz.prog 36 := ⟨_, Tryz.underlying36⟩
instance : SY Tryz.prog 39 := ⟨_, Tryz.underlying39⟩
instance : SY Tryz.prog 48 := ⟨_, Tryz.underlying48⟩
instance : SY Tryz.prog 57 := ⟨_, Tryz.underlying57⟩
instance : SY Tryz.prog 86 := ⟨_, Tryz.underlying86⟩
instance : SY Tryz.prog 89 := ⟨_, Tryz.underlying89⟩
instance : SZ Tryz.prog 3 1 := ⟨sz3⟩
instance : SZ Tryz.prog 4 1 := ⟨sz4⟩
instance : SZ Tryz.prog 36 1 := ⟨sz36⟩
instance : SZ Tryz.prog 38 3 := ⟨sz38⟩
instance : SZ Tryz.prog 49 1 := ⟨sz49⟩
instance : SZ Tryz.prog 51 3 := ⟨sz51⟩
instance : SZ Tryz.prog 59 5 := ⟨sz59⟩
instance : SZ Tryz.prog 61 8 := ⟨sz61⟩
instance : SZ Tryz.prog 76 11 := ⟨sz76⟩
instance : SZ Tryz.prog 88 4 := ⟨sz88⟩
instance : SZ Tryz.prog 128 1 := ⟨sz128⟩
instance : SZ Tryz.prog 175 3 := ⟨sz175⟩
instance : ZL Tryz.prog 3 [iV 0] := ⟨_, zero3, rfl⟩
instance : ZL Tryz.prog 38 [nS, nS, nS] := ⟨_, zero38, rfl⟩
instance : ZL Tryz.prog 49 [iV 0] := ⟨_, zero49, rfl⟩
instance : ZL Tryz.prog 51 [nS, iV 0, iV 0] := ⟨_, zero51, rfl⟩
instance : ZL Tryz.prog 59 [iV 0, iV 0, iV 0, iV 0, nS] := ⟨_, zero59, rfl⟩
instance : ZL Tryz.prog 61 [.string (bs ([])), nS, iV 0, iV 0, iV 0, iV 0, iV 0, nS] := ⟨_, zero61, rfl⟩
instance : ZL Tryz.prog 76 [iV 0, iV 0, iV 0, iV 0, nS, iV 0, iV 0, iV 0, iV 0, iV 0, nS] := ⟨_, zero76, rfl⟩
instance : ZL Tryz.prog 78 [nS] := ⟨_, zero78, rfl⟩
instance : ZL Tryz.prog 88 [iV 0, iV 0, iV 0, iV 0] := ⟨_, zero88, rfl⟩
instance : ZL Tryz.prog 128 [nS] := ⟨_, zero128, rfl⟩
instance : ZL Tryz.prog 175 [iV 0, .string (bs ([])), iV 0] := ⟨_, zero175, rfl⟩
theorem Mul64_c (w : World) (Φ : Hp) (hΦ : Hp.le Φ (hp w)) {x y : Nat} (hx : x < 18446744073709551616) (hy : y < 18446744073709551616) :
  Calls Tryz.prog 171 #[.int .u64 (x : Int), .int .u64 (y : Int)] w fun e w' => e = .returned (.tuple #[.int .u64 ((x * y / 18446744073709551616 : Nat) : Int), .int .u64 ((x * y % 18446744073709551616 : Nat) : Int)]) ∧ Bel w.heap.size w w' := by
 refine calls_of_AW (args := [.int .u64 (x : Int), .int .u64 (y : Int)]) Tryz.func171 rfl (lBT rfl) (St ⟨w, Φ, []⟩ Φ []) (StP.init w Φ hΦ []) ?_
 show AW Tryz.prog 51 [] _ _ _ [(0, .int .u64 (x : Int)), (1, .int .u64 (y : Int))] _
 obtain ⟨bd, bt, bw, hhi⟩ := Lib.mul64_hi x y hx hy
 have ba := Lib.half_mul_le (a := x / 4294967296) (b := y / 4294967296) (by omega) (by omega)
 have bb := Lib.half_mul_le (a := x / 4294967296) (b := y % 4294967296) (by omega) (by omega)
 have bc := Lib.half_mul_le (a := x % 4294967296) (b := y / 4294967296) (by omega) (by omega)
 refine g9 ?_
 refine RW.q (v := .int .u64 ((x % 4294967296 : Nat) : Int)) rfl (q_maskU (a := x) rfl rfl (by omega)) ?_
 refine g6 ?_
 refine RW.q (v := .int .u64 ((x / 4294967296 : Nat) : Int)) rfl (q_shr32U (a := x) rfl rfl) ?_
 refine g6 ?_
 refine RW.q (v := .int .u64 ((y % 4294967296 : Nat) : Int)) rfl (q_maskU (a := y) rfl rfl (by omega)) ?_
 refine g6 ?_
 refine RW.q (v := .int .u64 ((y / 4294967296 : Nat) : Int)) rfl (q_shr32U (a := y) rfl rfl) ?_
 refine g7 ?_
 refine RW.q (v := .int .u64 (((x % 4294967296) * (y % 4294967296) : Nat) : Int)) rfl (q_mulU (a := (x % 4294967296)) (b := (y % 4294967296)) rfl rfl (Nat.mod_eq_of_lt (by omega))) ?_
 refine g7 ?_
 refine RW.q (v := .int .u64 (((x / 4294967296) * (y % 4294967296) : Nat) : Int)) rfl (q_mulU (a := (x / 4294967296)) (b := (y % 4294967296)) rfl rfl (Nat.mod_eq_of_lt (by omega))) ?_
 refine g1 ?_
 refine RW.q (v := .int .u64 ((((x % 4294967296) * (y % 4294967296)) / 4294967296 : Nat) : Int)) rfl (q_shr32U (a := ((x % 4294967296) * (y % 4294967296))) rfl rfl) (RW.q (v := .int .u64 ((((x / 4294967296) * (y % 4294967296)) + (((x % 4294967296) * (y % 4294967296)) / 4294967296) : Nat) : Int)) rfl (q_addU (a := ((x / 4294967296) * (y % 4294967296))) (b := (((x % 4294967296) * (y % 4294967296)) / 4294967296)) rfl rfl (Nat.mod_eq_of_lt (by omega))) ?_)
 refine g6 ?_
 refine RW.q (v := .int .u64 (((((x / 4294967296) * (y % 4294967296)) + (((x % 4294967296) * (y % 4294967296)) / 4294967296)) % 4294967296 : Nat) : Int)) rfl (q_maskU (a := (((x / 4294967296) * (y % 4294967296)) + (((x % 4294967296) * (y % 4294967296)) / 4294967296))) rfl rfl (by omega)) ?_
 refine g6 ?_
 refine RW.q (v := .int .u64 (((((x / 4294967296) * (y % 4294967296)) + (((x % 4294967296) * (y % 4294967296)) / 4294967296)) / 4294967296 : Nat) : Int)) rfl (q_shr32U (a := (((x / 4294967296) * (y % 4294967296)) + (((x % 4294967296) * (y % 4294967296)) / 4294967296))) rfl rfl) ?_
 refine g8 ?_
 refine RW.q (v := .int .u64 (((x % 4294967296) * (y / 4294967296) : Nat) : Int)) rfl (q_mulU (a := (x % 4294967296)) (b := (y / 4294967296)) rfl rfl (Nat.mod_eq_of_lt (by omega))) (RW.q (v := .int .u64 ((((((x / 4294967296) * (y % 4294967296)) + (((x % 4294967296) * (y % 4294967296)) / 4294967296)) % 4294967296) + ((x % 4294967296) * (y / 4294967296)) : Nat) : Int)) rfl (q_addU (a := ((((x / 4294967296) * (y % 4294967296)) + (((x % 4294967296) * (y % 4294967296)) / 4294967296)) % 4294967296)) (b := ((x % 4294967296) * (y / 4294967296))) rfl rfl (Nat.mod_eq_of_lt (by omega))) ?_)
 refine g7 ?_
 refine RW.q (v := .int .u64 (((x / 4294967296) * (y / 4294967296) : Nat) : Int)) rfl (q_mulU (a := (x / 4294967296)) (b := (y / 4294967296)) rfl rfl (Nat.mod_eq_of_lt (by omega))) ?_
 refine g1 ?_
 refine RW.q (v := .int .u64 ((((x / 4294967296) * (y / 4294967296)) + ((((x / 4294967296) * (y % 4294967296)) + (((x % 4294967296) * (y % 4294967296)) / 4294967296)) / 4294967296) : Nat) : Int)) rfl (q_addU (a := ((x / 4294967296) * (y / 4294967296))) (b := ((((x / 4294967296) * (y % 4294967296)) + (((x % 4294967296) * (y % 4294967296)) / 4294967296)) / 4294967296)) rfl rfl (Nat.mod_eq_of_lt (by omega))) ?_
 refine g1 ?_
 refine RW.q (v := .int .u64 (((((((x / 4294967296) * (y % 4294967296)) + (((x % 4294967296) * (y % 4294967296)) / 4294967296)) % 4294967296) + ((x % 4294967296) * (y / 4294967296))) / 4294967296 : Nat) : Int)) rfl (q_shr32U (a := (((((x / 4294967296) * (y % 4294967296)) + (((x % 4294967296) * (y % 4294967296)) / 4294967296)) % 4294967296) + ((x % 4294967296) * (y / 4294967296)))) rfl rfl) (RW.q (v := .int .u64 (((((x / 4294967296) * (y / 4294967296)) + ((((x / 4294967296) * (y % 4294967296)) + (((x % 4294967296) * (y % 4294967296)) / 4294967296)) / 4294967296)) + ((((((x / 4294967296) * (y % 4294967296)) + (((x % 4294967296) * (y % 4294967296)) / 4294967296)) % 4294967296) + ((x % 4294967296) * (y / 4294967296))) / 4294967296) : Nat) : Int)) rfl (q_addU (a := (((x / 4294967296) * (y / 4294967296)) + ((((x / 4294967296) * (y % 4294967296)) + (((x % 4294967296) * (y % 4294967296)) / 4294967296)) / 4294967296))) (b := ((((((x / 4294967296) * (y % 4294967296)) + (((x % 4294967296) * (y % 4294967296)) / 4294967296)) % 4294967296) + ((x % 4294967296) * (y / 4294967296))) / 4294967296)) rfl rfl (Nat.mod_eq_of_lt (by omega))) ?_)
 refine g7 ?_
 refine RW.q (v := .int .u64 ((x * y % 18446744073709551616 : Nat) : Int)) rfl (q_mulU (a := x) (b := y) rfl rfl rfl) ?_
 refine g4 ?_
 refine fin_out2 (v := .int .u64 (((((x / 4294967296) * (y / 4294967296)) + ((((x / 4294967296) * (y % 4294967296)) + (((x % 4294967296) * (y % 4294967296)) / 4294967296)) / 4294967296)) + ((((((x / 4294967296) * (y % 4294967296)) + (((x % 4294967296) * (y % 4294967296)) / 4294967296)) % 4294967296) + ((x % 4294967296) * (y / 4294967296))) / 4294967296) : Nat) : Int)) (u := .int .u64 ((x * y % 18446744073709551616 : Nat) : Int)) rfl rfl rfl rfl (fun w' hw => ?_)
 refine ⟨?_, hw.below rfl⟩
 rw [← hhi]
end Go.Proofs.YtjmeeofdffdpnaaGreatDoor
namespace Un
open Go
def M : Nat := 1125899906842624
def isD (b : UInt8) : Bool := decide (48 ≤ b.toNat) && decide (b.toNat ≤ 57)
def dg (b : UInt8) : Nat := b.toNat - 48
def stepV (n : Nat) (b : UInt8) : Nat := 10 * n + dg b
def val (l : List UInt8) : Nat := l.foldl stepV 0
/-! ### the parts of a number -/
def bef : List UInt8 → List UInt8
  | [] => []
  | b :: l => if b = 46 then [] else b :: bef l
def aft : List UInt8 → List UInt8
  | [] => []
  | b :: l => if b = 46 then l else aft l
def pt : List UInt8 → Bool
  | [] => false
  | b :: l => if b = 46 then true else pt l
def digs (l : List UInt8) (k : Int) : Bool := l.all isD && decide (1 ≤ l.length) && decide ((l.length : Int) ≤ k)
def okF (l : List UInt8) : Bool := digs (bef l) 20 && (!pt l || digs (aft l) 9)
/-! ### units -/
def ms : List (List UInt8 × Nat × Nat × Nat) := [([], 0, 1, 1), ([108], 1, 1, 1), ([109, 51], 1, 1000, 1), ([77, 76], 1, 1000000, 1), ([71, 76], 1, 1000000000, 1), ([108, 112, 104], 2, 1, 1), ([108, 112, 115], 2, 3600, 1), ([109, 51, 112, 115], 2, 3600000, 1), ([77, 76, 112, 100], 2, 1000000, 24), ([109, 109], 3, 1, 1), ([99, 109], 3, 10, 1), ([109], 3, 1000, 1), ([104], 4, 1, 1), ([100], 4, 24, 1), ([109, 50], 5, 1, 1), ([104, 97], 5, 10000, 1), ([107, 109, 50], 5, 1000000, 1), ([112, 101, 114, 109, 105, 108, 108, 101], 6, 1, 1), ([112, 101, 114, 99, 101, 110, 116], 6, 10, 1)]
def look (n : List UInt8) : Option (List UInt8 × Nat × Nat × Nat) := ms.find? fun m => decide (m.1 = n)
def amt (l n : List UInt8) : Nat × Nat × Nat :=
  if okF l then match look n with
    | none => (0, 0, 6)
    | some m => if val (bef l ++ aft l) * m.2.2.1 % (10 ^ (aft l).length * m.2.2.2) = 0 ∧ val (bef l ++ aft l) * m.2.2.1 / (10 ^ (aft l).length * m.2.2.2) ≤ M then (val (bef l ++ aft l) * m.2.2.1 / (10 ^ (aft l).length * m.2.2.2), m.2.1, 0) else (0, 0, 7)
  else (0, 0, 2)
/-! ### lists of digits -/
def ovs (k : Int) (a : List Int × Int) (x : Int) : List Int × Int := (a.1 ++ [(10 * a.2 + x) / k], (10 * a.2 + x) % k)
def ov (l : List Int) (k : Int) : List Int × Int := l.foldl (ovs k) ([], 0)
end Un
namespace Un
open Go
/-! ### the reference's way -/
/-! ### the ends of the reference's Amount -/
end Un
namespace Un
open Go
/-! ### what is written -/
/-! ### more zeros -/
end Un
namespace Un
open Go
abbrev Mea := List UInt8 × Nat × Nat × Nat
theorem take_snoc {l : List UInt8} {k : Nat} (hk : k < l.length) : l.take (k + 1) = l.take k ++ [l.getD k 0] := by
  rw [List.take_succ_eq_append_getElem hk]; simp [hk]
end Un
namespace Un
open Go
end Un
namespace Un
open Go
end Un
namespace Go.Proofs.YtjmeeofdffdpnaaGreatDoor
open Go Go.K Go.RowKit
attribute [local irreducible] AW RW DW Post Qt
def mCells : List Value := Un.ms.flatMap fun m => [.string (bs m.1), iV (m.2.1 : Int), iV (m.2.2.1 : Int), iV (m.2.2.2 : Int)]
def Glob (w : World) : Prop := (∀ j v, mCells[j]? = some v → w.cell? ⟨5, j, none⟩ = some v) ∧ (∀ (j : Nat) (v : Value), [Value.string (bs [111, 114]), iV 12, .string (bs [111, 114]), iV 12, .string (bs [97, 110, 100]), iV 11, .string (bs [97, 110, 100]), iV 11, .string (bs [43]), iV 4, .string (bs [45]), iV 5, .string (bs [42]), iV 6, .string (bs [47]), iV 7][j]? = some v → w.cell? ⟨1, j, none⟩ = some v) ∧ (∀ (j : Nat) (v : Value), [Value.int .i64 31, iV 29, iV 31, iV 30, iV 31, iV 30, iV 31, iV 31, iV 30, iV 31, iV 30, iV 31][j]? = some v → w.cell? ⟨0, j, none⟩ = some v)
end Go.Proofs.YtjmeeofdffdpnaaGreatDoor
namespace Go.Proofs.YtjmeeofdffdpnaaGreatDoor
open Go Go.K Go.ChangeShapes Go.WideShapes Go.RowKit
theorem flat_of {g : Nat → List Value} {k : Nat} (hk : ∀ i, (g i).length = k) : ∀ (n : Nat) (cs : List Value), cs.length = n * k → (∀ i, i < n → (cs.drop (i * k)).take k = g i) → cs = (List.range n).flatMap g
  | 0, cs, hl, _ => by
    have : cs.length = 0 := by omega
    rw [List.length_eq_zero_iff.1 this]; rfl
  | n + 1, cs, hl, h => by
    have h1 := flat_of hk n (cs.take (n * k)) (by rw [List.length_take, hl]; exact Nat.min_eq_left (Nat.mul_le_mul_right _ (by omega))) (fun i hi => by
      rw [List.drop_take, List.take_take]
      have : k ≤ n * k - i * k := by
        rw [← Nat.sub_mul]
        exact Nat.le_mul_of_pos_left _ (by omega)
      rw [Nat.min_eq_left this]
      exact h i (by omega))
    have h2 := h n (by omega)
    rw [List.take_of_length_le (by rw [List.length_drop, hl, Nat.add_mul]; omega)] at h2
    rw [List.range_succ, List.flatMap_append, ← h1, List.flatMap_cons, List.flatMap_nil, List.append_nil, ← h2, List.take_append_drop]
section
variable {H : Type} {enc : TypeId × Value → H} {W : World} {base : Nat} {sp : Nat → Bool} {held : Bool}
theorem arr_cells {T E n k fuel : Nat} {cs : List Value} {p : List MemPlace} {ds : List (DataW H)} {g : Nat → List Value} (hT : Tryz.prog.underlying T = some (.array n E)) (hE : Tryz.prog.cellsOf E = k) (hTc : Tryz.prog.cellsOf T = n * k) (hk : ∀ i, (g i).length = k)
    (hg : ∀ i d, ds[i]? = some d → ∀ (f : Nat) (c : List Value) (q : List MemPlace), DataW.trod enc Tryz.prog W base sp held f E c = some (d, q) → c = g i) (h : DataW.trod enc Tryz.prog W base sp held fuel T cs = some (.agg ds, p)) : cs = (List.range n).flatMap g := by
  obtain ⟨xs, f, _, hx, hl, hxl, hf⟩ := DataW.trod_array hT h
  have hl2 : cs.length = n * k := hl.trans hTc
  have hx' : DataW.agg ds = DataW.agg (xs.map (·.1)) := congrArg Prod.fst hx
  have hx2 : ds = xs.map (·.1) := by simpa using hx'
  refine flat_of hk n cs hl2 fun i hi => ?_
  have hfi := hf i hi
  rw [hE] at hfi
  have hxi : xs[i]? = some (xs[i]'(by omega)) := List.getElem?_eq_getElem _
  rw [hxi] at hfi
  refine hg i _ ?_ f _ _ hfi
  rw [hx2, List.getElem?_map, hxi]; rfl
def mD (m : Un.Mea) : DataW H := .agg [.lit (.string m.1), .lit (.int .i64 (m.2.1 : Int)), .lit (.int .i64 (m.2.2.1 : Int)), .lit (.int .i64 (m.2.2.2 : Int))]
abbrev mC (m : Un.Mea) : List Value := [.string (bs m.1), .int .i64 (m.2.1 : Int), .int .i64 (m.2.2.1 : Int), .int .i64 (m.2.2.2 : Int)]
theorem len4 {α : Type} {l : List α} (h : l.length = 4) : ∃ a b c d, l = [a, b, c, d] := by
  match l, h with
  | [a, b, c, d], _ => exact ⟨a, b, c, d, rfl⟩
theorem len2 {α : Type} {l : List α} (h : l.length = 2) : ∃ a b, l = [a, b] := by
  match l, h with
  | [a, b], _ => exact ⟨a, b, rfl⟩
theorem one_mea {fuel : Nat} {cs : List Value} {m : Un.Mea} {p : List MemPlace} (h : DataW.trod enc Tryz.prog W base sp held fuel 272 cs = some (mD m, p)) : cs = mC m := by
  obtain ⟨xs, n, _, hx, hl, hxl, hf⟩ := DataW.trod_struct Tryz.underlying272 h
  have h0 : DataW.trod enc Tryz.prog W base sp held n 9 ((cs.drop 0).take (Tryz.prog.cellsOf 9)) = xs[0]? := hf 0 _ rfl
  have h1 : DataW.trod enc Tryz.prog W base sp held n 3 ((cs.drop 1).take (Tryz.prog.cellsOf 3)) = xs[1]? := hf 1 _ rfl
  have h2 : DataW.trod enc Tryz.prog W base sp held n 3 ((cs.drop 2).take (Tryz.prog.cellsOf 3)) = xs[2]? := hf 2 _ rfl
  have h3 : DataW.trod enc Tryz.prog W base sp held n 3 ((cs.drop 3).take (Tryz.prog.cellsOf 3)) = xs[3]? := hf 3 _ rfl
  have e9 : Tryz.prog.cellsOf 9 = 1 := by kernel_rfl
  have e3 : Tryz.prog.cellsOf 3 = 1 := by kernel_rfl
  have hl4 : cs.length = 4 := hl.trans (by kernel_rfl)
  obtain ⟨c0, c1, c2, c3, rfl⟩ := len4 hl4
  obtain ⟨x0, x1, x2, x3, rfl⟩ := len4 (show xs.length = 4 from hxl)
  have hx' : mD m = DataW.agg [x0.1, x1.1, x2.1, x3.1] := congrArg Prod.fst hx
  unfold mD at hx'
  simp only [DataW.agg.injEq, List.cons.injEq, and_true] at hx'
  obtain ⟨d0, d1, d2, d3⟩ := hx'
  simp only [e9, e3, List.drop_zero, List.drop_succ_cons, List.take_succ_cons, List.take_zero, List.getElem?_cons_zero, List.getElem?_cons_succ] at h0 h1 h2 h3
  obtain ⟨s0, k0, z0, _⟩ := DataW.trod_string Tryz.underlying9 h0
  obtain ⟨s1, k1, z1, _⟩ := DataW.trod_int Tryz.underlying3 h1
  obtain ⟨s2, k2, z2, _⟩ := DataW.trod_int Tryz.underlying3 h2
  obtain ⟨s3, k3, z3, _⟩ := DataW.trod_int Tryz.underlying3 h3
  rw [z0] at d0
  rw [z1] at d1
  rw [z2] at d2
  rw [z3] at d3
  obtain rfl : c0 = .string s0 := by simpa using k0
  obtain rfl : c1 = .int .i64 s1 := by simpa using k1
  obtain rfl : c2 = .int .i64 s2 := by simpa using k2
  obtain rfl : c3 = .int .i64 s3 := by simpa using k3
  have e0 : m.1 = s0.data.toList := by simpa using d0
  have e1 : (m.2.1 : Int) = s1 := by simpa using d1
  have e2 : (m.2.2.1 : Int) = s2 := by simpa using d2
  have e3 : (m.2.2.2 : Int) = s3 := by simpa using d3
  unfold mC
  rw [e0, e1, e2, e3]; rfl
abbrev Lev := List UInt8 × Int
def vD (m : Lev) : DataW H := .agg [.lit (.string m.1), .lit (.int .i64 m.2)]
abbrev vC (m : Lev) : List Value := [.string (bs m.1), .int .i64 m.2]
theorem one_lev {fuel : Nat} {cs : List Value} {m : Lev} {p : List MemPlace} (h : DataW.trod enc Tryz.prog W base sp held fuel 229 cs = some (vD m, p)) : cs = vC m := by
  obtain ⟨xs, n, _, hx, hl, hxl, hf⟩ := DataW.trod_struct Tryz.underlying229 h
  have h0 : DataW.trod enc Tryz.prog W base sp held n 9 ((cs.drop 0).take (Tryz.prog.cellsOf 9)) = xs[0]? := hf 0 _ rfl
  have h1 : DataW.trod enc Tryz.prog W base sp held n 3 ((cs.drop 1).take (Tryz.prog.cellsOf 3)) = xs[1]? := hf 1 _ rfl
  have e9 : Tryz.prog.cellsOf 9 = 1 := by kernel_rfl
  have e3 : Tryz.prog.cellsOf 3 = 1 := by kernel_rfl
  have hl4 : cs.length = 2 := hl.trans (by kernel_rfl)
  obtain ⟨c0, c1, rfl⟩ := len2 hl4
  obtain ⟨x0, x1, rfl⟩ := len2 (show xs.length = 2 from hxl)
  have hx' : vD m = DataW.agg [x0.1, x1.1] := congrArg Prod.fst hx
  unfold vD at hx'
  simp only [DataW.agg.injEq, List.cons.injEq, and_true] at hx'
  obtain ⟨d0, d1⟩ := hx'
  simp only [e9, e3, List.drop_zero, List.drop_succ_cons, List.take_succ_cons, List.take_zero, List.getElem?_cons_zero, List.getElem?_cons_succ] at h0 h1
  obtain ⟨s0, k0, z0, _⟩ := DataW.trod_string Tryz.underlying9 h0
  obtain ⟨s1, k1, z1, _⟩ := DataW.trod_int Tryz.underlying3 h1
  rw [z0] at d0
  rw [z1] at d1
  obtain rfl : c0 = .string s0 := by simpa using k0
  obtain rfl : c1 = .int .i64 s1 := by simpa using k1
  have e0 : m.1 = s0.data.toList := by simpa using d0
  have e1 : m.2 = s1 := by simpa using d1
  unfold vC
  rw [e0, e1]; rfl
theorem map_at {α β : Type} {f : α → β} {l : List α} {x : α} {i : Nat} {d : β} (h : (l.map f)[i]? = some d) : d = f (l.getD i x) := by
  rw [List.getElem?_map] at h
  obtain ⟨a, h1, h2⟩ := mS h
  rw [← h2, gDD, h1]; rfl
def levs : List (List Lev) := [[([111, 114], 12), ([111, 114], 12)], [([97, 110, 100], 11), ([97, 110, 100], 11)], [([43], 4), ([45], 5)], [([42], 6), ([47], 7)]]
theorem two_lev {fuel : Nat} {cs : List Value} {ls : List Lev} {p : List MemPlace} (h : DataW.trod enc Tryz.prog W base sp held fuel 230 cs = some (.agg (ls.map vD), p)) : cs = (List.range 2).flatMap fun i => vC (ls.getD i ([], 0)) :=
  arr_cells (k := 2) Tryz.underlying230 (by kernel_rfl) (by kernel_rfl) (fun _ => rfl) (fun i d hd f c q hc => by rw [map_at (x := (([] : List UInt8), (0 : Int))) hd] at hc; exact one_lev hc) h
theorem all_lev {fuel : Nat} {cs : List Value} {p : List MemPlace} (h : DataW.trod enc Tryz.prog W base sp held fuel 231 cs = some (.agg (levs.map fun ls => .agg (ls.map vD)), p)) : cs = (List.range 4).flatMap fun j => (List.range 2).flatMap fun i => vC ((levs.getD j []).getD i ([], 0)) :=
  arr_cells (k := 4) Tryz.underlying231 (by kernel_rfl) (by kernel_rfl) (fun _ => rfl) (fun i d hd f c q hc => by rw [map_at (x := ([] : List Lev)) hd] at hc; exact two_lev hc) h
theorem all_mea {fuel : Nat} {cs : List Value} {p : List MemPlace} (h : DataW.trod enc Tryz.prog W base sp held fuel 276 cs = some (.agg (Un.ms.map mD), p)) : cs = (List.range 19).flatMap fun i => mC (Un.ms.getD i default) :=
  arr_cells (k := 4) Tryz.underlying276 (by kernel_rfl) (by kernel_rfl) (fun _ => rfl) (fun i d hd f c q hc => by rw [map_at (x := (default : Un.Mea)) hd] at hc; exact one_mea hc) h
def mons : List Int := [31, 29, 31, 30, 31, 30, 31, 31, 30, 31, 30, 31]
theorem one_int {fuel : Nat} {cs : List Value} {m : Int} {p : List MemPlace} (h : DataW.trod enc Tryz.prog W base sp held fuel 3 cs = some (.lit (.int .i64 m), p)) : cs = [.int .i64 m] := by
  obtain ⟨s1, k1, z1, _⟩ := DataW.trod_int Tryz.underlying3 h
  have e : m = s1 := by have := congrArg Prod.fst z1; simpa using this
  rw [e]; simpa using k1
theorem all_mon {fuel : Nat} {cs : List Value} {p : List MemPlace} (h : DataW.trod enc Tryz.prog W base sp held fuel 207 cs = some (.agg (mons.map fun m => .lit (.int .i64 m)), p)) : cs = (List.range 12).flatMap fun i => [Value.int .i64 (mons.getD i 0)] :=
  arr_cells (k := 1) Tryz.underlying207 (by kernel_rfl) (by kernel_rfl) (fun _ => rfl) (fun i d hd f c q hc => by rw [map_at (x := (0 : Int)) hd] at hc; exact one_int hc) h
end
theorem gMon : Tryz.prog.globalNamed "bourne/date.months" = some 0 := by kernel_rfl
theorem gLev : Tryz.prog.globalNamed "bourne/rule.levels" = some 1 := by kernel_rfl
theorem gMea : Tryz.prog.globalNamed "bourne/unit.measures" = some 5 := by kernel_rfl
theorem tMon : (Tryz.prog.globals[0]?).map (·.type) = some 207 := by kernel_rfl
theorem tLev : (Tryz.prog.globals[1]?).map (·.type) = some 231 := by kernel_rfl
theorem tMea : (Tryz.prog.globals[5]?).map (·.type) = some 276 := by kernel_rfl
theorem glob_of_laid {l : List (String × DataW Unit)} (hp : (l.all fun x => x.2.handleName?.isNone) = true) (hl : l = [("bourne/date.months", Rows.laid_bourne_date_months), ("bourne/unit.measures", Rows.laid_bourne_unit_measures), ("bourne/rule.levels", Rows.laid_bourne_rule_levels)]) {W : World} (h : laidMetH Tryz.prog l W) : Glob W := by
  have h' : laidMet Tryz.prog l W := by
    unfold laidMetH at h
    have e : (l.filter fun x => x.2.handleName?.isSome) = [] := by
      rw [List.filter_eq_nil_iff]
      intro x hx hs
      have := List.all_eq_true.1 hp x hx
      cases hn : x.2.handleName? with
      | none => rw [hn] at hs; cases hs
      | some n => rw [hn] at this; cases this
    rw [e] at h; exact h
  subst hl
  obtain ⟨ps, ⟨g1, t1, c1, f1, p1, q1, a1, b1, v1, r1, ⟨g2, t2, c2, f2, p2, q2, a2, b2, v2, r2, ⟨g3, t3, c3, f3, p3, q3, a3, b3, v3, r3, _⟩, _⟩, _⟩, _⟩ := h'
  refine ⟨fun j v hv => ?_, fun j v hv => ?_, fun j v hv => ?_⟩
  · obtain rfl := sJ (gMea.symm.trans a2)
    obtain rfl := sJ (tMea.symm.trans b2)
    have hc := all_mea r2
    have := World.var?_cell gMea v2 j
    rw [this, ← Array.getElem?_toList, hc]
    exact hv
  · obtain rfl := sJ (gLev.symm.trans a3)
    obtain rfl := sJ (tLev.symm.trans b3)
    have hc := all_lev r3
    have := World.var?_cell gLev v3 j
    rw [this, ← Array.getElem?_toList, hc]
    exact hv
  · obtain rfl := sJ (gMon.symm.trans a1)
    obtain rfl := sJ (tMon.symm.trans b1)
    have hc := all_mon r1
    have := World.var?_cell gMon v1 j
    rw [this, ← Array.getElem?_toList, hc]
    exact hv
theorem knows_glob {W : World} (h : Glob W) : Knows (hp W) Glob := fun w hw => by
  refine ⟨fun j v hv => ?_, fun j v hv => ?_, fun j v hv => ?_⟩
  · exact ((pcell_of (h.1 j v hv)).mono hw).cell
  · exact ((pcell_of (h.2.1 j v hv)).mono hw).cell
  · exact ((pcell_of (h.2.2 j v hv)).mono hw).cell
end Go.Proofs.YtjmeeofdffdpnaaGreatDoor
