/- Lemmas. Conditions: those of each theorem. -/
import Derived.Test.YtjmeeofdffdpnaaGreatDoorMLaidM
import Derived.Test.YtjmeeofdffdpnaaGreatDoorMAuto2
namespace Go.Proofs.YtjmeeofdffdpnaaGreatDoor
open Go Go.K Go.RowKit
attribute [local irreducible] AW RW DW Post Qt

theorem sz101 : (pg.info? 101).map (·.size) = some 1 := by kernel_rfl
theorem sz115 : (pg.info? 115).map (·.size) = some 5 := by kernel_rfl
theorem zero115 : (pg.info? 115).map (·.zero) = some (some (.agg #[.slice none 0 0, .map none, .map none, .map none, .map none])) := by kernel_rfl
theorem places115 : Plc pg (fO Tryz.underlying115) #[(0, 1), (1, 1), (2, 1), (3, 1), (4, 1)] := fun w => by kernel_rfl
theorem sz121 : (pg.info? 121).map (·.size) = some 1 := by kernel_rfl
theorem zero123 : (pg.info? 123).map (·.zero) = some (some (.agg #[.slice none 0 0, .slice none 0 0, .slice none 0 0, .slice none 0 0, .slice none 0 0, .slice none 0 0, .int .i64 0, .slice none 0 0, .int .i64 0, .int .i64 0, .int .i64 0, .int .i64 0, .int .i64 0, .int .i64 0, .slice none 0 0, .slice none 0 0])) := by kernel_rfl
theorem places123 : Plc pg (fO Tryz.underlying123) #[(0, 2), (2, 6), (8, 4), (12, 1), (13, 1), (14, 1), (15, 1)] := fun w => by kernel_rfl
theorem sz125 : (pg.info? 125).map (·.size) = some 1 := by kernel_rfl
theorem zero125 : (pg.info? 125).map (·.zero) = some (some (.agg #[.int .i64 0])) := by kernel_rfl
theorem places125 : Plc pg (fO Tryz.underlying125) #[(0, 1)] := fun w => by kernel_rfl
instance libB0 : FA pg 115 1 1 := fA Tryz.underlying115 rfl sz101
instance libB1 : FA pg 115 2 2 := fA Tryz.underlying115 rfl sz101
instance libB2 : FA pg 115 3 3 := fA Tryz.underlying115 rfl sz101
instance libB3 : FA pg 115 4 4 := fA Tryz.underlying115 rfl sz101
instance libB6 : AG pg 115 5 := ⟨_, Tryz.underlying115, rfl, sz115⟩
instance libB7 : SZ pg 115 5 := ⟨sz115⟩
instance libB9 : SZ pg 125 1 := ⟨sz125⟩
instance libB12 : ZL pg 125 [.int .i64 0] := ⟨_, zero125, rfl⟩
instance libB13 : IX pg 22 1 := ⟨_, Tryz.underlying22, sz9⟩
instance libB14 : IX pg 23 12 := ⟨_, Tryz.underlying23, sz106⟩
instance libB15 : IX pg 24 18 := ⟨_, Tryz.underlying24, sz111⟩
instance libB16 : IX pg 25 7 := ⟨_, Tryz.underlying25, sz113⟩
instance libB17 : IX pg 29 1 := ⟨_, Tryz.underlying29, sz3⟩
instance libB18 : IX pg 32 8 := ⟨_, Tryz.underlying32, sz61⟩
instance libB19 : IX pg 33 11 := ⟨_, Tryz.underlying33, sz76⟩
instance libB20 : IX pg 36 3 := ⟨_, Tryz.underlying36, sz56⟩
instance libB21 : IX pg 39 1 := ⟨_, Tryz.underlying39, sz29⟩
instance libB22 : IX pg 48 2 := ⟨_, Tryz.underlying48, sz73⟩
instance libB23 : IX pg 57 5 := ⟨_, Tryz.underlying57, sz59⟩
instance libB24 : IX pg 86 1 := ⟨_, Tryz.underlying86, sz4⟩
instance libB25 : IX pg 89 2 := ⟨_, Tryz.underlying89, sz209⟩
end Go.Proofs.YtjmeeofdffdpnaaGreatDoor
