/- Lemmas. Conditions: those of each theorem. -/
import Derived.Test.YtjmeeofdffdpnaaGreatDoorRRuP
import Derived.Test.YtjmeeofdffdpnaaGreatDoorRAuto2
namespace Go.Proofs.YtjmeeofdffdpnaaGreatDoor
open Go Go.K Go.RowKit
attribute [local irreducible] AW RW DW Post Qt

theorem sz101 : (pg.info? 101).map (·.size) = some 1 := by kernel_rfl
theorem sz115 : (pg.info? 115).map (·.size) = some 5 := by kernel_rfl
theorem zero115 : (pg.info? 115).map (·.zero) = some (some (.agg #[.slice none 0 0, .map none, .map none, .map none, .map none])) := by kernel_rfl
theorem places115 : Plc pg (fO Tryz.underlying115) #[(0, 1), (1, 1), (2, 1), (3, 1), (4, 1)] := fun w => by kernel_rfl
instance libB0 : FA pg 115 1 1 := fA Tryz.underlying115 rfl sz101
instance libB1 : FA pg 115 2 2 := fA Tryz.underlying115 rfl sz101
instance libB2 : FA pg 115 3 3 := fA Tryz.underlying115 rfl sz101
instance libB3 : FA pg 115 4 4 := fA Tryz.underlying115 rfl sz101
instance libB6 : AG pg 115 5 := ⟨_, Tryz.underlying115, rfl, sz115⟩
instance libB7 : SZ pg 115 5 := ⟨sz115⟩
instance libB13 : IX pg 22 1 := ⟨_, Tryz.underlying22, sz9⟩
instance libB14 : IX pg 23 12 := ⟨_, Tryz.underlying23, sz106⟩
instance libB15 : IX pg 24 18 := ⟨_, Tryz.underlying24, sz111⟩
instance libB16 : IX pg 25 7 := ⟨_, Tryz.underlying25, sz113⟩
instance libB17 : IX pg 29 1 := ⟨_, Tryz.underlying29, sz3⟩
instance libB18 : IX pg 32 8 := ⟨_, Tryz.underlying32, sz61⟩
instance libB19 : IX pg 33 11 := ⟨_, Tryz.underlying33, sz76⟩
instance libB20 : IX pg 36 3 := ⟨_, Tryz.underlying36, sz56⟩
instance libB23 : IX pg 57 5 := ⟨_, Tryz.underlying57, sz59⟩
end Go.Proofs.YtjmeeofdffdpnaaGreatDoor
