/-
  DERIVED. GIVEN WITH THE SEED: THE CARDS: each row of YtpapfpoefiikpaaGreatDoorRows.lean that lists a variable, with what it lists TIED to the program's text (the seventh form; the later family's looks); each row that meets fmt, with fmt's text TOLD by the authors' own Lean function (tested against real Go, not proved from fmt's source: count such statements apart). THE CARD IS WHAT COUNTS. Prove the row's statement (the work); the ties are given (YtpapfpoefiikpaaGreatDoorTie.lean); close each card by the builder's one call (the guide's Derived/Test/ToyasCard.lean, 'card_holds'). Laid BY PROGRAM, IN A SANDBOX (cutbox-door.mjs). By AI agents, Wed Nov 11 2026. No macro, syntax, notation, axiom, sorry.
-/
import Derived.Test.YtpapfpoefiikpaaGreatDoorRows
import GoSem.ClaimSeven
namespace Go.Proofs.YtpapfpoefiikpaaGreatDoor
namespace Rows

/-- THE TIED CARD OF 'bournelaw16.BasinBack'. -/
def basinBackCard : Claim7 := { stood := { row := basinBackRow, standIns := [], harness := (true, "9708ca4f5d789f862d1f4505236b5f5ac36aee8eda2cdfd7b1db223935525d8e"), looks := true }, kinds := [], alts := [], laidByText := true, laidKinds := [.data, .data, .data, .data], laidTests := true, laidLooks := .later }
def BasinBackCardSaid : Prop := Claim7.holds Tryz.pinned (.plain (OpenSpec.ofChange basinBackSpec)) basinBackCard

/-- THE TIED CARD OF 'bournelaw16.BasinOrders'. -/
def basinOrdersCard : Claim7 := { stood := { row := basinOrdersRow, standIns := [], harness := (true, "9708ca4f5d789f862d1f4505236b5f5ac36aee8eda2cdfd7b1db223935525d8e"), looks := true }, kinds := [], alts := [], laidByText := true, laidKinds := [.data, .data, .data, .data], laidTests := true, laidLooks := .later }
def BasinOrdersCardSaid : Prop := Claim7.holds Tryz.pinned (.plain (OpenSpec.ofChange basinOrdersSpec)) basinOrdersCard

/-- THE TIED CARD OF 'bournelaw16.BasinFlows'. -/
def basinFlowsCard : Claim7 := { stood := { row := basinFlowsRow, standIns := [], harness := (true, "9708ca4f5d789f862d1f4505236b5f5ac36aee8eda2cdfd7b1db223935525d8e"), looks := true }, kinds := [], alts := [], laidByText := true, laidKinds := [.data, .data, .data, .data], laidTests := true, laidLooks := .later }
def BasinFlowsCardSaid : Prop := Claim7.holds Tryz.pinned (.plain (OpenSpec.ofChange basinFlowsSpec)) basinFlowsCard

/-- THE TIED CARD OF 'bournelaw16.BasinLimits'. -/
def basinLimitsCard : Claim7 := { stood := { row := basinLimitsRow, standIns := [], harness := (true, "9708ca4f5d789f862d1f4505236b5f5ac36aee8eda2cdfd7b1db223935525d8e"), looks := true }, kinds := [], alts := [], laidByText := true, laidKinds := [.data, .data, .data, .data], laidTests := true, laidLooks := .later }
def BasinLimitsCardSaid : Prop := Claim7.holds Tryz.pinned (.plain (OpenSpec.ofChange basinLimitsSpec)) basinLimitsCard

/-- THE TIED CARD OF 'bournelaw16.BasinReads'. -/
def basinReadsCard : Claim7 := { stood := { row := basinReadsRow, standIns := [], harness := (true, "9708ca4f5d789f862d1f4505236b5f5ac36aee8eda2cdfd7b1db223935525d8e"), looks := true }, kinds := [], alts := [], laidByText := true, laidKinds := [.data, .data, .data, .data], laidTests := true, laidLooks := .later }
def BasinReadsCardSaid : Prop := Claim7.holds Tryz.pinned (.plain (OpenSpec.ofChange basinReadsSpec)) basinReadsCard

/-- THE SECOND FORM's CARD OF 'bournelaw16.BasinBack'. -/
def basinBackUptoCard : Claim7 := { stood := { row := basinBackUptoRow, standIns := [], harness := (true, "9708ca4f5d789f862d1f4505236b5f5ac36aee8eda2cdfd7b1db223935525d8e"), looks := true }, kinds := [], alts := [], laidByText := true, laidKinds := [.data, .data, .data, .data], laidTests := true, laidLooks := .later }
def BasinBackUptoCardSaid : Prop := Claim7.holds Tryz.pinned (.plain (OpenSpec.upto basinBackSpec)) basinBackUptoCard

/-- THE SECOND FORM's CARD OF 'bournelaw16.BasinOrders'. -/
def basinOrdersUptoCard : Claim7 := { stood := { row := basinOrdersUptoRow, standIns := [], harness := (true, "9708ca4f5d789f862d1f4505236b5f5ac36aee8eda2cdfd7b1db223935525d8e"), looks := true }, kinds := [], alts := [], laidByText := true, laidKinds := [.data, .data, .data, .data], laidTests := true, laidLooks := .later }
def BasinOrdersUptoCardSaid : Prop := Claim7.holds Tryz.pinned (.plain (OpenSpec.upto basinOrdersSpec)) basinOrdersUptoCard

/-- THE SECOND FORM's CARD OF 'bournelaw16.BasinFlows'. -/
def basinFlowsUptoCard : Claim7 := { stood := { row := basinFlowsUptoRow, standIns := [], harness := (true, "9708ca4f5d789f862d1f4505236b5f5ac36aee8eda2cdfd7b1db223935525d8e"), looks := true }, kinds := [], alts := [], laidByText := true, laidKinds := [.data, .data, .data, .data], laidTests := true, laidLooks := .later }
def BasinFlowsUptoCardSaid : Prop := Claim7.holds Tryz.pinned (.plain (OpenSpec.upto basinFlowsSpec)) basinFlowsUptoCard

/-- THE SECOND FORM's CARD OF 'bournelaw16.BasinLimits'. -/
def basinLimitsUptoCard : Claim7 := { stood := { row := basinLimitsUptoRow, standIns := [], harness := (true, "9708ca4f5d789f862d1f4505236b5f5ac36aee8eda2cdfd7b1db223935525d8e"), looks := true }, kinds := [], alts := [], laidByText := true, laidKinds := [.data, .data, .data, .data], laidTests := true, laidLooks := .later }
def BasinLimitsUptoCardSaid : Prop := Claim7.holds Tryz.pinned (.plain (OpenSpec.upto basinLimitsSpec)) basinLimitsUptoCard

/-- THE SECOND FORM's CARD OF 'bournelaw16.BasinReads'. -/
def basinReadsUptoCard : Claim7 := { stood := { row := basinReadsUptoRow, standIns := [], harness := (true, "9708ca4f5d789f862d1f4505236b5f5ac36aee8eda2cdfd7b1db223935525d8e"), looks := true }, kinds := [], alts := [], laidByText := true, laidKinds := [.data, .data, .data, .data], laidTests := true, laidLooks := .later }
def BasinReadsUptoCardSaid : Prop := Claim7.holds Tryz.pinned (.plain (OpenSpec.upto basinReadsSpec)) basinReadsUptoCard
end Rows
end Go.Proofs.YtpapfpoefiikpaaGreatDoor
